/- The abstract interpreter: new objects, variables, iterators; copy; unsafe.String. -/
import Derived.Test.YtbhclhgljnoioaaDoorAiO
import Derived.Lib.UnsafeStr
namespace Ai
open Go

section
variable {P : Program} {kl : List (Nat × List Nat)} {G : Gh} {W : World} {st : St} {A : Act}

/-- A new object of the shared memory. -/
theorem new_obj (hs : StRel P kl G W st A) {ty : TypeId} {cs : List V} {a : Array Value} (hc : VRs G W cs a) :
    ∃ G', Ext G W G' (W.alloc (.cells a ty)) ∧ StRel P kl G' (W.alloc (.cells a ty)) { st with h := (st.h.new (.cells ty cs)).2 } A ∧ G'.obj st.h.next = some W.heap.size := by
  have hfree : ∀ id b, G.obj id = some b → id ≠ st.h.next := fun id b h e => by have := hs.mem.next id b h; omega
  have k : Keep G W { G.at W.heap.size (.obj st.h.next) with obj := fun i => if i = st.h.next then some W.heap.size else G.obj i } (W.alloc (.cells a ty)) := {
    tape := rfl, os := rfl, out := rfl
    sz := by rw [alloc_size]; omega
    own := fun b hb => own_at_ne G _ (Nat.ne_of_lt hb)
    heap := fun b hb => alloc_ne W _ hb
    obj := fun id b h => by simp [hfree id b h, h]
    nt := Nat.le_refl _
    tip := fun _ _ => ⟨rfl, rfl⟩
    lb := rfl
    ib := rfl }
  refine ⟨_, k.ext, hs.keepH k ?_, by simp⟩
  exact {
    objs := fun id o hg => by
      simp only [H.new, al] at hg
      cases hb : Nat.beq st.h.next id with
      | true =>
        rw [hb] at hg
        simp only [cond_true, Option.some.injEq] at hg
        subst hg
        have := Nat.eq_of_beq_eq_true hb
        subst this
        exact ⟨W.heap.size, by simp, own_at _ _ _, ⟨a, alloc_at W _, hc.1, fun j hj => (hc.2 j hj).mono k.ext⟩⟩
      | false =>
        rw [hb] at hg
        obtain ⟨b, h1, h2, h3⟩ := hs.mem.objs id o hg
        exact ⟨b, k.obj id b h1, (k.own b h3.lt).trans h2, h3.of_heap k.ext (k.heap b h3.lt)⟩
    next := fun id b hg => by
      simp only [H.new]
      simp only at hg
      split at hg
      · omega
      · have := hs.mem.next id b hg; omega
    nt := hs.mem.nt
    tips := fun t n ty' hg => by
      obtain ⟨h1, h2, h3⟩ := hs.mem.tips t n ty' hg
      have ht : t < G.nt := by rw [hs.mem.nt]; exact h1
      exact ⟨h1, h2, h3.of rfl k.own (fun b _ _ hb => k.heap b hb)⟩ }

/-- A state in which temporaries are forgotten. -/
theorem StRel.kill (hs : StRel P kl G W st A) (ks : List Nat) : StRel P kl G W { st with T := st.T.kill ks } A where
  T := fun i hi => by
    show VR G W ((st.T.kill ks).get i) _
    by_cases h : i ∈ ks
    · rw [(T.get_kill _ _ _).2 h]; exact .any _
    · rw [(T.get_kill _ _ _).1 h]; exact hs.T i hi
  L := fun i d o hi he => by
    have he' : (st.T.kill ks).get i = .l d o := he
    by_cases h : i ∈ ks
    · rw [(T.get_kill _ _ _).2 h] at he'; cases he'
    · rw [(T.get_kill _ _ _).1 h] at he'; exact hs.L i d o hi he'
  I := fun i hi he => by
    have he' : (st.T.kill ks).get i = .it := he
    by_cases h : i ∈ ks
    · rw [(T.get_kill _ _ _).2 h] at he'; cases he'
    · rw [(T.get_kill _ _ _).1 h] at he'; exact hs.I i hi he'
  loc := hs.loc
  its := hs.its
  mem := hs.mem
  gl := hs.gl

/-- A new variable of the frame. -/
theorem new_loc (hs : StRel P kl G W st A) {ty : TypeId} {cs : List V} {a : Array Value} (hc : VRs G W cs a) {d : Nat} {ks : List Nat} (hk : al kl d = some ks) (hd : d ∈ ks) :
    ∃ G', Ext G W G' (W.alloc (.cells a ty)) ∧ StRel P kl G' (W.alloc (.cells a ty)) (({ st with T := st.T.kill ks, loc := alSet st.loc d cs } : St).put (some d) (.l d 0)) (A.put (some d) (.pointer (some ⟨W.heap.size, 0, none⟩))) := by
  have hs1 := hs.kill ks
  have e : Ext G W { G.at W.heap.size (.loc d) with lb := fun i => if i = d then W.heap.size else G.lb i } (W.alloc (.cells a ty)) := {
    tape := rfl, os := rfl, out := rfl
    sz := by rw [alloc_size]; omega
    e1 := fun b hb ho => ⟨alloc_ne W _ hb, (own_at_ne G _ (Nat.ne_of_lt hb)).trans ho⟩
    ro := fun b f ho hb => ⟨alloc_ne W _ hb, (own_at_ne G _ (Nat.ne_of_lt hb)).trans ho⟩
    row := fun b t f ho hb => ⟨fun o _ => cell?_congr (alloc_ne W _ hb), f, Nat.le_refl _, .inl ((own_at_ne G _ (Nat.ne_of_lt hb)).trans ho)⟩
    obj := fun _ _ h => h
    nt := Nat.le_refl _
    tip := fun _ _ => ⟨Nat.le_refl _, fun _ => rfl⟩ }
  have hs2 : StRel P kl { G.at W.heap.size (.loc d) with lb := fun i => if i = d then W.heap.size else G.lb i } (W.alloc (.cells a ty)) { st with T := st.T.kill ks, loc := alSet st.loc d cs } A := {
    T := fun i hi => (hs1.T i hi).mono e
    L := fun i r o hi he => by
      obtain ⟨h1, h2⟩ := hs1.L i r o hi he
      have hr : r ≠ d := fun h => by
        subst h
        obtain ⟨ks', g1, g2⟩ := h2
        rw [hk] at g1
        cases g1
        have he' : (st.T.kill ks).get i = .l r o := he
        rw [(T.get_kill _ _ _).2 g2] at he'
        cases he'
      exact ⟨by simp only [if_neg hr]; exact h1, h2⟩
    I := hs1.I
    loc := fun r cs' hg => by
      rw [al_set] at hg
      split at hg
      · rename_i h
        subst h
        cases hg
        simp only [if_pos]
        exact ⟨own_at _ _ _, ty, ⟨a, alloc_at W _, hc.1, fun j hj => (hc.2 j hj).mono e⟩⟩
      · rename_i h
        obtain ⟨h1, ty', h2⟩ := hs.loc r cs' hg
        have hb : G.lb r < W.heap.size := by obtain ⟨c, h3, _⟩ := h2.ex; exact heap_lt h3
        simp only [if_neg h]
        exact ⟨(own_at_ne G _ (Nat.ne_of_lt hb)).trans h1, ty', h2.of_heap e (alloc_ne W _ hb)⟩
    its := fun r l p hg => by
      obtain ⟨h1, s, h2, h3⟩ := hs.its r l p hg
      exact ⟨(own_at_ne G _ (Nat.ne_of_lt (heap_lt h2))).trans h1, s, (alloc_ne W _ (heap_lt h2)).trans h2, h3⟩
    mem := {
      objs := fun id o hg => by
        obtain ⟨b, h1, h2, h3⟩ := hs.mem.objs id o hg
        exact ⟨b, h1, (own_at_ne G _ (Nat.ne_of_lt h3.lt)).trans h2, h3.of_heap e (alloc_ne W _ h3.lt)⟩
      next := hs.mem.next
      nt := hs.mem.nt
      tips := fun t n ty' hg => by
        obtain ⟨h1, h2, h3⟩ := hs.mem.tips t n ty' hg
        exact ⟨h1, h2, h3.of rfl (fun b hb => own_at_ne G _ (Nat.ne_of_lt hb)) (fun b _ _ hb => alloc_ne W _ hb)⟩ }
    gl := fun g => ⟨(hs.gl g).1, (hs.gl g).2.mono e⟩ }
  refine ⟨_, e, hs2.put (.l d 0 _) d (fun r o h => ?_) (fun h => by cases h)⟩
  cases h
  exact ⟨by simp, ks, hk, hd⟩

/-- A new iterator over a string. -/
theorem new_it (hs : StRel P kl G W st A) (s : ByteArray) (d : Nat) :
    ∃ G', Ext G W G' (W.alloc (.stringIter s 0)) ∧ StRel P kl G' (W.alloc (.stringIter s 0)) (({ st with T := st.T.kill [d], its := alSet st.its d (s.data.toList, 0) } : St).put (some d) .it) (A.put (some d) (.pointer (some ⟨W.heap.size, 0, none⟩))) := by
  have hs1 := hs.kill [d]
  have e : Ext G W { G.at W.heap.size (.it d) with ib := fun i => if i = d then W.heap.size else G.ib i } (W.alloc (.stringIter s 0)) := {
    tape := rfl, os := rfl, out := rfl
    sz := by rw [alloc_size]; omega
    e1 := fun b hb ho => ⟨alloc_ne W _ hb, (own_at_ne G _ (Nat.ne_of_lt hb)).trans ho⟩
    ro := fun b f ho hb => ⟨alloc_ne W _ hb, (own_at_ne G _ (Nat.ne_of_lt hb)).trans ho⟩
    row := fun b t f ho hb => ⟨fun o _ => cell?_congr (alloc_ne W _ hb), f, Nat.le_refl _, .inl ((own_at_ne G _ (Nat.ne_of_lt hb)).trans ho)⟩
    obj := fun _ _ h => h
    nt := Nat.le_refl _
    tip := fun _ _ => ⟨Nat.le_refl _, fun _ => rfl⟩ }
  have hs2 : StRel P kl { G.at W.heap.size (.it d) with ib := fun i => if i = d then W.heap.size else G.ib i } (W.alloc (.stringIter s 0)) { st with T := st.T.kill [d], its := alSet st.its d (s.data.toList, 0) } A := {
    T := fun i hi => (hs1.T i hi).mono e
    L := hs1.L
    I := fun i hi he => by
      have hid : i ≠ d := fun h => by
        subst h
        have he' : (st.T.kill [i]).get i = .it := he
        rw [(T.get_kill _ _ _).2 (.head _)] at he'
        cases he'
      simp only [if_neg hid]
      exact hs1.I i hi he
    loc := fun r cs' hg => by
      obtain ⟨h1, ty', h2⟩ := hs.loc r cs' hg
      have hb : G.lb r < W.heap.size := by obtain ⟨c, h3, _⟩ := h2.ex; exact heap_lt h3
      exact ⟨(own_at_ne G _ (Nat.ne_of_lt hb)).trans h1, ty', h2.of_heap e (alloc_ne W _ hb)⟩
    its := fun r l p hg => by
      rw [al_set] at hg
      split at hg
      · rename_i h
        subst h
        cases hg
        simp only [if_pos]
        exact ⟨own_at _ _ _, s, alloc_at W _, by simp⟩
      · rename_i h
        obtain ⟨h1, s', h2, h3⟩ := hs.its r l p hg
        simp only [if_neg h]
        exact ⟨(own_at_ne G _ (Nat.ne_of_lt (heap_lt h2))).trans h1, s', (alloc_ne W _ (heap_lt h2)).trans h2, h3⟩
    mem := {
      objs := fun id o hg => by
        obtain ⟨b, h1, h2, h3⟩ := hs.mem.objs id o hg
        exact ⟨b, h1, (own_at_ne G _ (Nat.ne_of_lt h3.lt)).trans h2, h3.of_heap e (alloc_ne W _ h3.lt)⟩
      next := hs.mem.next
      nt := hs.mem.nt
      tips := fun t n ty' hg => by
        obtain ⟨h1, h2, h3⟩ := hs.mem.tips t n ty' hg
        exact ⟨h1, h2, h3.of rfl (fun b hb => own_at_ne G _ (Nat.ne_of_lt hb)) (fun b _ _ hb => alloc_ne W _ hb)⟩ }
    gl := fun g => ⟨(hs.gl g).1, (hs.gl g).2.mono e⟩ }
  exact ⟨_, e, hs2.put (.it _) d (fun r o h => by cases h) (fun _ => by simp)⟩

/-- An iterator goes on. -/
theorem next_sound (hs : StRel P kl G W st A) {slot : Nat} {l : List UInt8} {p : Nat} (hsl : slot < A.tmps.size) (hT : st.T.get slot = .it) (hi : al st.its slot = some (l, p)) (ty : TypeId) :
    (l = [] → (Instr.next (A.eval (.tmp slot)) true ty).run P W = .ok (.tuple #[.bool false]) W) ∧
    (l ≠ [] → ∃ W', (Instr.next (A.eval (.tmp slot)) true ty).run P W = .ok (.tuple #[.bool true, .int .i64 p, .int .i32 (dec l).1]) W' ∧ Ext G W G W' ∧
      StRel P kl G W' { st with its := alSet st.its slot (l.drop (dec l).2, p + (dec l).2) } A) := by
  obtain ⟨ho, s, hh, hd⟩ := hs.its slot l p hi
  have hev : A.eval (.tmp slot) = .pointer (some ⟨G.ib slot, 0, none⟩) := hs.I slot hsl hT
  rw [hev]
  have hlen : l.length = s.size - p := by rw [← hd]; simp only [List.length_drop, Array.length_toList]; rfl
  refine ⟨fun h => ?_, fun h => ?_⟩
  · have hp : ¬ p < s.size := by rw [h] at hlen; simp at hlen; omega
    simp [Instr.next, getObj, Sem.run, hh, hp]
  · have hp : p < s.size := by have := List.length_pos_iff.2 h; omega
    have hm : (G.own (G.ib slot)).mine = true := by rw [ho]; rfl
    have tn : Turn W (G.ib slot) { W with heap := W.heap.setIfInBounds (G.ib slot) (.stringIter s (p + (Utf8.decode s p).2)) } := Turn.set _ _
    have e := tn.ext hm
    have hdec : Utf8.decode s p = dec l := by rw [dec_eq, hd]
    refine ⟨_, ?_, e, ?_⟩
    · simp only [Instr.next, getObj, setObj, Sem.run_bind, Sem.run, hh, Result.andThen_ok, hp, if_true]
      simp only [goInt, Sem.run_pure, hdec]
    · exact {
        T := fun i hi => (hs.T i hi).mono e
        L := hs.L
        I := hs.I
        loc := fun r cs hg => by
          obtain ⟨h1, ty', h2⟩ := hs.loc r cs hg
          exact ⟨h1, ty', h2.of_heap e (tn.other _ (fun e => by rw [e, ho] at h1; cases h1))⟩
        its := fun r l' p' hg => by
          rw [al_set] at hg
          split at hg
          · rename_i h
            subst h
            cases hg
            refine ⟨ho, s, by simp [heap_lt hh, hdec], ?_⟩
            rw [← hd, List.drop_drop]
          · rename_i h
            obtain ⟨h1, s', h2, h3⟩ := hs.its r l' p' hg
            exact ⟨h1, s', (tn.other _ (fun e => by rw [e, ho] at h1; cases h1; exact h rfl)).trans h2, h3⟩
        mem := hs.mem.turn tn hm (fun id e => by rw [ho] at e; cases e)
        gl := fun g => ⟨(hs.gl g).1, (hs.gl g).2.mono e⟩ }

end
end Ai
