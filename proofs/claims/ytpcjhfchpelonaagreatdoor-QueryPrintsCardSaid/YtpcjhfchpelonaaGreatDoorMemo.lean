/- The examples of tidemark/tidemarklaw16.awake, found by the kernel: what the calls of a few functions come to is found once each. Printed by a program. -/
import Derived.Test.YtpcjhfchpelonaaGreatDoorLx3
import Derived.KernelRfl
namespace Go.Proofs.YtpcjhfchpelonaaGreatDoor
open Go Ai

def isMemo (g : FuncId) : Bool := Nat.beq g 20 || Nat.beq g 13 || Nat.beq g 15 || Nat.beq g 8
def tabM (g : FuncId) : Option AFunc := bif isMemo g then none else tabx g
theorem tabM_sub (g : FuncId) (fn : AFunc) (h : tabM g = some fn) : tabx g = some fn := by
 unfold tabM at h
 cases hb : isMemo g with
 | true => rw [hb] at h; cases h
 | false => rw [hb] at h; exact h
theorem memo0 : Comp tabx told 8 [(.agg [(.i .i64 1), (.s []), (.i .i64 1), (.s []), (.s [97]), (.sl [] 0 .nil), (.s [103]), (.b false), (.i .i64 0), (.i .i64 0)])] (.i .i64 0) :=
 comp_runF (xp := xf) told_xf 100000 (fun gl hgl => by cases hgl; kernel_rfl)   -- 257 steps
theorem memo1 : Comp tabx told 20 [(.s [99, 111, 117, 110, 116, 32, 119, 104, 101, 114, 101, 32, 107, 101, 121, 32, 94, 32, 34, 97, 34, 32, 98, 121, 32, 103])] (.tup [(.agg [(.i .i64 1), (.s []), (.i .i64 1), (.s []), (.s [97]), (.sl [] 0 .nil), (.s [103]), (.b false), (.i .i64 0), (.i .i64 0)]), (.i .i64 0), (.i .i64 0)]) :=
 comp_runF (xp := xf) told_xf 100000 (fun gl hgl => by cases hgl; kernel_rfl)   -- 3257 steps
theorem memo2 : Comp tabx told 13 [(.agg [(.i .i64 1), (.s []), (.i .i64 1), (.s []), (.s [97]), (.sl [] 0 .nil), (.s [103]), (.b false), (.i .i64 0), (.i .i64 0)]), (.sl [(.s [97, 49]), (.s [103, 58, 120]), (.s [97, 50]), (.s [103, 58, 121]), (.s [97, 51]), (.s [103, 58, 120]), (.s [98]), (.s [103, 58, 120])] 4 .full)] (.tup [(.sl [(.s [120]), (.sl [] 0 .nil), (.i .i64 2), (.s [121]), (.sl [] 0 .nil), (.i .i64 1)] 2 .no), (.i .i64 0)]) :=
 comp_runF (xp := xf) told_xf 100000 (fun gl hgl => by cases hgl; kernel_rfl)   -- 1691 steps
theorem memo3 : Comp tabx told 8 [(.agg [(.i .i64 4), (.s [110]), (.i .i64 0), (.s []), (.s []), (.sl [] 0 .nil), (.s []), (.b false), (.i .i64 0), (.i .i64 0)])] (.i .i64 0) :=
 comp_runF (xp := xf) told_xf 100000 (fun gl hgl => by cases hgl; kernel_rfl)   -- 201 steps
theorem memo4 : Comp tabx told 13 [(.agg [(.i .i64 4), (.s [110]), (.i .i64 0), (.s []), (.s []), (.sl [] 0 .nil), (.s []), (.b false), (.i .i64 0), (.i .i64 0)]), (.sl [(.s [97]), (.s [110, 58, 53]), (.s [98]), (.s [110, 58, 45, 50]), (.s [99]), (.s [109, 58, 57])] 3 .full)] (.tup [(.sl [(.s []), (.sl [] 0 .nil), (.i .i64 5)] 1 .no), (.i .i64 0)]) :=
 comp_runF (xp := xf) told_xf 100000 (fun gl hgl => by cases hgl; kernel_rfl)   -- 1513 steps
theorem memo5 : Comp tabx told 15 [(.sl [(.s [120]), (.sl [] 0 .nil), (.i .i64 2), (.s [121]), (.sl [] 0 .nil), (.i .i64 1)] 2 .no), (.sl [(.s [120]), (.sl [] 0 .nil), (.i .i64 2), (.s [121]), (.sl [] 0 .nil), (.i .i64 1)] 2 .full)] (.b true) :=
 comp_runF (xp := xf) told_xf 100000 (fun gl hgl => by cases hgl; kernel_rfl)   -- 115 steps
theorem memo6 : Comp tabx told 15 [(.sl [(.s []), (.sl [] 0 .nil), (.i .i64 5)] 1 .no), (.sl [(.s []), (.sl [] 0 .nil), (.i .i64 5)] 1 .full)] (.b true) :=
 comp_runF (xp := xf) told_xf 100000 (fun gl hgl => by cases hgl; kernel_rfl)   -- 63 steps
theorem memo7 : Comp tabx told 8 [(.agg [(.i .i64 5), (.s []), (.i .i64 0), (.s []), (.s []), (.sl [] 0 .nil), (.s []), (.b false), (.i .i64 0), (.i .i64 0)])] (.i .i64 230) :=
 comp_runF (xp := xf) told_xf 100000 (fun gl hgl => by cases hgl; kernel_rfl)   -- 146 steps
def memos20 : List (List V × V) := [([(.s [99, 111, 117, 110, 116, 32, 119, 104, 101, 114, 101, 32, 107, 101, 121, 32, 94, 32, 34, 97, 34, 32, 98, 121, 32, 103])], (.tup [(.agg [(.i .i64 1), (.s []), (.i .i64 1), (.s []), (.s [97]), (.sl [] 0 .nil), (.s [103]), (.b false), (.i .i64 0), (.i .i64 0)]), (.i .i64 0), (.i .i64 0)]))]
theorem memos20_ok (a : List V) (v : V) (h : (a, v) ∈ memos20) : Comp tabx told 20 a v := by
 simp only [memos20, List.mem_cons, List.not_mem_nil, or_false, Prod.mk.injEq] at h
 obtain ⟨rfl, rfl⟩ := h; exact memo1
def memos13 : List (List V × V) := [([(.agg [(.i .i64 1), (.s []), (.i .i64 1), (.s []), (.s [97]), (.sl [] 0 .nil), (.s [103]), (.b false), (.i .i64 0), (.i .i64 0)]), (.sl [(.s [97, 49]), (.s [103, 58, 120]), (.s [97, 50]), (.s [103, 58, 121]), (.s [97, 51]), (.s [103, 58, 120]), (.s [98]), (.s [103, 58, 120])] 4 .full)], (.tup [(.sl [(.s [120]), (.sl [] 0 .nil), (.i .i64 2), (.s [121]), (.sl [] 0 .nil), (.i .i64 1)] 2 .no), (.i .i64 0)])), ([(.agg [(.i .i64 4), (.s [110]), (.i .i64 0), (.s []), (.s []), (.sl [] 0 .nil), (.s []), (.b false), (.i .i64 0), (.i .i64 0)]), (.sl [(.s [97]), (.s [110, 58, 53]), (.s [98]), (.s [110, 58, 45, 50]), (.s [99]), (.s [109, 58, 57])] 3 .full)], (.tup [(.sl [(.s []), (.sl [] 0 .nil), (.i .i64 5)] 1 .no), (.i .i64 0)]))]
theorem memos13_ok (a : List V) (v : V) (h : (a, v) ∈ memos13) : Comp tabx told 13 a v := by
 simp only [memos13, List.mem_cons, List.not_mem_nil, or_false, Prod.mk.injEq] at h
 rcases h with ⟨rfl, rfl⟩ | ⟨rfl, rfl⟩
 · exact memo2
 · exact memo4
def memos15 : List (List V × V) := [([(.sl [(.s [120]), (.sl [] 0 .nil), (.i .i64 2), (.s [121]), (.sl [] 0 .nil), (.i .i64 1)] 2 .no), (.sl [(.s [120]), (.sl [] 0 .nil), (.i .i64 2), (.s [121]), (.sl [] 0 .nil), (.i .i64 1)] 2 .full)], (.b true)), ([(.sl [(.s []), (.sl [] 0 .nil), (.i .i64 5)] 1 .no), (.sl [(.s []), (.sl [] 0 .nil), (.i .i64 5)] 1 .full)], (.b true))]
theorem memos15_ok (a : List V) (v : V) (h : (a, v) ∈ memos15) : Comp tabx told 15 a v := by
 simp only [memos15, List.mem_cons, List.not_mem_nil, or_false, Prod.mk.injEq] at h
 rcases h with ⟨rfl, rfl⟩ | ⟨rfl, rfl⟩
 · exact memo5
 · exact memo6
def memos8 : List (List V × V) := [([(.agg [(.i .i64 1), (.s []), (.i .i64 1), (.s []), (.s [97]), (.sl [] 0 .nil), (.s [103]), (.b false), (.i .i64 0), (.i .i64 0)])], (.i .i64 0)), ([(.agg [(.i .i64 4), (.s [110]), (.i .i64 0), (.s []), (.s []), (.sl [] 0 .nil), (.s []), (.b false), (.i .i64 0), (.i .i64 0)])], (.i .i64 0)), ([(.agg [(.i .i64 5), (.s []), (.i .i64 0), (.s []), (.s []), (.sl [] 0 .nil), (.s []), (.b false), (.i .i64 0), (.i .i64 0)])], (.i .i64 230))]
theorem memos8_ok (a : List V) (v : V) (h : (a, v) ∈ memos8) : Comp tabx told 8 a v := by
 simp only [memos8, List.mem_cons, List.not_mem_nil, or_false, Prod.mk.injEq] at h
 rcases h with ⟨rfl, rfl⟩ | ⟨rfl, rfl⟩ | ⟨rfl, rfl⟩
 · exact memo0
 · exact memo3
 · exact memo7
def xfM (g : FuncId) (a : List V) : Option V := bif Nat.beq g 20 then memo memos20 a else bif Nat.beq g 13 then memo memos13 a else bif Nat.beq g 15 then memo memos15 a else bif Nat.beq g 8 then memo memos8 a else xf g a
theorem xfM_ok : Tells tabx told xfM := by
 intro g a v h
 unfold xfM at h
 cases hb20 : Nat.beq g 20 with
 | true => rw [hb20] at h; rw [Nat.eq_of_beq_eq_true hb20]; exact memos20_ok a v (memo_mem h)
 | false =>
   rw [hb20] at h
   simp only [cond_false] at h
   cases hb13 : Nat.beq g 13 with
   | true => rw [hb13] at h; rw [Nat.eq_of_beq_eq_true hb13]; exact memos13_ok a v (memo_mem h)
   | false =>
     rw [hb13] at h
     simp only [cond_false] at h
     cases hb15 : Nat.beq g 15 with
     | true => rw [hb15] at h; rw [Nat.eq_of_beq_eq_true hb15]; exact memos15_ok a v (memo_mem h)
     | false =>
       rw [hb15] at h
       simp only [cond_false] at h
       cases hb8 : Nat.beq g 8 with
       | true => rw [hb8] at h; rw [Nat.eq_of_beq_eq_true hb8]; exact memos8_ok a v (memo_mem h)
       | false =>
         rw [hb8] at h
         simp only [cond_false] at h
         exact comp_prim h
theorem memo_all : Comp tabx told 10 [] (.b true) :=
 comp_runM tabM_sub xfM_ok 100000 (fun gl hgl => by cases hgl; kernel_rfl)   -- -396 steps

end Go.Proofs.YtpcjhfchpelonaaGreatDoor
