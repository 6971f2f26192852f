/- 'NodeNobody' returns true for every input: proved, no condition. -/
import Derived.Test.YtopbdgdfnmlldaaGreatDoorN1
import Derived.Test.YtopbdgdfnmlldaaGreatDoorN0g
import Derived.Test.YtopbdgdfnmlldaaGreatDoorAi13
import Derived.Carry
import Derived.WalkKit
import Derived.ProofKit
import Derived.OpenShut
import Derived.ShutString
import Derived.ChangeOld
import Derived.Below
import Derived.SizedLaws
import Derived.Stop.Joined
import Derived.SevenTiedAt
namespace Go.Proofs.YtopbdgdfnmlldaaGreatDoor.nodeNobody
open Go.ChangeShapes Go.WideShapes Go.ChangeAt Go.RowKit
open Go.ChangeMaps (open_string shut_string)
set_option linter.unusedVariables false
theorem own : ownKnob Tryz.prog.godebug = none := by kernel_rfl
theorem laidOut : laidOutB Tryz.prog = true := by kernel_rfl
theorem plainly {W : World} (h : laidMetH Tryz.prog Rows.nodeNobodyRow.laid W) : laidMet Tryz.prog Rows.nodeNobodyRow.laid W := by rwa [MakeChecks.laidMetH_plain _ _ _ (by kernel_rfl)] at h
def Sx : List TypeId := [32, 3, 30, 4, 22, 68, 26, 5, 28, 25, 23]
theorem shutS : Ai.shut Tryz.prog Sx = true := by kernel_rfl
theorem walk (W : World) (v0 : Value) (x0 : Ai.V) (u0 : Ai.VR (Ai.Gh.start W) W x0 v0) (y0 : Ai.ArgV Tryz.prog 32 x0) (hL : laidMetH Tryz.prog Rows.nodeNobodyRow.laid W) : Calls Tryz.prog 3 #[v0] W fun e W' => e = .returned (.bool true) ∧ Below W.heap.size W W' :=
  Ai.true_of_comp good (w_NodeNobody x0 y0) (fun _ h => h) (gl := gl0) rfl ⟨rfl, fun j hj => by
    match j, hj with
    | 0, _ => exact u0⟩ (gl_met (plainly hL) (by simp [Rows.nodeNobodyRow]))
theorem door_met (os : Os) (args : Array Value) : laidMetH Tryz.prog Rows.nodeNobodyRow.laid ((World.laidAll Tryz.prog os Rows.nodeNobodyRow.laid).forCall (fun _ _ => 0) ⟨#[], args, []⟩).memory := by
  rw [MakeChecks.laidMetH_plain _ _ _ (by kernel_rfl)]
  exact laidMet_laidAll args (by kernel_rfl) (by kernel_rfl)
set_option maxRecDepth 100000 in
theorem lifted (os : Os) (started : os.Started) (H : Type) (enc : TypeId × Value → H) :
    ReturnsInHanded {} Tryz.checked os 3 .any (fun w args => (Rows.nodeNobodySpec.pre enc Tryz.prog Tryz.f3 [] false w args ∧ laidMetH Tryz.prog Rows.nodeNobodyRow.laid w) ∧ sizedMet enc Tryz.prog Tryz.f3 (OpenSpec.ofChange Rows.nodeNobodySpec) false w args)
      (Rows.nodeNobodySpec.post enc Tryz.prog Tryz.f3 false true false false) := by
  refine returnsInHanded_of_change_and (C := Tryz.checked) (X := fun w _ => laidMetH Tryz.prog Rows.nodeNobodyRow.laid w) (fun _ _ _ hh h => h.of_heap hh) own started (by kernel_rfl) Tryz.func3
    (ChangeSpec.witness_shaped (enc := enc) (C := Tryz.checked) (os := os) (X := fun w _ => laidMetH Tryz.prog Rows.nodeNobodyRow.laid w) false (World.laidAll Tryz.prog os Rows.nodeNobodyRow.laid) #[.agg #[.int .i64 0, .int .i64 0, .int .i64 0, .int .i64 0, .int .i64 0, .int .i64 0, .int .i64 0, .int .i64 0, .int .i64 0, .int .i64 0, .bool false, .slice none 0 0, .int .i64 0, .int .i64 0, .slice none 0 0, .slice none 0 0, .slice none 0 0, .int .i64 0, .bool false, .slice none 0 0, .slice none 0 0, .slice none 0 0, .int .i64 0, .int .i64 0]] 8 rfl (World.shaped_of_RefB (by kernel_rfl) (by kernel_rfl)) (by kernel_rfl) (by kernel_rfl) (by kernel_rfl) (door_met os _)) ?_
  intro W base args ds gs before hval0 hW hcnd hsz0 hL _
  have hsz : (DataW.weightsEach Tryz.prog (Tryz.f3.params.toList ++ Rows.nodeNobodySpec.plain.varTypes Tryz.prog) (ds ++ gs)).all (· ≤ reachBytes) = true := hsz0
  have hval : ∀ (j : Nat) t v, Tryz.f3.params[j]? = some t → args[j]? = some v → Value.okWide Tryz.prog W .any base t v := hval0
  have hW' := hW
  obtain ⟨p, q, hA0, hV, rfl, hfz, hnd⟩ := hW
  have hA : DataW.TrodAll enc Tryz.prog W 0 (fun _ => true) true Tryz.f3.params.toList args.toList ds p := hA0
  rw [Tryz.params3] at hA hval hsz
  obtain ⟨v0, vs0, d0, ds0, p0, q0, hargs, rfl, rfl, h0, r0⟩ := trodAll_cons hA
  obtain ⟨rfl, rfl, rfl⟩ := trodAll_nil r0
  obtain rfl : args = #[v0] := by cases args; simp_all
  obtain ⟨rfl, rfl⟩ := trodVars_none hV
  have k0 := h0
  have lt0 : ∀ x ∈ p0, x.block < W.heap.size := by obtain ⟨m, hm⟩ := k0; exact DataW.trod_lt m _ _ _ hm
  obtain ⟨x0, u0, y0⟩ := Ai.open_arg shutS (t := 32) (by decide) (hval 0 32 v0 rfl rfl) h0 (List.all_eq_true.2 fun n hn => List.all_eq_true.1 hsz n (DataW.weights_mem_each (j := 0) (t := 32) rfl rfl n hn))
  clear hA0 hval0
  refine (walk W v0 x0 u0 y0 hL).mono fun e W' ⟨he, bel⟩ => ?_
  subst he
  exact ⟨_, rfl, _, _, _, [], _, [], hW', trodAll_mk1 (shut_bool Tryz.underlying4 _), (trodAll_cons_mk (Below.trod laidOut (by kernel_rfl) (of_decide_eq_true (by kernel_rfl)) k0 bel lt0) trodAll_mk0), rfl, bel.frame _, fun h => by cases h⟩
theorem named : Tryz.prog.funcNamed "tidemark/tidemarklaw20.NodeNobody" = some 3 := by kernel_rfl
theorem k_none : Tryz.prog.funcs.any Func.goes = false := by kernel_rfl
theorem k_goes : false = Rows.nodeNobodyRow.goesBy Tryz.prog := by
  have hn : ∀ g : Nat, (Tryz.prog.funcs[g]?).any Func.goes = false := fun g => by
    cases h : Tryz.prog.funcs[g]? with
    | none => rfl
    | some fn =>
      have := k_none
      rw [Array.any_eq_false'] at this
      exact Bool.eq_false_iff.2 (this fn (Array.mem_of_getElem? h))
  have hg : Tryz.prog.goes 3 = false := by
    unfold Program.goes
    rw [k_none, Bool.and_false, Bool.or_false]
    exact List.any_eq_false.2 fun g _ => by rw [hn]; decide
  show false = ((Tryz.prog.funcNamed "tidemark/tidemarklaw20.NodeNobody").any Tryz.prog.goes || false)
  rw [named, Option.any_some, hg, Bool.or_false]
set_option maxHeartbeats 4000000 in
theorem closed : joinedFacts Tryz.prog 3 Tryz.f3 Rows.nodeNobodySpec Rows.nodeNobodyRow = true := by
  unfold joinedFacts
  rw [Bool.and_assoc, Bool.and_assoc, Bool.and_assoc, Bool.and_assoc, Bool.and_assoc, Bool.and_eq_true]
  refine ⟨?_, by as_aux_lemma => kernel_rfl⟩
  rw [Bool.and_assoc, Bool.and_assoc, Bool.and_assoc, Bool.and_assoc, Bool.and_assoc, Bool.and_eq_true]
  refine ⟨?_, by as_aux_lemma => kernel_rfl⟩
  rw [Bool.and_assoc, Bool.and_assoc, Bool.and_assoc, Bool.and_assoc, Bool.and_assoc, Bool.and_eq_true]
  refine ⟨?_, by as_aux_lemma => kernel_rfl⟩
  rw [Bool.and_assoc, Bool.and_assoc, Bool.and_assoc, Bool.and_assoc, Bool.and_assoc, Bool.and_eq_true]
  refine ⟨?_, by as_aux_lemma => kernel_rfl⟩
  as_aux_lemma => kernel_rfl
set_option maxHeartbeats 4000000 in
theorem row_holds : Rows.NodeNobodySaid :=
  OpenClaim.holds_of_wide 3 Tryz.f3 rfl rfl rfl rfl rfl rfl rfl ⟨rfl, rfl, rfl, rfl, rfl⟩ rfl rfl rfl rfl rfl named Tryz.func3 closed
    (of_decide_eq_true (by as_aux_lemma => kernel_rfl)) (by unfold Func.isWrapper; first | (rw [if_pos (by decide +kernel)]; as_aux_lemma => kernel_rfl) | (rw [if_neg (by decide +kernel)]; exact ⟨rfl, rfl⟩))
    (fun os started H enc _ => lifted os started H enc)
set_option maxHeartbeats 4000000 in
theorem card_holds : Rows.NodeNobodyCardSaid :=
  Claim7.holds_tied_plain_at .later [] [.data] true (true, "235c354f196c975a5b00561c9803c35dfeba8fc7d464274d72a6eb98d86eda19") true
    row_holds (fun _ h => by cases h) (by as_aux_lemma => kernel_rfl) (fun _ h => by cases h) nodeNobody_row_tie rfl ⟨rfl, rfl⟩ (by as_aux_lemma => kernel_rfl) rfl
    (fun f fn hf hfn => by
      obtain rfl : f = 3 := Option.some.inj (named.symm.trans hf) |>.symm
      obtain rfl : fn = Tryz.f3 := (Option.some.inj (Tryz.func3.symm.trans hfn)).symm
      exact ⟨by as_aux_lemma => kernel_rfl, fun j t ht => by
        rw [Tryz.params3] at ht
        have h3 : t = 32 := by
          rcases j with _ | j
          · exact (by simpa using ht.symm)
          · simp at ht
        rcases h3 with rfl
        · exact (show Tryz.prog.wantsStandIn 32 = false by as_aux_lemma => kernel_rfl)⟩)
    k_goes
end Go.Proofs.YtopbdgdfnmlldaaGreatDoor.nodeNobody
