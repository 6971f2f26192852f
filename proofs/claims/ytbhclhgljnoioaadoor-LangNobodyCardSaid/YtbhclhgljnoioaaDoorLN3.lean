/- 'LangNobody' returns true for every input: proved, no condition. -/
import Derived.Test.YtbhclhgljnoioaaDoorLN2
import Derived.SevenTiedAt
namespace Go.Proofs.YtbhclhgljnoioaaDoor
open Go
theorem card_holds : Rows.LangNobodyCardSaid :=
  Claim7.holds_tied_plain_at .later [] [.data, .data, .data, .data, .pinned] true (true, "ae4a274f00fe2cbbce5ffde77a087df37bb7f6e819d15f0a938d297a23ec0abb") true
    row_holds (fun _ h => by cases h) (by kernel_rfl) (fun _ h => by cases h) langNobody_row_tie rfl ⟨rfl, rfl⟩ (by kernel_rfl) rfl
    (fun f fn hf hfn => by
      obtain rfl : f = 8 := Option.some.inj ((show Tryd.prog.funcNamed "tidemark/tidemarklaw08.LangNobody" = some 8 by kernel_rfl).symm.trans hf) |>.symm
      obtain rfl : fn = Tryd.f8 := (Option.some.inj (Tryd.func8.symm.trans hfn)).symm
      exact ⟨by kernel_rfl, fun j t ht => by
        rw [Tryd.params8] at ht
        have h3 : t = 3 ∨ t = 9 := by
          rcases j with _ | _ | j
          · exact .inl (by simpa using ht.symm)
          · exact .inr (by simpa using ht.symm)
          · simp at ht
        rcases h3 with rfl | rfl
        · exact (show Tryd.prog.wantsStandIn 3 = false by kernel_rfl)
        · exact (show Tryd.prog.wantsStandIn 9 = false by kernel_rfl)⟩)
    (by kernel_rfl)
end Go.Proofs.YtbhclhgljnoioaaDoor
