/-
  NARROWER THAN 'FOR EVERY INPUT', by the rows' own cells (each row's printed sentence says how): MachineBack: loops · MachineShares: loops · MachineRefused: loops · MachineOnce: loops · MachinePolls: loops · MachineImage: loops · MachinePlays: loops · MachineRaw: loops · MachineFeeds: loops.
  DERIVED. THE GIVEN ROWS OF THIS SEAT. 12 by the template 'for every input the law returns true; each argument reads behind the call as it read before'; 0 by the template 'total and deterministic' (their statements: YtlicphklkpbkdaaGreatTotals.lean).
  GIVEN WITH THE SEED: the statements are not yours to turn. If you find one false, say at which input.
  Laid BY PROGRAM, IN A SANDBOX (cutbox-rows.mjs): the forced cells as the released guide's own fill.sh prints them over the translation 5ca10a0ee4e77fb3… (all of the seat's roots in one cut). By AI agents, Wed Nov 11 2026. No macro, syntax, notation, axiom, sorry.
-/
import Derived.Test.YtlicphklkpbkdaaGreatChecked
import GoSem.Claim
import GoSem.ClaimJoined
import GoSem.ClaimMapViews
import Derived.JoinedTies
import Derived.KernelRfl
namespace Go.Proofs.YtlicphklkpbkdaaGreat
/- THE CELL 'sum', in the pinned program and in every row, IS THE sha256 OF THE DUMP (.gsa) THAT YtlicphklkpbkdaaGreatProg.lean LOADS. Nothing in Lean hashes anything: it is a label: what it is worth is what the hold of that sum in a sandbox is worth. -/
noncomputable def Tryz.pinned : Pinned := { name := "ytlicphklkpbkdaagreat", sum := "5ca10a0ee4e77fb3dd28497a7f544b83a4dc456f33415a2cc5897de0b073eeab", checked := Tryz.checked }
namespace Rows
def none {H : Type} : Left H := { results := [], args := [] }

/-- 'tidemarklaw15.MachineGets': WHATEVER THE INPUT: true; the input reads as it did. -/
def machineGetsSpec : ChangeSpec := { name := "machineGets", fn := fun _ => fun
  | [d] => { results := [.lit (.bool true)], args := [d] }
  | _ => none }
def machineGetsRow : OpenClaim := { program := "ytlicphklkpbkdaagreat", sum := "5ca10a0ee4e77fb3dd28497a7f544b83a4dc456f33415a2cc5897de0b073eeab", func := "tidemark/tidemarklaw15.MachineGets", spec := "machineGets", inPlace := ["maps.clone"], unfollowed := true, recurses := true, apart := false }
def MachineGetsSaid : Prop := machineGetsRow.holds Tryz.pinned (OpenSpec.ofChange machineGetsSpec)

/-- ITS FALSE NEIGHBOUR: 'it returns false'. Refute it at one input. -/
def machineGetsWrong : ChangeSpec := { name := "machineGets", fn := fun _ => fun
  | [d] => { results := [.lit (.bool false)], args := [d] }
  | _ => none }
def MachineGetsWrongFalsely : Prop := machineGetsRow.holds Tryz.pinned (OpenSpec.ofChange machineGetsWrong)

/-- 'tidemarklaw15.MachineBack': WHATEVER THE INPUT: true; the input reads as it did. -/
def machineBackSpec : ChangeSpec := { name := "machineBack", fn := fun _ => fun
  | [d1, d2] => { results := [.lit (.bool true)], args := [d1, d2] }
  | _ => none }
def machineBackRow : OpenClaim := { program := "ytlicphklkpbkdaagreat", sum := "5ca10a0ee4e77fb3dd28497a7f544b83a4dc456f33415a2cc5897de0b073eeab", func := "tidemark/tidemarklaw15.MachineBack", spec := "machineBack", inPlace := ["maps.clone"], unfollowed := true, recurses := true, loops := true, apart := false }
def MachineBackSaid : Prop := machineBackRow.holds Tryz.pinned (OpenSpec.ofChange machineBackSpec)

/-- ITS FALSE NEIGHBOUR: 'it returns false'. Refute it at one input. -/
def machineBackWrong : ChangeSpec := { name := "machineBack", fn := fun _ => fun
  | [d1, d2] => { results := [.lit (.bool false)], args := [d1, d2] }
  | _ => none }
def MachineBackWrongFalsely : Prop := machineBackRow.holds Tryz.pinned (OpenSpec.ofChange machineBackWrong)

/-- 'tidemarklaw15.MachineMirror': WHATEVER THE INPUT: true; the input reads as it did. -/
def machineMirrorSpec : ChangeSpec := { name := "machineMirror", fn := fun _ => fun
  | [d1, d2, d3] => { results := [.lit (.bool true)], args := [d1, d2, d3] }
  | _ => none }
def machineMirrorRow : OpenClaim := { program := "ytlicphklkpbkdaagreat", sum := "5ca10a0ee4e77fb3dd28497a7f544b83a4dc456f33415a2cc5897de0b073eeab", func := "tidemark/tidemarklaw15.MachineMirror", spec := "machineMirror", inPlace := ["maps.clone"], unfollowed := true, recurses := true, apart := false }
def MachineMirrorSaid : Prop := machineMirrorRow.holds Tryz.pinned (OpenSpec.ofChange machineMirrorSpec)

/-- ITS FALSE NEIGHBOUR: 'it returns false'. Refute it at one input. -/
def machineMirrorWrong : ChangeSpec := { name := "machineMirror", fn := fun _ => fun
  | [d1, d2, d3] => { results := [.lit (.bool false)], args := [d1, d2, d3] }
  | _ => none }
def MachineMirrorWrongFalsely : Prop := machineMirrorRow.holds Tryz.pinned (OpenSpec.ofChange machineMirrorWrong)

/-- 'tidemarklaw15.MachineShares': WHATEVER THE INPUT: true; the input reads as it did. -/
def machineSharesSpec : ChangeSpec := { name := "machineShares", fn := fun _ => fun
  | [d] => { results := [.lit (.bool true)], args := [d] }
  | _ => none }
def machineSharesRow : OpenClaim := { program := "ytlicphklkpbkdaagreat", sum := "5ca10a0ee4e77fb3dd28497a7f544b83a4dc456f33415a2cc5897de0b073eeab", func := "tidemark/tidemarklaw15.MachineShares", spec := "machineShares", inPlace := ["maps.clone"], unfollowed := true, recurses := true, loops := true, apart := false }
def MachineSharesSaid : Prop := machineSharesRow.holds Tryz.pinned (OpenSpec.ofChange machineSharesSpec)

/-- ITS FALSE NEIGHBOUR: 'it returns false'. Refute it at one input. -/
def machineSharesWrong : ChangeSpec := { name := "machineShares", fn := fun _ => fun
  | [d] => { results := [.lit (.bool false)], args := [d] }
  | _ => none }
def MachineSharesWrongFalsely : Prop := machineSharesRow.holds Tryz.pinned (OpenSpec.ofChange machineSharesWrong)

/-- 'tidemarklaw15.MachineRefused': WHATEVER THE INPUT: true; the input reads as it did. -/
def machineRefusedSpec : ChangeSpec := { name := "machineRefused", fn := fun _ => fun
  | [d1, d2] => { results := [.lit (.bool true)], args := [d1, d2] }
  | _ => none }
def machineRefusedRow : OpenClaim := { program := "ytlicphklkpbkdaagreat", sum := "5ca10a0ee4e77fb3dd28497a7f544b83a4dc456f33415a2cc5897de0b073eeab", func := "tidemark/tidemarklaw15.MachineRefused", spec := "machineRefused", inPlace := ["maps.clone"], unfollowed := true, recurses := true, loops := true, apart := false }
def MachineRefusedSaid : Prop := machineRefusedRow.holds Tryz.pinned (OpenSpec.ofChange machineRefusedSpec)

/-- ITS FALSE NEIGHBOUR: 'it returns false'. Refute it at one input. -/
def machineRefusedWrong : ChangeSpec := { name := "machineRefused", fn := fun _ => fun
  | [d1, d2] => { results := [.lit (.bool false)], args := [d1, d2] }
  | _ => none }
def MachineRefusedWrongFalsely : Prop := machineRefusedRow.holds Tryz.pinned (OpenSpec.ofChange machineRefusedWrong)

/-- 'tidemarklaw15.MachineOnce': WHATEVER THE INPUT: true; the input reads as it did. -/
def machineOnceSpec : ChangeSpec := { name := "machineOnce", fn := fun _ => fun
  | [d1, d2] => { results := [.lit (.bool true)], args := [d1, d2] }
  | _ => none }
def machineOnceRow : OpenClaim := { program := "ytlicphklkpbkdaagreat", sum := "5ca10a0ee4e77fb3dd28497a7f544b83a4dc456f33415a2cc5897de0b073eeab", func := "tidemark/tidemarklaw15.MachineOnce", spec := "machineOnce", inPlace := ["maps.clone"], unfollowed := true, recurses := true, loops := true, apart := false }
def MachineOnceSaid : Prop := machineOnceRow.holds Tryz.pinned (OpenSpec.ofChange machineOnceSpec)

/-- ITS FALSE NEIGHBOUR: 'it returns false'. Refute it at one input. -/
def machineOnceWrong : ChangeSpec := { name := "machineOnce", fn := fun _ => fun
  | [d1, d2] => { results := [.lit (.bool false)], args := [d1, d2] }
  | _ => none }
def MachineOnceWrongFalsely : Prop := machineOnceRow.holds Tryz.pinned (OpenSpec.ofChange machineOnceWrong)

/-- 'tidemarklaw15.MachinePolls': WHATEVER THE INPUT: true; the input reads as it did. -/
def machinePollsSpec : ChangeSpec := { name := "machinePolls", fn := fun _ => fun
  | [d1, d2, d3, d4, d5] => { results := [.lit (.bool true)], args := [d1, d2, d3, d4, d5] }
  | _ => none }
def machinePollsRow : OpenClaim := { program := "ytlicphklkpbkdaagreat", sum := "5ca10a0ee4e77fb3dd28497a7f544b83a4dc456f33415a2cc5897de0b073eeab", func := "tidemark/tidemarklaw15.MachinePolls", spec := "machinePolls", inPlace := ["maps.clone"], unfollowed := true, recurses := true, loops := true, apart := false }
def MachinePollsSaid : Prop := machinePollsRow.holds Tryz.pinned (OpenSpec.ofChange machinePollsSpec)

/-- ITS FALSE NEIGHBOUR: 'it returns false'. Refute it at one input. -/
def machinePollsWrong : ChangeSpec := { name := "machinePolls", fn := fun _ => fun
  | [d1, d2, d3, d4, d5] => { results := [.lit (.bool false)], args := [d1, d2, d3, d4, d5] }
  | _ => none }
def MachinePollsWrongFalsely : Prop := machinePollsRow.holds Tryz.pinned (OpenSpec.ofChange machinePollsWrong)

/-- 'tidemarklaw15.MachineNobody': WHATEVER THE INPUT: true; the input reads as it did. -/
def machineNobodySpec : ChangeSpec := { name := "machineNobody", fn := fun _ => fun
  | [d1, d2, d3] => { results := [.lit (.bool true)], args := [d1, d2, d3] }
  | _ => none }
def machineNobodyRow : OpenClaim := { program := "ytlicphklkpbkdaagreat", sum := "5ca10a0ee4e77fb3dd28497a7f544b83a4dc456f33415a2cc5897de0b073eeab", func := "tidemark/tidemarklaw15.MachineNobody", spec := "machineNobody", inPlace := ["maps.clone"], unfollowed := true, recurses := true, apart := false }
def MachineNobodySaid : Prop := machineNobodyRow.holds Tryz.pinned (OpenSpec.ofChange machineNobodySpec)

/-- ITS FALSE NEIGHBOUR: 'it returns false'. Refute it at one input. -/
def machineNobodyWrong : ChangeSpec := { name := "machineNobody", fn := fun _ => fun
  | [d1, d2, d3] => { results := [.lit (.bool false)], args := [d1, d2, d3] }
  | _ => none }
def MachineNobodyWrongFalsely : Prop := machineNobodyRow.holds Tryz.pinned (OpenSpec.ofChange machineNobodyWrong)

/-- 'tidemarklaw15.MachineImage': WHATEVER THE INPUT: true; the input reads as it did. -/
def machineImageSpec : ChangeSpec := { name := "machineImage", fn := fun _ => fun
  | [d1, d2] => { results := [.lit (.bool true)], args := [d1, d2] }
  | _ => none }
def machineImageRow : OpenClaim := { program := "ytlicphklkpbkdaagreat", sum := "5ca10a0ee4e77fb3dd28497a7f544b83a4dc456f33415a2cc5897de0b073eeab", func := "tidemark/tidemarklaw15.MachineImage", spec := "machineImage", inPlace := ["maps.clone"], unfollowed := true, recurses := true, loops := true, apart := false }
def MachineImageSaid : Prop := machineImageRow.holds Tryz.pinned (OpenSpec.ofChange machineImageSpec)

/-- ITS FALSE NEIGHBOUR: 'it returns false'. Refute it at one input. -/
def machineImageWrong : ChangeSpec := { name := "machineImage", fn := fun _ => fun
  | [d1, d2] => { results := [.lit (.bool false)], args := [d1, d2] }
  | _ => none }
def MachineImageWrongFalsely : Prop := machineImageRow.holds Tryz.pinned (OpenSpec.ofChange machineImageWrong)

/-- 'tidemarklaw15.MachinePlays': WHATEVER THE INPUT: true; the input reads as it did. -/
def machinePlaysSpec : ChangeSpec := { name := "machinePlays", fn := fun _ => fun
  | [d] => { results := [.lit (.bool true)], args := [d] }
  | _ => none }
def machinePlaysRow : OpenClaim := { program := "ytlicphklkpbkdaagreat", sum := "5ca10a0ee4e77fb3dd28497a7f544b83a4dc456f33415a2cc5897de0b073eeab", func := "tidemark/tidemarklaw15.MachinePlays", spec := "machinePlays", inPlace := ["maps.clone"], unfollowed := true, recurses := true, loops := true, apart := false }
def MachinePlaysSaid : Prop := machinePlaysRow.holds Tryz.pinned (OpenSpec.ofChange machinePlaysSpec)

/-- ITS FALSE NEIGHBOUR: 'it returns false'. Refute it at one input. -/
def machinePlaysWrong : ChangeSpec := { name := "machinePlays", fn := fun _ => fun
  | [d] => { results := [.lit (.bool false)], args := [d] }
  | _ => none }
def MachinePlaysWrongFalsely : Prop := machinePlaysRow.holds Tryz.pinned (OpenSpec.ofChange machinePlaysWrong)

/-- 'tidemarklaw15.MachineRaw': WHATEVER THE INPUT: true; the input reads as it did. -/
def machineRawSpec : ChangeSpec := { name := "machineRaw", fn := fun _ => fun
  | [d1, d2, d3] => { results := [.lit (.bool true)], args := [d1, d2, d3] }
  | _ => none }
def machineRawRow : OpenClaim := { program := "ytlicphklkpbkdaagreat", sum := "5ca10a0ee4e77fb3dd28497a7f544b83a4dc456f33415a2cc5897de0b073eeab", func := "tidemark/tidemarklaw15.MachineRaw", spec := "machineRaw", inPlace := ["maps.clone"], unfollowed := true, recurses := true, loops := true, apart := false }
def MachineRawSaid : Prop := machineRawRow.holds Tryz.pinned (OpenSpec.ofChange machineRawSpec)

/-- ITS FALSE NEIGHBOUR: 'it returns false'. Refute it at one input. -/
def machineRawWrong : ChangeSpec := { name := "machineRaw", fn := fun _ => fun
  | [d1, d2, d3] => { results := [.lit (.bool false)], args := [d1, d2, d3] }
  | _ => none }
def MachineRawWrongFalsely : Prop := machineRawRow.holds Tryz.pinned (OpenSpec.ofChange machineRawWrong)

/-- 'tidemarklaw15.MachineFeeds': WHATEVER THE INPUT: true; the input reads as it did. -/
def machineFeedsSpec : ChangeSpec := { name := "machineFeeds", fn := fun _ => fun
  | [d1, d2, d3] => { results := [.lit (.bool true)], args := [d1, d2, d3] }
  | _ => none }
def machineFeedsRow : OpenClaim := { program := "ytlicphklkpbkdaagreat", sum := "5ca10a0ee4e77fb3dd28497a7f544b83a4dc456f33415a2cc5897de0b073eeab", func := "tidemark/tidemarklaw15.MachineFeeds", spec := "machineFeeds", inPlace := ["maps.clone", "internal/bytealg.Compare"], unfollowed := true, recurses := true, loops := true, apart := false }
def MachineFeedsSaid : Prop := machineFeedsRow.holds Tryz.pinned (OpenSpec.ofChange machineFeedsSpec)

/-- ITS FALSE NEIGHBOUR: 'it returns false'. Refute it at one input. -/
def machineFeedsWrong : ChangeSpec := { name := "machineFeeds", fn := fun _ => fun
  | [d1, d2, d3] => { results := [.lit (.bool false)], args := [d1, d2, d3] }
  | _ => none }
def MachineFeedsWrongFalsely : Prop := machineFeedsRow.holds Tryz.pinned (OpenSpec.ofChange machineFeedsWrong)

/- THE SECOND FORM. 'bulk': how many values and letters a reading holds, each counted each time it is reached (what is shared counts as often as it is met; a slice's spare places count too). A statement '..UptoSaid' is the law's where the arguments, and the package variables that the reading takes, are together of bulk at most 1048576: NARROWER than '..Said'. Prove '..Said' where nothing that the law and all that it calls make is longer than what came in: it says more and counts as full. Else prove '..UptoSaid'. A law counts once. -/
mutual
def uptoBulk {H : Type} : DataW H → Nat
  | .lit (.string bytes) => bytes.length + 1
  | .lit _ => 1
  | .nil => 1
  | .ptr d => uptoBulk d + 1
  | .slice elems spare => uptoBulkAll elems + uptoBulkAll spare + 1
  | .agg parts => uptoBulkAll parts + 1
  | .iface _ d => uptoBulk d + 1
  | .map entries => uptoBulkEntries entries + 1
  | .held _ => 1
def uptoBulkAll {H : Type} : List (DataW H) → Nat
  | [] => 0
  | d :: r => uptoBulk d + uptoBulkAll r
def uptoBulkEntries {H : Type} : List (Lit × DataW H) → Nat
  | [] => 0
  | x :: r => uptoBulkEntry x + uptoBulkEntries r
def uptoBulkEntry {H : Type} : Lit × DataW H → Nat
  | (.string bytes, d) => bytes.length + uptoBulk d + 1
  | (_, d) => uptoBulk d + 1
 end
def uptoSmall : (H : Type) → List (DataW H) → Bool := fun _ ds => decide (uptoBulkAll ds ≤ 1048576)
def OpenSpec.upto (s : _root_.Go.ChangeSpec) : _root_.Go.OpenSpec := { _root_.Go.OpenSpec.ofChange s with cond := some uptoSmall }

/-- 'tidemarklaw15.MachineGets', WHERE WHAT IT READS IS OF BULK AT MOST 1048576: true; the input reads as it did. -/
def machineGetsUptoRow : OpenClaim := { program := "ytlicphklkpbkdaagreat", sum := "5ca10a0ee4e77fb3dd28497a7f544b83a4dc456f33415a2cc5897de0b073eeab", func := "tidemark/tidemarklaw15.MachineGets", spec := "machineGets", inPlace := ["maps.clone"], unfollowed := true, recurses := true, apart := false, narrowed := true }
def MachineGetsUptoSaid : Prop := machineGetsUptoRow.holds Tryz.pinned (OpenSpec.upto machineGetsSpec)

/-- 'tidemarklaw15.MachineBack', WHERE WHAT IT READS IS OF BULK AT MOST 1048576: true; the input reads as it did. -/
def machineBackUptoRow : OpenClaim := { program := "ytlicphklkpbkdaagreat", sum := "5ca10a0ee4e77fb3dd28497a7f544b83a4dc456f33415a2cc5897de0b073eeab", func := "tidemark/tidemarklaw15.MachineBack", spec := "machineBack", inPlace := ["maps.clone"], unfollowed := true, recurses := true, loops := true, apart := false, narrowed := true }
def MachineBackUptoSaid : Prop := machineBackUptoRow.holds Tryz.pinned (OpenSpec.upto machineBackSpec)

/-- 'tidemarklaw15.MachineMirror', WHERE WHAT IT READS IS OF BULK AT MOST 1048576: true; the input reads as it did. -/
def machineMirrorUptoRow : OpenClaim := { program := "ytlicphklkpbkdaagreat", sum := "5ca10a0ee4e77fb3dd28497a7f544b83a4dc456f33415a2cc5897de0b073eeab", func := "tidemark/tidemarklaw15.MachineMirror", spec := "machineMirror", inPlace := ["maps.clone"], unfollowed := true, recurses := true, apart := false, narrowed := true }
def MachineMirrorUptoSaid : Prop := machineMirrorUptoRow.holds Tryz.pinned (OpenSpec.upto machineMirrorSpec)

/-- 'tidemarklaw15.MachineShares', WHERE WHAT IT READS IS OF BULK AT MOST 1048576: true; the input reads as it did. -/
def machineSharesUptoRow : OpenClaim := { program := "ytlicphklkpbkdaagreat", sum := "5ca10a0ee4e77fb3dd28497a7f544b83a4dc456f33415a2cc5897de0b073eeab", func := "tidemark/tidemarklaw15.MachineShares", spec := "machineShares", inPlace := ["maps.clone"], unfollowed := true, recurses := true, loops := true, apart := false, narrowed := true }
def MachineSharesUptoSaid : Prop := machineSharesUptoRow.holds Tryz.pinned (OpenSpec.upto machineSharesSpec)

/-- 'tidemarklaw15.MachineRefused', WHERE WHAT IT READS IS OF BULK AT MOST 1048576: true; the input reads as it did. -/
def machineRefusedUptoRow : OpenClaim := { program := "ytlicphklkpbkdaagreat", sum := "5ca10a0ee4e77fb3dd28497a7f544b83a4dc456f33415a2cc5897de0b073eeab", func := "tidemark/tidemarklaw15.MachineRefused", spec := "machineRefused", inPlace := ["maps.clone"], unfollowed := true, recurses := true, loops := true, apart := false, narrowed := true }
def MachineRefusedUptoSaid : Prop := machineRefusedUptoRow.holds Tryz.pinned (OpenSpec.upto machineRefusedSpec)

/-- 'tidemarklaw15.MachineOnce', WHERE WHAT IT READS IS OF BULK AT MOST 1048576: true; the input reads as it did. -/
def machineOnceUptoRow : OpenClaim := { program := "ytlicphklkpbkdaagreat", sum := "5ca10a0ee4e77fb3dd28497a7f544b83a4dc456f33415a2cc5897de0b073eeab", func := "tidemark/tidemarklaw15.MachineOnce", spec := "machineOnce", inPlace := ["maps.clone"], unfollowed := true, recurses := true, loops := true, apart := false, narrowed := true }
def MachineOnceUptoSaid : Prop := machineOnceUptoRow.holds Tryz.pinned (OpenSpec.upto machineOnceSpec)

/-- 'tidemarklaw15.MachinePolls', WHERE WHAT IT READS IS OF BULK AT MOST 1048576: true; the input reads as it did. -/
def machinePollsUptoRow : OpenClaim := { program := "ytlicphklkpbkdaagreat", sum := "5ca10a0ee4e77fb3dd28497a7f544b83a4dc456f33415a2cc5897de0b073eeab", func := "tidemark/tidemarklaw15.MachinePolls", spec := "machinePolls", inPlace := ["maps.clone"], unfollowed := true, recurses := true, loops := true, apart := false, narrowed := true }
def MachinePollsUptoSaid : Prop := machinePollsUptoRow.holds Tryz.pinned (OpenSpec.upto machinePollsSpec)

/-- 'tidemarklaw15.MachineNobody', WHERE WHAT IT READS IS OF BULK AT MOST 1048576: true; the input reads as it did. -/
def machineNobodyUptoRow : OpenClaim := { program := "ytlicphklkpbkdaagreat", sum := "5ca10a0ee4e77fb3dd28497a7f544b83a4dc456f33415a2cc5897de0b073eeab", func := "tidemark/tidemarklaw15.MachineNobody", spec := "machineNobody", inPlace := ["maps.clone"], unfollowed := true, recurses := true, apart := false, narrowed := true }
def MachineNobodyUptoSaid : Prop := machineNobodyUptoRow.holds Tryz.pinned (OpenSpec.upto machineNobodySpec)

/-- 'tidemarklaw15.MachineImage', WHERE WHAT IT READS IS OF BULK AT MOST 1048576: true; the input reads as it did. -/
def machineImageUptoRow : OpenClaim := { program := "ytlicphklkpbkdaagreat", sum := "5ca10a0ee4e77fb3dd28497a7f544b83a4dc456f33415a2cc5897de0b073eeab", func := "tidemark/tidemarklaw15.MachineImage", spec := "machineImage", inPlace := ["maps.clone"], unfollowed := true, recurses := true, loops := true, apart := false, narrowed := true }
def MachineImageUptoSaid : Prop := machineImageUptoRow.holds Tryz.pinned (OpenSpec.upto machineImageSpec)

/-- 'tidemarklaw15.MachinePlays', WHERE WHAT IT READS IS OF BULK AT MOST 1048576: true; the input reads as it did. -/
def machinePlaysUptoRow : OpenClaim := { program := "ytlicphklkpbkdaagreat", sum := "5ca10a0ee4e77fb3dd28497a7f544b83a4dc456f33415a2cc5897de0b073eeab", func := "tidemark/tidemarklaw15.MachinePlays", spec := "machinePlays", inPlace := ["maps.clone"], unfollowed := true, recurses := true, loops := true, apart := false, narrowed := true }
def MachinePlaysUptoSaid : Prop := machinePlaysUptoRow.holds Tryz.pinned (OpenSpec.upto machinePlaysSpec)

/-- 'tidemarklaw15.MachineRaw', WHERE WHAT IT READS IS OF BULK AT MOST 1048576: true; the input reads as it did. -/
def machineRawUptoRow : OpenClaim := { program := "ytlicphklkpbkdaagreat", sum := "5ca10a0ee4e77fb3dd28497a7f544b83a4dc456f33415a2cc5897de0b073eeab", func := "tidemark/tidemarklaw15.MachineRaw", spec := "machineRaw", inPlace := ["maps.clone"], unfollowed := true, recurses := true, loops := true, apart := false, narrowed := true }
def MachineRawUptoSaid : Prop := machineRawUptoRow.holds Tryz.pinned (OpenSpec.upto machineRawSpec)

/-- 'tidemarklaw15.MachineFeeds', WHERE WHAT IT READS IS OF BULK AT MOST 1048576: true; the input reads as it did. -/
def machineFeedsUptoRow : OpenClaim := { program := "ytlicphklkpbkdaagreat", sum := "5ca10a0ee4e77fb3dd28497a7f544b83a4dc456f33415a2cc5897de0b073eeab", func := "tidemark/tidemarklaw15.MachineFeeds", spec := "machineFeeds", inPlace := ["maps.clone", "internal/bytealg.Compare"], unfollowed := true, recurses := true, loops := true, apart := false, narrowed := true }
def MachineFeedsUptoSaid : Prop := machineFeedsUptoRow.holds Tryz.pinned (OpenSpec.upto machineFeedsSpec)

end Rows
end Go.Proofs.YtlicphklkpbkdaaGreat
