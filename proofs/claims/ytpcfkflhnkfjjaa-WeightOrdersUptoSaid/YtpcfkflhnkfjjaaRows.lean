/-
  NARROWER THAN 'FOR EVERY INPUT', by the rows' own cells (each row's printed sentence says how): WeightChecks: loops · WeightCosts: loops · WeightLeasts: loops · WeightLearns: loops · WeightOrders: loops · WeightUses: loops.
  DERIVED. THE GIVEN ROWS OF THIS SEAT. 6 by the template 'for every input the law returns true; each argument reads behind the call as it read before'; 0 by the template 'total and deterministic' (their statements: YtpcfkflhnkfjjaaTotals.lean).
  GIVEN WITH THE SEED: the statements are not yours to turn. If you find one false, say at which input.
  Laid BY PROGRAM, IN A SANDBOX (cutbox-rows.mjs): the forced cells as the released guide's own fill.sh prints them over the translation ea7d5f4f54b8a7a9… (all of the seat's roots in one cut). By AI agents, Wed Nov 11 2026. No macro, syntax, notation, axiom, sorry.
-/
import Derived.Test.YtpcfkflhnkfjjaaChecked
import GoSem.Claim
import GoSem.ClaimJoined
import GoSem.ClaimMapViews
import Derived.JoinedTies
import Derived.KernelRfl
namespace Go.Proofs.Ytpcfkflhnkfjjaa
/- THE CELL 'sum', in the pinned program and in every row, IS THE sha256 OF THE DUMP (.gsa) THAT YtpcfkflhnkfjjaaProg.lean LOADS. Nothing in Lean hashes anything: it is a label: what it is worth is what the hold of that sum in a sandbox is worth. -/
noncomputable def Try.pinned : Pinned := { name := "ytpcfkflhnkfjjaa", sum := "ea7d5f4f54b8a7a9404258ca81bfd70fb4072e164b96228d6c332c6531fc1686", checked := Try.checked }
namespace Rows
def none {H : Type} : Left H := { results := [], args := [] }

/-- 'synthesislaw38.WeightChecks': WHATEVER THE INPUT: true; the input reads as it did. -/
def weightChecksSpec : ChangeSpec := { name := "weightChecks", fn := fun _ => fun
  | [d1, d2] => { results := [.lit (.bool true)], args := [d1, d2] }
  | _ => none }
def weightChecksRow : OpenClaim := { program := "ytpcfkflhnkfjjaa", sum := "ea7d5f4f54b8a7a9404258ca81bfd70fb4072e164b96228d6c332c6531fc1686", func := "synthesis/synthesislaw38.WeightChecks", spec := "weightChecks", inPlace := ["internal/bytealg.IndexByteString", "internal/bytealg.IndexString"], unfollowed := true, recurses := true, named := ["internal/bytealg.MaxLen"], loops := true, apart := false }
def WeightChecksSaid : Prop := weightChecksRow.holds Try.pinned (OpenSpec.ofChange weightChecksSpec)

/-- ITS FALSE NEIGHBOUR: 'it returns false'. Refute it at one input. -/
def weightChecksWrong : ChangeSpec := { name := "weightChecks", fn := fun _ => fun
  | [d1, d2] => { results := [.lit (.bool false)], args := [d1, d2] }
  | _ => none }
def WeightChecksWrongFalsely : Prop := weightChecksRow.holds Try.pinned (OpenSpec.ofChange weightChecksWrong)

/-- 'synthesislaw38.WeightCosts': WHATEVER THE INPUT: true; the input reads as it did. -/
def weightCostsSpec : ChangeSpec := { name := "weightCosts", fn := fun _ => fun
  | [d1, d2, d3] => { results := [.lit (.bool true)], args := [d1, d2, d3] }
  | _ => none }
def weightCostsRow : OpenClaim := { program := "ytpcfkflhnkfjjaa", sum := "ea7d5f4f54b8a7a9404258ca81bfd70fb4072e164b96228d6c332c6531fc1686", func := "synthesis/synthesislaw38.WeightCosts", spec := "weightCosts", inPlace := ["internal/bytealg.IndexByteString", "internal/bytealg.IndexString"], unfollowed := true, recurses := true, named := ["internal/bytealg.MaxLen"], loops := true, apart := false }
def WeightCostsSaid : Prop := weightCostsRow.holds Try.pinned (OpenSpec.ofChange weightCostsSpec)

/-- ITS FALSE NEIGHBOUR: 'it returns false'. Refute it at one input. -/
def weightCostsWrong : ChangeSpec := { name := "weightCosts", fn := fun _ => fun
  | [d1, d2, d3] => { results := [.lit (.bool false)], args := [d1, d2, d3] }
  | _ => none }
def WeightCostsWrongFalsely : Prop := weightCostsRow.holds Try.pinned (OpenSpec.ofChange weightCostsWrong)

/-- 'synthesislaw38.WeightLeasts': WHATEVER THE INPUT: true; the input reads as it did. -/
def weightLeastsSpec : ChangeSpec := { name := "weightLeasts", fn := fun _ => fun
  | [d1, d2, d3] => { results := [.lit (.bool true)], args := [d1, d2, d3] }
  | _ => none }
def weightLeastsRow : OpenClaim := { program := "ytpcfkflhnkfjjaa", sum := "ea7d5f4f54b8a7a9404258ca81bfd70fb4072e164b96228d6c332c6531fc1686", func := "synthesis/synthesislaw38.WeightLeasts", spec := "weightLeasts", inPlace := ["internal/bytealg.IndexByteString", "internal/bytealg.IndexString"], unfollowed := true, recurses := true, named := ["internal/bytealg.MaxLen"], loops := true, apart := false }
def WeightLeastsSaid : Prop := weightLeastsRow.holds Try.pinned (OpenSpec.ofChange weightLeastsSpec)

/-- ITS FALSE NEIGHBOUR: 'it returns false'. Refute it at one input. -/
def weightLeastsWrong : ChangeSpec := { name := "weightLeasts", fn := fun _ => fun
  | [d1, d2, d3] => { results := [.lit (.bool false)], args := [d1, d2, d3] }
  | _ => none }
def WeightLeastsWrongFalsely : Prop := weightLeastsRow.holds Try.pinned (OpenSpec.ofChange weightLeastsWrong)

/-- 'synthesislaw38.WeightLearns': WHATEVER THE INPUT: true; the input reads as it did. -/
def weightLearnsSpec : ChangeSpec := { name := "weightLearns", fn := fun _ => fun
  | [d1, d2] => { results := [.lit (.bool true)], args := [d1, d2] }
  | _ => none }
def weightLearnsRow : OpenClaim := { program := "ytpcfkflhnkfjjaa", sum := "ea7d5f4f54b8a7a9404258ca81bfd70fb4072e164b96228d6c332c6531fc1686", func := "synthesis/synthesislaw38.WeightLearns", spec := "weightLearns", inPlace := ["internal/bytealg.IndexByteString", "internal/bytealg.IndexString"], unfollowed := true, recurses := true, named := ["internal/bytealg.MaxLen"], loops := true, apart := false }
def WeightLearnsSaid : Prop := weightLearnsRow.holds Try.pinned (OpenSpec.ofChange weightLearnsSpec)

/-- ITS FALSE NEIGHBOUR: 'it returns false'. Refute it at one input. -/
def weightLearnsWrong : ChangeSpec := { name := "weightLearns", fn := fun _ => fun
  | [d1, d2] => { results := [.lit (.bool false)], args := [d1, d2] }
  | _ => none }
def WeightLearnsWrongFalsely : Prop := weightLearnsRow.holds Try.pinned (OpenSpec.ofChange weightLearnsWrong)

/-- 'synthesislaw38.WeightOrders': WHATEVER THE INPUT: true; the input reads as it did. -/
def weightOrdersSpec : ChangeSpec := { name := "weightOrders", fn := fun _ => fun
  | [d1, d2] => { results := [.lit (.bool true)], args := [d1, d2] }
  | _ => none }
def weightOrdersRow : OpenClaim := { program := "ytpcfkflhnkfjjaa", sum := "ea7d5f4f54b8a7a9404258ca81bfd70fb4072e164b96228d6c332c6531fc1686", func := "synthesis/synthesislaw38.WeightOrders", spec := "weightOrders", inPlace := ["internal/bytealg.IndexByteString", "internal/bytealg.IndexString"], unfollowed := true, recurses := true, named := ["internal/bytealg.MaxLen"], loops := true, apart := false }
def WeightOrdersSaid : Prop := weightOrdersRow.holds Try.pinned (OpenSpec.ofChange weightOrdersSpec)

/-- ITS FALSE NEIGHBOUR: 'it returns false'. Refute it at one input. -/
def weightOrdersWrong : ChangeSpec := { name := "weightOrders", fn := fun _ => fun
  | [d1, d2] => { results := [.lit (.bool false)], args := [d1, d2] }
  | _ => none }
def WeightOrdersWrongFalsely : Prop := weightOrdersRow.holds Try.pinned (OpenSpec.ofChange weightOrdersWrong)

/-- 'synthesislaw38.WeightUses': WHATEVER THE INPUT: true; the input reads as it did. -/
def weightUsesSpec : ChangeSpec := { name := "weightUses", fn := fun _ => fun
  | [d1, d2] => { results := [.lit (.bool true)], args := [d1, d2] }
  | _ => none }
def weightUsesRow : OpenClaim := { program := "ytpcfkflhnkfjjaa", sum := "ea7d5f4f54b8a7a9404258ca81bfd70fb4072e164b96228d6c332c6531fc1686", func := "synthesis/synthesislaw38.WeightUses", spec := "weightUses", inPlace := ["internal/bytealg.IndexByteString", "internal/bytealg.IndexString"], unfollowed := true, recurses := true, named := ["internal/bytealg.MaxLen"], loops := true, apart := false }
def WeightUsesSaid : Prop := weightUsesRow.holds Try.pinned (OpenSpec.ofChange weightUsesSpec)

/-- ITS FALSE NEIGHBOUR: 'it returns false'. Refute it at one input. -/
def weightUsesWrong : ChangeSpec := { name := "weightUses", fn := fun _ => fun
  | [d1, d2] => { results := [.lit (.bool false)], args := [d1, d2] }
  | _ => none }
def WeightUsesWrongFalsely : Prop := weightUsesRow.holds Try.pinned (OpenSpec.ofChange weightUsesWrong)

/- THE SECOND FORM. 'bulk': how many values and letters a reading holds, each counted each time it is reached (what is shared counts as often as it is met; a slice's spare places count too). A statement '..UptoSaid' is the law's where the arguments, and the package variables that the reading takes, are together of bulk at most 1048576: NARROWER than '..Said'. Prove '..Said' where nothing that the law and all that it calls make is longer than what came in: it says more and counts as full. Else prove '..UptoSaid'. A law counts once. -/
mutual
def uptoBulk {H : Type} : DataW H → Nat
  | .lit (.string bytes) => bytes.length + 1
  | .lit _ => 1
  | .nil => 1
  | .ptr d => uptoBulk d + 1
  | .slice elems spare => uptoBulkAll elems + uptoBulkAll spare + 1
  | .agg parts => uptoBulkAll parts + 1
  | .iface _ d => uptoBulk d + 1
  | .map entries => uptoBulkEntries entries + 1
  | .held _ => 1
def uptoBulkAll {H : Type} : List (DataW H) → Nat
  | [] => 0
  | d :: r => uptoBulk d + uptoBulkAll r
def uptoBulkEntries {H : Type} : List (Lit × DataW H) → Nat
  | [] => 0
  | x :: r => uptoBulkEntry x + uptoBulkEntries r
def uptoBulkEntry {H : Type} : Lit × DataW H → Nat
  | (.string bytes, d) => bytes.length + uptoBulk d + 1
  | (_, d) => uptoBulk d + 1
 end
def uptoSmall : (H : Type) → List (DataW H) → Bool := fun _ ds => decide (uptoBulkAll ds ≤ 1048576)
def OpenSpec.upto (s : _root_.Go.ChangeSpec) : _root_.Go.OpenSpec := { _root_.Go.OpenSpec.ofChange s with cond := some uptoSmall }

/-- 'synthesislaw38.WeightChecks', WHERE WHAT IT READS IS OF BULK AT MOST 1048576: true; the input reads as it did. -/
def weightChecksUptoRow : OpenClaim := { program := "ytpcfkflhnkfjjaa", sum := "ea7d5f4f54b8a7a9404258ca81bfd70fb4072e164b96228d6c332c6531fc1686", func := "synthesis/synthesislaw38.WeightChecks", spec := "weightChecks", inPlace := ["internal/bytealg.IndexByteString", "internal/bytealg.IndexString"], unfollowed := true, recurses := true, named := ["internal/bytealg.MaxLen"], loops := true, apart := false, narrowed := true }
def WeightChecksUptoSaid : Prop := weightChecksUptoRow.holds Try.pinned (OpenSpec.upto weightChecksSpec)

/-- 'synthesislaw38.WeightCosts', WHERE WHAT IT READS IS OF BULK AT MOST 1048576: true; the input reads as it did. -/
def weightCostsUptoRow : OpenClaim := { program := "ytpcfkflhnkfjjaa", sum := "ea7d5f4f54b8a7a9404258ca81bfd70fb4072e164b96228d6c332c6531fc1686", func := "synthesis/synthesislaw38.WeightCosts", spec := "weightCosts", inPlace := ["internal/bytealg.IndexByteString", "internal/bytealg.IndexString"], unfollowed := true, recurses := true, named := ["internal/bytealg.MaxLen"], loops := true, apart := false, narrowed := true }
def WeightCostsUptoSaid : Prop := weightCostsUptoRow.holds Try.pinned (OpenSpec.upto weightCostsSpec)

/-- 'synthesislaw38.WeightLeasts', WHERE WHAT IT READS IS OF BULK AT MOST 1048576: true; the input reads as it did. -/
def weightLeastsUptoRow : OpenClaim := { program := "ytpcfkflhnkfjjaa", sum := "ea7d5f4f54b8a7a9404258ca81bfd70fb4072e164b96228d6c332c6531fc1686", func := "synthesis/synthesislaw38.WeightLeasts", spec := "weightLeasts", inPlace := ["internal/bytealg.IndexByteString", "internal/bytealg.IndexString"], unfollowed := true, recurses := true, named := ["internal/bytealg.MaxLen"], loops := true, apart := false, narrowed := true }
def WeightLeastsUptoSaid : Prop := weightLeastsUptoRow.holds Try.pinned (OpenSpec.upto weightLeastsSpec)

/-- 'synthesislaw38.WeightLearns', WHERE WHAT IT READS IS OF BULK AT MOST 1048576: true; the input reads as it did. -/
def weightLearnsUptoRow : OpenClaim := { program := "ytpcfkflhnkfjjaa", sum := "ea7d5f4f54b8a7a9404258ca81bfd70fb4072e164b96228d6c332c6531fc1686", func := "synthesis/synthesislaw38.WeightLearns", spec := "weightLearns", inPlace := ["internal/bytealg.IndexByteString", "internal/bytealg.IndexString"], unfollowed := true, recurses := true, named := ["internal/bytealg.MaxLen"], loops := true, apart := false, narrowed := true }
def WeightLearnsUptoSaid : Prop := weightLearnsUptoRow.holds Try.pinned (OpenSpec.upto weightLearnsSpec)

/-- 'synthesislaw38.WeightOrders', WHERE WHAT IT READS IS OF BULK AT MOST 1048576: true; the input reads as it did. -/
def weightOrdersUptoRow : OpenClaim := { program := "ytpcfkflhnkfjjaa", sum := "ea7d5f4f54b8a7a9404258ca81bfd70fb4072e164b96228d6c332c6531fc1686", func := "synthesis/synthesislaw38.WeightOrders", spec := "weightOrders", inPlace := ["internal/bytealg.IndexByteString", "internal/bytealg.IndexString"], unfollowed := true, recurses := true, named := ["internal/bytealg.MaxLen"], loops := true, apart := false, narrowed := true }
def WeightOrdersUptoSaid : Prop := weightOrdersUptoRow.holds Try.pinned (OpenSpec.upto weightOrdersSpec)

/-- 'synthesislaw38.WeightUses', WHERE WHAT IT READS IS OF BULK AT MOST 1048576: true; the input reads as it did. -/
def weightUsesUptoRow : OpenClaim := { program := "ytpcfkflhnkfjjaa", sum := "ea7d5f4f54b8a7a9404258ca81bfd70fb4072e164b96228d6c332c6531fc1686", func := "synthesis/synthesislaw38.WeightUses", spec := "weightUses", inPlace := ["internal/bytealg.IndexByteString", "internal/bytealg.IndexString"], unfollowed := true, recurses := true, named := ["internal/bytealg.MaxLen"], loops := true, apart := false, narrowed := true }
def WeightUsesUptoSaid : Prop := weightUsesUptoRow.holds Try.pinned (OpenSpec.upto weightUsesSpec)

end Rows
end Go.Proofs.Ytpcfkflhnkfjjaa
