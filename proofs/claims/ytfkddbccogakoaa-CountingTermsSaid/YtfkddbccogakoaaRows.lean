/-
  NARROWER THAN 'FOR EVERY INPUT', by the rows' own cells (each row's printed sentence says how): CountingCounts: loops · CountingLeast: loops · CountingTerms: loops · CountingIndexes: loops · CountingBijects: loops · CountingOrders: loops · CountingSums: loops.
  DERIVED. THE GIVEN ROWS OF THIS SEAT. 7 by the template 'for every input the law returns true; each argument reads behind the call as it read before'; 0 by the template 'total and deterministic' (their statements: YtfkddbccogakoaaTotals.lean).
  GIVEN WITH THE SEED: the statements are not yours to turn. If you find one false, say at which input.
  Laid BY PROGRAM, IN A SANDBOX (cutbox-rows.mjs): the forced cells as the released guide's own fill.sh prints them over the translation e976293a78691028… (all of the seat's roots in one cut). By AI agents, Wed Nov 11 2026. No macro, syntax, notation, axiom, sorry.
-/
import Derived.Test.YtfkddbccogakoaaChecked
import GoSem.Claim
import GoSem.ClaimJoined
import GoSem.ClaimMapViews
import Derived.JoinedTies
import Derived.KernelRfl
namespace Go.Proofs.Ytfkddbccogakoaa
/- THE CELL 'sum', in the pinned program and in every row, IS THE sha256 OF THE DUMP (.gsa) THAT YtfkddbccogakoaaProg.lean LOADS. Nothing in Lean hashes anything: it is a label: what it is worth is what the hold of that sum in a sandbox is worth. -/
noncomputable def Try.pinned : Pinned := { name := "ytfkddbccogakoaa", sum := "e976293a78691028d507b47cceefbd53a7f7a11424e90f29cda81fd0144c868a", checked := Try.checked }
namespace Rows
def none {H : Type} : Left H := { results := [], args := [] }

/-- 'synthesislaw12.CountingCounts': WHATEVER THE INPUT: true; the input reads as it did. -/
def countingCountsSpec : ChangeSpec := { name := "countingCounts", fn := fun _ => fun
  | [d1, d2, d3] => { results := [.lit (.bool true)], args := [d1, d2, d3] }
  | _ => none }
def countingCountsRow : OpenClaim := { program := "ytfkddbccogakoaa", sum := "e976293a78691028d507b47cceefbd53a7f7a11424e90f29cda81fd0144c868a", func := "synthesis/synthesislaw12.CountingCounts", spec := "countingCounts", inPlace := ["internal/bytealg.IndexByteString", "internal/bytealg.IndexString"], unfollowed := true, recurses := true, named := ["internal/bytealg.MaxLen"], loops := true, apart := false }
def CountingCountsSaid : Prop := countingCountsRow.holds Try.pinned (OpenSpec.ofChange countingCountsSpec)

/-- ITS FALSE NEIGHBOUR: 'it returns false'. Refute it at one input. -/
def countingCountsWrong : ChangeSpec := { name := "countingCounts", fn := fun _ => fun
  | [d1, d2, d3] => { results := [.lit (.bool false)], args := [d1, d2, d3] }
  | _ => none }
def CountingCountsWrongFalsely : Prop := countingCountsRow.holds Try.pinned (OpenSpec.ofChange countingCountsWrong)

/-- 'synthesislaw12.CountingLeast': WHATEVER THE INPUT: true; the input reads as it did. -/
def countingLeastSpec : ChangeSpec := { name := "countingLeast", fn := fun _ => fun
  | [d] => { results := [.lit (.bool true)], args := [d] }
  | _ => none }
def countingLeastRow : OpenClaim := { program := "ytfkddbccogakoaa", sum := "e976293a78691028d507b47cceefbd53a7f7a11424e90f29cda81fd0144c868a", func := "synthesis/synthesislaw12.CountingLeast", spec := "countingLeast", inPlace := ["internal/bytealg.IndexByteString", "internal/bytealg.IndexString"], unfollowed := true, recurses := true, named := ["internal/bytealg.MaxLen"], loops := true, apart := false }
def CountingLeastSaid : Prop := countingLeastRow.holds Try.pinned (OpenSpec.ofChange countingLeastSpec)

/-- ITS FALSE NEIGHBOUR: 'it returns false'. Refute it at one input. -/
def countingLeastWrong : ChangeSpec := { name := "countingLeast", fn := fun _ => fun
  | [d] => { results := [.lit (.bool false)], args := [d] }
  | _ => none }
def CountingLeastWrongFalsely : Prop := countingLeastRow.holds Try.pinned (OpenSpec.ofChange countingLeastWrong)

/-- 'synthesislaw12.CountingTerms': WHATEVER THE INPUT: true; the input reads as it did. -/
def countingTermsSpec : ChangeSpec := { name := "countingTerms", fn := fun _ => fun
  | [d1, d2, d3] => { results := [.lit (.bool true)], args := [d1, d2, d3] }
  | _ => none }
def countingTermsRow : OpenClaim := { program := "ytfkddbccogakoaa", sum := "e976293a78691028d507b47cceefbd53a7f7a11424e90f29cda81fd0144c868a", func := "synthesis/synthesislaw12.CountingTerms", spec := "countingTerms", inPlace := ["internal/bytealg.IndexByteString", "internal/bytealg.IndexString"], unfollowed := true, recurses := true, named := ["internal/bytealg.MaxLen"], loops := true, apart := false }
def CountingTermsSaid : Prop := countingTermsRow.holds Try.pinned (OpenSpec.ofChange countingTermsSpec)

/-- ITS FALSE NEIGHBOUR: 'it returns false'. Refute it at one input. -/
def countingTermsWrong : ChangeSpec := { name := "countingTerms", fn := fun _ => fun
  | [d1, d2, d3] => { results := [.lit (.bool false)], args := [d1, d2, d3] }
  | _ => none }
def CountingTermsWrongFalsely : Prop := countingTermsRow.holds Try.pinned (OpenSpec.ofChange countingTermsWrong)

/-- 'synthesislaw12.CountingIndexes': WHATEVER THE INPUT: true; the input reads as it did. -/
def countingIndexesSpec : ChangeSpec := { name := "countingIndexes", fn := fun _ => fun
  | [d1, d2, d3] => { results := [.lit (.bool true)], args := [d1, d2, d3] }
  | _ => none }
def countingIndexesRow : OpenClaim := { program := "ytfkddbccogakoaa", sum := "e976293a78691028d507b47cceefbd53a7f7a11424e90f29cda81fd0144c868a", func := "synthesis/synthesislaw12.CountingIndexes", spec := "countingIndexes", inPlace := ["internal/bytealg.IndexByteString", "internal/bytealg.IndexString"], unfollowed := true, recurses := true, named := ["internal/bytealg.MaxLen"], loops := true, apart := false }
def CountingIndexesSaid : Prop := countingIndexesRow.holds Try.pinned (OpenSpec.ofChange countingIndexesSpec)

/-- ITS FALSE NEIGHBOUR: 'it returns false'. Refute it at one input. -/
def countingIndexesWrong : ChangeSpec := { name := "countingIndexes", fn := fun _ => fun
  | [d1, d2, d3] => { results := [.lit (.bool false)], args := [d1, d2, d3] }
  | _ => none }
def CountingIndexesWrongFalsely : Prop := countingIndexesRow.holds Try.pinned (OpenSpec.ofChange countingIndexesWrong)

/-- 'synthesislaw12.CountingBijects': WHATEVER THE INPUT: true; the input reads as it did. -/
def countingBijectsSpec : ChangeSpec := { name := "countingBijects", fn := fun _ => fun
  | [d1, d2, d3] => { results := [.lit (.bool true)], args := [d1, d2, d3] }
  | _ => none }
def countingBijectsRow : OpenClaim := { program := "ytfkddbccogakoaa", sum := "e976293a78691028d507b47cceefbd53a7f7a11424e90f29cda81fd0144c868a", func := "synthesis/synthesislaw12.CountingBijects", spec := "countingBijects", inPlace := ["internal/bytealg.IndexByteString", "internal/bytealg.IndexString"], unfollowed := true, recurses := true, named := ["internal/bytealg.MaxLen"], loops := true, apart := false }
def CountingBijectsSaid : Prop := countingBijectsRow.holds Try.pinned (OpenSpec.ofChange countingBijectsSpec)

/-- ITS FALSE NEIGHBOUR: 'it returns false'. Refute it at one input. -/
def countingBijectsWrong : ChangeSpec := { name := "countingBijects", fn := fun _ => fun
  | [d1, d2, d3] => { results := [.lit (.bool false)], args := [d1, d2, d3] }
  | _ => none }
def CountingBijectsWrongFalsely : Prop := countingBijectsRow.holds Try.pinned (OpenSpec.ofChange countingBijectsWrong)

/-- 'synthesislaw12.CountingOrders': WHATEVER THE INPUT: true; the input reads as it did. -/
def countingOrdersSpec : ChangeSpec := { name := "countingOrders", fn := fun _ => fun
  | [d1, d2, d3, d4] => { results := [.lit (.bool true)], args := [d1, d2, d3, d4] }
  | _ => none }
def countingOrdersRow : OpenClaim := { program := "ytfkddbccogakoaa", sum := "e976293a78691028d507b47cceefbd53a7f7a11424e90f29cda81fd0144c868a", func := "synthesis/synthesislaw12.CountingOrders", spec := "countingOrders", inPlace := ["internal/bytealg.IndexByteString", "internal/bytealg.IndexString"], unfollowed := true, recurses := true, named := ["internal/bytealg.MaxLen"], loops := true, apart := false }
def CountingOrdersSaid : Prop := countingOrdersRow.holds Try.pinned (OpenSpec.ofChange countingOrdersSpec)

/-- ITS FALSE NEIGHBOUR: 'it returns false'. Refute it at one input. -/
def countingOrdersWrong : ChangeSpec := { name := "countingOrders", fn := fun _ => fun
  | [d1, d2, d3, d4] => { results := [.lit (.bool false)], args := [d1, d2, d3, d4] }
  | _ => none }
def CountingOrdersWrongFalsely : Prop := countingOrdersRow.holds Try.pinned (OpenSpec.ofChange countingOrdersWrong)

/-- 'synthesislaw12.CountingSums': WHATEVER THE INPUT: true; the input reads as it did. -/
def countingSumsSpec : ChangeSpec := { name := "countingSums", fn := fun _ => fun
  | [d1, d2, d3] => { results := [.lit (.bool true)], args := [d1, d2, d3] }
  | _ => none }
def countingSumsRow : OpenClaim := { program := "ytfkddbccogakoaa", sum := "e976293a78691028d507b47cceefbd53a7f7a11424e90f29cda81fd0144c868a", func := "synthesis/synthesislaw12.CountingSums", spec := "countingSums", inPlace := ["internal/bytealg.IndexByteString", "internal/bytealg.IndexString"], unfollowed := true, recurses := true, named := ["internal/bytealg.MaxLen"], loops := true, apart := false }
def CountingSumsSaid : Prop := countingSumsRow.holds Try.pinned (OpenSpec.ofChange countingSumsSpec)

/-- ITS FALSE NEIGHBOUR: 'it returns false'. Refute it at one input. -/
def countingSumsWrong : ChangeSpec := { name := "countingSums", fn := fun _ => fun
  | [d1, d2, d3] => { results := [.lit (.bool false)], args := [d1, d2, d3] }
  | _ => none }
def CountingSumsWrongFalsely : Prop := countingSumsRow.holds Try.pinned (OpenSpec.ofChange countingSumsWrong)

/- THE SECOND FORM. 'bulk': how many values and letters a reading holds, each counted each time it is reached (what is shared counts as often as it is met; a slice's spare places count too). A statement '..UptoSaid' is the law's where the arguments, and the package variables that the reading takes, are together of bulk at most 1048576: NARROWER than '..Said'. Prove '..Said' where nothing that the law and all that it calls make is longer than what came in: it says more and counts as full. Else prove '..UptoSaid'. A law counts once. -/
mutual
def uptoBulk {H : Type} : DataW H → Nat
  | .lit (.string bytes) => bytes.length + 1
  | .lit _ => 1
  | .nil => 1
  | .ptr d => uptoBulk d + 1
  | .slice elems spare => uptoBulkAll elems + uptoBulkAll spare + 1
  | .agg parts => uptoBulkAll parts + 1
  | .iface _ d => uptoBulk d + 1
  | .map entries => uptoBulkEntries entries + 1
  | .held _ => 1
def uptoBulkAll {H : Type} : List (DataW H) → Nat
  | [] => 0
  | d :: r => uptoBulk d + uptoBulkAll r
def uptoBulkEntries {H : Type} : List (Lit × DataW H) → Nat
  | [] => 0
  | x :: r => uptoBulkEntry x + uptoBulkEntries r
def uptoBulkEntry {H : Type} : Lit × DataW H → Nat
  | (.string bytes, d) => bytes.length + uptoBulk d + 1
  | (_, d) => uptoBulk d + 1
 end
def uptoSmall : (H : Type) → List (DataW H) → Bool := fun _ ds => decide (uptoBulkAll ds ≤ 1048576)
def OpenSpec.upto (s : _root_.Go.ChangeSpec) : _root_.Go.OpenSpec := { _root_.Go.OpenSpec.ofChange s with cond := some uptoSmall }

/-- 'synthesislaw12.CountingCounts', WHERE WHAT IT READS IS OF BULK AT MOST 1048576: true; the input reads as it did. -/
def countingCountsUptoRow : OpenClaim := { program := "ytfkddbccogakoaa", sum := "e976293a78691028d507b47cceefbd53a7f7a11424e90f29cda81fd0144c868a", func := "synthesis/synthesislaw12.CountingCounts", spec := "countingCounts", inPlace := ["internal/bytealg.IndexByteString", "internal/bytealg.IndexString"], unfollowed := true, recurses := true, named := ["internal/bytealg.MaxLen"], loops := true, apart := false, narrowed := true }
def CountingCountsUptoSaid : Prop := countingCountsUptoRow.holds Try.pinned (OpenSpec.upto countingCountsSpec)

/-- 'synthesislaw12.CountingLeast', WHERE WHAT IT READS IS OF BULK AT MOST 1048576: true; the input reads as it did. -/
def countingLeastUptoRow : OpenClaim := { program := "ytfkddbccogakoaa", sum := "e976293a78691028d507b47cceefbd53a7f7a11424e90f29cda81fd0144c868a", func := "synthesis/synthesislaw12.CountingLeast", spec := "countingLeast", inPlace := ["internal/bytealg.IndexByteString", "internal/bytealg.IndexString"], unfollowed := true, recurses := true, named := ["internal/bytealg.MaxLen"], loops := true, apart := false, narrowed := true }
def CountingLeastUptoSaid : Prop := countingLeastUptoRow.holds Try.pinned (OpenSpec.upto countingLeastSpec)

/-- 'synthesislaw12.CountingTerms', WHERE WHAT IT READS IS OF BULK AT MOST 1048576: true; the input reads as it did. -/
def countingTermsUptoRow : OpenClaim := { program := "ytfkddbccogakoaa", sum := "e976293a78691028d507b47cceefbd53a7f7a11424e90f29cda81fd0144c868a", func := "synthesis/synthesislaw12.CountingTerms", spec := "countingTerms", inPlace := ["internal/bytealg.IndexByteString", "internal/bytealg.IndexString"], unfollowed := true, recurses := true, named := ["internal/bytealg.MaxLen"], loops := true, apart := false, narrowed := true }
def CountingTermsUptoSaid : Prop := countingTermsUptoRow.holds Try.pinned (OpenSpec.upto countingTermsSpec)

/-- 'synthesislaw12.CountingIndexes', WHERE WHAT IT READS IS OF BULK AT MOST 1048576: true; the input reads as it did. -/
def countingIndexesUptoRow : OpenClaim := { program := "ytfkddbccogakoaa", sum := "e976293a78691028d507b47cceefbd53a7f7a11424e90f29cda81fd0144c868a", func := "synthesis/synthesislaw12.CountingIndexes", spec := "countingIndexes", inPlace := ["internal/bytealg.IndexByteString", "internal/bytealg.IndexString"], unfollowed := true, recurses := true, named := ["internal/bytealg.MaxLen"], loops := true, apart := false, narrowed := true }
def CountingIndexesUptoSaid : Prop := countingIndexesUptoRow.holds Try.pinned (OpenSpec.upto countingIndexesSpec)

/-- 'synthesislaw12.CountingBijects', WHERE WHAT IT READS IS OF BULK AT MOST 1048576: true; the input reads as it did. -/
def countingBijectsUptoRow : OpenClaim := { program := "ytfkddbccogakoaa", sum := "e976293a78691028d507b47cceefbd53a7f7a11424e90f29cda81fd0144c868a", func := "synthesis/synthesislaw12.CountingBijects", spec := "countingBijects", inPlace := ["internal/bytealg.IndexByteString", "internal/bytealg.IndexString"], unfollowed := true, recurses := true, named := ["internal/bytealg.MaxLen"], loops := true, apart := false, narrowed := true }
def CountingBijectsUptoSaid : Prop := countingBijectsUptoRow.holds Try.pinned (OpenSpec.upto countingBijectsSpec)

/-- 'synthesislaw12.CountingOrders', WHERE WHAT IT READS IS OF BULK AT MOST 1048576: true; the input reads as it did. -/
def countingOrdersUptoRow : OpenClaim := { program := "ytfkddbccogakoaa", sum := "e976293a78691028d507b47cceefbd53a7f7a11424e90f29cda81fd0144c868a", func := "synthesis/synthesislaw12.CountingOrders", spec := "countingOrders", inPlace := ["internal/bytealg.IndexByteString", "internal/bytealg.IndexString"], unfollowed := true, recurses := true, named := ["internal/bytealg.MaxLen"], loops := true, apart := false, narrowed := true }
def CountingOrdersUptoSaid : Prop := countingOrdersUptoRow.holds Try.pinned (OpenSpec.upto countingOrdersSpec)

/-- 'synthesislaw12.CountingSums', WHERE WHAT IT READS IS OF BULK AT MOST 1048576: true; the input reads as it did. -/
def countingSumsUptoRow : OpenClaim := { program := "ytfkddbccogakoaa", sum := "e976293a78691028d507b47cceefbd53a7f7a11424e90f29cda81fd0144c868a", func := "synthesis/synthesislaw12.CountingSums", spec := "countingSums", inPlace := ["internal/bytealg.IndexByteString", "internal/bytealg.IndexString"], unfollowed := true, recurses := true, named := ["internal/bytealg.MaxLen"], loops := true, apart := false, narrowed := true }
def CountingSumsUptoSaid : Prop := countingSumsUptoRow.holds Try.pinned (OpenSpec.upto countingSumsSpec)

end Rows
end Go.Proofs.Ytfkddbccogakoaa
