/-
  NARROWER THAN 'FOR EVERY INPUT', by the rows' own cells (each row's printed sentence says how): TermChecks: loops · TermBuilds: loops · TermReturns: loops · CountingCounts: loops · CountingLeast: loops · CountingTerms: loops · CountingIndexes: loops · CountingBijects: loops · CountingOrders: loops · CountingSums: loops.
  DERIVED. THE GIVEN ROWS OF THIS SEAT. 15 by the template 'for every input the law returns true; each argument reads behind the call as it read before'; 0 by the template 'total and deterministic' (their statements: YtaeicmnimjfbaaaTotals.lean).
  GIVEN WITH THE SEED: the statements are not yours to turn. If you find one false, say at which input.
  Laid BY PROGRAM, IN A SANDBOX (cutbox-rows.mjs): the forced cells as the released guide's own fill.sh prints them over the translation 8467451c8025f0af… (all of the seat's roots in one cut). By AI agents, Wed Nov 11 2026. No macro, syntax, notation, axiom, sorry.
-/
import Derived.Test.YtaeicmnimjfbaaaChecked
import GoSem.Claim
import GoSem.ClaimJoined
import GoSem.ClaimMapViews
import Derived.JoinedTies
import Derived.KernelRfl
namespace Go.Proofs.Ytaeicmnimjfbaaa
/- THE CELL 'sum', in the pinned program and in every row, IS THE sha256 OF THE DUMP (.gsa) THAT YtaeicmnimjfbaaaProg.lean LOADS. Nothing in Lean hashes anything: it is a label: what it is worth is what the hold of that sum in a sandbox is worth. -/
noncomputable def Try.pinned : Pinned := { name := "ytaeicmnimjfbaaa", sum := "8467451c8025f0af835e9dfaf0d2acd15590dbf327722fd32fd37838e117900f", checked := Try.checked }
namespace Rows
def none {H : Type} : Left H := { results := [], args := [] }

/-- 'synthesislaw16.LanguagesGets': WHATEVER THE INPUT: true; the input reads as it did. -/
def languagesGetsSpec : ChangeSpec := { name := "languagesGets", fn := fun _ => fun
  | [d] => { results := [.lit (.bool true)], args := [d] }
  | _ => none }
def languagesGetsRow : OpenClaim := { program := "ytaeicmnimjfbaaa", sum := "8467451c8025f0af835e9dfaf0d2acd15590dbf327722fd32fd37838e117900f", func := "synthesis/synthesislaw16.LanguagesGets", spec := "languagesGets", inPlace := ["internal/bytealg.IndexByteString", "internal/abi.NoEscape"], recurses := true, apart := false }
def LanguagesGetsSaid : Prop := languagesGetsRow.holds Try.pinned (OpenSpec.ofChange languagesGetsSpec)

/-- ITS FALSE NEIGHBOUR: 'it returns false'. Refute it at one input. -/
def languagesGetsWrong : ChangeSpec := { name := "languagesGets", fn := fun _ => fun
  | [d] => { results := [.lit (.bool false)], args := [d] }
  | _ => none }
def LanguagesGetsWrongFalsely : Prop := languagesGetsRow.holds Try.pinned (OpenSpec.ofChange languagesGetsWrong)

/-- 'synthesislaw16.LanguagesStrings': WHATEVER THE INPUT: true; the input reads as it did. -/
def languagesStringsSpec : ChangeSpec := { name := "languagesStrings", fn := fun _ => fun
  | [d1, d2] => { results := [.lit (.bool true)], args := [d1, d2] }
  | _ => none }
def languagesStringsRow : OpenClaim := { program := "ytaeicmnimjfbaaa", sum := "8467451c8025f0af835e9dfaf0d2acd15590dbf327722fd32fd37838e117900f", func := "synthesis/synthesislaw16.LanguagesStrings", spec := "languagesStrings", inPlace := ["internal/bytealg.IndexByteString", "internal/abi.NoEscape"], recurses := true, apart := false }
def LanguagesStringsSaid : Prop := languagesStringsRow.holds Try.pinned (OpenSpec.ofChange languagesStringsSpec)

/-- ITS FALSE NEIGHBOUR: 'it returns false'. Refute it at one input. -/
def languagesStringsWrong : ChangeSpec := { name := "languagesStrings", fn := fun _ => fun
  | [d1, d2] => { results := [.lit (.bool false)], args := [d1, d2] }
  | _ => none }
def LanguagesStringsWrongFalsely : Prop := languagesStringsRow.holds Try.pinned (OpenSpec.ofChange languagesStringsWrong)

/-- 'synthesislaw16.LanguagesPatterns': WHATEVER THE INPUT: true; the input reads as it did. -/
def languagesPatternsSpec : ChangeSpec := { name := "languagesPatterns", fn := fun _ => fun
  | [d] => { results := [.lit (.bool true)], args := [d] }
  | _ => none }
def languagesPatternsRow : OpenClaim := { program := "ytaeicmnimjfbaaa", sum := "8467451c8025f0af835e9dfaf0d2acd15590dbf327722fd32fd37838e117900f", func := "synthesis/synthesislaw16.LanguagesPatterns", spec := "languagesPatterns", inPlace := ["internal/bytealg.IndexByteString", "internal/abi.NoEscape"], recurses := true, apart := false }
def LanguagesPatternsSaid : Prop := languagesPatternsRow.holds Try.pinned (OpenSpec.ofChange languagesPatternsSpec)

/-- ITS FALSE NEIGHBOUR: 'it returns false'. Refute it at one input. -/
def languagesPatternsWrong : ChangeSpec := { name := "languagesPatterns", fn := fun _ => fun
  | [d] => { results := [.lit (.bool false)], args := [d] }
  | _ => none }
def LanguagesPatternsWrongFalsely : Prop := languagesPatternsRow.holds Try.pinned (OpenSpec.ofChange languagesPatternsWrong)

/-- 'synthesislaw16.LanguagesLists': WHATEVER THE INPUT: true; the input reads as it did. -/
def languagesListsSpec : ChangeSpec := { name := "languagesLists", fn := fun _ => fun
  | [d] => { results := [.lit (.bool true)], args := [d] }
  | _ => none }
def languagesListsRow : OpenClaim := { program := "ytaeicmnimjfbaaa", sum := "8467451c8025f0af835e9dfaf0d2acd15590dbf327722fd32fd37838e117900f", func := "synthesis/synthesislaw16.LanguagesLists", spec := "languagesLists", inPlace := ["internal/bytealg.IndexByteString", "internal/abi.NoEscape"], recurses := true, apart := false }
def LanguagesListsSaid : Prop := languagesListsRow.holds Try.pinned (OpenSpec.ofChange languagesListsSpec)

/-- ITS FALSE NEIGHBOUR: 'it returns false'. Refute it at one input. -/
def languagesListsWrong : ChangeSpec := { name := "languagesLists", fn := fun _ => fun
  | [d] => { results := [.lit (.bool false)], args := [d] }
  | _ => none }
def LanguagesListsWrongFalsely : Prop := languagesListsRow.holds Try.pinned (OpenSpec.ofChange languagesListsWrong)

/-- 'synthesislaw13.TermChecks': WHATEVER THE INPUT: true; the input reads as it did. -/
def termChecksSpec : ChangeSpec := { name := "termChecks", fn := fun _ => fun
  | [d1, d2, d3] => { results := [.lit (.bool true)], args := [d1, d2, d3] }
  | _ => none }
def termChecksRow : OpenClaim := { program := "ytaeicmnimjfbaaa", sum := "8467451c8025f0af835e9dfaf0d2acd15590dbf327722fd32fd37838e117900f", func := "synthesis/synthesislaw13.TermChecks", spec := "termChecks", inPlace := ["internal/bytealg.IndexByteString", "internal/bytealg.IndexString"], unfollowed := true, recurses := true, named := ["internal/bytealg.MaxLen"], loops := true, apart := false }
def TermChecksSaid : Prop := termChecksRow.holds Try.pinned (OpenSpec.ofChange termChecksSpec)

/-- ITS FALSE NEIGHBOUR: 'it returns false'. Refute it at one input. -/
def termChecksWrong : ChangeSpec := { name := "termChecks", fn := fun _ => fun
  | [d1, d2, d3] => { results := [.lit (.bool false)], args := [d1, d2, d3] }
  | _ => none }
def TermChecksWrongFalsely : Prop := termChecksRow.holds Try.pinned (OpenSpec.ofChange termChecksWrong)

/-- 'synthesislaw13.TermBuilds': WHATEVER THE INPUT: true; the input reads as it did. -/
def termBuildsSpec : ChangeSpec := { name := "termBuilds", fn := fun _ => fun
  | [d1, d2] => { results := [.lit (.bool true)], args := [d1, d2] }
  | _ => none }
def termBuildsRow : OpenClaim := { program := "ytaeicmnimjfbaaa", sum := "8467451c8025f0af835e9dfaf0d2acd15590dbf327722fd32fd37838e117900f", func := "synthesis/synthesislaw13.TermBuilds", spec := "termBuilds", inPlace := ["internal/bytealg.IndexByteString", "internal/bytealg.IndexString"], unfollowed := true, recurses := true, named := ["internal/bytealg.MaxLen"], loops := true, apart := false }
def TermBuildsSaid : Prop := termBuildsRow.holds Try.pinned (OpenSpec.ofChange termBuildsSpec)

/-- ITS FALSE NEIGHBOUR: 'it returns false'. Refute it at one input. -/
def termBuildsWrong : ChangeSpec := { name := "termBuilds", fn := fun _ => fun
  | [d1, d2] => { results := [.lit (.bool false)], args := [d1, d2] }
  | _ => none }
def TermBuildsWrongFalsely : Prop := termBuildsRow.holds Try.pinned (OpenSpec.ofChange termBuildsWrong)

/-- 'synthesislaw13.TermReturns': WHATEVER THE INPUT: true; the input reads as it did. -/
def termReturnsSpec : ChangeSpec := { name := "termReturns", fn := fun _ => fun
  | [d1, d2, d3] => { results := [.lit (.bool true)], args := [d1, d2, d3] }
  | _ => none }
def termReturnsRow : OpenClaim := { program := "ytaeicmnimjfbaaa", sum := "8467451c8025f0af835e9dfaf0d2acd15590dbf327722fd32fd37838e117900f", func := "synthesis/synthesislaw13.TermReturns", spec := "termReturns", inPlace := ["internal/bytealg.IndexByteString", "internal/bytealg.IndexString"], unfollowed := true, recurses := true, named := ["internal/bytealg.MaxLen"], loops := true, apart := false }
def TermReturnsSaid : Prop := termReturnsRow.holds Try.pinned (OpenSpec.ofChange termReturnsSpec)

/-- ITS FALSE NEIGHBOUR: 'it returns false'. Refute it at one input. -/
def termReturnsWrong : ChangeSpec := { name := "termReturns", fn := fun _ => fun
  | [d1, d2, d3] => { results := [.lit (.bool false)], args := [d1, d2, d3] }
  | _ => none }
def TermReturnsWrongFalsely : Prop := termReturnsRow.holds Try.pinned (OpenSpec.ofChange termReturnsWrong)

/-- 'synthesislaw12.CountingCounts': WHATEVER THE INPUT: true; the input reads as it did. -/
def countingCountsSpec : ChangeSpec := { name := "countingCounts", fn := fun _ => fun
  | [d1, d2, d3] => { results := [.lit (.bool true)], args := [d1, d2, d3] }
  | _ => none }
def countingCountsRow : OpenClaim := { program := "ytaeicmnimjfbaaa", sum := "8467451c8025f0af835e9dfaf0d2acd15590dbf327722fd32fd37838e117900f", func := "synthesis/synthesislaw12.CountingCounts", spec := "countingCounts", inPlace := ["internal/bytealg.IndexByteString", "internal/bytealg.IndexString"], unfollowed := true, recurses := true, named := ["internal/bytealg.MaxLen"], loops := true, apart := false }
def CountingCountsSaid : Prop := countingCountsRow.holds Try.pinned (OpenSpec.ofChange countingCountsSpec)

/-- ITS FALSE NEIGHBOUR: 'it returns false'. Refute it at one input. -/
def countingCountsWrong : ChangeSpec := { name := "countingCounts", fn := fun _ => fun
  | [d1, d2, d3] => { results := [.lit (.bool false)], args := [d1, d2, d3] }
  | _ => none }
def CountingCountsWrongFalsely : Prop := countingCountsRow.holds Try.pinned (OpenSpec.ofChange countingCountsWrong)

/-- 'synthesislaw12.CountingLeast': WHATEVER THE INPUT: true; the input reads as it did. -/
def countingLeastSpec : ChangeSpec := { name := "countingLeast", fn := fun _ => fun
  | [d] => { results := [.lit (.bool true)], args := [d] }
  | _ => none }
def countingLeastRow : OpenClaim := { program := "ytaeicmnimjfbaaa", sum := "8467451c8025f0af835e9dfaf0d2acd15590dbf327722fd32fd37838e117900f", func := "synthesis/synthesislaw12.CountingLeast", spec := "countingLeast", inPlace := ["internal/bytealg.IndexByteString", "internal/bytealg.IndexString"], unfollowed := true, recurses := true, named := ["internal/bytealg.MaxLen"], loops := true, apart := false }
def CountingLeastSaid : Prop := countingLeastRow.holds Try.pinned (OpenSpec.ofChange countingLeastSpec)

/-- ITS FALSE NEIGHBOUR: 'it returns false'. Refute it at one input. -/
def countingLeastWrong : ChangeSpec := { name := "countingLeast", fn := fun _ => fun
  | [d] => { results := [.lit (.bool false)], args := [d] }
  | _ => none }
def CountingLeastWrongFalsely : Prop := countingLeastRow.holds Try.pinned (OpenSpec.ofChange countingLeastWrong)

/-- 'synthesislaw12.CountingTerms': WHATEVER THE INPUT: true; the input reads as it did. -/
def countingTermsSpec : ChangeSpec := { name := "countingTerms", fn := fun _ => fun
  | [d1, d2, d3] => { results := [.lit (.bool true)], args := [d1, d2, d3] }
  | _ => none }
def countingTermsRow : OpenClaim := { program := "ytaeicmnimjfbaaa", sum := "8467451c8025f0af835e9dfaf0d2acd15590dbf327722fd32fd37838e117900f", func := "synthesis/synthesislaw12.CountingTerms", spec := "countingTerms", inPlace := ["internal/bytealg.IndexByteString", "internal/bytealg.IndexString"], unfollowed := true, recurses := true, named := ["internal/bytealg.MaxLen"], loops := true, apart := false }
def CountingTermsSaid : Prop := countingTermsRow.holds Try.pinned (OpenSpec.ofChange countingTermsSpec)

/-- ITS FALSE NEIGHBOUR: 'it returns false'. Refute it at one input. -/
def countingTermsWrong : ChangeSpec := { name := "countingTerms", fn := fun _ => fun
  | [d1, d2, d3] => { results := [.lit (.bool false)], args := [d1, d2, d3] }
  | _ => none }
def CountingTermsWrongFalsely : Prop := countingTermsRow.holds Try.pinned (OpenSpec.ofChange countingTermsWrong)

/-- 'synthesislaw12.CountingIndexes': WHATEVER THE INPUT: true; the input reads as it did. -/
def countingIndexesSpec : ChangeSpec := { name := "countingIndexes", fn := fun _ => fun
  | [d1, d2, d3] => { results := [.lit (.bool true)], args := [d1, d2, d3] }
  | _ => none }
def countingIndexesRow : OpenClaim := { program := "ytaeicmnimjfbaaa", sum := "8467451c8025f0af835e9dfaf0d2acd15590dbf327722fd32fd37838e117900f", func := "synthesis/synthesislaw12.CountingIndexes", spec := "countingIndexes", inPlace := ["internal/bytealg.IndexByteString", "internal/bytealg.IndexString"], unfollowed := true, recurses := true, named := ["internal/bytealg.MaxLen"], loops := true, apart := false }
def CountingIndexesSaid : Prop := countingIndexesRow.holds Try.pinned (OpenSpec.ofChange countingIndexesSpec)

/-- ITS FALSE NEIGHBOUR: 'it returns false'. Refute it at one input. -/
def countingIndexesWrong : ChangeSpec := { name := "countingIndexes", fn := fun _ => fun
  | [d1, d2, d3] => { results := [.lit (.bool false)], args := [d1, d2, d3] }
  | _ => none }
def CountingIndexesWrongFalsely : Prop := countingIndexesRow.holds Try.pinned (OpenSpec.ofChange countingIndexesWrong)

/-- 'synthesislaw12.CountingBijects': WHATEVER THE INPUT: true; the input reads as it did. -/
def countingBijectsSpec : ChangeSpec := { name := "countingBijects", fn := fun _ => fun
  | [d1, d2, d3] => { results := [.lit (.bool true)], args := [d1, d2, d3] }
  | _ => none }
def countingBijectsRow : OpenClaim := { program := "ytaeicmnimjfbaaa", sum := "8467451c8025f0af835e9dfaf0d2acd15590dbf327722fd32fd37838e117900f", func := "synthesis/synthesislaw12.CountingBijects", spec := "countingBijects", inPlace := ["internal/bytealg.IndexByteString", "internal/bytealg.IndexString"], unfollowed := true, recurses := true, named := ["internal/bytealg.MaxLen"], loops := true, apart := false }
def CountingBijectsSaid : Prop := countingBijectsRow.holds Try.pinned (OpenSpec.ofChange countingBijectsSpec)

/-- ITS FALSE NEIGHBOUR: 'it returns false'. Refute it at one input. -/
def countingBijectsWrong : ChangeSpec := { name := "countingBijects", fn := fun _ => fun
  | [d1, d2, d3] => { results := [.lit (.bool false)], args := [d1, d2, d3] }
  | _ => none }
def CountingBijectsWrongFalsely : Prop := countingBijectsRow.holds Try.pinned (OpenSpec.ofChange countingBijectsWrong)

/-- 'synthesislaw12.CountingOrders': WHATEVER THE INPUT: true; the input reads as it did. -/
def countingOrdersSpec : ChangeSpec := { name := "countingOrders", fn := fun _ => fun
  | [d1, d2, d3, d4] => { results := [.lit (.bool true)], args := [d1, d2, d3, d4] }
  | _ => none }
def countingOrdersRow : OpenClaim := { program := "ytaeicmnimjfbaaa", sum := "8467451c8025f0af835e9dfaf0d2acd15590dbf327722fd32fd37838e117900f", func := "synthesis/synthesislaw12.CountingOrders", spec := "countingOrders", inPlace := ["internal/bytealg.IndexByteString", "internal/bytealg.IndexString"], unfollowed := true, recurses := true, named := ["internal/bytealg.MaxLen"], loops := true, apart := false }
def CountingOrdersSaid : Prop := countingOrdersRow.holds Try.pinned (OpenSpec.ofChange countingOrdersSpec)

/-- ITS FALSE NEIGHBOUR: 'it returns false'. Refute it at one input. -/
def countingOrdersWrong : ChangeSpec := { name := "countingOrders", fn := fun _ => fun
  | [d1, d2, d3, d4] => { results := [.lit (.bool false)], args := [d1, d2, d3, d4] }
  | _ => none }
def CountingOrdersWrongFalsely : Prop := countingOrdersRow.holds Try.pinned (OpenSpec.ofChange countingOrdersWrong)

/-- 'synthesislaw12.CountingSums': WHATEVER THE INPUT: true; the input reads as it did. -/
def countingSumsSpec : ChangeSpec := { name := "countingSums", fn := fun _ => fun
  | [d1, d2, d3] => { results := [.lit (.bool true)], args := [d1, d2, d3] }
  | _ => none }
def countingSumsRow : OpenClaim := { program := "ytaeicmnimjfbaaa", sum := "8467451c8025f0af835e9dfaf0d2acd15590dbf327722fd32fd37838e117900f", func := "synthesis/synthesislaw12.CountingSums", spec := "countingSums", inPlace := ["internal/bytealg.IndexByteString", "internal/bytealg.IndexString"], unfollowed := true, recurses := true, named := ["internal/bytealg.MaxLen"], loops := true, apart := false }
def CountingSumsSaid : Prop := countingSumsRow.holds Try.pinned (OpenSpec.ofChange countingSumsSpec)

/-- ITS FALSE NEIGHBOUR: 'it returns false'. Refute it at one input. -/
def countingSumsWrong : ChangeSpec := { name := "countingSums", fn := fun _ => fun
  | [d1, d2, d3] => { results := [.lit (.bool false)], args := [d1, d2, d3] }
  | _ => none }
def CountingSumsWrongFalsely : Prop := countingSumsRow.holds Try.pinned (OpenSpec.ofChange countingSumsWrong)

/-- 'synthesislaw16.LanguagesValid': WHATEVER THE INPUT: true; the input reads as it did. -/
def languagesValidSpec : ChangeSpec := { name := "languagesValid", fn := fun _ => fun
  | [d1, d2] => { results := [.lit (.bool true)], args := [d1, d2] }
  | _ => none }
def languagesValidRow : OpenClaim := { program := "ytaeicmnimjfbaaa", sum := "8467451c8025f0af835e9dfaf0d2acd15590dbf327722fd32fd37838e117900f", func := "synthesis/synthesislaw16.LanguagesValid", spec := "languagesValid", inPlace := ["internal/bytealg.IndexByteString", "internal/abi.NoEscape", "internal/bytealg.IndexString"], unfollowed := true, recurses := true, named := ["internal/bytealg.MaxLen"], apart := false }
def LanguagesValidSaid : Prop := languagesValidRow.holds Try.pinned (OpenSpec.ofChange languagesValidSpec)

/-- ITS FALSE NEIGHBOUR: 'it returns false'. Refute it at one input. -/
def languagesValidWrong : ChangeSpec := { name := "languagesValid", fn := fun _ => fun
  | [d1, d2] => { results := [.lit (.bool false)], args := [d1, d2] }
  | _ => none }
def LanguagesValidWrongFalsely : Prop := languagesValidRow.holds Try.pinned (OpenSpec.ofChange languagesValidWrong)

/- THE SECOND FORM. 'bulk': how many values and letters a reading holds, each counted each time it is reached (what is shared counts as often as it is met; a slice's spare places count too). A statement '..UptoSaid' is the law's where the arguments, and the package variables that the reading takes, are together of bulk at most 1048576: NARROWER than '..Said'. Prove '..Said' where nothing that the law and all that it calls make is longer than what came in: it says more and counts as full. Else prove '..UptoSaid'. A law counts once. -/
mutual
def uptoBulk {H : Type} : DataW H → Nat
  | .lit (.string bytes) => bytes.length + 1
  | .lit _ => 1
  | .nil => 1
  | .ptr d => uptoBulk d + 1
  | .slice elems spare => uptoBulkAll elems + uptoBulkAll spare + 1
  | .agg parts => uptoBulkAll parts + 1
  | .iface _ d => uptoBulk d + 1
  | .map entries => uptoBulkEntries entries + 1
  | .held _ => 1
def uptoBulkAll {H : Type} : List (DataW H) → Nat
  | [] => 0
  | d :: r => uptoBulk d + uptoBulkAll r
def uptoBulkEntries {H : Type} : List (Lit × DataW H) → Nat
  | [] => 0
  | x :: r => uptoBulkEntry x + uptoBulkEntries r
def uptoBulkEntry {H : Type} : Lit × DataW H → Nat
  | (.string bytes, d) => bytes.length + uptoBulk d + 1
  | (_, d) => uptoBulk d + 1
 end
def uptoSmall : (H : Type) → List (DataW H) → Bool := fun _ ds => decide (uptoBulkAll ds ≤ 1048576)
def OpenSpec.upto (s : _root_.Go.ChangeSpec) : _root_.Go.OpenSpec := { _root_.Go.OpenSpec.ofChange s with cond := some uptoSmall }

/-- 'synthesislaw16.LanguagesGets', WHERE WHAT IT READS IS OF BULK AT MOST 1048576: true; the input reads as it did. -/
def languagesGetsUptoRow : OpenClaim := { program := "ytaeicmnimjfbaaa", sum := "8467451c8025f0af835e9dfaf0d2acd15590dbf327722fd32fd37838e117900f", func := "synthesis/synthesislaw16.LanguagesGets", spec := "languagesGets", inPlace := ["internal/bytealg.IndexByteString", "internal/abi.NoEscape"], recurses := true, apart := false, narrowed := true }
def LanguagesGetsUptoSaid : Prop := languagesGetsUptoRow.holds Try.pinned (OpenSpec.upto languagesGetsSpec)

/-- 'synthesislaw16.LanguagesStrings', WHERE WHAT IT READS IS OF BULK AT MOST 1048576: true; the input reads as it did. -/
def languagesStringsUptoRow : OpenClaim := { program := "ytaeicmnimjfbaaa", sum := "8467451c8025f0af835e9dfaf0d2acd15590dbf327722fd32fd37838e117900f", func := "synthesis/synthesislaw16.LanguagesStrings", spec := "languagesStrings", inPlace := ["internal/bytealg.IndexByteString", "internal/abi.NoEscape"], recurses := true, apart := false, narrowed := true }
def LanguagesStringsUptoSaid : Prop := languagesStringsUptoRow.holds Try.pinned (OpenSpec.upto languagesStringsSpec)

/-- 'synthesislaw16.LanguagesPatterns', WHERE WHAT IT READS IS OF BULK AT MOST 1048576: true; the input reads as it did. -/
def languagesPatternsUptoRow : OpenClaim := { program := "ytaeicmnimjfbaaa", sum := "8467451c8025f0af835e9dfaf0d2acd15590dbf327722fd32fd37838e117900f", func := "synthesis/synthesislaw16.LanguagesPatterns", spec := "languagesPatterns", inPlace := ["internal/bytealg.IndexByteString", "internal/abi.NoEscape"], recurses := true, apart := false, narrowed := true }
def LanguagesPatternsUptoSaid : Prop := languagesPatternsUptoRow.holds Try.pinned (OpenSpec.upto languagesPatternsSpec)

/-- 'synthesislaw16.LanguagesLists', WHERE WHAT IT READS IS OF BULK AT MOST 1048576: true; the input reads as it did. -/
def languagesListsUptoRow : OpenClaim := { program := "ytaeicmnimjfbaaa", sum := "8467451c8025f0af835e9dfaf0d2acd15590dbf327722fd32fd37838e117900f", func := "synthesis/synthesislaw16.LanguagesLists", spec := "languagesLists", inPlace := ["internal/bytealg.IndexByteString", "internal/abi.NoEscape"], recurses := true, apart := false, narrowed := true }
def LanguagesListsUptoSaid : Prop := languagesListsUptoRow.holds Try.pinned (OpenSpec.upto languagesListsSpec)

/-- 'synthesislaw13.TermChecks', WHERE WHAT IT READS IS OF BULK AT MOST 1048576: true; the input reads as it did. -/
def termChecksUptoRow : OpenClaim := { program := "ytaeicmnimjfbaaa", sum := "8467451c8025f0af835e9dfaf0d2acd15590dbf327722fd32fd37838e117900f", func := "synthesis/synthesislaw13.TermChecks", spec := "termChecks", inPlace := ["internal/bytealg.IndexByteString", "internal/bytealg.IndexString"], unfollowed := true, recurses := true, named := ["internal/bytealg.MaxLen"], loops := true, apart := false, narrowed := true }
def TermChecksUptoSaid : Prop := termChecksUptoRow.holds Try.pinned (OpenSpec.upto termChecksSpec)

/-- 'synthesislaw13.TermBuilds', WHERE WHAT IT READS IS OF BULK AT MOST 1048576: true; the input reads as it did. -/
def termBuildsUptoRow : OpenClaim := { program := "ytaeicmnimjfbaaa", sum := "8467451c8025f0af835e9dfaf0d2acd15590dbf327722fd32fd37838e117900f", func := "synthesis/synthesislaw13.TermBuilds", spec := "termBuilds", inPlace := ["internal/bytealg.IndexByteString", "internal/bytealg.IndexString"], unfollowed := true, recurses := true, named := ["internal/bytealg.MaxLen"], loops := true, apart := false, narrowed := true }
def TermBuildsUptoSaid : Prop := termBuildsUptoRow.holds Try.pinned (OpenSpec.upto termBuildsSpec)

/-- 'synthesislaw13.TermReturns', WHERE WHAT IT READS IS OF BULK AT MOST 1048576: true; the input reads as it did. -/
def termReturnsUptoRow : OpenClaim := { program := "ytaeicmnimjfbaaa", sum := "8467451c8025f0af835e9dfaf0d2acd15590dbf327722fd32fd37838e117900f", func := "synthesis/synthesislaw13.TermReturns", spec := "termReturns", inPlace := ["internal/bytealg.IndexByteString", "internal/bytealg.IndexString"], unfollowed := true, recurses := true, named := ["internal/bytealg.MaxLen"], loops := true, apart := false, narrowed := true }
def TermReturnsUptoSaid : Prop := termReturnsUptoRow.holds Try.pinned (OpenSpec.upto termReturnsSpec)

/-- 'synthesislaw12.CountingCounts', WHERE WHAT IT READS IS OF BULK AT MOST 1048576: true; the input reads as it did. -/
def countingCountsUptoRow : OpenClaim := { program := "ytaeicmnimjfbaaa", sum := "8467451c8025f0af835e9dfaf0d2acd15590dbf327722fd32fd37838e117900f", func := "synthesis/synthesislaw12.CountingCounts", spec := "countingCounts", inPlace := ["internal/bytealg.IndexByteString", "internal/bytealg.IndexString"], unfollowed := true, recurses := true, named := ["internal/bytealg.MaxLen"], loops := true, apart := false, narrowed := true }
def CountingCountsUptoSaid : Prop := countingCountsUptoRow.holds Try.pinned (OpenSpec.upto countingCountsSpec)

/-- 'synthesislaw12.CountingLeast', WHERE WHAT IT READS IS OF BULK AT MOST 1048576: true; the input reads as it did. -/
def countingLeastUptoRow : OpenClaim := { program := "ytaeicmnimjfbaaa", sum := "8467451c8025f0af835e9dfaf0d2acd15590dbf327722fd32fd37838e117900f", func := "synthesis/synthesislaw12.CountingLeast", spec := "countingLeast", inPlace := ["internal/bytealg.IndexByteString", "internal/bytealg.IndexString"], unfollowed := true, recurses := true, named := ["internal/bytealg.MaxLen"], loops := true, apart := false, narrowed := true }
def CountingLeastUptoSaid : Prop := countingLeastUptoRow.holds Try.pinned (OpenSpec.upto countingLeastSpec)

/-- 'synthesislaw12.CountingTerms', WHERE WHAT IT READS IS OF BULK AT MOST 1048576: true; the input reads as it did. -/
def countingTermsUptoRow : OpenClaim := { program := "ytaeicmnimjfbaaa", sum := "8467451c8025f0af835e9dfaf0d2acd15590dbf327722fd32fd37838e117900f", func := "synthesis/synthesislaw12.CountingTerms", spec := "countingTerms", inPlace := ["internal/bytealg.IndexByteString", "internal/bytealg.IndexString"], unfollowed := true, recurses := true, named := ["internal/bytealg.MaxLen"], loops := true, apart := false, narrowed := true }
def CountingTermsUptoSaid : Prop := countingTermsUptoRow.holds Try.pinned (OpenSpec.upto countingTermsSpec)

/-- 'synthesislaw12.CountingIndexes', WHERE WHAT IT READS IS OF BULK AT MOST 1048576: true; the input reads as it did. -/
def countingIndexesUptoRow : OpenClaim := { program := "ytaeicmnimjfbaaa", sum := "8467451c8025f0af835e9dfaf0d2acd15590dbf327722fd32fd37838e117900f", func := "synthesis/synthesislaw12.CountingIndexes", spec := "countingIndexes", inPlace := ["internal/bytealg.IndexByteString", "internal/bytealg.IndexString"], unfollowed := true, recurses := true, named := ["internal/bytealg.MaxLen"], loops := true, apart := false, narrowed := true }
def CountingIndexesUptoSaid : Prop := countingIndexesUptoRow.holds Try.pinned (OpenSpec.upto countingIndexesSpec)

/-- 'synthesislaw12.CountingBijects', WHERE WHAT IT READS IS OF BULK AT MOST 1048576: true; the input reads as it did. -/
def countingBijectsUptoRow : OpenClaim := { program := "ytaeicmnimjfbaaa", sum := "8467451c8025f0af835e9dfaf0d2acd15590dbf327722fd32fd37838e117900f", func := "synthesis/synthesislaw12.CountingBijects", spec := "countingBijects", inPlace := ["internal/bytealg.IndexByteString", "internal/bytealg.IndexString"], unfollowed := true, recurses := true, named := ["internal/bytealg.MaxLen"], loops := true, apart := false, narrowed := true }
def CountingBijectsUptoSaid : Prop := countingBijectsUptoRow.holds Try.pinned (OpenSpec.upto countingBijectsSpec)

/-- 'synthesislaw12.CountingOrders', WHERE WHAT IT READS IS OF BULK AT MOST 1048576: true; the input reads as it did. -/
def countingOrdersUptoRow : OpenClaim := { program := "ytaeicmnimjfbaaa", sum := "8467451c8025f0af835e9dfaf0d2acd15590dbf327722fd32fd37838e117900f", func := "synthesis/synthesislaw12.CountingOrders", spec := "countingOrders", inPlace := ["internal/bytealg.IndexByteString", "internal/bytealg.IndexString"], unfollowed := true, recurses := true, named := ["internal/bytealg.MaxLen"], loops := true, apart := false, narrowed := true }
def CountingOrdersUptoSaid : Prop := countingOrdersUptoRow.holds Try.pinned (OpenSpec.upto countingOrdersSpec)

/-- 'synthesislaw12.CountingSums', WHERE WHAT IT READS IS OF BULK AT MOST 1048576: true; the input reads as it did. -/
def countingSumsUptoRow : OpenClaim := { program := "ytaeicmnimjfbaaa", sum := "8467451c8025f0af835e9dfaf0d2acd15590dbf327722fd32fd37838e117900f", func := "synthesis/synthesislaw12.CountingSums", spec := "countingSums", inPlace := ["internal/bytealg.IndexByteString", "internal/bytealg.IndexString"], unfollowed := true, recurses := true, named := ["internal/bytealg.MaxLen"], loops := true, apart := false, narrowed := true }
def CountingSumsUptoSaid : Prop := countingSumsUptoRow.holds Try.pinned (OpenSpec.upto countingSumsSpec)

/-- 'synthesislaw16.LanguagesValid', WHERE WHAT IT READS IS OF BULK AT MOST 1048576: true; the input reads as it did. -/
def languagesValidUptoRow : OpenClaim := { program := "ytaeicmnimjfbaaa", sum := "8467451c8025f0af835e9dfaf0d2acd15590dbf327722fd32fd37838e117900f", func := "synthesis/synthesislaw16.LanguagesValid", spec := "languagesValid", inPlace := ["internal/bytealg.IndexByteString", "internal/abi.NoEscape", "internal/bytealg.IndexString"], unfollowed := true, recurses := true, named := ["internal/bytealg.MaxLen"], apart := false, narrowed := true }
def LanguagesValidUptoSaid : Prop := languagesValidUptoRow.holds Try.pinned (OpenSpec.upto languagesValidSpec)

end Rows
end Go.Proofs.Ytaeicmnimjfbaaa
