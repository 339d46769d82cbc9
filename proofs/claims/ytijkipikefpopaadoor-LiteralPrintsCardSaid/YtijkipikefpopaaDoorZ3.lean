/- Typed programs and what computes them. -/
import Derived.Test.YtijkipikefpopaaDoorZ2
set_option linter.unusedVariables false
set_option linter.unusedSimpArgs false
set_option maxRecDepth 100000
namespace Go.Proofs.YtijkipikefpopaaDoor
open Go Go.RowKit Go.Proofs
attribute [local irreducible] NStep StepA EStep LeSt
def synthesisref02_PrintAll_l1 (a0 : List Va) (v1 : (Int)) : Option (((Int)) ⊕ (((Unit) ⊕ ((ByteArray) × (Int))))) := (bif (decide (v1 < (List.length a0 : Int))) then (Option.bind (idx a0 v1) fun v2 => (Option.bind (synthesisref01_Check fuel (v2)) fun v3 => (bif (v3 != 0) then (some (.inr (.inr ((⟨#[]⟩ : ByteArray), v3)))) else (some (.inl ((w64 (v1 + 1)))))))) else (some (.inr (.inl ()))))
def synthesisref02_PrintAll (a0 : List Va) : Option ((ByteArray) × (Int)) := (Option.bind (loopN (synthesisref02_PrintAll_l1 a0) fuel (0)) fun (v4 : ((Unit) ⊕ ((ByteArray) × (Int)))) => Sum.elim (fun v5 => (Option.bind (synthesisref02_join fuel (a0)) fun v6 => (some (v6, 0)))) (fun v7 => (some v7)) v4)
end Go.Proofs.YtijkipikefpopaaDoor
