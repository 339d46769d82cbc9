/- Typed programs and what computes them. -/
import Derived.Test.YtfhmljjkhjifeaaGreatDoorZ4
set_option linter.unusedVariables false
set_option linter.unusedSimpArgs false
set_option maxRecDepth 100000
namespace Go.Proofs.YtfhmljjkhjifeaaGreatDoor
open Go Go.RowKit Go.Proofs
set_option maxHeartbeats 2000000
attribute [local irreducible] NStep StepA EStep LeSt
def synthesisref11_all_l1 (a0 : Ru) (a1 : List Bool) (v1 : (Int)) : Option (((Int)) ⊕ (((Unit) ⊕ (Bool)))) := (bif (decide (v1 < (List.length a0.args : Int))) then (Option.bind (idx a0.args v1) fun v2 => (Option.bind (idx a1 v2) fun v3 => (bif (!v3) then (some (.inr (.inr false))) else (some (.inl ((w64 (v1 + 1)))))))) else (some (.inr (.inl ()))))
def synthesisref11_all (a0 : Ru) (a1 : List Bool) : Option (Bool) := (Option.bind (loopN (synthesisref11_all_l1 a0 a1) fuel (0)) fun (v4 : ((Unit) ⊕ (Bool))) => Sum.elim (fun v5 => (some true)) (fun v6 => (some v6)) v4)
def synthesisref11_productive_l1 (a0 : La) (v3 : (Int) × (List Bool)) : Option (((Int) × (List Bool)) ⊕ ((List Bool))) := (bif (decide (v3.1 < (List.length a0.rules : Int))) then (Option.bind ((Option.bind (idx a0.rules v3.1) fun v4 => (Option.bind (synthesisref11_all (v4) (v3.2)) fun v5 => (bif v5 then (Option.bind (idx a0.rules v3.1) fun v6 => (Option.bind (idx v3.2 v6.symbol) fun v7 => (some ((List.set v3.2 (Int.toNat v6.symbol) true))))) else (some (v3.2))))) : Option ((List Bool))) fun (v9 : (List Bool)) => (some (.inl ((w64 (v3.1 + 1)), v9)))) else (some (.inr (v3.2))))
def synthesisref11_productive_l2 (a0 : La) (v2 : (Int) × (List Bool)) : Option (((Int) × (List Bool)) ⊕ ((List Bool))) := (bif (decide (v2.1 < (List.length a0.symbols : Int))) then (Option.bind (loopN (synthesisref11_productive_l1 a0) fuel (0, v2.2)) fun (v11 : (List Bool)) => (some (.inl ((w64 (v2.1 + 1)), v11)))) else (some (.inr (v2.2))))
def synthesisref11_productive (a0 : La) : Option (List Bool) := (Option.bind (mkL 1 false (List.length a0.symbols : Int)) fun v1 => (Option.bind (loopN (synthesisref11_productive_l2 a0) fuel (0, v1)) fun (v13 : (List Bool)) => (some v13)))
end Go.Proofs.YtfhmljjkhjifeaaGreatDoor
