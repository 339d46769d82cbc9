/- Typed programs and what computes them. -/
import Derived.Test.YtijkipikefpopaaDoorZ2
set_option linter.unusedVariables false
set_option linter.unusedSimpArgs false
set_option maxRecDepth 100000
namespace Go.Proofs.YtijkipikefpopaaDoor
open Go Go.RowKit Go.Proofs
attribute [local irreducible] NStep StepA EStep LeSt
def synthesisref02_integer_l1 (a0 : ByteArray) (v7 : (Int) × (Int)) : Option (((Int) × (Int)) ⊕ ((Int) × (Int))) := (Option.bind ((bif (decide (0 < v7.2)) then (Option.bind (synthesisref02_at (a0) (v7.1)) fun v8 => (bif (decide (48 ≤ v8)) then (Option.bind (synthesisref02_at (a0) (v7.1)) fun v9 => (bif (decide (v9 ≤ 57)) then (Option.bind (synthesisref02_at (a0) (v7.1)) fun v10 => (some ((decide ((w64 ((w64 (v7.2 * 10)) + (w64 (wu8 (v10 - 48))))) ≤ 1000000))))) else (some (false)))) else (some (false)))) else (some (false))) : Option ((Bool))) fun (v12 : (Bool)) => (bif v12 then (Option.bind (synthesisref02_at (a0) (v7.1)) fun v13 => (some (.inl ((w64 (v7.1 + 1)), (w64 ((w64 (v7.2 * 10)) + (w64 (wu8 (v13 - 48))))))))) else (some (.inr (v7.1, v7.2)))))
def synthesislaw02_LiteralFaults_h (a0 : ByteArray) : Option ((Bool)) := (bif (decide (1500 < (a0.size : Int))) then (Option.bind (synthesislaw02_awake_h ) fun v1 => (some (v1))) else (Option.bind (literal_Parse (a0)) fun v2 => (bif (v2.2.2 == 0) then (Option.bind ((bif (v2.2.1 == 0) then (Option.bind (synthesislaw02_awake_h ) fun v3 => (some (v3))) else (some (false))) : Option ((Bool))) fun (v5 : (Bool)) => (some (v5))) else (Option.bind ((bif (decide (v2.2.1 < 0)) then (some (true)) else (some ((decide ((a0.size : Int) < v2.2.1))))) : Option ((Bool))) fun (v7 : (Bool)) => (bif v7 then (some (false)) else (Option.bind (cutS a0 0 v2.2.1) fun v8 => (Option.bind (literal_Parse (v8)) fun v9 => (Option.bind ((bif (v9.2.2 != 0) then (some ((v9.2.1 != v2.2.1))) else (some (false))) : Option ((Bool))) fun (v11 : (Bool)) => (bif v11 then (some (false)) else (bif (v2.2.1 == (a0.size : Int)) then (Option.bind (synthesislaw02_awake_h ) fun v12 => (some (v12))) else (Option.bind (cutS a0 0 (w64 (v2.2.1 + 1))) fun v13 => (Option.bind (literal_Parse (v13)) fun v14 => (Option.bind ((bif (v14.2.2 == 8) then (bif (v14.2.1 == v2.2.1) then (Option.bind (synthesislaw02_awake_h ) fun v15 => (some (v15))) else (some (false))) else (some (false))) : Option ((Bool))) fun (v17 : (Bool)) => (some (v17)))))))))))))))
theorem synthesislaw02_LiteralFaults_h_ok (a0 : ByteArray) (r : (Bool)) (h : synthesislaw02_LiteralFaults_h a0 = some r) : HCall Tryd.prog 8 ([(fS (a0))] ++ []) [(1, (.glb GV))] [1] (.ret (fB (r))) [(1, (.glb GV))] [1] := by
 unfold synthesislaw02_LiteralFaults_h at h
 refine hcx (gi := 0) Tryd.func8 (by kernel_rfl) (by kernel_rfl) (by kernel_rfl) (by kernel_rfl) (by kernel_rfl) (by kernel_rfl) (by kernel_rfl) (by kernel_rfl) ?_
 intro p0 q0 w0
 refine cd 11 h (by kernel_rfl) (fun h => ?_) fun h => ?_
 ·refine hcl 2 [] [(1, 1)] [(1, 1)] [1] h (synthesislaw02_awake_h_ok) (fun _ => by kernel_rfl) fun v1 h => ?_
  obtain rfl := Option.some.inj h; exact lh 3 ⟨76, [(2, (fB (v1)))], [(0, (.was p0 [1] q0 w0)), (1, (.glb GV))], [0, 1], []⟩ (le_a (by kernel_rfl)) rfl rfl (by kernel_rfl) (by kernel_rfl)
 refine cl 4 h (literal_Parse_ok _) (by kernel_rfl) fun v2 h => ?_
 refine cd 15 h (by kernel_rfl) (fun h => ?_) fun h => ?_
 ·refine jn1 1 .normal (fun v5 => ⟨76, [(2, (fB (v5)))], [(0, (.was p0 [1] q0 w0)), (1, (.glb GV))], [0, 1], []⟩) h (by kernel_rfl) (fun v5 h => ?_) fun v5 h => ?_
  ·refine gd 4 h (by kernel_rfl) (fun h => ?_) fun h => ?_
   ·refine hcl 0 [] [(1, 1)] [(1, 1)] [1] h (synthesislaw02_awake_h_ok) (fun _ => by kernel_rfl) fun v3 h => ?_
    cases h; exact lj 3 (by kernel_rfl)
   cases h; exact lj 4 (by kernel_rfl)
  obtain rfl := Option.some.inj h; exact lh 1 ⟨76, [(2, (fB (v5)))], [(0, (.was p0 [1] q0 w0)), (1, (.glb GV))], [0, 1], []⟩ (le_a (by kernel_rfl)) rfl rfl (by kernel_rfl) (by kernel_rfl)
 refine jn1 3 .normal (fun v7 => ⟨76, [(0, (fS (a0))), (4, (fI (v2.2.1))), (36, (fB (v7)))], [(0, (.was p0 [1] q0 w0)), (1, (.glb GV))], [0, 1], []⟩) h (by kernel_rfl) (fun v7 h => ?_) fun v7 h => ?_
 ·refine gd 4 h (by kernel_rfl) (fun h => ?_) fun h => ?_
  ·cases h; exact lj 6 (by kernel_rfl)
  cases h; exact lj 6 (by kernel_rfl)
 refine cd 0 h (by kernel_rfl) (fun h => ?_) fun h => ?_
 ·obtain rfl := Option.some.inj h; exact lh 5 ⟨76, [(2, (fB (false)))], [(0, (.was p0 [1] q0 w0)), (1, (.glb GV))], [0, 1], []⟩ (le_a (by kernel_rfl)) rfl rfl (by kernel_rfl) (by kernel_rfl)
 obtain ⟨v8, hv8, h⟩ := Option.bind_eq_some_iff.1 h
 refine nst 6 (s_cutS (t := 9) (x := (.tmp 38)) (lo := none) (hi := (some (.tmp 39))) (d := tt9) (s := a0) (l := none) (h := (some v2.2.1)) hv8 tt_ok (by kernel_rfl) (by kernel_rfl) (by kernel_rfl) (by kernel_rfl) (by kernel_rfl) (by kernel_rfl)) (by kernel_rfl) ?_
 refine cl 0 h (literal_Parse_ok _) (by kernel_rfl) fun v9 h => ?_
 refine jn1 10 .normal (fun v11 => ⟨76, [(0, (fS (a0))), (4, (fI (v2.2.1))), (51, (fB (v11)))], [(0, (.was p0 [1] q0 w0)), (1, (.glb GV))], [0, 1], []⟩) h (by kernel_rfl) (fun v11 h => ?_) fun v11 h => ?_
 ·refine gd 4 h (by kernel_rfl) (fun h => ?_) fun h => ?_
  ·cases h; exact lj 5 (by kernel_rfl)
  cases h; exact lj 5 (by kernel_rfl)
 refine cd 0 h (by kernel_rfl) (fun h => ?_) fun h => ?_
 ·obtain rfl := Option.some.inj h; exact lh 5 ⟨76, [(2, (fB (false)))], [(0, (.was p0 [1] q0 w0)), (1, (.glb GV))], [0, 1], []⟩ (le_a (by kernel_rfl)) rfl rfl (by kernel_rfl) (by kernel_rfl)
 refine cd 9 h (by kernel_rfl) (fun h => ?_) fun h => ?_
 ·refine hcl 2 [] [(1, 1)] [(1, 1)] [1] h (synthesislaw02_awake_h_ok) (fun _ => by kernel_rfl) fun v12 h => ?_
  obtain rfl := Option.some.inj h; exact lh 3 ⟨76, [(2, (fB (v12)))], [(0, (.was p0 [1] q0 w0)), (1, (.glb GV))], [0, 1], []⟩ (le_a (by kernel_rfl)) rfl rfl (by kernel_rfl) (by kernel_rfl)
 obtain ⟨v13, hv13, h⟩ := Option.bind_eq_some_iff.1 h
 refine nst 6 (s_cutS (t := 9) (x := (.tmp 58)) (lo := none) (hi := (some (.tmp 60))) (d := tt9) (s := a0) (l := none) (h := (some (w64 (v2.2.1 + 1)))) hv13 tt_ok (by kernel_rfl) (by kernel_rfl) (by kernel_rfl) (by kernel_rfl) (by kernel_rfl) (by kernel_rfl)) (by kernel_rfl) ?_
 refine cl 0 h (literal_Parse_ok _) (by kernel_rfl) fun v14 h => ?_
 refine jn1 10 .normal (fun v17 => ⟨76, [(2, (fB (v17)))], [(0, (.was p0 [1] q0 w0)), (1, (.glb GV))], [0, 1], []⟩) h (by kernel_rfl) (fun v17 h => ?_) fun v17 h => ?_
 ·refine gd 4 h (by kernel_rfl) (fun h => ?_) fun h => ?_
  ·refine gd 5 h (by kernel_rfl) (fun h => ?_) fun h => ?_
   ·refine hcl 0 [] [(1, 1)] [(1, 1)] [1] h (synthesislaw02_awake_h_ok) (fun _ => by kernel_rfl) fun v15 h => ?_
    cases h; exact lj 3 (by kernel_rfl)
   cases h; exact lj 4 (by kernel_rfl)
  cases h; exact lj 9 (by kernel_rfl)
 obtain rfl := Option.some.inj h; exact lh 1 ⟨76, [(2, (fB (v17)))], [(0, (.was p0 [1] q0 w0)), (1, (.glb GV))], [0, 1], []⟩ (le_a (by kernel_rfl)) rfl rfl (by kernel_rfl) (by kernel_rfl)

end Go.Proofs.YtijkipikefpopaaDoor
