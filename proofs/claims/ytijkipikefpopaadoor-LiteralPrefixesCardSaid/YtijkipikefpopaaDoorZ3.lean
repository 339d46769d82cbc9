/- Typed programs and what computes them. -/
import Derived.Test.YtijkipikefpopaaDoorZ2
set_option linter.unusedVariables false
set_option linter.unusedSimpArgs false
set_option maxRecDepth 100000
namespace Go.Proofs.YtijkipikefpopaaDoor
open Go Go.RowKit Go.Proofs
attribute [local irreducible] NStep StepA EStep LeSt
def synthesisref02_integer_l1 (a0 : ByteArray) (v7 : (Int) × (Int)) : Option (((Int) × (Int)) ⊕ ((Int) × (Int))) := (Option.bind ((bif (decide (0 < v7.2)) then (Option.bind (synthesisref02_at (a0) (v7.1)) fun v8 => (bif (decide (48 ≤ v8)) then (Option.bind (synthesisref02_at (a0) (v7.1)) fun v9 => (bif (decide (v9 ≤ 57)) then (Option.bind (synthesisref02_at (a0) (v7.1)) fun v10 => (some ((decide ((w64 ((w64 (v7.2 * 10)) + (w64 (wu8 (v10 - 48))))) ≤ 1000000))))) else (some (false)))) else (some (false)))) else (some (false))) : Option ((Bool))) fun (v12 : (Bool)) => (bif v12 then (Option.bind (synthesisref02_at (a0) (v7.1)) fun v13 => (some (.inl ((w64 (v7.1 + 1)), (w64 ((w64 (v7.2 * 10)) + (w64 (wu8 (v13 - 48))))))))) else (some (.inr (v7.1, v7.2)))))
def synthesisref02_PrintAll_l1 (a0 : List Va) (v1 : (Int)) : Option (((Int)) ⊕ (((Unit) ⊕ ((ByteArray) × (Int))))) := (bif (decide (v1 < (List.length a0 : Int))) then (Option.bind (idx a0 v1) fun v2 => (Option.bind (synthesisref01_Check fuel (v2)) fun v3 => (bif (v3 != 0) then (some (.inr (.inr ((⟨#[]⟩ : ByteArray), v3)))) else (some (.inl ((w64 (v1 + 1)))))))) else (some (.inr (.inl ()))))
def synthesisref02_PrintAll (a0 : List Va) : Option ((ByteArray) × (Int)) := (Option.bind (loopN (synthesisref02_PrintAll_l1 a0) fuel (0)) fun (v4 : ((Unit) ⊕ ((ByteArray) × (Int)))) => Sum.elim (fun v5 => (Option.bind (synthesisref02_join fuel (a0)) fun v6 => (some (v6, 0)))) (fun v7 => (some v7)) v4)
def synthesislaw02_LiteralPrefixes_h (a0 : Va) (a1 : Int) : Option ((Bool)) := (Option.bind (synthesislaw02_small fuel (a0) (5)) fun v1 => (bif (!v1) then (Option.bind (synthesislaw02_awake_h ) fun v2 => (some (v2))) else (Option.bind (literal_Print_h (a0)) fun v3 => (Option.bind ((bif (v3.2 != 0) then (some (true)) else (bif (decide (a1 < 0)) then (some (true)) else (some ((decide ((v3.1.size : Int) ≤ a1)))))) : Option ((Bool))) fun (v5 : (Bool)) => (bif v5 then (Option.bind (synthesislaw02_awake_h ) fun v6 => (some (v6))) else (Option.bind (cutS v3.1 0 a1) fun v7 => (Option.bind (literal_Parse (v7)) fun v8 => (Option.bind ((bif (v8.2.2 == 0) then (Option.bind (synthesislaw02_awake_h ) fun v9 => (some (v9))) else (bif (v8.2.2 == 8) then (bif (v8.2.1 == a1) then (Option.bind (synthesislaw02_awake_h ) fun v10 => (some (v10))) else (some (false))) else (some (false)))) : Option ((Bool))) fun (v12 : (Bool)) => (some (v12))))))))))
theorem synthesislaw02_LiteralPrefixes_h_ok (a0 : Va) (a1 : Int) (r : (Bool)) (h : synthesislaw02_LiteralPrefixes_h a0 a1 = some r) : HCall Tryd.prog 9 ([(.fz (eVa (a0))), (fI (a1))] ++ []) [(1, (.glb GV))] [1] (.ret (fB (r))) [(1, (.glb GV))] [1] := by
 unfold synthesislaw02_LiteralPrefixes_h at h
 refine hcx (gi := 0) Tryd.func9 (by kernel_rfl) (by kernel_rfl) (by kernel_rfl) (by kernel_rfl) (by kernel_rfl) (by kernel_rfl) (by kernel_rfl) (by kernel_rfl) ?_
 intro p0 q0 w0
 refine cl 9 h (synthesislaw02_small_ok _ _ _) (by kernel_rfl) fun v1 h => ?_
 refine cd 2 h (by kernel_rfl) (fun h => ?_) fun h => ?_
 ·refine hcl 2 [] [(1, 1)] [(1, 1)] [1] h (synthesislaw02_awake_h_ok) (fun _ => by kernel_rfl) fun v2 h => ?_
  obtain rfl := Option.some.inj h; exact lh 3 ⟨54, [(4, (fB (v2)))], [(0, (.was p0 [1] q0 w0)), (1, (.glb GV))], [0, 1], []⟩ (le_a (by kernel_rfl)) rfl rfl (by kernel_rfl) (by kernel_rfl)
 refine hcl 4 [.one .keep] [(1, 1)] [(1, 1)] [1] h (literal_Print_h_ok _) (fun _ => by kernel_rfl) fun v3 h => ?_
 refine jn1 8 .normal (fun v5 => ⟨54, [(1, (fI (a1))), (5, (fS (v3.1))), (30, (fB (v5)))], [(0, (.was p0 [1] q0 w0)), (1, (.glb GV))], [0, 1], []⟩) h (by kernel_rfl) (fun v5 h => ?_) fun v5 h => ?_
 ·refine gd 4 h (by kernel_rfl) (fun h => ?_) fun h => ?_
  ·cases h; exact lj 10 (by kernel_rfl)
  refine gd 4 h (by kernel_rfl) (fun h => ?_) fun h => ?_
  ·cases h; exact lj 6 (by kernel_rfl)
  cases h; exact lj 6 (by kernel_rfl)
 refine cd 0 h (by kernel_rfl) (fun h => ?_) fun h => ?_
 ·refine hcl 2 [] [(1, 1)] [(1, 1)] [1] h (synthesislaw02_awake_h_ok) (fun _ => by kernel_rfl) fun v6 h => ?_
  obtain rfl := Option.some.inj h; exact lh 3 ⟨54, [(4, (fB (v6)))], [(0, (.was p0 [1] q0 w0)), (1, (.glb GV))], [0, 1], []⟩ (le_a (by kernel_rfl)) rfl rfl (by kernel_rfl) (by kernel_rfl)
 obtain ⟨v7, hv7, h⟩ := Option.bind_eq_some_iff.1 h
 refine nst 5 (s_cutS (t := 9) (x := (.tmp 33)) (lo := none) (hi := (some (.tmp 34))) (d := tt9) (s := v3.1) (l := none) (h := (some a1)) hv7 tt_ok (by kernel_rfl) (by kernel_rfl) (by kernel_rfl) (by kernel_rfl) (by kernel_rfl) (by kernel_rfl)) (by kernel_rfl) ?_
 refine cl 0 h (literal_Parse_ok _) (by kernel_rfl) fun v8 h => ?_
 refine jn1 10 .normal (fun v12 => ⟨54, [(4, (fB (v12)))], [(0, (.was p0 [1] q0 w0)), (1, (.glb GV))], [0, 1], []⟩) h (by kernel_rfl) (fun v12 h => ?_) fun v12 h => ?_
 ·refine gd 4 h (by kernel_rfl) (fun h => ?_) fun h => ?_
  ·refine hcl 9 [] [(1, 1)] [(1, 1)] [1] h (synthesislaw02_awake_h_ok) (fun _ => by kernel_rfl) fun v9 h => ?_
   cases h; exact lj 3 (by kernel_rfl)
  refine gd 3 h (by kernel_rfl) (fun h => ?_) fun h => ?_
  ·refine gd 6 h (by kernel_rfl) (fun h => ?_) fun h => ?_
   ·refine hcl 0 [] [(1, 1)] [(1, 1)] [1] h (synthesislaw02_awake_h_ok) (fun _ => by kernel_rfl) fun v10 h => ?_
    cases h; exact lj 3 (by kernel_rfl)
   cases h; exact lj 4 (by kernel_rfl)
  cases h; exact lj 10 (by kernel_rfl)
 obtain rfl := Option.some.inj h; exact lh 1 ⟨54, [(4, (fB (v12)))], [(0, (.was p0 [1] q0 w0)), (1, (.glb GV))], [0, 1], []⟩ (le_a (by kernel_rfl)) rfl rfl (by kernel_rfl) (by kernel_rfl)

end Go.Proofs.YtijkipikefpopaaDoor
