/- Typed programs and what computes them. -/
import Derived.Test.YtfhmljjkhjifeaaGreatDoorZ5
set_option linter.unusedVariables false
set_option linter.unusedSimpArgs false
set_option maxRecDepth 100000
namespace Go.Proofs.YtfhmljjkhjifeaaGreatDoor
open Go Go.RowKit Go.Proofs
set_option maxHeartbeats 2000000
attribute [local irreducible] NStep StepA EStep LeSt
def synthesislaw11_GrammarProductive_h_m0 (p0 : Env) (q0 : Nat → Prop) (w0 : World) (a0 : La) : List (Nat × AObj) := [(0, (.was p0 [1] q0 w0)), (1, (.glb GV)), (2, (.box 26 [(fS (a0.name)), (.fz ((eL 1 eI) (a0.inputs))), (.fz ((eL 2 eSy) (a0.symbols))), (.fz ((eL 9 eRu) (a0.rules)))]))]
def synthesislaw11_GrammarProductive_h_l1 (a0 : La) (v6 : List Bool) (v8 : (Bool) × (Int)) (v10 : (Bool) × (Int)) : Option (((Bool) × (Int)) ⊕ ((Bool))) := (Option.bind (idx a0.rules v8.2) fun v11 => (bif (decide (v10.2 < (List.length v11.args : Int))) then (Option.bind ((bif v10.1 then (Option.bind (idx a0.rules v8.2) fun v12 => (Option.bind (idx v12.args v10.2) fun v13 => (Option.bind (idx v6 v13) fun v14 => (some (v14))))) else (some (false))) : Option ((Bool))) fun (v16 : (Bool)) => (some (.inl (v16, (w64 (v10.2 + 1)))))) else (some (.inr (v10.1)))))
def synthesislaw11_GrammarProductive_h_l2 (a0 : La) (v6 : List Bool) (v7 : (Int)) (v8 : (Bool) × (Int)) : Option (((Bool) × (Int)) ⊕ ((Bool))) := (bif (decide (v8.2 < (List.length a0.rules : Int))) then (Option.bind (idx a0.rules v8.2) fun v9 => (Option.bind (loopN (synthesislaw11_GrammarProductive_h_l1 a0 v6 v8) fuel ((v9.symbol == v7), 0)) fun (v18 : (Bool)) => (Option.bind ((bif v8.1 then (some (true)) else (some (v18))) : Option ((Bool))) fun (v20 : (Bool)) => (some (.inl (v20, (w64 (v8.2 + 1)))))))) else (some (.inr (v8.1))))
def synthesislaw11_GrammarProductive_h_l3 (a0 : La) (v6 : List Bool) (v7 : (Int)) : Option (((Int)) ⊕ (((Unit) ⊕ (Unit)))) := (bif (decide (v7 < (List.length v6 : Int))) then (Option.bind (loopN (synthesislaw11_GrammarProductive_h_l2 a0 v6 v7) fuel (false, 0)) fun (v22 : (Bool)) => (Option.bind ((Option.bind (idx v6 v7) fun v23 => (bif v23 then (bif (!v22) then (some (true)) else (bif v22 then (Option.bind (idx v6 v7) fun v24 => (some ((!v24)))) else (some (false)))) else (bif v22 then (Option.bind (idx v6 v7) fun v25 => (some ((!v25)))) else (some (false))))) : Option ((Bool))) fun (v27 : (Bool)) => (bif v27 then (some (.inr (.inr ()))) else (some (.inl ((w64 (v7 + 1)))))))) else (some (.inr (.inl ()))))
def synthesislaw11_GrammarProductive_h (a0 : La) : Option ((Bool)) := (Option.bind ((Option.bind (synthesislaw11_small (a0)) fun v1 => (bif (!v1) then (some (true)) else (Option.bind (synthesisref11_Check (a0)) fun v2 => (some ((v2 != 0)))))) : Option ((Bool))) fun (v4 : (Bool)) => (bif v4 then (Option.bind (synthesislaw11_awake_h3 ) fun v5 => (some (v5))) else (Option.bind (grammar_Productive (a0)) fun v6 => (bif ((List.length v6 : Int) != (List.length a0.symbols : Int)) then (some (false)) else (Option.bind (loopN (synthesislaw11_GrammarProductive_h_l3 a0 v6) fuel (0)) fun (v28 : ((Unit) ⊕ (Unit))) => Sum.elim (fun v29 => (Option.bind (synthesislaw11_awake_h3 ) fun v30 => (some (v30)))) (fun v31 => (some (false))) v28)))))
theorem synthesislaw11_GrammarProductive_h_ok (a0 : La) (r : (Bool)) (h : synthesislaw11_GrammarProductive_h a0 = some r) : HCall Tryz.prog 9 ([(.fz (eLa (a0)))] ++ []) [(1, (.glb GV))] [1] (.ret (fB (r))) [(1, (.glb GV))] [1] := by
 unfold synthesislaw11_GrammarProductive_h at h
 refine hcx (gi := 0) Tryz.func9 (by kernel_rfl) (by kernel_rfl) (by kernel_rfl) (by kernel_rfl) (by kernel_rfl) (by kernel_rfl) (by kernel_rfl) (by kernel_rfl) ?_
 intro p0 q0 w0
 refine jn1 7 .normal (fun v4 => ⟨96, [(1, (.ref 2 0 0)), (16, (fB (v4)))], (synthesislaw11_GrammarProductive_h_m0 p0 q0 w0 a0), [2, 0, 1], []⟩) h (by kernel_rfl) (fun v4 h => ?_) fun v4 h => ?_
 ·refine cl 2 h (synthesislaw11_small_ok _) (by kernel_rfl) fun v1 h => ?_
  refine gd 2 h (by kernel_rfl) (fun h => ?_) fun h => ?_
  ·cases h; exact lj 5 (by kernel_rfl)
  refine cl 1 h (synthesisref11_Check_ok _) (by kernel_rfl) fun v2 h => ?_
  cases h; exact lj 3 (by kernel_rfl)
 refine cd 0 h (by kernel_rfl) (fun h => ?_) fun h => ?_
 ·refine hcl 2 [] [(1, 1)] [(1, 1)] [1] h (synthesislaw11_awake_h3_ok) (fun _ => by kernel_rfl) fun v5 h => ?_
  obtain rfl := Option.some.inj h; exact lh 3 ⟨96, [(2, (fB (v5)))], [(0, (.was p0 [1] q0 w0)), (1, (.glb GV))], [0, 1], []⟩ (le_a (by kernel_rfl)) rfl rfl (by kernel_rfl) (by kernel_rfl)
 refine cl 4 h (grammar_Productive_ok _) (by kernel_rfl) fun v6 h => ?_
 refine cd 12 h (by kernel_rfl) (fun h => ?_) fun h => ?_
 ·obtain rfl := Option.some.inj h; exact lh 5 ⟨96, [(2, (fB (false)))], [(0, (.was p0 [1] q0 w0)), (1, (.glb GV))], [0, 1], []⟩ (le_a (by kernel_rfl)) rfl rfl (by kernel_rfl) (by kernel_rfl)
 refine lpx 7 (fun v7 => ⟨96, [(1, (.ref 2 0 0)), (3, (.fz ((eL 1 eB) (v6)))), (4, (fI (v7)))], (synthesislaw11_GrammarProductive_h_m0 p0 q0 w0 a0), [2, 0, 1], []⟩) (fun v28 e st => Sum.elim (fun p => e = .exit 0 ∧ LeSt st ⟨96, [], [(0, (.was p0 [1] q0 w0)), (1, (.glb GV))], [0, 1], []⟩) (fun p => e = .ret ∧ LeSt st ⟨96, [(2, (fB (false)))], [(0, (.was p0 [1] q0 w0)), (1, (.glb GV))], [0, 1], []⟩) v28) h (by kernel_rfl) (le_a (by kernel_rfl)) (fun v7 r h => ?_) fun v28 h e st' hq => ?_
 ·unfold synthesislaw11_GrammarProductive_h_l3 at h
  refine cd 8 h (by kernel_rfl) (fun h => ?_) fun h => ?_
  ·refine lp1 13 (fun v8 => ⟨96, [(1, (.ref 2 0 0)), (3, (.fz ((eL 1 eB) (v6)))), (4, (fI (v7))), (5, (fB (v8.1))), (6, (fI (v8.2)))], (synthesislaw11_GrammarProductive_h_m0 p0 q0 w0 a0), [2, 0, 1], []⟩) (.exit 2) (fun v22 => ⟨96, [(1, (.ref 2 0 0)), (3, (.fz ((eL 1 eB) (v6)))), (4, (fI (v7))), (5, (fB (v22)))], (synthesislaw11_GrammarProductive_h_m0 p0 q0 w0 a0), [2, 0, 1], []⟩) h (by kernel_rfl) (by kernel_rfl) (fun v8 r h => ?_) fun v22 h => ?_
   ·unfold synthesislaw11_GrammarProductive_h_l2 at h
    refine cd 9 h (by kernel_rfl) (fun h => ?_) fun h => ?_
    ·refine ix nRu 8 h (by kernel_rfl) fun v9 h => ?_
     refine lp1 12 (fun v10 => ⟨96, [(1, (.ref 2 0 0)), (3, (.fz ((eL 1 eB) (v6)))), (4, (fI (v7))), (5, (fB (v8.1))), (6, (fI (v8.2))), (7, (fB (v10.1))), (8, (fI (v10.2)))], (synthesislaw11_GrammarProductive_h_m0 p0 q0 w0 a0), [2, 0, 1], []⟩) (.exit 4) (fun v18 => ⟨96, [(1, (.ref 2 0 0)), (3, (.fz ((eL 1 eB) (v6)))), (4, (fI (v7))), (5, (fB (v8.1))), (6, (fI (v8.2))), (7, (fB (v18)))], (synthesislaw11_GrammarProductive_h_m0 p0 q0 w0 a0), [2, 0, 1], []⟩) h (by kernel_rfl) (by kernel_rfl) (fun v10 r h => ?_) fun v18 h => ?_
     ·unfold synthesislaw11_GrammarProductive_h_l1 at h
      refine ix nRu 7 h (by kernel_rfl) fun v11 h => ?_
      refine cd 5 h (by kernel_rfl) (fun h => ?_) fun h => ?_
      ·refine jn1 3 .normal (fun v16 => ⟨96, [(1, (.ref 2 0 0)), (3, (.fz ((eL 1 eB) (v6)))), (4, (fI (v7))), (5, (fB (v8.1))), (6, (fI (v8.2))), (7, (fB (v16))), (8, (fI (v10.2)))], (synthesislaw11_GrammarProductive_h_m0 p0 q0 w0 a0), [2, 0, 1], []⟩) h (by kernel_rfl) (fun v16 h => ?_) fun v16 h => ?_
       ·refine gd 3 h (by kernel_rfl) (fun h => ?_) fun h => ?_
        ·refine ix nRu 4 h (by kernel_rfl) fun v12 h => ?_
         refine ix nI 3 h (by kernel_rfl) fun v13 h => ?_
         refine ix nB 1 h (by kernel_rfl) fun v14 h => ?_
         cases h; exact lj 4 (by kernel_rfl)
        cases h; exact lj 15 (by kernel_rfl)
       cases h; exact lj 5 (by kernel_rfl)
      cases h; exact lo 1 (by kernel_rfl)
     refine jn1 0 .normal (fun v20 => ⟨96, [(1, (.ref 2 0 0)), (3, (.fz ((eL 1 eB) (v6)))), (4, (fI (v7))), (5, (fB (v20))), (6, (fI (v8.2)))], (synthesislaw11_GrammarProductive_h_m0 p0 q0 w0 a0), [2, 0, 1], []⟩) h (by kernel_rfl) (fun v20 h => ?_) fun v20 h => ?_
     ·refine gd 3 h (by kernel_rfl) (fun h => ?_) fun h => ?_
      ·cases h; exact lj 4 (by kernel_rfl)
      cases h; exact lj 4 (by kernel_rfl)
     cases h; exact lj 5 (by kernel_rfl)
    cases h; exact lo 1 (by kernel_rfl)
   refine jn1 1 .normal (fun v27 => ⟨96, [(1, (.ref 2 0 0)), (3, (.fz ((eL 1 eB) (v6)))), (4, (fI (v7))), (94, (fB (v27)))], (synthesislaw11_GrammarProductive_h_m0 p0 q0 w0 a0), [2, 0, 1], []⟩) h (by kernel_rfl) (fun v27 h => ?_) fun v27 h => ?_
   ·refine ix nB 3 h (by kernel_rfl) fun v23 h => ?_
    refine gd 2 h (by kernel_rfl) (fun h => ?_) fun h => ?_
    ·refine gd 4 h (by kernel_rfl) (fun h => ?_) fun h => ?_
     ·cases h; exact lj 10 (by kernel_rfl)
     refine gd 2 h (by kernel_rfl) (fun h => ?_) fun h => ?_
     ·refine ix nB 2 h (by kernel_rfl) fun v24 h => ?_
      cases h; exact lj 5 (by kernel_rfl)
     cases h; exact lj 8 (by kernel_rfl)
    refine gd 6 h (by kernel_rfl) (fun h => ?_) fun h => ?_
    ·refine ix nB 2 h (by kernel_rfl) fun v25 h => ?_
     cases h; exact lj 5 (by kernel_rfl)
    cases h; exact lj 8 (by kernel_rfl)
   refine cd 0 h (by kernel_rfl) (fun h => ?_) fun h => ?_
   ·cases h; exact lo 5 (by kernel_rfl)
   cases h; exact lj 6 (by kernel_rfl)
  cases h; exact lo 1 (by kernel_rfl)
 rcases v28 with v29 | v31
 ·try simp only [Sum.elim_inl, Sum.elim_inr] at h
  obtain ⟨rfl, hle⟩ := hq
  refine ⟨_, hle, ?_⟩
  refine hcl 2 [] [(1, 1)] [(1, 1)] [1] h (synthesislaw11_awake_h3_ok) (fun _ => by kernel_rfl) fun v30 h => ?_
  obtain rfl := Option.some.inj h; exact lh 3 ⟨96, [(2, (fB (v30)))], [(0, (.was p0 [1] q0 w0)), (1, (.glb GV))], [0, 1], []⟩ (le_a (by kernel_rfl)) rfl rfl (by kernel_rfl) (by kernel_rfl)
 ·try simp only [Sum.elim_inl, Sum.elim_inr] at h
  obtain ⟨rfl, hle⟩ := hq
  refine ⟨_, hle, ?_⟩
  obtain rfl := Option.some.inj h; exact lh 0 ⟨96, [(2, (fB (false)))], [(0, (.was p0 [1] q0 w0)), (1, (.glb GV))], [0, 1], []⟩ (le_a (by kernel_rfl)) rfl rfl (by kernel_rfl) (by kernel_rfl)

end Go.Proofs.YtfhmljjkhjifeaaGreatDoor
