/- Typed programs and what computes them. -/
import Derived.Test.YtfhmljjkhjifeaaGreatDoorZ5
set_option linter.unusedVariables false
set_option linter.unusedSimpArgs false
set_option maxRecDepth 100000
namespace Go.Proofs.YtfhmljjkhjifeaaGreatDoor
open Go Go.RowKit Go.Proofs
set_option maxHeartbeats 2000000
attribute [local irreducible] NStep StepA EStep LeSt
def synthesislaw11_GrammarTrimmed_h_m0 (p0 : Env) (q0 : Nat → Prop) (w0 : World) (a0 : La) (v3 : (La) × (List Int) × (Int)) : List (Nat × AObj) := [(0, (.was p0 [1] q0 w0)), (1, (.glb GV)), (2, (.box 26 [(fS (a0.name)), (.fz ((eL 1 eI) (a0.inputs))), (.fz ((eL 2 eSy) (a0.symbols))), (.fz ((eL 9 eRu) (a0.rules)))])), (3, (.box 26 [(fS (v3.1.name)), (.fz ((eL 1 eI) (v3.1.inputs))), (.fz ((eL 2 eSy) (v3.1.symbols))), (.fz ((eL 9 eRu) (v3.1.rules)))]))]
def synthesislaw11_GrammarTrimmed_h_l1 (a0 : La) (v3 : (La) × (List Int) × (Int)) (v20 : (Int)) : Option (((Int)) ⊕ (((Unit) ⊕ (Unit)))) := (bif (decide (v20 < (List.length v3.2.1 : Int))) then (Option.bind ((Option.bind (idx v3.2.1 v20) fun v21 => (bif (decide (v21 < 0)) then (some (true)) else (Option.bind (idx v3.2.1 v20) fun v22 => (bif (decide ((List.length a0.rules : Int) ≤ v22)) then (some (true)) else (bif (decide (0 < v20)) then (Option.bind (idx v3.2.1 v20) fun v23 => (Option.bind (idx v3.2.1 (w64 (v20 - 1))) fun v24 => (some ((decide (v23 ≤ v24)))))) else (some (false))))))) : Option ((Bool))) fun (v26 : (Bool)) => (bif v26 then (some (.inr (.inr ()))) else (Option.bind (idx v3.1.rules v20) fun v27 => (Option.bind (idx v3.2.1 v20) fun v28 => (Option.bind (idx a0.rules v28) fun v29 => (Option.bind ((bif (v27.kind != v29.kind) then (some (true)) else (bif (v27.input != v29.input) then (some (true)) else (bif (!(v27.op.toList == v29.op.toList)) then (some (true)) else (bif ((List.length v27.args : Int) != (List.length v29.args : Int)) then (some (true)) else (Option.bind (idx v3.1.symbols v27.symbol) fun v30 => (Option.bind (idx a0.symbols v29.symbol) fun v31 => (some ((!((v30.name.toList == v31.name.toList) && ((v30.type == v31.type) && true))))))))))) : Option ((Bool))) fun (v33 : (Bool)) => (bif v33 then (some (.inr (.inr ()))) else (some (.inl ((w64 (v20 + 1)))))))))))) else (some (.inr (.inl ()))))
def synthesislaw11_GrammarTrimmed_h_l2 (v7 : List Bool) (v8 : List Bool) (v13 : (Int)) : Option (((Int)) ⊕ (((Unit) ⊕ (Unit)))) := (bif (decide (v13 < (List.length v7 : Int))) then (Option.bind ((Option.bind (idx v7 v13) fun v14 => (bif (!v14) then (some (true)) else (Option.bind (idx v8 v13) fun v15 => (some ((!v15)))))) : Option ((Bool))) fun (v17 : (Bool)) => (bif v17 then (some (.inr (.inr ()))) else (some (.inl ((w64 (v13 + 1))))))) else (some (.inr (.inl ()))))
def synthesislaw11_GrammarTrimmed_h (a0 : La) : Option ((Bool)) := (Option.bind (synthesislaw11_small (a0)) fun v1 => (bif (!v1) then (Option.bind (synthesislaw11_awake_h3 ) fun v2 => (some (v2))) else (Option.bind (grammar_Trim (a0)) fun v3 => (bif (v3.2.2 != 0) then (Option.bind ((bif ((List.length v3.1.symbols : Int) == 0) then (bif ((List.length v3.2.1 : Int) == 0) then (Option.bind (synthesislaw11_awake_h3 ) fun v4 => (some (v4))) else (some (false))) else (some (false))) : Option ((Bool))) fun (v6 : (Bool)) => (some (v6))) else (Option.bind (grammar_Productive (v3.1)) fun v7 => (Option.bind (grammar_Reachable (v3.1)) fun v8 => (Option.bind ((Option.bind (synthesisref11_Check (v3.1)) fun v9 => (bif (v9 != 0) then (some (true)) else (Option.bind (grammar_Check (v3.1)) fun v10 => (bif (v10 != 0) then (some (true)) else (bif ((List.length v7 : Int) != (List.length v3.1.symbols : Int)) then (some (true)) else (bif ((List.length v8 : Int) != (List.length v3.1.symbols : Int)) then (some (true)) else (some (((List.length v3.2.1 : Int) != (List.length v3.1.rules : Int)))))))))) : Option ((Bool))) fun (v12 : (Bool)) => (bif v12 then (some (false)) else (Option.bind (loopN (synthesislaw11_GrammarTrimmed_h_l2 v7 v8) fuel (0)) fun (v18 : ((Unit) ⊕ (Unit))) => Sum.elim (fun v19 => (Option.bind (loopN (synthesislaw11_GrammarTrimmed_h_l1 a0 v3) fuel (0)) fun (v34 : ((Unit) ⊕ (Unit))) => Sum.elim (fun v35 => (Option.bind (grammar_Trim (v3.1)) fun v36 => (Option.bind ((bif (v36.2.2 == 0) then (Option.bind (grammar_Same (v36.1) (v3.1)) fun v37 => (bif v37 then (Option.bind (synthesislaw11_awake_h3 ) fun v38 => (some (v38))) else (some (false)))) else (some (false))) : Option ((Bool))) fun (v40 : (Bool)) => (some (v40))))) (fun v41 => (some (false))) v34)) (fun v42 => (some (false))) v18)))))))))
theorem synthesislaw11_GrammarTrimmed_h_ok (a0 : La) (r : (Bool)) (h : synthesislaw11_GrammarTrimmed_h a0 = some r) : HCall Tryz.prog 8 ([(.fz (eLa (a0)))] ++ []) [(1, (.glb GV))] [1] (.ret (fB (r))) [(1, (.glb GV))] [1] := by
 unfold synthesislaw11_GrammarTrimmed_h at h
 refine hcx (gi := 0) Tryz.func8 (by kernel_rfl) (by kernel_rfl) (by kernel_rfl) (by kernel_rfl) (by kernel_rfl) (by kernel_rfl) (by kernel_rfl) (by kernel_rfl) ?_
 intro p0 q0 w0
 refine cl 9 h (synthesislaw11_small_ok _) (by kernel_rfl) fun v1 h => ?_
 refine cd 2 h (by kernel_rfl) (fun h => ?_) fun h => ?_
 ·refine hcl 2 [] [(1, 1)] [(1, 1)] [1] h (synthesislaw11_awake_h3_ok) (fun _ => by kernel_rfl) fun v2 h => ?_
  obtain rfl := Option.some.inj h; exact lh 3 ⟨202, [(2, (fB (v2)))], [(0, (.was p0 [1] q0 w0)), (1, (.glb GV))], [0, 1], []⟩ (le_a (by kernel_rfl)) rfl rfl (by kernel_rfl) (by kernel_rfl)
 refine cl 4 h (grammar_Trim_ok _) (by kernel_rfl) fun v3 h => ?_
 refine cd 15 h (by kernel_rfl) (fun h => ?_) fun h => ?_
 ·refine jn1 1 .normal (fun v6 => ⟨202, [(2, (fB (v6)))], [(0, (.was p0 [1] q0 w0)), (1, (.glb GV))], [0, 1], []⟩) h (by kernel_rfl) (fun v6 h => ?_) fun v6 h => ?_
  ·refine gd 6 h (by kernel_rfl) (fun h => ?_) fun h => ?_
   ·refine gd 5 h (by kernel_rfl) (fun h => ?_) fun h => ?_
    ·refine hcl 0 [] [(1, 1)] [(1, 1)] [1] h (synthesislaw11_awake_h3_ok) (fun _ => by kernel_rfl) fun v4 h => ?_
     cases h; exact lj 3 (by kernel_rfl)
    cases h; exact lj 4 (by kernel_rfl)
   cases h; exact lj 9 (by kernel_rfl)
  obtain rfl := Option.some.inj h; exact lh 1 ⟨202, [(2, (fB (v6)))], [(0, (.was p0 [1] q0 w0)), (1, (.glb GV))], [0, 1], []⟩ (le_a (by kernel_rfl)) rfl rfl (by kernel_rfl) (by kernel_rfl)
 refine dw 2 3 (by kernel_rfl) ?_
 refine cl 1 h (grammar_Productive_ok _) (by kernel_rfl) fun v7 h => ?_
 refine cl 2 h (grammar_Reachable_ok _) (by kernel_rfl) fun v8 h => ?_
 refine jn1 5 .normal (fun v12 => ⟨202, [(1, (.ref 2 0 0)), (3, (.ref 3 0 0)), (4, (.fz ((eL 1 eI) (v3.2.1)))), (6, (.fz ((eL 1 eB) (v7)))), (7, (.fz ((eL 1 eB) (v8)))), (74, (fB (v12)))], (synthesislaw11_GrammarTrimmed_h_m0 p0 q0 w0 a0 v3), [3, 2, 0, 1], []⟩) h (by kernel_rfl) (fun v12 h => ?_) fun v12 h => ?_
 ·refine cl 2 h (synthesisref11_Check_ok _) (by kernel_rfl) fun v9 h => ?_
  refine gd 2 h (by kernel_rfl) (fun h => ?_) fun h => ?_
  ·cases h; exact lj 29 (by kernel_rfl)
  refine cl 1 h (grammar_Check_ok _) (by kernel_rfl) fun v10 h => ?_
  refine gd 3 h (by kernel_rfl) (fun h => ?_) fun h => ?_
  ·cases h; exact lj 24 (by kernel_rfl)
  refine gd 8 h (by kernel_rfl) (fun h => ?_) fun h => ?_
  ·cases h; exact lj 16 (by kernel_rfl)
  refine gd 8 h (by kernel_rfl) (fun h => ?_) fun h => ?_
  ·cases h; exact lj 8 (by kernel_rfl)
  cases h; exact lj 8 (by kernel_rfl)
 refine cd 0 h (by kernel_rfl) (fun h => ?_) fun h => ?_
 ·obtain rfl := Option.some.inj h; exact lh 5 ⟨202, [(2, (fB (false)))], [(0, (.was p0 [1] q0 w0)), (1, (.glb GV))], [0, 1], []⟩ (le_a (by kernel_rfl)) rfl rfl (by kernel_rfl) (by kernel_rfl)
 refine lpx 7 (fun v13 => ⟨202, [(1, (.ref 2 0 0)), (3, (.ref 3 0 0)), (4, (.fz ((eL 1 eI) (v3.2.1)))), (6, (.fz ((eL 1 eB) (v7)))), (7, (.fz ((eL 1 eB) (v8)))), (8, (fI (v13)))], (synthesislaw11_GrammarTrimmed_h_m0 p0 q0 w0 a0 v3), [3, 2, 0, 1], []⟩) (fun v18 e st => Sum.elim (fun p => e = .exit 0 ∧ LeSt st ⟨202, [(1, (.ref 2 0 0)), (3, (.ref 3 0 0)), (4, (.fz ((eL 1 eI) (v3.2.1))))], (synthesislaw11_GrammarTrimmed_h_m0 p0 q0 w0 a0 v3), [3, 2, 0, 1], []⟩) (fun p => e = .ret ∧ LeSt st ⟨202, [(2, (fB (false)))], [(0, (.was p0 [1] q0 w0)), (1, (.glb GV))], [0, 1], []⟩) v18) h (by kernel_rfl) (le_a (by kernel_rfl)) (fun v13 r h => ?_) fun v18 h e st' hq => ?_
 ·unfold synthesislaw11_GrammarTrimmed_h_l2 at h
  refine cd 8 h (by kernel_rfl) (fun h => ?_) fun h => ?_
  ·refine jn1 4 .normal (fun v17 => ⟨202, [(1, (.ref 2 0 0)), (3, (.ref 3 0 0)), (4, (.fz ((eL 1 eI) (v3.2.1)))), (6, (.fz ((eL 1 eB) (v7)))), (7, (.fz ((eL 1 eB) (v8)))), (8, (fI (v13))), (92, (fB (v17)))], (synthesislaw11_GrammarTrimmed_h_m0 p0 q0 w0 a0 v3), [3, 2, 0, 1], []⟩) h (by kernel_rfl) (fun v17 h => ?_) fun v17 h => ?_
   ·refine ix nB 3 h (by kernel_rfl) fun v14 h => ?_
    refine gd 3 h (by kernel_rfl) (fun h => ?_) fun h => ?_
    ·cases h; exact lj 7 (by kernel_rfl)
    refine ix nB 2 h (by kernel_rfl) fun v15 h => ?_
    cases h; exact lj 4 (by kernel_rfl)
   refine cd 0 h (by kernel_rfl) (fun h => ?_) fun h => ?_
   ·cases h; exact lo 5 (by kernel_rfl)
   cases h; exact lj 6 (by kernel_rfl)
  cases h; exact lo 1 (by kernel_rfl)
 rcases v18 with v19 | v42
 ·try simp only [Sum.elim_inl, Sum.elim_inr] at h
  obtain ⟨rfl, hle⟩ := hq
  refine ⟨_, hle, ?_⟩
  refine lpx 6 (fun v20 => ⟨202, [(1, (.ref 2 0 0)), (3, (.ref 3 0 0)), (4, (.fz ((eL 1 eI) (v3.2.1)))), (9, (fI (v20)))], (synthesislaw11_GrammarTrimmed_h_m0 p0 q0 w0 a0 v3), [3, 2, 0, 1], []⟩) (fun v34 e st => Sum.elim (fun p => e = .exit 2 ∧ LeSt st ⟨202, [(3, (.ref 3 0 0))], [(0, (.was p0 [1] q0 w0)), (1, (.glb GV)), (3, (.box 26 [(fS (v3.1.name)), (.fz ((eL 1 eI) (v3.1.inputs))), (.fz ((eL 2 eSy) (v3.1.symbols))), (.fz ((eL 9 eRu) (v3.1.rules)))]))], [3, 0, 1], []⟩) (fun p => e = .ret ∧ LeSt st ⟨202, [(2, (fB (false)))], [(0, (.was p0 [1] q0 w0)), (1, (.glb GV))], [0, 1], []⟩) v34) h (by kernel_rfl) (le_a (by kernel_rfl)) (fun v20 r h => ?_) fun v34 h e st' hq => ?_
  ·unfold synthesislaw11_GrammarTrimmed_h_l1 at h
   refine cd 8 h (by kernel_rfl) (fun h => ?_) fun h => ?_
   ·refine jn1 5 .normal (fun v26 => ⟨202, [(1, (.ref 2 0 0)), (3, (.ref 3 0 0)), (4, (.fz ((eL 1 eI) (v3.2.1)))), (9, (fI (v20))), (129, (fB (v26)))], (synthesislaw11_GrammarTrimmed_h_m0 p0 q0 w0 a0 v3), [3, 2, 0, 1], []⟩) h (by kernel_rfl) (fun v26 h => ?_) fun v26 h => ?_
    ·refine dw 0 28 (by kernel_rfl) ?_
     refine ix nI 2 h (by kernel_rfl) fun v21 h => ?_
     refine gd 3 h (by kernel_rfl) (fun h => ?_) fun h => ?_
     ·cases h; exact lj 27 (by kernel_rfl)
     refine ix nI 2 h (by kernel_rfl) fun v22 h => ?_
     refine gd 7 h (by kernel_rfl) (fun h => ?_) fun h => ?_
     ·cases h; exact lj 17 (by kernel_rfl)
     refine gd 3 h (by kernel_rfl) (fun h => ?_) fun h => ?_
     ·refine ix nI 2 h (by kernel_rfl) fun v23 h => ?_
      refine ix nI 4 h (by kernel_rfl) fun v24 h => ?_
      cases h; exact lj 6 (by kernel_rfl)
     cases h; exact lj 14 (by kernel_rfl)
    refine cd 0 h (by kernel_rfl) (fun h => ?_) fun h => ?_
    ·cases h; exact lo 5 (by kernel_rfl)
    refine dy 2 16 (List.range 8) (by kernel_rfl) ?_
    refine ix nRu 3 h (by kernel_rfl) fun v27 h => ?_
    refine ix nI 5 h (by kernel_rfl) fun v28 h => ?_
    refine ix nRu 1 h (by kernel_rfl) fun v29 h => ?_
    refine jn1 8 .normal (fun v33 => ⟨202, [(1, (.ref 2 0 0)), (3, (.ref 3 0 0)), (4, (.fz ((eL 1 eI) (v3.2.1)))), (9, (fI (v20))), (185, (fB (v33)))], (synthesislaw11_GrammarTrimmed_h_m0 p0 q0 w0 a0 v3), [3, 2, 0, 1], []⟩) h (by kernel_rfl) (fun v33 h => ?_) fun v33 h => ?_
    ·refine dw 0 41 (by kernel_rfl) ?_
     refine gd 6 h (by kernel_rfl) (fun h => ?_) fun h => ?_
     ·cases h; exact lj 39 (by kernel_rfl)
     refine gd 7 h (by kernel_rfl) (fun h => ?_) fun h => ?_
     ·cases h; exact lj 32 (by kernel_rfl)
     refine gd 7 h (by kernel_rfl) (fun h => ?_) fun h => ?_
     ·cases h; exact lj 25 (by kernel_rfl)
     refine gd 9 h (by kernel_rfl) (fun h => ?_) fun h => ?_
     ·cases h; exact lj 16 (by kernel_rfl)
     refine ix nSy 4 h (by kernel_rfl) fun v30 h => ?_
     refine ix nSy 5 h (by kernel_rfl) fun v31 h => ?_
     refine nst 2 (n_structeq (t := 49) (x := (.tmp 177)) (y := (.tmp 183)) (yt := 49) (d := tt49) (xs := [(eS (v30.name)), (eI (v30.type))]) (ys := [(eS (v31.name)), (eI (v31.type))]) (r := ((v30.name.toList == v31.name.toList) && ((v30.type == v31.type) && true))) true tt_ok (by kernel_rfl) (by kernel_rfl) rfl (by kernel_rfl) (by kernel_rfl) (by kernel_rfl) (by kernel_rfl) (by kernel_rfl) (by kernel_rfl)) (by kernel_rfl) ?_
     cases h; exact lj 2 (by kernel_rfl)
    refine cd 0 h (by kernel_rfl) (fun h => ?_) fun h => ?_
    ·cases h; exact lo 5 (by kernel_rfl)
    cases h; exact lj 6 (by kernel_rfl)
   cases h; exact lo 1 (by kernel_rfl)
  rcases v34 with v35 | v41
  ·try simp only [Sum.elim_inl, Sum.elim_inr] at h
   obtain ⟨rfl, hle⟩ := hq
   refine ⟨_, hle, ?_⟩
   refine cl 3 h (grammar_Trim_ok _) (by kernel_rfl) fun v36 h => ?_
   refine jn1 10 .normal (fun v40 => ⟨202, [(2, (fB (v40)))], [(0, (.was p0 [1] q0 w0)), (1, (.glb GV))], [0, 1], []⟩) h (by kernel_rfl) (fun v40 h => ?_) fun v40 h => ?_
   ·refine gd 4 h (by kernel_rfl) (fun h => ?_) fun h => ?_
    ·refine cl 2 h (grammar_Same_ok _ _) (by kernel_rfl) fun v37 h => ?_
     refine gd 2 h (by kernel_rfl) (fun h => ?_) fun h => ?_
     ·refine hcl 0 [] [(1, 1)] [(1, 1)] [1] h (synthesislaw11_awake_h3_ok) (fun _ => by kernel_rfl) fun v38 h => ?_
      cases h; exact lj 3 (by kernel_rfl)
     cases h; exact lj 4 (by kernel_rfl)
    cases h; exact lj 9 (by kernel_rfl)
   obtain rfl := Option.some.inj h; exact lh 1 ⟨202, [(2, (fB (v40)))], [(0, (.was p0 [1] q0 w0)), (1, (.glb GV))], [0, 1], []⟩ (le_a (by kernel_rfl)) rfl rfl (by kernel_rfl) (by kernel_rfl)
  ·try simp only [Sum.elim_inl, Sum.elim_inr] at h
   obtain ⟨rfl, hle⟩ := hq
   refine ⟨_, hle, ?_⟩
   obtain rfl := Option.some.inj h; exact lh 0 ⟨202, [(2, (fB (false)))], [(0, (.was p0 [1] q0 w0)), (1, (.glb GV))], [0, 1], []⟩ (le_a (by kernel_rfl)) rfl rfl (by kernel_rfl) (by kernel_rfl)
 ·try simp only [Sum.elim_inl, Sum.elim_inr] at h
  obtain ⟨rfl, hle⟩ := hq
  refine ⟨_, hle, ?_⟩
  obtain rfl := Option.some.inj h; exact lh 0 ⟨202, [(2, (fB (false)))], [(0, (.was p0 [1] q0 w0)), (1, (.glb GV))], [0, 1], []⟩ (le_a (by kernel_rfl)) rfl rfl (by kernel_rfl) (by kernel_rfl)

end Go.Proofs.YtfhmljjkhjifeaaGreatDoor
