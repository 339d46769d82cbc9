/- Typed programs and what computes them. -/
import Derived.Test.YtpcfkflhnkfjjaaZ3
set_option linter.unusedVariables false
set_option linter.unusedSimpArgs false
set_option maxRecDepth 100000
namespace Go.Proofs.Ytpcfkflhnkfjjaa
open Go Go.RowKit Go.Proofs
set_option maxHeartbeats 2000000
attribute [local irreducible] NStep StepA EStep LeSt
structure S_synthesislaw38_Want where
  f_Symbol : Int
  f_Most : Int
def synthesislaw38_WeightOrders_l1 (a0 : List Int) (a1 : List Tm) (v4 : (Int)) : Option (((Int)) ⊕ (((Unit) ⊕ (Bool)))) := (bif (decide (v4 < 3)) then (Option.bind (idx a1 v4) fun v5 => (Option.bind (synthesisref38_Cost (a0) (v5)) fun v6 => (Option.bind ((bif (v6.2 != 0) then (some (true)) else (Option.bind (idx a1 v4) fun v7 => (Option.bind (synthesisref13_Within (v7) (30)) fun v8 => (some ((!v8)))))) : Option ((Bool))) fun (v10 : (Bool)) => (bif v10 then (Option.bind (synthesislaw38_awake ) fun v11 => (some (.inr (.inr v11)))) else (some (.inl ((w64 (v4 + 1))))))))) else (some (.inr (.inl ()))))
def synthesislaw38_WeightOrders (a0 : List Int) (a1 : List Tm) : Option (Bool) := (Option.bind ((bif (decide (30 < (List.length a0 : Int))) then (some (true)) else (some (((List.length a1 : Int) != 3)))) : Option ((Bool))) fun (v2 : (Bool)) => (bif v2 then (Option.bind (synthesislaw38_awake ) fun v3 => (some v3)) else (Option.bind (loopN (synthesislaw38_WeightOrders_l1 a0 a1) fuel (0)) fun (v12 : ((Unit) ⊕ (Bool))) => Sum.elim (fun v13 => (Option.bind (idx a1 0) fun v14 => (Option.bind (idx a1 1) fun v15 => (Option.bind (idx a1 2) fun v16 => (Option.bind (weight_Compare (a0) (v14) (v15)) fun v17 => (Option.bind (weight_Compare (a0) (v15) (v16)) fun v18 => (Option.bind (weight_Compare (a0) (v14) (v16)) fun v19 => (Option.bind ((Option.bind (weight_Compare (a0) (v15) (v14)) fun v20 => (bif (v20 != (w64 (0 - v17))) then (some (true)) else (Option.bind (synthesisref13_Compare (v14) (v15)) fun v21 => (some ((!((v17 == 0) == (v21 == 0)))))))) : Option ((Bool))) fun (v23 : (Bool)) => (bif v23 then (some false) else (Option.bind ((bif (decide (0 < v17)) then (bif (decide (v17 < 0)) then (Option.bind (synthesislaw38_awake ) fun v24 => (some (v24))) else (bif (decide (v18 < 0)) then (Option.bind (synthesislaw38_awake ) fun v25 => (some (v25))) else (bif (decide (0 ≤ v19)) then (Option.bind (synthesislaw38_awake ) fun v26 => (some (v26))) else (some (false))))) else (bif (decide (0 < v18)) then (bif (decide (v17 < 0)) then (Option.bind (synthesislaw38_awake ) fun v27 => (some (v27))) else (bif (decide (v18 < 0)) then (Option.bind (synthesislaw38_awake ) fun v28 => (some (v28))) else (bif (decide (0 ≤ v19)) then (Option.bind (synthesislaw38_awake ) fun v29 => (some (v29))) else (some (false))))) else (bif (decide (v19 ≤ 0)) then (bif (decide (v17 < 0)) then (Option.bind (synthesislaw38_awake ) fun v30 => (some (v30))) else (bif (decide (v18 < 0)) then (Option.bind (synthesislaw38_awake ) fun v31 => (some (v31))) else (bif (decide (0 ≤ v19)) then (Option.bind (synthesislaw38_awake ) fun v32 => (some (v32))) else (some (false))))) else (some (false))))) : Option ((Bool))) fun (v34 : (Bool)) => (some v34))))))))))) (fun v35 => (some v35)) v12)))
theorem synthesislaw38_WeightOrders_ok (a0 : List Int) (a1 : List Tm) (r : Bool) (h : synthesislaw38_WeightOrders a0 a1 = some r) : PCall Try.prog 7 [(eL 1 eI) a0, (eL 2 eTmR) a1] (eB (r)) := by
 unfold synthesislaw38_WeightOrders at h
 refine pcl [.one .keep] Try.func7 (by kernel_rfl) (by kernel_rfl) (by kernel_rfl) ?_
 refine jn1 6 .normal (fun v2 => ⟨109, [(0, (.fz ((eL 1 eI) (a0)))), (1, (.fz ((eL 2 eTmR) (a1)))), (21, (fB (v2)))], [], [], []⟩) h (by kernel_rfl) (fun v2 h => ?_) fun v2 h => ?_
 ·refine gd 5 h (by kernel_rfl) (fun h => ?_) fun h => ?_
  ·cases h; exact lj 5 (by kernel_rfl)
  cases h; exact lj 5 (by kernel_rfl)
 refine cd 0 h (by kernel_rfl) (fun h => ?_) fun h => ?_
 ·refine cl 2 h (synthesislaw38_awake_ok) (by kernel_rfl) fun v3 h => ?_
  cases h; exact lq 3 (by kernel_rfl)
 refine lpx 7 (fun v4 => ⟨109, [(0, (.fz ((eL 1 eI) (a0)))), (1, (.fz ((eL 2 eTmR) (a1)))), (5, (fI (v4)))], [], [], []⟩) (fun v12 e st => Sum.elim (fun p => e = .exit 0 ∧ LeSt st ⟨109, [(0, (.fz ((eL 1 eI) (a0)))), (1, (.fz ((eL 2 eTmR) (a1))))], [], [], []⟩) (fun p => e = .ret ∧ retX TT st Try.f7.results.toList [.one .keep] = some (eB (p))) v12) h (by kernel_rfl) (le_a (by kernel_rfl)) (fun v4 r h => ?_) fun v12 h e st' hq => ?_
 ·unfold synthesislaw38_WeightOrders_l1 at h
  refine cd 6 h (by kernel_rfl) (fun h => ?_) fun h => ?_
  ·refine ix nTmR 8 h (by kernel_rfl) fun v5 h => ?_
   refine cl 1 h (synthesisref38_Cost_ok _ _) (by kernel_rfl) fun v6 h => ?_
   refine jn1 7 .normal (fun v10 => ⟨109, [(0, (.fz ((eL 1 eI) (a0)))), (1, (.fz ((eL 2 eTmR) (a1)))), (5, (fI (v4))), (45, (fB (v10)))], [], [], []⟩) h (by kernel_rfl) (fun v10 h => ?_) fun v10 h => ?_
   ·refine gd 4 h (by kernel_rfl) (fun h => ?_) fun h => ?_
    ·cases h; exact lj 8 (by kernel_rfl)
    refine ix nTmR 2 h (by kernel_rfl) fun v7 h => ?_
    refine cl 1 h (synthesisref13_Within_ok _ _) (by kernel_rfl) fun v8 h => ?_
    cases h; exact lj 3 (by kernel_rfl)
   refine cd 0 h (by kernel_rfl) (fun h => ?_) fun h => ?_
   ·refine cl 2 h (synthesislaw38_awake_ok) (by kernel_rfl) fun v11 h => ?_
    cases h; exact lor 3 (by kernel_rfl)
   cases h; exact lj 6 (by kernel_rfl)
  cases h; exact lo 1 (by kernel_rfl)
 rcases v12 with v13 | v35
 ·try simp only [Sum.elim_inl, Sum.elim_inr] at h
  obtain ⟨rfl, hle⟩ := hq
  refine ⟨_, hle, ?_⟩
  refine dy 1 14 (List.range 7) (by kernel_rfl) ?_
  refine ix nTmR 1 h (by kernel_rfl) fun v14 h => ?_
  refine ix nTmR 2 h (by kernel_rfl) fun v15 h => ?_
  refine ix nTmR 2 h (by kernel_rfl) fun v16 h => ?_
  refine dw 10 11 (by kernel_rfl) ?_
  refine cl 3 h (weight_Compare_ok _ _ _) (by kernel_rfl) fun v17 h => ?_
  refine cl 3 h (weight_Compare_ok _ _ _) (by kernel_rfl) fun v18 h => ?_
  refine cl 4 h (weight_Compare_ok _ _ _) (by kernel_rfl) fun v19 h => ?_
  refine jn1 6 .normal (fun v23 => ⟨109, [(11, (fI (v17))), (12, (fI (v18))), (13, (fI (v19))), (83, (fB (v23)))], [], [], []⟩) h (by kernel_rfl) (fun v23 h => ?_) fun v23 h => ?_
  ·refine cl 4 h (weight_Compare_ok _ _ _) (by kernel_rfl) fun v20 h => ?_
   refine gd 4 h (by kernel_rfl) (fun h => ?_) fun h => ?_
   ·cases h; exact lj 9 (by kernel_rfl)
   refine cl 4 h (synthesisref13_Compare_ok _ _) (by kernel_rfl) fun v21 h => ?_
   cases h; exact lj 4 (by kernel_rfl)
  refine cd 0 h (by kernel_rfl) (fun h => ?_) fun h => ?_
  ·cases h; exact lq 5 (by kernel_rfl)
  refine jn1 2 .normal (fun v34 => ⟨109, [(4, (fB (v34)))], [], [], []⟩) h (by kernel_rfl) (fun v34 h => ?_) fun v34 h => ?_
  ·refine gd 4 h (by kernel_rfl) (fun h => ?_) fun h => ?_
   ·refine gd 11 h (by kernel_rfl) (fun h => ?_) fun h => ?_
    ·refine cl 9 h (synthesislaw38_awake_ok) (by kernel_rfl) fun v24 h => ?_
     cases h; exact lj 3 (by kernel_rfl)
    refine gd 4 h (by kernel_rfl) (fun h => ?_) fun h => ?_
    ·refine cl 5 h (synthesislaw38_awake_ok) (by kernel_rfl) fun v25 h => ?_
     cases h; exact lj 3 (by kernel_rfl)
    refine gd 5 h (by kernel_rfl) (fun h => ?_) fun h => ?_
    ·refine cl 0 h (synthesislaw38_awake_ok) (by kernel_rfl) fun v26 h => ?_
     cases h; exact lj 3 (by kernel_rfl)
    cases h; exact lj 4 (by kernel_rfl)
   refine gd 4 h (by kernel_rfl) (fun h => ?_) fun h => ?_
   ·refine gd 7 h (by kernel_rfl) (fun h => ?_) fun h => ?_
    ·refine cl 9 h (synthesislaw38_awake_ok) (by kernel_rfl) fun v27 h => ?_
     cases h; exact lj 3 (by kernel_rfl)
    refine gd 4 h (by kernel_rfl) (fun h => ?_) fun h => ?_
    ·refine cl 5 h (synthesislaw38_awake_ok) (by kernel_rfl) fun v28 h => ?_
     cases h; exact lj 3 (by kernel_rfl)
    refine gd 5 h (by kernel_rfl) (fun h => ?_) fun h => ?_
    ·refine cl 0 h (synthesislaw38_awake_ok) (by kernel_rfl) fun v29 h => ?_
     cases h; exact lj 3 (by kernel_rfl)
    cases h; exact lj 4 (by kernel_rfl)
   refine gd 4 h (by kernel_rfl) (fun h => ?_) fun h => ?_
   ·refine gd 3 h (by kernel_rfl) (fun h => ?_) fun h => ?_
    ·refine cl 9 h (synthesislaw38_awake_ok) (by kernel_rfl) fun v30 h => ?_
     cases h; exact lj 3 (by kernel_rfl)
    refine gd 4 h (by kernel_rfl) (fun h => ?_) fun h => ?_
    ·refine cl 5 h (synthesislaw38_awake_ok) (by kernel_rfl) fun v31 h => ?_
     cases h; exact lj 3 (by kernel_rfl)
    refine gd 5 h (by kernel_rfl) (fun h => ?_) fun h => ?_
    ·refine cl 0 h (synthesislaw38_awake_ok) (by kernel_rfl) fun v32 h => ?_
     cases h; exact lj 3 (by kernel_rfl)
    cases h; exact lj 4 (by kernel_rfl)
   cases h; exact lj 16 (by kernel_rfl)
  cases h; exact lq 1 (by kernel_rfl)
 ·try simp only [Sum.elim_inl, Sum.elim_inr] at h
  obtain ⟨rfl, hret⟩ := hq
  refine ⟨_, LeSt.refl, ?_⟩
  cases h; exact lv hret

end Go.Proofs.Ytpcfkflhnkfjjaa
