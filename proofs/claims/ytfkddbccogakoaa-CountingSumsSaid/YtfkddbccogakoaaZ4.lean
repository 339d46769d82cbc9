/- Typed programs and what computes them. -/
import Derived.Test.YtfkddbccogakoaaZ3
set_option linter.unusedVariables false
set_option linter.unusedSimpArgs false
set_option maxRecDepth 100000
namespace Go.Proofs.Ytfkddbccogakoaa
open Go Go.RowKit Go.Proofs
attribute [local irreducible] NStep StepA EStep LeSt
def synthesislaw12_CountingSums_m0 (a0 : La) : List (Nat × AObj) := [(1, (.box 26 [(fS (a0.name)), (.fz ((eL 1 eI) (a0.inputs))), (.fz ((eL 2 eSy) (a0.symbols))), (.fz ((eL 9 eRu) (a0.rules)))]))]
def synthesislaw12_CountingSums_l1 (a0 : La) (a1 : Int) (a2 : Int) (v5 : (List Int) × (Int)) (v12 : (Int) × (Int)) : Option (((Int) × (Int)) ⊕ ((((Int)) ⊕ (Bool)))) := (bif (decide (v12.2 ≤ a2)) then (Option.bind (counting_Count (a0) (a1) (v12.2)) fun v13 => (bif (v13.2 != 0) then (Option.bind ((bif (v13.2 == 11) then (Option.bind (synthesislaw12_alive ) fun v14 => (some (v14))) else (some (false))) : Option ((Bool))) fun (v16 : (Bool)) => (some (.inr (.inr v16)))) else (Option.bind ((bif (decide (v13.1 < 0)) then (some (true)) else (bif (decide (0 < v13.1)) then (Option.bind (idx v5.1 a1) fun v17 => (bif (decide (v17 < 1)) then (some (true)) else (Option.bind (idx v5.1 a1) fun v18 => (bif (decide (v12.2 < v18)) then (some (true)) else (bif (v13.1 == 0) then (Option.bind (idx v5.1 a1) fun v19 => (some ((v12.2 == v19)))) else (some (false))))))) else (bif (v13.1 == 0) then (Option.bind (idx v5.1 a1) fun v20 => (some ((v12.2 == v20)))) else (some (false))))) : Option ((Bool))) fun (v22 : (Bool)) => (bif v22 then (some (.inr (.inr false))) else (some (.inl ((imin (w64 (v12.1 + v13.1)) 1152921504606846977), (w64 (v12.2 + 1))))))))) else (some (.inr (.inl (v12.1)))))
def synthesislaw12_CountingSums (a0 : La) (a1 : Int) (a2 : Int) : Option (Bool) := (Option.bind ((Option.bind (synthesislaw12_small (a0) ((Tm.mk (0) (([] : List Tm))))) fun v1 => (bif (!v1) then (some (true)) else (bif (decide (a2 < 1)) then (some (true)) else (some ((decide (24 < a2))))))) : Option ((Bool))) fun (v3 : (Bool)) => (bif v3 then (Option.bind (synthesislaw12_alive ) fun v4 => (some v4)) else (Option.bind (counting_Least (a0)) fun v5 => (Option.bind ((bif (v5.2 != 0) then (some (true)) else (bif (decide (a1 < 0)) then (some (true)) else (some ((decide ((List.length v5.1 : Int) ≤ a1)))))) : Option ((Bool))) fun (v7 : (Bool)) => (bif v7 then (Option.bind ((bif (v5.2 != 0) then (Option.bind (synthesislaw12_alive ) fun v8 => (some (v8))) else (bif ((List.length v5.1 : Int) == (List.length a0.symbols : Int)) then (Option.bind (synthesislaw12_alive ) fun v9 => (some (v9))) else (some (false)))) : Option ((Bool))) fun (v11 : (Bool)) => (some v11)) else (Option.bind (loopN (synthesislaw12_CountingSums_l1 a0 a1 a2 v5) fuel (0, 1)) fun (v23 : (((Int)) ⊕ (Bool))) => Sum.elim (fun v24 => (Option.bind (counting_Total (a0) (a1) (a2)) fun v25 => (bif (decide (1152921504606846976 < v24)) then (Option.bind ((bif (v25.2 == 11) then (Option.bind (synthesislaw12_alive ) fun v26 => (some (v26))) else (some (false))) : Option ((Bool))) fun (v28 : (Bool)) => (some v28)) else (Option.bind ((bif (v25.2 == 0) then (bif (v25.1 == v24) then (Option.bind (synthesislaw12_alive ) fun v29 => (some (v29))) else (some (false))) else (some (false))) : Option ((Bool))) fun (v31 : (Bool)) => (some v31))))) (fun v32 => (some v32)) v23))))))
theorem synthesislaw12_CountingSums_ok (a0 : La) (a1 : Int) (a2 : Int) (r : Bool) (h : synthesislaw12_CountingSums a0 a1 a2 = some r) : PCall Try.prog 9 [eLa a0, eI a1, eI a2] (eB (r)) := by
 unfold synthesislaw12_CountingSums at h
 refine pcl [.one .keep] Try.func9 (by kernel_rfl) (by kernel_rfl) (by kernel_rfl) ?_
 refine jn1 7 .normal (fun v3 => ⟨138, [(1, (fI (a1))), (2, (fI (a2))), (3, (.ref 1 0 0)), (26, (fB (v3)))], (synthesislaw12_CountingSums_m0 a0), [1], []⟩) h (by kernel_rfl) (fun v3 h => ?_) fun v3 h => ?_
 ·refine cl 3 h (synthesislaw12_small_ok _ _) (by kernel_rfl) fun v1 h => ?_
  refine gd 2 h (by kernel_rfl) (fun h => ?_) fun h => ?_
  ·cases h; exact lj 8 (by kernel_rfl)
  refine gd 4 h (by kernel_rfl) (fun h => ?_) fun h => ?_
  ·cases h; exact lj 4 (by kernel_rfl)
  cases h; exact lj 4 (by kernel_rfl)
 refine cd 0 h (by kernel_rfl) (fun h => ?_) fun h => ?_
 ·refine cl 2 h (synthesislaw12_alive_ok) (by kernel_rfl) fun v4 h => ?_
  cases h; exact lq 3 (by kernel_rfl)
 refine cl 4 h (counting_Least_ok _) (by kernel_rfl) fun v5 h => ?_
 refine jn1 8 .normal (fun v7 => ⟨138, [(1, (fI (a1))), (2, (fI (a2))), (3, (.ref 1 0 0)), (7, (.fz ((eL 1 eI) (v5.1)))), (8, (fI (v5.2))), (44, (fB (v7)))], (synthesislaw12_CountingSums_m0 a0), [1], []⟩) h (by kernel_rfl) (fun v7 h => ?_) fun v7 h => ?_
 ·refine gd 4 h (by kernel_rfl) (fun h => ?_) fun h => ?_
  ·cases h; exact lj 10 (by kernel_rfl)
  refine gd 4 h (by kernel_rfl) (fun h => ?_) fun h => ?_
  ·cases h; exact lj 6 (by kernel_rfl)
  cases h; exact lj 6 (by kernel_rfl)
 refine cd 0 h (by kernel_rfl) (fun h => ?_) fun h => ?_
 ·refine jn1 1 .normal (fun v11 => ⟨138, [(6, (fB (v11)))], [], [], []⟩) h (by kernel_rfl) (fun v11 h => ?_) fun v11 h => ?_
  ·refine gd 4 h (by kernel_rfl) (fun h => ?_) fun h => ?_
   ·refine cl 8 h (synthesislaw12_alive_ok) (by kernel_rfl) fun v8 h => ?_
    cases h; exact lj 3 (by kernel_rfl)
   refine gd 8 h (by kernel_rfl) (fun h => ?_) fun h => ?_
   ·refine cl 0 h (synthesislaw12_alive_ok) (by kernel_rfl) fun v9 h => ?_
    cases h; exact lj 3 (by kernel_rfl)
   cases h; exact lj 4 (by kernel_rfl)
  cases h; exact lq 1 (by kernel_rfl)
 refine lpx 11 (fun v12 => ⟨138, [(1, (fI (a1))), (2, (fI (a2))), (3, (.ref 1 0 0)), (7, (.fz ((eL 1 eI) (v5.1)))), (9, (fI (v12.1))), (10, (fI (v12.2)))], (synthesislaw12_CountingSums_m0 a0), [1], []⟩) (fun v23 e st => Sum.elim (fun p => e = .exit 0 ∧ LeSt st ⟨138, [(1, (fI (a1))), (2, (fI (a2))), (3, (.ref 1 0 0)), (9, (fI (p)))], (synthesislaw12_CountingSums_m0 a0), [1], []⟩) (fun p => e = .ret ∧ retX TT st Try.f9.results.toList [.one .keep] = some (eB (p))) v23) h (by kernel_rfl) (le_a (by kernel_rfl)) (fun v12 r h => ?_) fun v23 h e st' hq => ?_
 ·unfold synthesislaw12_CountingSums_l1 at h
  refine cd 7 h (by kernel_rfl) (fun h => ?_) fun h => ?_
  ·refine cl 8 h (counting_Count_ok _ _ _) (by kernel_rfl) fun v13 h => ?_
   refine cd 12 h (by kernel_rfl) (fun h => ?_) fun h => ?_
   ·refine jn1 1 .normal (fun v16 => ⟨138, [(6, (fB (v16)))], [], [], []⟩) h (by kernel_rfl) (fun v16 h => ?_) fun v16 h => ?_
    ·refine gd 4 h (by kernel_rfl) (fun h => ?_) fun h => ?_
     ·refine cl 0 h (synthesislaw12_alive_ok) (by kernel_rfl) fun v14 h => ?_
      cases h; exact lj 3 (by kernel_rfl)
     cases h; exact lj 4 (by kernel_rfl)
    cases h; exact lor 1 (by kernel_rfl)
   refine jn1 3 .normal (fun v22 => ⟨138, [(1, (fI (a1))), (2, (fI (a2))), (3, (.ref 1 0 0)), (7, (.fz ((eL 1 eI) (v5.1)))), (9, (fI (v12.1))), (10, (fI (v12.2))), (11, (fI (v13.1))), (109, (fB (v22)))], (synthesislaw12_CountingSums_m0 a0), [1], []⟩) h (by kernel_rfl) (fun v22 h => ?_) fun v22 h => ?_
   ·refine gd 4 h (by kernel_rfl) (fun h => ?_) fun h => ?_
    ·cases h; exact lj 31 (by kernel_rfl)
    refine gd 3 h (by kernel_rfl) (fun h => ?_) fun h => ?_
    ·refine ix nI 2 h (by kernel_rfl) fun v17 h => ?_
     refine gd 3 h (by kernel_rfl) (fun h => ?_) fun h => ?_
     ·cases h; exact lj 22 (by kernel_rfl)
     refine ix nI 3 h (by kernel_rfl) fun v18 h => ?_
     refine gd 6 h (by kernel_rfl) (fun h => ?_) fun h => ?_
     ·cases h; exact lj 12 (by kernel_rfl)
     refine gd 3 h (by kernel_rfl) (fun h => ?_) fun h => ?_
     ·refine ix nI 3 h (by kernel_rfl) fun v19 h => ?_
      cases h; exact lj 5 (by kernel_rfl)
     cases h; exact lj 9 (by kernel_rfl)
    refine gd 19 h (by kernel_rfl) (fun h => ?_) fun h => ?_
    ·refine ix nI 3 h (by kernel_rfl) fun v20 h => ?_
     cases h; exact lj 5 (by kernel_rfl)
    cases h; exact lj 9 (by kernel_rfl)
   refine cd 0 h (by kernel_rfl) (fun h => ?_) fun h => ?_
   ·cases h; exact lor 5 (by kernel_rfl)
   cases h; exact lj 13 (by kernel_rfl)
  cases h; exact lo 1 (by kernel_rfl)
 rcases v23 with v24 | v32
 ·try simp only [Sum.elim_inl, Sum.elim_inr] at h
  obtain ⟨rfl, hle⟩ := hq
  refine ⟨_, hle, ?_⟩
  refine cl 5 h (counting_Total_ok _ _ _) (by kernel_rfl) fun v25 h => ?_
  refine cd 12 h (by kernel_rfl) (fun h => ?_) fun h => ?_
  ·refine jn1 1 .normal (fun v28 => ⟨138, [(6, (fB (v28)))], [], [], []⟩) h (by kernel_rfl) (fun v28 h => ?_) fun v28 h => ?_
   ·refine gd 4 h (by kernel_rfl) (fun h => ?_) fun h => ?_
    ·refine cl 0 h (synthesislaw12_alive_ok) (by kernel_rfl) fun v26 h => ?_
     cases h; exact lj 3 (by kernel_rfl)
    cases h; exact lj 4 (by kernel_rfl)
   cases h; exact lq 1 (by kernel_rfl)
  refine jn1 2 .normal (fun v31 => ⟨138, [(6, (fB (v31)))], [], [], []⟩) h (by kernel_rfl) (fun v31 h => ?_) fun v31 h => ?_
  ·refine gd 4 h (by kernel_rfl) (fun h => ?_) fun h => ?_
   ·refine gd 5 h (by kernel_rfl) (fun h => ?_) fun h => ?_
    ·refine cl 0 h (synthesislaw12_alive_ok) (by kernel_rfl) fun v29 h => ?_
     cases h; exact lj 3 (by kernel_rfl)
    cases h; exact lj 4 (by kernel_rfl)
   cases h; exact lj 9 (by kernel_rfl)
  cases h; exact lq 1 (by kernel_rfl)
 ·try simp only [Sum.elim_inl, Sum.elim_inr] at h
  obtain ⟨rfl, hret⟩ := hq
  refine ⟨_, LeSt.refl, ?_⟩
  cases h; exact lv hret
end Go.Proofs.Ytfkddbccogakoaa
