/- Typed programs and what computes them. -/
import Derived.Test.YtfkddbccogakoaaZ3
set_option linter.unusedVariables false
set_option linter.unusedSimpArgs false
set_option maxRecDepth 100000
namespace Go.Proofs.Ytfkddbccogakoaa
open Go Go.RowKit Go.Proofs
attribute [local irreducible] NStep StepA EStep LeSt
def synthesislaw12_less_l1 (a0 : List Int) (a1 : List Int) (v1 : (Int)) : Option (((Int)) ⊕ (((Unit) ⊕ (Bool)))) := (Option.bind ((bif (decide (v1 < (List.length a0 : Int))) then (some ((decide (v1 < (List.length a1 : Int))))) else (some (false))) : Option ((Bool))) fun (v3 : (Bool)) => (bif v3 then (Option.bind (idx a0 v1) fun v4 => (Option.bind (idx a1 v1) fun v5 => (bif (v4 != v5) then (Option.bind (idx a0 v1) fun v6 => (Option.bind (idx a1 v1) fun v7 => (some (.inr (.inr (decide (v6 < v7))))))) else (some (.inl ((w64 (v1 + 1)))))))) else (some (.inr (.inl ())))))
def synthesislaw12_less (a0 : List Int) (a1 : List Int) : Option (Bool) := (Option.bind (loopN (synthesislaw12_less_l1 a0 a1) fuel (0)) fun (v8 : ((Unit) ⊕ (Bool))) => Sum.elim (fun v9 => (some (decide ((List.length a0 : Int) < (List.length a1 : Int))))) (fun v10 => (some v10)) v8)
theorem synthesislaw12_less_ok (a0 : List Int) (a1 : List Int) (r : Bool) (h : synthesislaw12_less a0 a1 = some r) : PCall Try.prog 24 [(eL 1 eI) a0, (eL 1 eI) a1] (eB (r)) := by
 unfold synthesislaw12_less at h
 refine pcl [.one .keep] Try.func24 (by kernel_rfl) (by kernel_rfl) (by kernel_rfl) ?_
 refine lpx 10 (fun v1 => ⟨41, [(0, (.fz ((eL 1 eI) (a0)))), (1, (.fz ((eL 1 eI) (a1)))), (5, (fI (v1)))], [], [], []⟩) (fun v8 e st => Sum.elim (fun p => e = .exit 0 ∧ LeSt st ⟨41, [(0, (.fz ((eL 1 eI) (a0)))), (1, (.fz ((eL 1 eI) (a1))))], [], [], []⟩) (fun p => e = .ret ∧ retX TT st Try.f24.results.toList [.one .keep] = some (eB (p))) v8) h (by kernel_rfl) (le_a (by kernel_rfl)) (fun v1 r h => ?_) fun v8 h e st' hq => ?_
 ·unfold synthesislaw12_less_l1 at h
  refine jn1 2 .normal (fun v3 => ⟨41, [(0, (.fz ((eL 1 eI) (a0)))), (1, (.fz ((eL 1 eI) (a1)))), (5, (fI (v1))), (15, (fB (v3)))], [], [], []⟩) h (by kernel_rfl) (fun v3 h => ?_) fun v3 h => ?_
  ·refine gd 6 h (by kernel_rfl) (fun h => ?_) fun h => ?_
   ·cases h; exact lj 6 (by kernel_rfl)
   cases h; exact lj 6 (by kernel_rfl)
  refine cd 0 h (by kernel_rfl) (fun h => ?_) fun h => ?_
  ·refine dw 4 8 (by kernel_rfl) ?_
   refine ix nI 2 h (by kernel_rfl) fun v4 h => ?_
   refine ix nI 3 h (by kernel_rfl) fun v5 h => ?_
   refine cd 4 h (by kernel_rfl) (fun h => ?_) fun h => ?_
   ·refine dw 1 8 (by kernel_rfl) ?_
    refine ix nI 2 h (by kernel_rfl) fun v6 h => ?_
    refine ix nI 3 h (by kernel_rfl) fun v7 h => ?_
    cases h; exact lor 6 (by kernel_rfl)
   cases h; exact lj 6 (by kernel_rfl)
  cases h; exact lo 1 (by kernel_rfl)
 rcases v8 with v9 | v10
 ·try simp only [Sum.elim_inl, Sum.elim_inr] at h
  obtain ⟨rfl, hle⟩ := hq
  refine ⟨_, hle, ?_⟩
  cases h; exact lq 10 (by kernel_rfl)
 ·try simp only [Sum.elim_inl, Sum.elim_inr] at h
  obtain ⟨rfl, hret⟩ := hq
  refine ⟨_, LeSt.refl, ?_⟩
  cases h; exact lv hret

def synthesislaw12_CountingOrders (a0 : La) (a1 : S_ar2_i64) (a2 : Int) (a3 : Int) : Option (Bool) := (Option.bind ((Option.bind (synthesislaw12_small (a0) ((Tm.mk (0) (([] : List Tm))))) fun v1 => (bif (!v1) then (some (true)) else (some ((decide (a3 ≤ a2)))))) : Option ((Bool))) fun (v3 : (Bool)) => (bif v3 then (Option.bind (synthesislaw12_alive ) fun v4 => (some v4)) else (Option.bind (counting_Term (a0) (a1.f_0) (a1.f_1) (a2)) fun v5 => (Option.bind (counting_Term (a0) (a1.f_0) (a1.f_1) (a3)) fun v6 => (Option.bind ((bif (v5.2 != 0) then (some (true)) else (some ((v6.2 != 0)))) : Option ((Bool))) fun (v8 : (Bool)) => (bif v8 then (Option.bind (synthesislaw12_alive ) fun v9 => (some v9)) else (Option.bind ((Option.bind (synthesisref12_Rules fuel (v5.1)) fun v10 => (Option.bind (synthesisref12_Rules fuel (v6.1)) fun v11 => (Option.bind (synthesislaw12_less (v10) (v11)) fun v12 => (bif v12 then (Option.bind (synthesislaw12_alive ) fun v13 => (some (v13))) else (some (false)))))) : Option ((Bool))) fun (v15 : (Bool)) => (some v15))))))))
theorem synthesislaw12_CountingOrders_ok (a0 : La) (a1 : S_ar2_i64) (a2 : Int) (a3 : Int) (r : Bool) (h : synthesislaw12_CountingOrders a0 a1 a2 a3 = some r) : PCall Try.prog 8 [eLa a0, eS_ar2_i64 a1, eI a2, eI a3] (eB (r)) := by
 unfold synthesislaw12_CountingOrders at h
 refine pcl [.one .keep] Try.func8 (by kernel_rfl) (by kernel_rfl) (by kernel_rfl) ?_
 refine jn1 8 .normal (fun v3 => ⟨58, [(2, (fI (a2))), (3, (fI (a3))), (4, (.ref 1 0 0)), (5, (.ref 2 0 0)), (21, (fB (v3)))], [(1, (.box 26 [(fS (a0.name)), (.fz ((eL 1 eI) (a0.inputs))), (.fz ((eL 2 eSy) (a0.symbols))), (.fz ((eL 9 eRu) (a0.rules)))])), (2, (.box 39 [(fI (a1.f_0)), (fI (a1.f_1))]))], [2, 1], []⟩) h (by kernel_rfl) (fun v3 h => ?_) fun v3 h => ?_
 ·refine cl 3 h (synthesislaw12_small_ok _ _) (by kernel_rfl) fun v1 h => ?_
  refine gd 2 h (by kernel_rfl) (fun h => ?_) fun h => ?_
  ·cases h; exact lj 5 (by kernel_rfl)
  cases h; exact lj 5 (by kernel_rfl)
 refine cd 0 h (by kernel_rfl) (fun h => ?_) fun h => ?_
 ·refine cl 2 h (synthesislaw12_alive_ok) (by kernel_rfl) fun v4 h => ?_
  cases h; exact lq 3 (by kernel_rfl)
 refine cl 9 h (counting_Term_ok _ _ _ _) (by kernel_rfl) fun v5 h => ?_
 refine cl 15 h (counting_Term_ok _ _ _ _) (by kernel_rfl) fun v6 h => ?_
 refine jn1 9 .normal (fun v8 => ⟨58, [(9, (.ref 3 0 0)), (11, (.ref 4 0 0)), (48, (fB (v8)))], [(3, (.box 30 [(fI (v5.1.rule)), (.fz ((eL 2 eTmR) (v5.1.args)))])), (4, (.box 30 [(fI (v6.1.rule)), (.fz ((eL 2 eTmR) (v6.1.args)))]))], [4, 3], []⟩) h (by kernel_rfl) (fun v8 h => ?_) fun v8 h => ?_
 ·refine gd 4 h (by kernel_rfl) (fun h => ?_) fun h => ?_
  ·cases h; exact lj 4 (by kernel_rfl)
  cases h; exact lj 4 (by kernel_rfl)
 refine cd 0 h (by kernel_rfl) (fun h => ?_) fun h => ?_
 ·refine cl 2 h (synthesislaw12_alive_ok) (by kernel_rfl) fun v9 h => ?_
  cases h; exact lq 3 (by kernel_rfl)
 refine jn1 2 .normal (fun v15 => ⟨58, [(8, (fB (v15)))], [], [], []⟩) h (by kernel_rfl) (fun v15 h => ?_) fun v15 h => ?_
 ·refine dw 0 3 (by kernel_rfl) ?_
  refine cl 1 h (synthesisref12_Rules_ok _ _) (by kernel_rfl) fun v10 h => ?_
  refine cl 2 h (synthesisref12_Rules_ok _ _) (by kernel_rfl) fun v11 h => ?_
  refine cl 0 h (synthesislaw12_less_ok _ _) (by kernel_rfl) fun v12 h => ?_
  refine gd 1 h (by kernel_rfl) (fun h => ?_) fun h => ?_
  ·refine cl 0 h (synthesislaw12_alive_ok) (by kernel_rfl) fun v13 h => ?_
   cases h; exact lj 3 (by kernel_rfl)
  cases h; exact lj 4 (by kernel_rfl)
 cases h; exact lq 1 (by kernel_rfl)

end Go.Proofs.Ytfkddbccogakoaa
