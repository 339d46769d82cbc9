/- Typed programs and what computes them. -/
import Derived.Test.YtfkddbccogakoaaZ3
set_option linter.unusedVariables false
set_option linter.unusedSimpArgs false
set_option maxRecDepth 100000
namespace Go.Proofs.Ytfkddbccogakoaa
open Go Go.RowKit Go.Proofs
attribute [local irreducible] NStep StepA EStep LeSt
def synthesislaw12_CountingBijects (a0 : La) (a1 : S_ar2_i64) (a2 : Int) : Option (Bool) := (Option.bind (synthesislaw12_small (a0) ((Tm.mk (0) (([] : List Tm))))) fun v1 => (bif (!v1) then (Option.bind (synthesislaw12_alive ) fun v2 => (some v2)) else (Option.bind (counting_Count (a0) (a1.f_0) (a1.f_1)) fun v3 => (Option.bind (counting_Term (a0) (a1.f_0) (a1.f_1) (a2)) fun v4 => (bif (v3.2 != 0) then (Option.bind ((bif (v4.2 == v3.2) then (Option.bind (synthesislaw12_alive ) fun v5 => (some (v5))) else (some (false))) : Option ((Bool))) fun (v7 : (Bool)) => (some v7)) else (Option.bind ((bif (decide (a2 < 0)) then (some (true)) else (some ((decide (v3.1 ≤ a2))))) : Option ((Bool))) fun (v9 : (Bool)) => (bif v9 then (Option.bind ((bif (v4.2 == 1) then (Option.bind (synthesislaw12_alive ) fun v10 => (some (v10))) else (some (false))) : Option ((Bool))) fun (v12 : (Bool)) => (some v12)) else (Option.bind (counting_Index (a0) (a1.f_0) (v4.1)) fun v13 => (Option.bind ((bif (v4.2 == 0) then (bif (v13.2 == 0) then (bif (v13.1 == a2) then (bif (decide (0 ≤ v4.1.rule)) then (bif (decide (v4.1.rule < (List.length a0.rules : Int))) then (Option.bind (idx a0.rules v4.1.rule) fun v14 => (bif (v14.symbol == a1.f_0) then (Option.bind (synthesisref12_Rules fuel (v4.1)) fun v15 => (bif ((List.length v15 : Int) == a1.f_1) then (Option.bind (synthesislaw12_alive ) fun v16 => (some (v16))) else (some (false)))) else (some (false)))) else (some (false))) else (some (false))) else (some (false))) else (some (false))) else (some (false))) : Option ((Bool))) fun (v18 : (Bool)) => (some v18))))))))))
theorem synthesislaw12_CountingBijects_ok (a0 : La) (a1 : S_ar2_i64) (a2 : Int) (r : Bool) (h : synthesislaw12_CountingBijects a0 a1 a2 = some r) : PCall Try.prog 7 [eLa a0, eS_ar2_i64 a1, eI a2] (eB (r)) := by
 unfold synthesislaw12_CountingBijects at h
 refine pcl [.one .keep] Try.func7 (by kernel_rfl) (by kernel_rfl) (by kernel_rfl) ?_
 refine cl 11 h (synthesislaw12_small_ok _ _) (by kernel_rfl) fun v1 h => ?_
 refine cd 2 h (by kernel_rfl) (fun h => ?_) fun h => ?_
 ·refine cl 2 h (synthesislaw12_alive_ok) (by kernel_rfl) fun v2 h => ?_
  cases h; exact lq 3 (by kernel_rfl)
 refine cl 8 h (counting_Count_ok _ _ _) (by kernel_rfl) fun v3 h => ?_
 refine cl 14 h (counting_Term_ok _ _ _ _) (by kernel_rfl) fun v4 h => ?_
 refine cd 13 h (by kernel_rfl) (fun h => ?_) fun h => ?_
 ·refine jn1 1 .normal (fun v7 => ⟨112, [(6, (fB (v7)))], [], [], []⟩) h (by kernel_rfl) (fun v7 h => ?_) fun v7 h => ?_
  ·refine gd 5 h (by kernel_rfl) (fun h => ?_) fun h => ?_
   ·refine cl 0 h (synthesislaw12_alive_ok) (by kernel_rfl) fun v5 h => ?_
    cases h; exact lj 3 (by kernel_rfl)
   cases h; exact lj 4 (by kernel_rfl)
  cases h; exact lq 1 (by kernel_rfl)
 refine jn1 3 .normal (fun v9 => ⟨112, [(2, (fI (a2))), (3, (.ref 1 0 0)), (4, (.ref 2 0 0)), (9, (.ref 3 0 0)), (10, (fI (v4.2))), (51, (fB (v9)))], [(1, (.box 26 [(fS (a0.name)), (.fz ((eL 1 eI) (a0.inputs))), (.fz ((eL 2 eSy) (a0.symbols))), (.fz ((eL 9 eRu) (a0.rules)))])), (2, (.box 39 [(fI (a1.f_0)), (fI (a1.f_1))])), (3, (.box 30 [(fI (v4.1.rule)), (.fz ((eL 2 eTmR) (v4.1.args)))]))], [3, 2, 1], []⟩) h (by kernel_rfl) (fun v9 h => ?_) fun v9 h => ?_
 ·refine gd 4 h (by kernel_rfl) (fun h => ?_) fun h => ?_
  ·cases h; exact lj 5 (by kernel_rfl)
  cases h; exact lj 5 (by kernel_rfl)
 refine cd 0 h (by kernel_rfl) (fun h => ?_) fun h => ?_
 ·refine jn1 1 .normal (fun v12 => ⟨112, [(6, (fB (v12)))], [], [], []⟩) h (by kernel_rfl) (fun v12 h => ?_) fun v12 h => ?_
  ·refine gd 4 h (by kernel_rfl) (fun h => ?_) fun h => ?_
   ·refine cl 0 h (synthesislaw12_alive_ok) (by kernel_rfl) fun v10 h => ?_
    cases h; exact lj 3 (by kernel_rfl)
   cases h; exact lj 4 (by kernel_rfl)
  cases h; exact lq 1 (by kernel_rfl)
 refine cl 7 h (counting_Index_ok _ _ _) (by kernel_rfl) fun v13 h => ?_
 refine jn1 7 .normal (fun v18 => ⟨112, [(6, (fB (v18)))], [], [], []⟩) h (by kernel_rfl) (fun v18 h => ?_) fun v18 h => ?_
 ·refine dw 0 42 (by kernel_rfl) ?_
  refine gd 3 h (by kernel_rfl) (fun h => ?_) fun h => ?_
  ·refine gd 4 h (by kernel_rfl) (fun h => ?_) fun h => ?_
   ·refine gd 5 h (by kernel_rfl) (fun h => ?_) fun h => ?_
    ·refine gd 5 h (by kernel_rfl) (fun h => ?_) fun h => ?_
     ·refine gd 8 h (by kernel_rfl) (fun h => ?_) fun h => ?_
      ·refine ix nRu 4 h (by kernel_rfl) fun v14 h => ?_
       refine gd 7 h (by kernel_rfl) (fun h => ?_) fun h => ?_
       ·refine cl 1 h (synthesisref12_Rules_ok _ _) (by kernel_rfl) fun v15 h => ?_
        refine gd 7 h (by kernel_rfl) (fun h => ?_) fun h => ?_
        ·refine cl 0 h (synthesislaw12_alive_ok) (by kernel_rfl) fun v16 h => ?_
         cases h; exact lj 3 (by kernel_rfl)
        cases h; exact lj 4 (by kernel_rfl)
       cases h; exact lj 13 (by kernel_rfl)
      cases h; exact lj 25 (by kernel_rfl)
     cases h; exact lj 33 (by kernel_rfl)
    cases h; exact lj 38 (by kernel_rfl)
   cases h; exact lj 43 (by kernel_rfl)
  cases h; exact lj 47 (by kernel_rfl)
 cases h; exact lq 1 (by kernel_rfl)

end Go.Proofs.Ytfkddbccogakoaa
