/- Typed programs and what computes them. -/
import Derived.Test.YtfkddbccogakoaaZ2
set_option linter.unusedVariables false
set_option linter.unusedSimpArgs false
set_option maxRecDepth 100000
namespace Go.Proofs.Ytfkddbccogakoaa
open Go Go.RowKit Go.Proofs
attribute [local irreducible] NStep StepA EStep LeSt
def synthesisref11_Check_l1 (a0 : La) (v9 : (Int)) (v12 : (Int)) : Option (((Int)) ⊕ (((Unit) ⊕ (Int)))) := (bif (decide (v12 < v9)) then (Option.bind (idx a0.symbols v12) fun v13 => (Option.bind (idx a0.symbols v9) fun v14 => (bif (v13.name.toList == v14.name.toList) then (some (.inr (.inr 6))) else (some (.inl ((w64 (v12 + 1)))))))) else (some (.inr (.inl ()))))
def synthesisref11_Check_l2 (a0 : La) (v22 : (Int)) (v25 : (Int)) : Option (((Int)) ⊕ (((Unit) ⊕ (Int)))) := (bif (decide (v25 < v22)) then (Option.bind (idx a0.rules v25) fun v26 => (Option.bind (idx a0.rules v22) fun v27 => (Option.bind (synthesisref11_SameRule (v26) (v27)) fun v28 => (bif v28 then (some (.inr (.inr 6))) else (some (.inl ((w64 (v25 + 1))))))))) else (some (.inr (.inl ()))))
def synthesisref11_Check_l3 (a0 : La) (v22 : (Int)) : Option (((Int)) ⊕ (((Unit) ⊕ (Int)))) := (bif (decide (v22 < (List.length a0.rules : Int))) then (Option.bind (idx a0.rules v22) fun v23 => (Option.bind (synthesisref11_rule (a0) (v23)) fun v24 => (bif (v24 != 0) then (some (.inr (.inr v24))) else (Option.bind (loopN (synthesisref11_Check_l2 a0 v22) fuel (0)) fun (v29 : ((Unit) ⊕ (Int))) => Sum.elim (fun v30 => (some (.inl ((w64 (v22 + 1)))))) (fun v31 => (some (.inr (.inr v31)))) v29)))) else (some (.inr (.inl ()))))
def synthesisref11_Check_l4 (a0 : La) (v9 : (Int)) : Option (((Int)) ⊕ (((Unit) ⊕ (Int)))) := (bif (decide (v9 < (List.length a0.symbols : Int))) then (Option.bind (idx a0.symbols v9) fun v10 => (Option.bind (synthesisref11_Name (v10.name)) fun v11 => (bif (!v11) then (some (.inr (.inr 5))) else (Option.bind (loopN (synthesisref11_Check_l1 a0 v9) fuel (0)) fun (v15 : ((Unit) ⊕ (Int))) => Sum.elim (fun v16 => (Option.bind (idx a0.symbols v9) fun v17 => (Option.bind (synthesisref11_typed (v17.type)) fun v18 => (bif (!v18) then (some (.inr (.inr 3))) else (some (.inl ((w64 (v9 + 1))))))))) (fun v19 => (some (.inr (.inr v19)))) v15)))) else (some (.inr (.inl ()))))
def synthesisref11_Check_l5 (a0 : La) (v2 : (Int)) : Option (((Int)) ⊕ (((Unit) ⊕ (Int)))) := (bif (decide (v2 < (List.length a0.inputs : Int))) then (Option.bind (idx a0.inputs v2) fun v3 => (Option.bind (synthesisref11_typed (v3)) fun v4 => (bif (!v4) then (some (.inr (.inr 3))) else (some (.inl ((w64 (v2 + 1)))))))) else (some (.inr (.inl ()))))
def synthesisref11_Check (a0 : La) : Option (Int) := (Option.bind (synthesisref11_Name (a0.name)) fun v1 => (bif (!v1) then (some 5) else (bif (decide (4 < (List.length a0.inputs : Int))) then (some 2) else (Option.bind (loopN (synthesisref11_Check_l5 a0) fuel (0)) fun (v5 : ((Unit) ⊕ (Int))) => Sum.elim (fun v6 => (Option.bind ((bif (decide ((List.length a0.symbols : Int) < 1)) then (some (true)) else (some ((decide (16 < (List.length a0.symbols : Int)))))) : Option ((Bool))) fun (v8 : (Bool)) => (bif v8 then (some 2) else (Option.bind (loopN (synthesisref11_Check_l4 a0) fuel (0)) fun (v20 : ((Unit) ⊕ (Int))) => Sum.elim (fun v21 => (bif (decide (96 < (List.length a0.rules : Int))) then (some 2) else (Option.bind (loopN (synthesisref11_Check_l3 a0) fuel (0)) fun (v32 : ((Unit) ⊕ (Int))) => Sum.elim (fun v33 => (some 0)) (fun v34 => (some v34)) v32))) (fun v35 => (some v35)) v20)))) (fun v36 => (some v36)) v5))))
structure S_synthesisref12_reader where
  f_l : La
  f_rules : List Int
structure S_ar2_i64 where
  f_0 : Int
  f_1 : Int
def eS_ar2_i64 (x : S_ar2_i64) : FV := .agg [eI (x.f_0), eI (x.f_1)]
def synthesisref12_Rules_l1 (a0 : Tm) (r23 : (Tm) → Option (List Int)) (v1 : (Int) × (List Int)) : Option (((Int) × (List Int)) ⊕ ((List Int))) := (bif (decide (v1.1 < (List.length a0.args : Int))) then (Option.bind (idx a0.args v1.1) fun v2 => (Option.bind (r23 (v2)) fun v3 => (Option.bind (app 8 v1.2 v3) fun v4 => (some (.inl ((w64 (v1.1 + 1)), v4)))))) else (some (.inr (v1.2))))
def synthesisref12_Rules_b (r23 : (Tm) → Option (List Int)) (a0 : Tm) : Option (List Int) := (Option.bind (loopN (synthesisref12_Rules_l1 a0 r23) fuel (0, ([a0.rule] : List (Int)))) fun (v6 : (List Int)) => (some v6))
theorem synthesisref12_Rules_b_ok (r23 : (Tm) → Option (List Int)) (ih23 : ∀ (x0 : Tm) r, r23 x0 = some r → PCall Try.prog 23 [eTm x0] ((eL 1 eI) (r))) (a0 : Tm) (r : List Int) (h : synthesisref12_Rules_b r23 a0 = some r) : PCall Try.prog 23 [eTm a0] ((eL 1 eI) (r)) := by
 unfold synthesisref12_Rules_b at h
 refine pcl [.one (.sl 1)] Try.func23 (by kernel_rfl) (by kernel_rfl) (by kernel_rfl) ?_
 refine sst 9 (s_litrow (t := 22) (n := 1) (parts := #[(0, (.tmp 7))]) (d := tt22) (e := 3) (de := tt3) (enc := eI) (xs := ([a0.rule] : List (Int))) (id := 2) tt_ok (by kernel_rfl) (by kernel_rfl) (by kernel_rfl) (by kernel_rfl) (by kernel_rfl) rfl (by kernel_rfl) (by kernel_rfl) (by kernel_rfl)) (by kernel_rfl) ?_
 refine lp1 11 (fun v1 => ⟨22, [(3, (.row 2 (List.length (v1.2)))), (10, (.fz ((eL 2 eTmR) (a0.args)))), (11, (fI ((List.length a0.args : Int)))), (12, (fI (v1.1)))], [(2, (.frow 3 1 (List.map eI (v1.2))))], [2], []⟩) (.exit 0) (fun v6 => ⟨22, [(3, (.row 2 (List.length (v6))))], [(2, (.frow 3 1 (List.map eI (v6))))], [2], []⟩) h (by kernel_rfl) (by kernel_rfl) (fun v1 r h => ?_) fun v6 h => ?_
 ·unfold synthesisref12_Rules_l1 at h
  refine cd 5 h (by kernel_rfl) (fun h => ?_) fun h => ?_
  ·refine ix nTmR 5 h (by kernel_rfl) fun v2 h => ?_
   refine cl 7 h (ih23 _) (by kernel_rfl) fun v3 h => ?_
   refine ap nI 0 h (by kernel_rfl) fun v4 h => ?_
   cases h; exact lj 6 (by kernel_rfl)
  cases h; exact lo 1 (by kernel_rfl)
 refine wle 5 (le_freeze (t := 2) (id := 2) (n := List.length (v6)) (e := 3) (size := 1) (xs := List.map eI (v6)) (by kernel_rfl) (by kernel_rfl) (by simp)) (by kernel_rfl) ?_
 cases h; exact lq 1 (by kernel_rfl)
def synthesisref12_Rules : Nat → (Tm) → Option (List Int)
  | 0 => fun _ => none
  | n + 1 => synthesisref12_Rules_b (synthesisref12_Rules n)
theorem synthesisref12_Rules_ok : ∀ (n : Nat) (x0 : Tm) r, synthesisref12_Rules n x0 = some r → PCall Try.prog 23 [eTm x0] ((eL 1 eI) (r))
  | 0, _, _, h => by cases h
  | n + 1, x0, r, h => synthesisref12_Rules_b_ok (synthesisref12_Rules n) (synthesisref12_Rules_ok n) x0 r h

end Go.Proofs.Ytfkddbccogakoaa
