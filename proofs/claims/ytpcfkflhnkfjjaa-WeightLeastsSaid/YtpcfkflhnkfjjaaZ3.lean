/- Typed programs and what computes them. -/
import Derived.Test.YtpcfkflhnkfjjaaZ2
set_option linter.unusedVariables false
set_option linter.unusedSimpArgs false
set_option maxRecDepth 100000
namespace Go.Proofs.Ytpcfkflhnkfjjaa
open Go Go.RowKit Go.Proofs
attribute [local irreducible] NStep StepA EStep LeSt
def synthesisref11_operation_m0 (a0 : La) (a1 : Ru) (v1 : (S_api_Operator) × (Bool)) : List (Nat × AObj) := [(1, (.box 26 [(fS (a0.name)), (.fz ((eL 1 eI) (a0.inputs))), (.fz ((eL 2 eSy) (a0.symbols))), (.fz ((eL 9 eRu) (a0.rules)))])), (2, (.box 55 [(fI (a1.symbol)), (fI (a1.kind)), (fI (a1.input)), (fI (a1.const.type)), (fI (a1.const.num)), (fS (a1.const.text)), (.fz ((eL 4 eVaR) (a1.const.items))), (fS (a1.op)), (.fz ((eL 1 eI) (a1.args)))])), (3, (.box 90 [(fS (v1.1.f_Name)), (.fz ((eL 1 eI) (v1.1.f_Args))), (fI (v1.1.f_Result))]))]
def synthesisref11_operation_l1 (a0 : La) (a1 : Ru) (v1 : (S_api_Operator) × (Bool)) (v2 : (Int)) : Option (((Int)) ⊕ (((Unit) ⊕ (Int)))) := (bif (decide (v2 < (List.length a1.args : Int))) then (Option.bind ((Option.bind (idx a1.args v2) fun v3 => (bif (decide (v3 < 0)) then (some (true)) else (Option.bind (idx a1.args v2) fun v4 => (some ((decide ((List.length a0.symbols : Int) ≤ v4))))))) : Option ((Bool))) fun (v6 : (Bool)) => (bif v6 then (some (.inr (.inr 1))) else (Option.bind (idx a1.args v2) fun v7 => (Option.bind (idx a0.symbols v7) fun v8 => (Option.bind (idx v1.1.f_Args v2) fun v9 => (bif (v8.type != v9) then (some (.inr (.inr 3))) else (some (.inl ((w64 (v2 + 1))))))))))) else (some (.inr (.inl ()))))
def synthesisref11_operation (a0 : La) (a1 : Ru) : Option (Int) := (Option.bind (synthesisref09_Find (a1.op)) fun v1 => (bif (!v1.2) then (some 5) else (bif ((List.length a1.args : Int) != (List.length v1.1.f_Args : Int)) then (some 2) else (Option.bind (loopN (synthesisref11_operation_l1 a0 a1 v1) fuel (0)) fun (v10 : ((Unit) ⊕ (Int))) => Sum.elim (fun v11 => (Option.bind (idx a0.symbols a1.symbol) fun v12 => (bif (v12.type != v1.1.f_Result) then (some 3) else (some 0)))) (fun v13 => (some v13)) v10))))
theorem synthesisref11_operation_ok (a0 : La) (a1 : Ru) (r : Int) (h : synthesisref11_operation a0 a1 = some r) : PCall Try.prog 80 [eLa a0, eRu a1] (eI (r)) := by
 unfold synthesisref11_operation at h
 refine pcl [.one .keep] Try.func80 (by kernel_rfl) (by kernel_rfl) (by kernel_rfl) ?_
 refine cl 10 h (synthesisref09_Find_ok _) (by kernel_rfl) fun v1 h => ?_
 refine cd 13 h (by kernel_rfl) (fun h => ?_) fun h => ?_
 ·cases h; exact lq 5 (by kernel_rfl)
 refine cd 12 h (by kernel_rfl) (fun h => ?_) fun h => ?_
 ·cases h; exact lq 5 (by kernel_rfl)
 refine lpx 7 (fun v2 => ⟨73, [(2, (.ref 1 0 0)), (3, (.ref 2 0 0)), (5, (.ref 3 0 0)), (7, (fI (v2)))], (synthesisref11_operation_m0 a0 a1 v1), [3, 2, 1], []⟩) (fun v10 e st => Sum.elim (fun p => e = .exit 0 ∧ LeSt st ⟨73, [(2, (.ref 1 0 0)), (3, (.ref 2 0 0)), (5, (.ref 3 0 0))], (synthesisref11_operation_m0 a0 a1 v1), [3, 2, 1], []⟩) (fun p => e = .ret ∧ retX TT st Try.f80.results.toList [.one .keep] = some (eI (p))) v10) h (by kernel_rfl) (le_a (by kernel_rfl)) (fun v2 r h => ?_) fun v10 h e st' hq => ?_
 ·unfold synthesisref11_operation_l1 at h
  refine cd 9 h (by kernel_rfl) (fun h => ?_) fun h => ?_
  ·refine jn1 5 .normal (fun v6 => ⟨73, [(2, (.ref 1 0 0)), (3, (.ref 2 0 0)), (5, (.ref 3 0 0)), (7, (fI (v2))), (46, (fB (v6)))], (synthesisref11_operation_m0 a0 a1 v1), [3, 2, 1], []⟩) h (by kernel_rfl) (fun v6 h => ?_) fun v6 h => ?_
   ·refine dw 0 15 (by kernel_rfl) ?_
    refine ix nI 3 h (by kernel_rfl) fun v3 h => ?_
    refine gd 3 h (by kernel_rfl) (fun h => ?_) fun h => ?_
    ·cases h; exact lj 12 (by kernel_rfl)
    refine ix nI 3 h (by kernel_rfl) fun v4 h => ?_
    cases h; exact lj 8 (by kernel_rfl)
   refine cd 0 h (by kernel_rfl) (fun h => ?_) fun h => ?_
   ·cases h; exact lor 5 (by kernel_rfl)
   refine dw 2 15 (by kernel_rfl) ?_
   refine ix nI 5 h (by kernel_rfl) fun v7 h => ?_
   refine ix nSy 1 h (by kernel_rfl) fun v8 h => ?_
   refine ix nI 5 h (by kernel_rfl) fun v9 h => ?_
   refine cd 4 h (by kernel_rfl) (fun h => ?_) fun h => ?_
   ·cases h; exact lor 5 (by kernel_rfl)
   cases h; exact lj 6 (by kernel_rfl)
  cases h; exact lo 1 (by kernel_rfl)
 rcases v10 with v11 | v13
 ·try simp only [Sum.elim_inl, Sum.elim_inr] at h
  obtain ⟨rfl, hle⟩ := hq
  refine ⟨_, hle, ?_⟩
  refine dw 2 9 (by kernel_rfl) ?_
  refine ix nSy 4 h (by kernel_rfl) fun v12 h => ?_
  refine cd 7 h (by kernel_rfl) (fun h => ?_) fun h => ?_
  ·cases h; exact lq 5 (by kernel_rfl)
  cases h; exact lq 6 (by kernel_rfl)
 ·try simp only [Sum.elim_inl, Sum.elim_inr] at h
  obtain ⟨rfl, hret⟩ := hq
  refine ⟨_, LeSt.refl, ?_⟩
  cases h; exact lv hret

def synthesisref11_rule_m0 (a0 : La) (a1 : Ru) : List (Nat × AObj) := [(1, (.box 26 [(fS (a0.name)), (.fz ((eL 1 eI) (a0.inputs))), (.fz ((eL 2 eSy) (a0.symbols))), (.fz ((eL 9 eRu) (a0.rules)))])), (2, (.box 55 [(fI (a1.symbol)), (fI (a1.kind)), (fI (a1.input)), (fI (a1.const.type)), (fI (a1.const.num)), (fS (a1.const.text)), (.fz ((eL 4 eVaR) (a1.const.items))), (fS (a1.op)), (.fz ((eL 1 eI) (a1.args)))]))]
def synthesisref11_rule (a0 : La) (a1 : Ru) : Option (Int) := (Option.bind ((bif (decide (a1.symbol < 0)) then (some (true)) else (some ((decide ((List.length a0.symbols : Int) ≤ a1.symbol))))) : Option ((Bool))) fun (v2 : (Bool)) => (bif v2 then (some 1) else (Option.bind ((bif (decide (a1.kind < 1)) then (some (true)) else (bif (decide (3 < a1.kind)) then (some (true)) else (Option.bind (synthesisref11_zero (a1)) fun v3 => (some ((!v3)))))) : Option ((Bool))) fun (v5 : (Bool)) => (bif v5 then (some 4) else (Option.bind (idx a0.symbols a1.symbol) fun v6 => (bif (a1.kind == 1) then (Option.bind ((bif (decide (a1.input < 0)) then (some (true)) else (some ((decide ((List.length a0.inputs : Int) ≤ a1.input))))) : Option ((Bool))) fun (v8 : (Bool)) => (bif v8 then (some 1) else (Option.bind (idx a0.inputs a1.input) fun v9 => (bif (v9 != v6.type) then (some 3) else (some 0))))) else (bif (a1.kind == 2) then (Option.bind (synthesisref01_Check fuel (a1.const)) fun v10 => (bif (v10 != 0) then (some v10) else (bif (a1.const.type != v6.type) then (some 3) else (some 0)))) else (Option.bind (synthesisref11_operation (a0) (a1)) fun v11 => (some v11)))))))))
theorem synthesisref11_rule_ok (a0 : La) (a1 : Ru) (r : Int) (h : synthesisref11_rule a0 a1 = some r) : PCall Try.prog 57 [eLa a0, eRu a1] (eI (r)) := by
 unfold synthesisref11_rule at h
 refine pcl [.one .keep] Try.func57 (by kernel_rfl) (by kernel_rfl) (by kernel_rfl) ?_
 refine jn1 8 .normal (fun v2 => ⟨77, [(2, (.ref 1 0 0)), (3, (.ref 2 0 0)), (17, (fB (v2)))], (synthesisref11_rule_m0 a0 a1), [2, 1], []⟩) h (by kernel_rfl) (fun v2 h => ?_) fun v2 h => ?_
 ·refine gd 5 h (by kernel_rfl) (fun h => ?_) fun h => ?_
  ·cases h; exact lj 8 (by kernel_rfl)
  cases h; exact lj 8 (by kernel_rfl)
 refine cd 0 h (by kernel_rfl) (fun h => ?_) fun h => ?_
 ·cases h; exact lq 5 (by kernel_rfl)
 refine jn1 3 .normal (fun v5 => ⟨77, [(2, (.ref 1 0 0)), (3, (.ref 2 0 0)), (30, (fB (v5)))], (synthesisref11_rule_m0 a0 a1), [2, 1], []⟩) h (by kernel_rfl) (fun v5 h => ?_) fun v5 h => ?_
 ·refine gd 5 h (by kernel_rfl) (fun h => ?_) fun h => ?_
  ·cases h; exact lj 10 (by kernel_rfl)
  refine gd 5 h (by kernel_rfl) (fun h => ?_) fun h => ?_
  ·cases h; exact lj 5 (by kernel_rfl)
  refine cl 1 h (synthesisref11_zero_ok _) (by kernel_rfl) fun v3 h => ?_
  cases h; exact lj 3 (by kernel_rfl)
 refine cd 0 h (by kernel_rfl) (fun h => ?_) fun h => ?_
 ·cases h; exact lq 5 (by kernel_rfl)
 refine ix nSy 7 h (by kernel_rfl) fun v6 h => ?_
 refine cd 16 h (by kernel_rfl) (fun h => ?_) fun h => ?_
 ·refine jn1 2 .normal (fun v8 => ⟨77, [(2, (.ref 1 0 0)), (3, (.ref 2 0 0)), (5, (fI (v6.type))), (52, (fB (v8)))], (synthesisref11_rule_m0 a0 a1), [2, 1], []⟩) h (by kernel_rfl) (fun v8 h => ?_) fun v8 h => ?_
  ·refine gd 5 h (by kernel_rfl) (fun h => ?_) fun h => ?_
   ·cases h; exact lj 8 (by kernel_rfl)
   cases h; exact lj 8 (by kernel_rfl)
  refine cd 0 h (by kernel_rfl) (fun h => ?_) fun h => ?_
  ·cases h; exact lq 5 (by kernel_rfl)
  refine ix nI 8 h (by kernel_rfl) fun v9 h => ?_
  refine cd 4 h (by kernel_rfl) (fun h => ?_) fun h => ?_
  ·cases h; exact lq 5 (by kernel_rfl)
  cases h; exact lq 6 (by kernel_rfl)
 refine cd 5 h (by kernel_rfl) (fun h => ?_) fun h => ?_
 ·refine cl 5 h (synthesisref01_Check_ok _ _) (by kernel_rfl) fun v10 h => ?_
  refine cd 7 h (by kernel_rfl) (fun h => ?_) fun h => ?_
  ·cases h; exact lq 6 (by kernel_rfl)
  refine cd 10 h (by kernel_rfl) (fun h => ?_) fun h => ?_
  ·cases h; exact lq 5 (by kernel_rfl)
  cases h; exact lq 6 (by kernel_rfl)
 refine cl 5 h (synthesisref11_operation_ok _ _) (by kernel_rfl) fun v11 h => ?_
 cases h; exact lq 3 (by kernel_rfl)

def synthesisref11_SameInts_l1 (a0 : List Int) (a1 : List Int) (v1 : (Int)) : Option (((Int)) ⊕ (((Unit) ⊕ (Bool)))) := (bif (decide (v1 < (List.length a0 : Int))) then (Option.bind (idx a0 v1) fun v2 => (Option.bind (idx a1 v1) fun v3 => (bif (v2 != v3) then (some (.inr (.inr false))) else (some (.inl ((w64 (v1 + 1)))))))) else (some (.inr (.inl ()))))
def synthesisref11_SameInts (a0 : List Int) (a1 : List Int) : Option (Bool) := (bif ((List.length a0 : Int) != (List.length a1 : Int)) then (some false) else (Option.bind (loopN (synthesisref11_SameInts_l1 a0 a1) fuel (0)) fun (v4 : ((Unit) ⊕ (Bool))) => Sum.elim (fun v5 => (some true)) (fun v6 => (some v6)) v4))
theorem synthesisref11_SameInts_ok (a0 : List Int) (a1 : List Int) (r : Bool) (h : synthesisref11_SameInts a0 a1 = some r) : PCall Try.prog 13 [(eL 1 eI) a0, (eL 1 eI) a1] (eB (r)) := by
 unfold synthesisref11_SameInts at h
 refine pcl [.one .keep] Try.func13 (by kernel_rfl) (by kernel_rfl) (by kernel_rfl) ?_
 refine cd 13 h (by kernel_rfl) (fun h => ?_) fun h => ?_
 ·cases h; exact lq 5 (by kernel_rfl)
 refine lpx 7 (fun v1 => ⟨26, [(0, (.fz ((eL 1 eI) (a0)))), (1, (.fz ((eL 1 eI) (a1)))), (5, (fI (v1)))], [], [], []⟩) (fun v4 e st => Sum.elim (fun p => e = .exit 0 ∧ LeSt st ⟨26, [], [], [], []⟩) (fun p => e = .ret ∧ retX TT st Try.f13.results.toList [.one .keep] = some (eB (p))) v4) h (by kernel_rfl) (le_a (by kernel_rfl)) (fun v1 r h => ?_) fun v4 h e st' hq => ?_
 ·unfold synthesisref11_SameInts_l1 at h
  refine cd 8 h (by kernel_rfl) (fun h => ?_) fun h => ?_
  ·refine dw 4 8 (by kernel_rfl) ?_
   refine ix nI 2 h (by kernel_rfl) fun v2 h => ?_
   refine ix nI 3 h (by kernel_rfl) fun v3 h => ?_
   refine cd 4 h (by kernel_rfl) (fun h => ?_) fun h => ?_
   ·cases h; exact lor 5 (by kernel_rfl)
   cases h; exact lj 6 (by kernel_rfl)
  cases h; exact lo 1 (by kernel_rfl)
 rcases v4 with v5 | v6
 ·try simp only [Sum.elim_inl, Sum.elim_inr] at h
  obtain ⟨rfl, hle⟩ := hq
  refine ⟨_, hle, ?_⟩
  cases h; exact lq 5 (by kernel_rfl)
 ·try simp only [Sum.elim_inl, Sum.elim_inr] at h
  obtain ⟨rfl, hret⟩ := hq
  refine ⟨_, LeSt.refl, ?_⟩
  cases h; exact lv hret

def synthesisref11_SameRule (a0 : Ru) (a1 : Ru) : Option (Bool) := (Option.bind ((bif (a0.symbol == a1.symbol) then (bif (a0.kind == a1.kind) then (bif (a0.input == a1.input) then (bif (a0.op.toList == a1.op.toList) then (Option.bind (synthesisref11_SameInts (a0.args) (a1.args)) fun v1 => (bif v1 then (Option.bind (synthesisref01_Equal (a0.const) (a1.const)) fun v2 => (some (v2))) else (some (false)))) else (some (false))) else (some (false))) else (some (false))) else (some (false))) : Option ((Bool))) fun (v4 : (Bool)) => (some v4))
theorem synthesisref11_SameRule_ok (a0 : Ru) (a1 : Ru) (r : Bool) (h : synthesisref11_SameRule a0 a1 = some r) : PCall Try.prog 58 [eRu a0, eRu a1] (eB (r)) := by
 unfold synthesisref11_SameRule at h
 refine pcl [.one .keep] Try.func58 (by kernel_rfl) (by kernel_rfl) (by kernel_rfl) ?_
 refine jn1 7 .normal (fun v4 => ⟨45, [(4, (fB (v4)))], [], [], []⟩) h (by kernel_rfl) (fun v4 h => ?_) fun v4 h => ?_
 ·refine gd 7 h (by kernel_rfl) (fun h => ?_) fun h => ?_
  ·refine gd 7 h (by kernel_rfl) (fun h => ?_) fun h => ?_
   ·refine gd 7 h (by kernel_rfl) (fun h => ?_) fun h => ?_
    ·refine gd 7 h (by kernel_rfl) (fun h => ?_) fun h => ?_
     ·refine cl 4 h (synthesisref11_SameInts_ok _ _) (by kernel_rfl) fun v1 h => ?_
      refine gd 2 h (by kernel_rfl) (fun h => ?_) fun h => ?_
      ·refine cl 4 h (synthesisref01_Equal_ok _ _) (by kernel_rfl) fun v2 h => ?_
       cases h; exact lj 3 (by kernel_rfl)
      cases h; exact lj 8 (by kernel_rfl)
     cases h; exact lj 15 (by kernel_rfl)
    cases h; exact lj 22 (by kernel_rfl)
   cases h; exact lj 29 (by kernel_rfl)
  cases h; exact lj 36 (by kernel_rfl)
 cases h; exact lq 1 (by kernel_rfl)

def synthesisref11_Check_m0 (a0 : La) : List (Nat × AObj) := [(1, (.box 26 [(fS (a0.name)), (.fz ((eL 1 eI) (a0.inputs))), (.fz ((eL 2 eSy) (a0.symbols))), (.fz ((eL 9 eRu) (a0.rules)))]))]
def synthesisref11_Check_l1 (a0 : La) (v9 : (Int)) (v12 : (Int)) : Option (((Int)) ⊕ (((Unit) ⊕ (Int)))) := (bif (decide (v12 < v9)) then (Option.bind (idx a0.symbols v12) fun v13 => (Option.bind (idx a0.symbols v9) fun v14 => (bif (v13.name.toList == v14.name.toList) then (some (.inr (.inr 6))) else (some (.inl ((w64 (v12 + 1)))))))) else (some (.inr (.inl ()))))
def synthesisref11_Check_l2 (a0 : La) (v22 : (Int)) (v25 : (Int)) : Option (((Int)) ⊕ (((Unit) ⊕ (Int)))) := (bif (decide (v25 < v22)) then (Option.bind (idx a0.rules v25) fun v26 => (Option.bind (idx a0.rules v22) fun v27 => (Option.bind (synthesisref11_SameRule (v26) (v27)) fun v28 => (bif v28 then (some (.inr (.inr 6))) else (some (.inl ((w64 (v25 + 1))))))))) else (some (.inr (.inl ()))))
def synthesisref11_Check_l3 (a0 : La) (v22 : (Int)) : Option (((Int)) ⊕ (((Unit) ⊕ (Int)))) := (bif (decide (v22 < (List.length a0.rules : Int))) then (Option.bind (idx a0.rules v22) fun v23 => (Option.bind (synthesisref11_rule (a0) (v23)) fun v24 => (bif (v24 != 0) then (some (.inr (.inr v24))) else (Option.bind (loopN (synthesisref11_Check_l2 a0 v22) fuel (0)) fun (v29 : ((Unit) ⊕ (Int))) => Sum.elim (fun v30 => (some (.inl ((w64 (v22 + 1)))))) (fun v31 => (some (.inr (.inr v31)))) v29)))) else (some (.inr (.inl ()))))
def synthesisref11_Check_l4 (a0 : La) (v9 : (Int)) : Option (((Int)) ⊕ (((Unit) ⊕ (Int)))) := (bif (decide (v9 < (List.length a0.symbols : Int))) then (Option.bind (idx a0.symbols v9) fun v10 => (Option.bind (synthesisref11_Name (v10.name)) fun v11 => (bif (!v11) then (some (.inr (.inr 5))) else (Option.bind (loopN (synthesisref11_Check_l1 a0 v9) fuel (0)) fun (v15 : ((Unit) ⊕ (Int))) => Sum.elim (fun v16 => (Option.bind (idx a0.symbols v9) fun v17 => (Option.bind (synthesisref11_typed (v17.type)) fun v18 => (bif (!v18) then (some (.inr (.inr 3))) else (some (.inl ((w64 (v9 + 1))))))))) (fun v19 => (some (.inr (.inr v19)))) v15)))) else (some (.inr (.inl ()))))
def synthesisref11_Check_l5 (a0 : La) (v2 : (Int)) : Option (((Int)) ⊕ (((Unit) ⊕ (Int)))) := (bif (decide (v2 < (List.length a0.inputs : Int))) then (Option.bind (idx a0.inputs v2) fun v3 => (Option.bind (synthesisref11_typed (v3)) fun v4 => (bif (!v4) then (some (.inr (.inr 3))) else (some (.inl ((w64 (v2 + 1)))))))) else (some (.inr (.inl ()))))
def synthesisref11_Check (a0 : La) : Option (Int) := (Option.bind (synthesisref11_Name (a0.name)) fun v1 => (bif (!v1) then (some 5) else (bif (decide (4 < (List.length a0.inputs : Int))) then (some 2) else (Option.bind (loopN (synthesisref11_Check_l5 a0) fuel (0)) fun (v5 : ((Unit) ⊕ (Int))) => Sum.elim (fun v6 => (Option.bind ((bif (decide ((List.length a0.symbols : Int) < 1)) then (some (true)) else (some ((decide (16 < (List.length a0.symbols : Int)))))) : Option ((Bool))) fun (v8 : (Bool)) => (bif v8 then (some 2) else (Option.bind (loopN (synthesisref11_Check_l4 a0) fuel (0)) fun (v20 : ((Unit) ⊕ (Int))) => Sum.elim (fun v21 => (bif (decide (96 < (List.length a0.rules : Int))) then (some 2) else (Option.bind (loopN (synthesisref11_Check_l3 a0) fuel (0)) fun (v32 : ((Unit) ⊕ (Int))) => Sum.elim (fun v33 => (some 0)) (fun v34 => (some v34)) v32))) (fun v35 => (some v35)) v20)))) (fun v36 => (some v36)) v5))))
theorem synthesisref11_Check_ok (a0 : La) (r : Int) (h : synthesisref11_Check a0 = some r) : PCall Try.prog 32 [eLa a0] (eI (r)) := by
 unfold synthesisref11_Check at h
 refine pcl [.one .keep] Try.func32 (by kernel_rfl) (by kernel_rfl) (by kernel_rfl) ?_
 refine cl 10 h (synthesisref11_Name_ok _) (by kernel_rfl) fun v1 h => ?_
 refine cd 2 h (by kernel_rfl) (fun h => ?_) fun h => ?_
 ·cases h; exact lq 5 (by kernel_rfl)
 refine cd 9 h (by kernel_rfl) (fun h => ?_) fun h => ?_
 ·cases h; exact lq 5 (by kernel_rfl)
 refine lpx 7 (fun v2 => ⟨119, [(1, (.ref 1 0 0)), (3, (fI (v2)))], (synthesisref11_Check_m0 a0), [1], []⟩) (fun v5 e st => Sum.elim (fun p => e = .exit 0 ∧ LeSt st ⟨119, [(1, (.ref 1 0 0))], (synthesisref11_Check_m0 a0), [1], []⟩) (fun p => e = .ret ∧ retX TT st Try.f32.results.toList [.one .keep] = some (eI (p))) v5) h (by kernel_rfl) (le_a (by kernel_rfl)) (fun v2 r h => ?_) fun v5 h e st' hq => ?_
 ·unfold synthesisref11_Check_l5 at h
  refine cd 9 h (by kernel_rfl) (fun h => ?_) fun h => ?_
  ·refine ix nI 8 h (by kernel_rfl) fun v3 h => ?_
   refine cl 1 h (synthesisref11_typed_ok _) (by kernel_rfl) fun v4 h => ?_
   refine cd 2 h (by kernel_rfl) (fun h => ?_) fun h => ?_
   ·cases h; exact lor 5 (by kernel_rfl)
   cases h; exact lj 6 (by kernel_rfl)
  cases h; exact lo 1 (by kernel_rfl)
 rcases v5 with v6 | v36
 ·try simp only [Sum.elim_inl, Sum.elim_inr] at h
  obtain ⟨rfl, hle⟩ := hq
  refine ⟨_, hle, ?_⟩
  refine jn1 2 .normal (fun v8 => ⟨119, [(1, (.ref 1 0 0)), (40, (fB (v8)))], (synthesisref11_Check_m0 a0), [1], []⟩) h (by kernel_rfl) (fun v8 h => ?_) fun v8 h => ?_
  ·refine gd 6 h (by kernel_rfl) (fun h => ?_) fun h => ?_
   ·cases h; exact lj 6 (by kernel_rfl)
   cases h; exact lj 6 (by kernel_rfl)
  refine cd 0 h (by kernel_rfl) (fun h => ?_) fun h => ?_
  ·cases h; exact lq 5 (by kernel_rfl)
  refine lpx 7 (fun v9 => ⟨119, [(1, (.ref 1 0 0)), (4, (fI (v9)))], (synthesisref11_Check_m0 a0), [1], []⟩) (fun v20 e st => Sum.elim (fun p => e = .exit 2 ∧ LeSt st ⟨119, [(1, (.ref 1 0 0))], (synthesisref11_Check_m0 a0), [1], []⟩) (fun p => e = .ret ∧ retX TT st Try.f32.results.toList [.one .keep] = some (eI (p))) v20) h (by kernel_rfl) (le_a (by kernel_rfl)) (fun v9 r h => ?_) fun v20 h e st' hq => ?_
  ·unfold synthesisref11_Check_l4 at h
   refine cd 9 h (by kernel_rfl) (fun h => ?_) fun h => ?_
   ·refine ix nSy 9 h (by kernel_rfl) fun v10 h => ?_
    refine cl 2 h (synthesisref11_Name_ok _) (by kernel_rfl) fun v11 h => ?_
    refine cd 2 h (by kernel_rfl) (fun h => ?_) fun h => ?_
    ·cases h; exact lor 5 (by kernel_rfl)
    refine lpx 7 (fun v12 => ⟨119, [(1, (.ref 1 0 0)), (4, (fI (v9))), (5, (fI (v12)))], (synthesisref11_Check_m0 a0), [1], []⟩) (fun v15 e st => Sum.elim (fun p => e = .exit 4 ∧ LeSt st ⟨119, [(1, (.ref 1 0 0)), (4, (fI (v9)))], (synthesisref11_Check_m0 a0), [1], []⟩) (fun p => e = .ret ∧ retX TT st Try.f32.results.toList [.one .keep] = some (eI (p))) v15) h (by kernel_rfl) (le_a (by kernel_rfl)) (fun v12 r h => ?_) fun v15 h e st' hq => ?_
    ·unfold synthesisref11_Check_l1 at h
     refine cd 7 h (by kernel_rfl) (fun h => ?_) fun h => ?_
     ·refine dw 4 12 (by kernel_rfl) ?_
      refine ix nSy 3 h (by kernel_rfl) fun v13 h => ?_
      refine ix nSy 5 h (by kernel_rfl) fun v14 h => ?_
      refine cd 5 h (by kernel_rfl) (fun h => ?_) fun h => ?_
      ·cases h; exact lor 5 (by kernel_rfl)
      cases h; exact lj 6 (by kernel_rfl)
     cases h; exact lo 1 (by kernel_rfl)
    rcases v15 with v16 | v19
    ·try simp only [Sum.elim_inl, Sum.elim_inr] at h
     obtain ⟨rfl, hle⟩ := hq
     refine ⟨_, hle, ?_⟩
     refine ix nSy 5 h (by kernel_rfl) fun v17 h => ?_
     refine cl 2 h (synthesisref11_typed_ok _) (by kernel_rfl) fun v18 h => ?_
     refine cd 2 h (by kernel_rfl) (fun h => ?_) fun h => ?_
     ·cases h; exact lor 5 (by kernel_rfl)
     cases h; exact lj 6 (by kernel_rfl)
    ·try simp only [Sum.elim_inl, Sum.elim_inr] at h
     obtain ⟨rfl, hret⟩ := hq
     refine ⟨_, LeSt.refl, ?_⟩
     cases h; exact lvo hret
   cases h; exact lo 1 (by kernel_rfl)
  rcases v20 with v21 | v35
  ·try simp only [Sum.elim_inl, Sum.elim_inr] at h
   obtain ⟨rfl, hle⟩ := hq
   refine ⟨_, hle, ?_⟩
   refine cd 8 h (by kernel_rfl) (fun h => ?_) fun h => ?_
   ·cases h; exact lq 5 (by kernel_rfl)
   refine lpx 7 (fun v22 => ⟨119, [(1, (.ref 1 0 0)), (6, (fI (v22)))], (synthesisref11_Check_m0 a0), [1], []⟩) (fun v32 e st => Sum.elim (fun p => e = .exit 6 ∧ LeSt st ⟨119, [], [], [], []⟩) (fun p => e = .ret ∧ retX TT st Try.f32.results.toList [.one .keep] = some (eI (p))) v32) h (by kernel_rfl) (le_a (by kernel_rfl)) (fun v22 r h => ?_) fun v32 h e st' hq => ?_
   ·unfold synthesisref11_Check_l3 at h
    refine cd 9 h (by kernel_rfl) (fun h => ?_) fun h => ?_
    ·refine dw 5 6 (by kernel_rfl) ?_
     refine ix nRu 4 h (by kernel_rfl) fun v23 h => ?_
     refine cl 2 h (synthesisref11_rule_ok _ _) (by kernel_rfl) fun v24 h => ?_
     refine cd 7 h (by kernel_rfl) (fun h => ?_) fun h => ?_
     ·cases h; exact lor 6 (by kernel_rfl)
     refine lpx 6 (fun v25 => ⟨119, [(1, (.ref 1 0 0)), (6, (fI (v22))), (8, (fI (v25)))], (synthesisref11_Check_m0 a0), [1], []⟩) (fun v29 e st => Sum.elim (fun p => e = .exit 8 ∧ LeSt st ⟨119, [(1, (.ref 1 0 0)), (6, (fI (v22)))], (synthesisref11_Check_m0 a0), [1], []⟩) (fun p => e = .ret ∧ retX TT st Try.f32.results.toList [.one .keep] = some (eI (p))) v29) h (by kernel_rfl) (le_a (by kernel_rfl)) (fun v25 r h => ?_) fun v29 h e st' hq => ?_
     ·unfold synthesisref11_Check_l2 at h
      refine cd 7 h (by kernel_rfl) (fun h => ?_) fun h => ?_
      ·refine dw 4 10 (by kernel_rfl) ?_
       refine ix nRu 3 h (by kernel_rfl) fun v26 h => ?_
       refine ix nRu 4 h (by kernel_rfl) fun v27 h => ?_
       refine cl 2 h (synthesisref11_SameRule_ok _ _) (by kernel_rfl) fun v28 h => ?_
       refine cd 1 h (by kernel_rfl) (fun h => ?_) fun h => ?_
       ·cases h; exact lor 5 (by kernel_rfl)
       cases h; exact lj 6 (by kernel_rfl)
      cases h; exact lo 1 (by kernel_rfl)
     rcases v29 with v30 | v31
     ·try simp only [Sum.elim_inl, Sum.elim_inr] at h
      obtain ⟨rfl, hle⟩ := hq
      refine ⟨_, hle, ?_⟩
      cases h; exact lj 5 (by kernel_rfl)
     ·try simp only [Sum.elim_inl, Sum.elim_inr] at h
      obtain ⟨rfl, hret⟩ := hq
      refine ⟨_, LeSt.refl, ?_⟩
      cases h; exact lvo hret
    cases h; exact lo 1 (by kernel_rfl)
   rcases v32 with v33 | v34
   ·try simp only [Sum.elim_inl, Sum.elim_inr] at h
    obtain ⟨rfl, hle⟩ := hq
    refine ⟨_, hle, ?_⟩
    cases h; exact lq 5 (by kernel_rfl)
   ·try simp only [Sum.elim_inl, Sum.elim_inr] at h
    obtain ⟨rfl, hret⟩ := hq
    refine ⟨_, LeSt.refl, ?_⟩
    cases h; exact lv hret
  ·try simp only [Sum.elim_inl, Sum.elim_inr] at h
   obtain ⟨rfl, hret⟩ := hq
   refine ⟨_, LeSt.refl, ?_⟩
   cases h; exact lv hret
 ·try simp only [Sum.elim_inl, Sum.elim_inr] at h
  obtain ⟨rfl, hret⟩ := hq
  refine ⟨_, LeSt.refl, ?_⟩
  cases h; exact lv hret

def synthesisref38_Check_l1 (a1 : List Int) (v2 : (Int)) : Option (((Int)) ⊕ (((Unit) ⊕ (Int)))) := (bif (decide (v2 < (List.length a1 : Int))) then (Option.bind ((Option.bind (idx a1 v2) fun v3 => (bif (decide (v3 < 0)) then (some (true)) else (Option.bind (idx a1 v2) fun v4 => (some ((decide (1000 < v4))))))) : Option ((Bool))) fun (v6 : (Bool)) => (bif v6 then (some (.inr (.inr 1))) else (some (.inl ((w64 (v2 + 1))))))) else (some (.inr (.inl ()))))
def synthesisref38_Check (a0 : La) (a1 : List Int) : Option (Int) := (Option.bind (synthesisref11_Check (a0)) fun v1 => (bif (v1 != 0) then (some v1) else (bif ((List.length a1 : Int) != (List.length a0.rules : Int)) then (some 2) else (Option.bind (loopN (synthesisref38_Check_l1 a1) fuel (0)) fun (v7 : ((Unit) ⊕ (Int))) => Sum.elim (fun v8 => (some 0)) (fun v9 => (some v9)) v7))))
theorem synthesisref38_Check_ok (a0 : La) (a1 : List Int) (r : Int) (h : synthesisref38_Check a0 a1 = some r) : PCall Try.prog 12 [eLa a0, (eL 1 eI) a1] (eI (r)) := by
 unfold synthesisref38_Check at h
 refine pcl [.one .keep] Try.func12 (by kernel_rfl) (by kernel_rfl) (by kernel_rfl) ?_
 refine cl 9 h (synthesisref11_Check_ok _) (by kernel_rfl) fun v1 h => ?_
 refine cd 7 h (by kernel_rfl) (fun h => ?_) fun h => ?_
 ·cases h; exact lq 6 (by kernel_rfl)
 refine cd 11 h (by kernel_rfl) (fun h => ?_) fun h => ?_
 ·cases h; exact lq 5 (by kernel_rfl)
 refine lpx 7 (fun v2 => ⟨36, [(1, (.fz ((eL 1 eI) (a1)))), (6, (fI (v2)))], [], [], []⟩) (fun v7 e st => Sum.elim (fun p => e = .exit 0 ∧ LeSt st ⟨36, [], [], [], []⟩) (fun p => e = .ret ∧ retX TT st Try.f12.results.toList [.one .keep] = some (eI (p))) v7) h (by kernel_rfl) (le_a (by kernel_rfl)) (fun v2 r h => ?_) fun v7 h e st' hq => ?_
 ·unfold synthesisref38_Check_l1 at h
  refine cd 8 h (by kernel_rfl) (fun h => ?_) fun h => ?_
  ·refine jn1 4 .normal (fun v6 => ⟨36, [(1, (.fz ((eL 1 eI) (a1)))), (6, (fI (v2))), (35, (fB (v6)))], [], [], []⟩) h (by kernel_rfl) (fun v6 h => ?_) fun v6 h => ?_
   ·refine ix nI 3 h (by kernel_rfl) fun v3 h => ?_
    refine gd 3 h (by kernel_rfl) (fun h => ?_) fun h => ?_
    ·cases h; exact lj 7 (by kernel_rfl)
    refine ix nI 2 h (by kernel_rfl) fun v4 h => ?_
    cases h; exact lj 4 (by kernel_rfl)
   refine cd 0 h (by kernel_rfl) (fun h => ?_) fun h => ?_
   ·cases h; exact lor 5 (by kernel_rfl)
   cases h; exact lj 6 (by kernel_rfl)
  cases h; exact lo 1 (by kernel_rfl)
 rcases v7 with v8 | v9
 ·try simp only [Sum.elim_inl, Sum.elim_inr] at h
  obtain ⟨rfl, hle⟩ := hq
  refine ⟨_, hle, ?_⟩
  cases h; exact lq 5 (by kernel_rfl)
 ·try simp only [Sum.elim_inl, Sum.elim_inr] at h
  obtain ⟨rfl, hret⟩ := hq
  refine ⟨_, LeSt.refl, ?_⟩
  cases h; exact lv hret

def synthesisref38_spread_l1 (a0 : List (List Int)) (a1 : List Int) (a2 : Int) (r40 : (List (List Int)) → (List Int) → (Int) → Option (Int)) (v1 : (Int) × (Int)) : Option (((Int) × (Int)) ⊕ ((Int))) := (bif (decide (v1.2 ≤ a2)) then (Option.bind ((Option.bind ((Option.bind (cutL a1 1 (List.length a1)) fun v2 => (Option.bind (r40 (a0) (v2) ((w64 (a2 - v1.2)))) fun v3 => (Option.bind ((bif (decide (v3 < 0)) then (some (true)) else (Option.bind (idx a0 v1.2) fun v4 => (Option.bind (idx a1 0) fun v5 => (Option.bind (idx v4 v5) fun v6 => (some ((decide (v6 < 0)))))))) : Option ((Bool))) fun (v8 : (Bool)) => (bif v8 then (some (.inr ())) else (Option.bind ((bif (decide (v1.1 < 0)) then (some (true)) else (Option.bind (idx a0 v1.2) fun v9 => (Option.bind (idx a1 0) fun v10 => (Option.bind (idx v9 v10) fun v11 => (some ((decide ((w64 (v11 + v3)) < v1.1)))))))) : Option ((Bool))) fun (v13 : (Bool)) => (bif v13 then (Option.bind (idx a0 v1.2) fun v14 => (Option.bind (idx a1 0) fun v15 => (Option.bind (idx v14 v15) fun v16 => (some (.inl ((w64 (v16 + v3)))))))) else (some (.inl (v1.1))))))))) : Option ((((Int)) ⊕ (Unit)))) fun (v17 : (((Int)) ⊕ (Unit))) => Sum.elim (fun v18 => (some (v18))) (fun v19 => (some (v1.1))) v17) : Option ((Int))) fun (v21 : (Int)) => (some (.inl (v21, (w64 (v1.2 + 1)))))) else (some (.inr (v1.1))))
def synthesisref38_spread_b (r40 : (List (List Int)) → (List Int) → (Int) → Option (Int)) (a0 : List (List Int)) (a1 : List Int) (a2 : Int) : Option (Int) := (bif ((List.length a1 : Int) == 0) then (bif (a2 == 0) then (some 0) else (some (-1))) else (Option.bind (loopN (synthesisref38_spread_l1 a0 a1 a2 r40) fuel ((-1), 1)) fun (v23 : (Int)) => (some v23)))
theorem synthesisref38_spread_b_ok (r40 : (List (List Int)) → (List Int) → (Int) → Option (Int)) (ih40 : ∀ (x0 : List (List Int)) (x1 : List Int) (x2 : Int) r, r40 x0 x1 x2 = some r → PCall Try.prog 40 [(eL 1 (eL 1 eI)) x0, (eL 1 eI) x1, eI x2] (eI (r))) (a0 : List (List Int)) (a1 : List Int) (a2 : Int) (r : Int) (h : synthesisref38_spread_b r40 a0 a1 a2 = some r) : PCall Try.prog 40 [(eL 1 (eL 1 eI)) a0, (eL 1 eI) a1, eI a2] (eI (r)) := by
 unfold synthesisref38_spread_b at h
 refine pcl [.one .keep] Try.func40 (by kernel_rfl) (by kernel_rfl) (by kernel_rfl) ?_
 refine cd 11 h (by kernel_rfl) (fun h => ?_) fun h => ?_
 ·refine cd 6 h (by kernel_rfl) (fun h => ?_) fun h => ?_
  ·cases h; exact lq 5 (by kernel_rfl)
  cases h; exact lq 6 (by kernel_rfl)
 refine lp1 11 (fun v1 => ⟨70, [(0, (.fz ((eL 1 (eL 1 eI)) (a0)))), (1, (.fz ((eL 1 eI) (a1)))), (2, (fI (a2))), (7, (fI (v1.1))), (8, (fI (v1.2)))], [], [], []⟩) (.exit 0) (fun v23 => ⟨70, [(7, (fI (v23)))], [], [], []⟩) h (by kernel_rfl) (by kernel_rfl) (fun v1 r h => ?_) fun v23 h => ?_
 ·unfold synthesisref38_spread_l1 at h
  refine cd 7 h (by kernel_rfl) (fun h => ?_) fun h => ?_
  ·refine jn1 2 .normal (fun v21 => ⟨70, [(0, (.fz ((eL 1 (eL 1 eI)) (a0)))), (1, (.fz ((eL 1 eI) (a1)))), (2, (fI (a2))), (7, (fI (v21))), (8, (fI (v1.2)))], [], [], []⟩) h (by kernel_rfl) (fun v21 h => ?_) fun v21 h => ?_
   ·refine jnQ 1 (fun v17 e st => Sum.elim (fun p => e = .normal ∧ LeSt st ⟨70, [(0, (.fz ((eL 1 (eL 1 eI)) (a0)))), (1, (.fz ((eL 1 eI) (a1)))), (2, (fI (a2))), (7, (fI (p))), (8, (fI (v1.2)))], [], [], []⟩) (fun p => e = .exit 1 ∧ LeSt st ⟨70, [(0, (.fz ((eL 1 (eL 1 eI)) (a0)))), (1, (.fz ((eL 1 eI) (a1)))), (2, (fI (a2))), (7, (fI (v1.1))), (8, (fI (v1.2)))], [], [], []⟩) v17) h (by kernel_rfl) (fun v17 h => ?_) fun v17 h e st' hq => ?_
    ·obtain ⟨v2, hv2, h⟩ := Option.bind_eq_some_iff.1 h
     refine nst 4 (s_cutL (t := 22) (x := (.tmp 21)) (lo := (some (.const (.int .i64 1)))) (hi := none) (d := tt22) (e := 3) (de := tt3) (size := 1) (enc := eI) (xs := a1) (l := (some 1)) (h := none) hv2 tt_ok (by kernel_rfl) (by kernel_rfl) (by kernel_rfl) (by kernel_rfl) (by kernel_rfl) (by kernel_rfl) (by kernel_rfl) (by kernel_rfl)) (by kernel_rfl) ?_
     refine cl 3 h (ih40 _ _ _) (by kernel_rfl) fun v3 h => ?_
     refine jn1 4 .normal (fun v8 => ⟨70, [(0, (.fz ((eL 1 (eL 1 eI)) (a0)))), (1, (.fz ((eL 1 eI) (a1)))), (2, (fI (a2))), (7, (fI (v1.1))), (8, (fI (v1.2))), (9, (fI (v3))), (40, (fB (v8)))], [], [], []⟩) h (by kernel_rfl) (fun v8 h => ?_) fun v8 h => ?_
     ·refine dw 0 10 (by kernel_rfl) ?_
      refine gd 3 h (by kernel_rfl) (fun h => ?_) fun h => ?_
      ·cases h; exact lj 13 (by kernel_rfl)
      refine ix (nL 1 nI) 2 h (by kernel_rfl) fun v4 h => ?_
      refine ix nI 2 h (by kernel_rfl) fun v5 h => ?_
      refine ix nI 2 h (by kernel_rfl) fun v6 h => ?_
      cases h; exact lj 4 (by kernel_rfl)
     refine cd 0 h (by kernel_rfl) (fun h => ?_) fun h => ?_
     ·cases h; exact lj 1 (by kernel_rfl)
     refine jn1 2 .normal (fun v13 => ⟨70, [(0, (.fz ((eL 1 (eL 1 eI)) (a0)))), (1, (.fz ((eL 1 eI) (a1)))), (2, (fI (a2))), (7, (fI (v1.1))), (8, (fI (v1.2))), (9, (fI (v3))), (57, (fB (v13)))], [], [], []⟩) h (by kernel_rfl) (fun v13 h => ?_) fun v13 h => ?_
     ·refine dw 0 15 (by kernel_rfl) ?_
      refine gd 3 h (by kernel_rfl) (fun h => ?_) fun h => ?_
      ·cases h; exact lj 16 (by kernel_rfl)
      refine ix (nL 1 nI) 2 h (by kernel_rfl) fun v9 h => ?_
      refine ix nI 2 h (by kernel_rfl) fun v10 h => ?_
      refine ix nI 1 h (by kernel_rfl) fun v11 h => ?_
      cases h; exact lj 8 (by kernel_rfl)
     refine cd 0 h (by kernel_rfl) (fun h => ?_) fun h => ?_
     ·refine dw 0 10 (by kernel_rfl) ?_
      refine ix (nL 1 nI) 2 h (by kernel_rfl) fun v14 h => ?_
      refine ix nI 2 h (by kernel_rfl) fun v15 h => ?_
      refine ix nI 1 h (by kernel_rfl) fun v16 h => ?_
      cases h; exact lj 6 (by kernel_rfl)
     cases h; exact lj 1 (by kernel_rfl)
    rcases v17 with v18 | v19
    ·try simp only [Sum.elim_inl, Sum.elim_inr] at h
     obtain ⟨rfl, hle⟩ := hq
     refine ⟨_, hle, ?_⟩
     cases h; exact lj 0 (by kernel_rfl)
    ·try simp only [Sum.elim_inl, Sum.elim_inr] at h
     obtain ⟨rfl, hle⟩ := hq
     refine ⟨_, hle, ?_⟩
     cases h; exact lj 0 (by kernel_rfl)
   cases h; exact lj 5 (by kernel_rfl)
  cases h; exact lo 1 (by kernel_rfl)
 cases h; exact lq 6 (by kernel_rfl)
def synthesisref38_spread : Nat → (List (List Int)) → (List Int) → (Int) → Option (Int)
  | 0 => fun _ _ _ => none
  | n + 1 => synthesisref38_spread_b (synthesisref38_spread n)
theorem synthesisref38_spread_ok : ∀ (n : Nat) (x0 : List (List Int)) (x1 : List Int) (x2 : Int) r, synthesisref38_spread n x0 x1 x2 = some r → PCall Try.prog 40 [(eL 1 (eL 1 eI)) x0, (eL 1 eI) x1, eI x2] (eI (r))
  | 0, _, _, _, _, h => by cases h
  | n + 1, x0, x1, x2, r, h => synthesisref38_spread_b_ok (synthesisref38_spread n) (synthesisref38_spread_ok n) x0 x1 x2 r h

def synthesisref38_Least_m0 (a0 : La) (v4 : (Int) × (Int) × (List (List Int))) (v6 : (Int) × (List Int)) : List (Nat × AObj) := [(1, (.box 26 [(fS (a0.name)), (.fz ((eL 1 eI) (a0.inputs))), (.fz ((eL 2 eSy) (a0.symbols))), (.fz ((eL 9 eRu) (a0.rules)))])), (2, (.frow 22 1 (List.map (eL 1 eI) (v4.2.2)))), (3, (.frow 3 1 (List.map eI ((List.set v6.2 (Int.toNat v6.1) (-1))))))]
def synthesisref38_Least_l1 (a0 : La) (a1 : List Int) (v4 : (Int) × (Int) × (List (List Int))) (v10 : (Int) × (List Int)) : Option (((Int) × (List Int)) ⊕ ((List Int))) := (bif (decide (v10.1 < (List.length a0.rules : Int))) then (Option.bind ((Option.bind (idx a0.rules v10.1) fun v11 => (Option.bind (synthesisref38_spread fuel (v4.2.2) (v11.args) ((w64 (v4.2.1 - 1)))) fun v12 => (Option.bind ((bif (decide (0 ≤ v12)) then (Option.bind (idx v10.2 v11.symbol) fun v13 => (bif (decide (v13 < 0)) then (some (true)) else (Option.bind (idx a1 v10.1) fun v14 => (Option.bind (idx v10.2 v11.symbol) fun v15 => (some ((decide ((w64 (v12 + v14)) < v15)))))))) else (some (false))) : Option ((Bool))) fun (v17 : (Bool)) => (bif v17 then (Option.bind (idx a1 v10.1) fun v18 => (Option.bind (idx v10.2 v11.symbol) fun v19 => (some ((List.set v10.2 (Int.toNat v11.symbol) (w64 (v12 + v18))))))) else (some (v10.2)))))) : Option ((List Int))) fun (v21 : (List Int)) => (some (.inl ((w64 (v10.1 + 1)), v21)))) else (some (.inr (v10.2))))
def synthesisref38_Least_l2 (v6 : (Int) × (List Int)) : Option (((Int) × (List Int)) ⊕ ((List Int))) := (bif (decide (v6.1 < (List.length (v6.2) : Int))) then (Option.bind (idx v6.2 v6.1) fun v7 => (some (.inl ((w64 (v6.1 + 1)), (List.set v6.2 (Int.toNat v6.1) (-1)))))) else (some (.inr (v6.2))))
def synthesisref38_Least_l3 (a0 : La) (a1 : List Int) (a2 : Int) (a3 : Int) (v4 : (Int) × (Int) × (List (List Int))) : Option (((Int) × (Int) × (List (List Int))) ⊕ ((Int))) := (bif (decide (v4.2.1 ≤ a3)) then (Option.bind ((Option.bind (mkL 8 0 (List.length a0.symbols : Int)) fun v5 => (Option.bind (loopN (synthesisref38_Least_l2) fuel (0, v5)) fun (v9 : (List Int)) => (Option.bind (loopN (synthesisref38_Least_l1 a0 a1 v4) fuel (0, v9)) fun (v23 : (List Int)) => (Option.bind (app 24 v4.2.2 ([v23] : List (List Int))) fun v24 => (Option.bind ((Option.bind (idx v23 a2) fun v25 => (bif (decide (0 ≤ v25)) then (bif (decide (v4.1 < 0)) then (some (true)) else (Option.bind (idx v23 a2) fun v26 => (some ((decide (v26 < v4.1)))))) else (some (false)))) : Option ((Bool))) fun (v28 : (Bool)) => (bif v28 then (Option.bind (idx v23 a2) fun v29 => (some (v29, v24))) else (some (v4.1, v24)))))))) : Option ((Int) × (List (List Int)))) fun (v31 : (Int) × (List (List Int))) => (some (.inl (v31.1, (w64 (v4.2.1 + 1)), v31.2)))) else (some (.inr (v4.1))))
def synthesisref38_Least (a0 : La) (a1 : List Int) (a2 : Int) (a3 : Int) : Option ((Int) × (Int)) := (Option.bind (synthesisref38_Check (a0) (a1)) fun v1 => (bif (v1 != 0) then (some (0, v1)) else (Option.bind ((bif (decide (a2 < 0)) then (some (true)) else (bif (decide ((List.length a0.symbols : Int) ≤ a2)) then (some (true)) else (bif (decide (a3 < 1)) then (some (true)) else (some ((decide (24 < a3))))))) : Option ((Bool))) fun (v3 : (Bool)) => (bif v3 then (some (0, 1)) else (Option.bind (loopN (synthesisref38_Least_l3 a0 a1 a2 a3) fuel ((-1), 1, ([([] : List Int)] : List (List Int)))) fun (v33 : (Int)) => (bif (decide (v33 < 0)) then (some (0, 12)) else (some (v33, 0))))))))
theorem synthesisref38_Least_ok (a0 : La) (a1 : List Int) (a2 : Int) (a3 : Int) (r : (Int) × (Int)) (h : synthesisref38_Least a0 a1 a2 a3 = some r) : PCall Try.prog 22 [eLa a0, (eL 1 eI) a1, eI a2, eI a3] (.tup [eI (r.1), eI (r.2)]) := by
 unfold synthesisref38_Least at h
 refine pcl [.one .keep, .one .keep] Try.func22 (by kernel_rfl) (by kernel_rfl) (by kernel_rfl) ?_
 refine cl 11 h (synthesisref38_Check_ok _ _) (by kernel_rfl) fun v1 h => ?_
 refine cd 7 h (by kernel_rfl) (fun h => ?_) fun h => ?_
 ·cases h; exact lq 7 (by kernel_rfl)
 refine jn1 3 .normal (fun v3 => ⟨141, [(1, (.fz ((eL 1 eI) (a1)))), (2, (fI (a2))), (3, (fI (a3))), (4, (.ref 1 0 0)), (41, (fB (v3)))], [(1, (.box 26 [(fS (a0.name)), (.fz ((eL 1 eI) (a0.inputs))), (.fz ((eL 2 eSy) (a0.symbols))), (.fz ((eL 9 eRu) (a0.rules)))]))], [1], []⟩) h (by kernel_rfl) (fun v3 h => ?_) fun v3 h => ?_
 ·refine gd 4 h (by kernel_rfl) (fun h => ?_) fun h => ?_
  ·cases h; exact lj 15 (by kernel_rfl)
  refine gd 7 h (by kernel_rfl) (fun h => ?_) fun h => ?_
  ·cases h; exact lj 8 (by kernel_rfl)
  refine gd 4 h (by kernel_rfl) (fun h => ?_) fun h => ?_
  ·cases h; exact lj 4 (by kernel_rfl)
  cases h; exact lj 4 (by kernel_rfl)
 refine cd 0 h (by kernel_rfl) (fun h => ?_) fun h => ?_
 ·cases h; exact lq 6 (by kernel_rfl)
 refine sst 3 (s_litrow (t := 65) (n := 1) (parts := #[(0, (.const (.slice none 0 0)))]) (d := tt65) (e := 22) (de := tt22) (enc := fun x : FV => x) (xs := List.replicate 1 (.atom (.slice none 0 0))) (id := 2) tt_ok (by kernel_rfl) (by kernel_rfl) (by kernel_rfl) (by kernel_rfl) (by kernel_rfl) rfl (by kernel_rfl) (by kernel_rfl) (by kernel_rfl)) (by kernel_rfl) ?_
 refine wle 0 (LeSt.trans (le_frowNil (e := 22) 2 1 1 (by decide) (by kernel_rfl)) (show LeSt _ ⟨141, [(1, (.fz ((eL 1 eI) (a1)))), (2, (fI (a2))), (3, (fI (a3))), (4, (.ref 1 0 0)), (41, (fB (v3))), (42, (.row 2 (List.length (([([] : List Int)] : List (List Int))))))], [(1, (.box 26 [(fS (a0.name)), (.fz ((eL 1 eI) (a0.inputs))), (.fz ((eL 2 eSy) (a0.symbols))), (.fz ((eL 9 eRu) (a0.rules)))])), (2, (.frow 22 1 (List.map (eL 1 eI) (([([] : List Int)] : List (List Int))))))], [2, 1], []⟩ from le_a (by kernel_rfl))) (by kernel_rfl) ?_
 refine lp1 12 (fun v4 => ⟨141, [(1, (.fz ((eL 1 eI) (a1)))), (2, (fI (a2))), (3, (fI (a3))), (4, (.ref 1 0 0)), (11, (.row 2 (List.length (v4.2.2)))), (12, (fI (v4.1))), (13, (fI (v4.2.1)))], [(1, (.box 26 [(fS (a0.name)), (.fz ((eL 1 eI) (a0.inputs))), (.fz ((eL 2 eSy) (a0.symbols))), (.fz ((eL 9 eRu) (a0.rules)))])), (2, (.frow 22 1 (List.map (eL 1 eI) (v4.2.2))))], [2, 1], []⟩) (.exit 0) (fun v33 => ⟨141, [(12, (fI (v33)))], [], [], []⟩) h (by kernel_rfl) (by kernel_rfl) (fun v4 r h => ?_) fun v33 h => ?_
 ·unfold synthesisref38_Least_l3 at h
  refine cd 7 h (by kernel_rfl) (fun h => ?_) fun h => ?_
  ·refine jn1 3 .normal (fun v31 => ⟨141, [(1, (.fz ((eL 1 eI) (a1)))), (2, (fI (a2))), (3, (fI (a3))), (4, (.ref 1 0 0)), (11, (.row 2 (List.length (v31.2)))), (12, (fI (v31.1))), (13, (fI (v4.2.1)))], [(1, (.box 26 [(fS (a0.name)), (.fz ((eL 1 eI) (a0.inputs))), (.fz ((eL 2 eSy) (a0.symbols))), (.fz ((eL 9 eRu) (a0.rules)))])), (2, (.frow 22 1 (List.map (eL 1 eI) (v31.2))))], [2, 1], []⟩) h (by kernel_rfl) (fun v31 h => ?_) fun v31 h => ?_
   ·obtain ⟨v5, hv5, h⟩ := Option.bind_eq_some_iff.1 h
    refine sst 5 (s_make (t := 22) (X := (.tmp 50)) (Y := (.tmp 50)) (id := 3) (k := .i64) (k' := .i64) (d := tt22) (e := 3) (de := tt3) (enc := eI) (zv := .int .i64 0) hv5 (by kernel_rfl) tt_ok (by kernel_rfl) (by kernel_rfl) (by kernel_rfl) rfl rfl rfl rfl rfl (by kernel_rfl) (by kernel_rfl) (by kernel_rfl)) (by kernel_rfl) ?_
    refine lp1 8 (fun v6 => ⟨141, [(1, (.fz ((eL 1 eI) (a1)))), (2, (fI (a2))), (3, (fI (a3))), (4, (.ref 1 0 0)), (11, (.row 2 (List.length (v4.2.2)))), (12, (fI (v4.1))), (13, (fI (v4.2.1))), (14, (.row 3 (List.length (v6.2)))), (15, (fI (v6.1)))], [(1, (.box 26 [(fS (a0.name)), (.fz ((eL 1 eI) (a0.inputs))), (.fz ((eL 2 eSy) (a0.symbols))), (.fz ((eL 9 eRu) (a0.rules)))])), (2, (.frow 22 1 (List.map (eL 1 eI) (v4.2.2)))), (3, (.frow 3 1 (List.map eI (v6.2))))], [3, 2, 1], []⟩) (.exit 2) (fun v9 => ⟨141, [(1, (.fz ((eL 1 eI) (a1)))), (2, (fI (a2))), (3, (fI (a3))), (4, (.ref 1 0 0)), (11, (.row 2 (List.length (v4.2.2)))), (12, (fI (v4.1))), (13, (fI (v4.2.1))), (14, (.row 3 (List.length (v9))))], [(1, (.box 26 [(fS (a0.name)), (.fz ((eL 1 eI) (a0.inputs))), (.fz ((eL 2 eSy) (a0.symbols))), (.fz ((eL 9 eRu) (a0.rules)))])), (2, (.frow 22 1 (List.map (eL 1 eI) (v4.2.2)))), (3, (.frow 3 1 (List.map eI (v9))))], [3, 2, 1], []⟩) h (by kernel_rfl) (by kernel_rfl) (fun v6 r h => ?_) fun v9 h => ?_
    ·unfold synthesisref38_Least_l2 at h
     refine nst 5 (n_len_row (t := 22) (x := (.tmp 53)) (d := tt22) (id := 3) (e2 := 3) (e := 3) (size := 1) (n := List.length (v6.2)) (xs := List.map eI (v6.2)) tt_ok (by kernel_rfl) (by kernel_rfl) rfl (by kernel_rfl) (by kernel_rfl) (by simp)) (by kernel_rfl) ?_
     refine cd 2 h (by kernel_rfl) (fun h => ?_) fun h => ?_
     ·obtain ⟨v7, hv7, h⟩ := Option.bind_eq_some_iff.1 h
      refine nst 6 (n_rowAddr (t := 22) (X := (.tmp 58)) (Y := (.tmp 59)) (id := 3) (k := .i64) (d := tt22) (e := 3) (de := tt3) (enc := eI) (xs := v6.2) (n := List.length (v6.2)) hv7 tt_ok (by kernel_rfl) (by kernel_rfl) (by kernel_rfl) (by kernel_rfl) (by kernel_rfl) (by kernel_rfl) (by kernel_rfl) rfl (by kernel_rfl)) (by kernel_rfl) ?_
      refine sst 0 (e_rowStore (t := 3) (X := (.tmp 60)) (Y := (.const (.int .i64 (-1)))) (id := 3) (d := tt3) (enc := eI) (xs := v6.2) (x := v7) (i := v6.1) (y := (-1)) (n := List.length (v6.2)) hv7 tt_ok (by kernel_rfl) (by kernel_rfl) (by kernel_rfl) (by kernel_rfl) (by kernel_rfl) rfl (by kernel_rfl) (fun _ => ⟨_, rfl, rfl⟩)) (by kernel_rfl) ?_
      refine wle 0 (LeSt.trans (show LeSt _ ⟨141, [(1, (.fz ((eL 1 eI) (a1)))), (2, (fI (a2))), (3, (fI (a3))), (4, (.ref 1 0 0)), (11, (.row 2 (List.length (v4.2.2)))), (12, (fI (v4.1))), (13, (fI (v4.2.1))), (14, (.row 3 (List.length (v6.2)))), (15, (fI (v6.1))), (58, (.row 3 (List.length (v6.2)))), (59, (fI (v6.1)))], (synthesisref38_Least_m0 a0 v4 v6), [3, 2, 1], []⟩ from le_a (by kernel_rfl)) (LeSt.trans (le_relen 3 (k := 2) (m := List.length (v6.2)) (n := List.length ((List.set v6.2 (Int.toNat v6.1) (-1)))) (by kernel_rfl) (by simp)) (show LeSt _ ⟨141, [(1, (.fz ((eL 1 eI) (a1)))), (2, (fI (a2))), (3, (fI (a3))), (4, (.ref 1 0 0)), (11, (.row 2 (List.length (v4.2.2)))), (12, (fI (v4.1))), (13, (fI (v4.2.1))), (14, (.row 3 (List.length ((List.set v6.2 (Int.toNat v6.1) (-1)))))), (15, (fI (v6.1))), (58, (.row 3 (List.length ((List.set v6.2 (Int.toNat v6.1) (-1)))))), (59, (fI (v6.1)))], (synthesisref38_Least_m0 a0 v4 v6), [3, 2, 1], []⟩ from le_a (by kernel_rfl)))) (by kernel_rfl) ?_
      cases h; exact lj 6 (by kernel_rfl)
     cases h; exact lo 1 (by kernel_rfl)
    refine lp1 6 (fun v10 => ⟨141, [(1, (.fz ((eL 1 eI) (a1)))), (2, (fI (a2))), (3, (fI (a3))), (4, (.ref 1 0 0)), (11, (.row 2 (List.length (v4.2.2)))), (12, (fI (v4.1))), (13, (fI (v4.2.1))), (14, (.row 3 (List.length (v10.2)))), (16, (fI (v10.1)))], [(1, (.box 26 [(fS (a0.name)), (.fz ((eL 1 eI) (a0.inputs))), (.fz ((eL 2 eSy) (a0.symbols))), (.fz ((eL 9 eRu) (a0.rules)))])), (2, (.frow 22 1 (List.map (eL 1 eI) (v4.2.2)))), (3, (.frow 3 1 (List.map eI (v10.2))))], [3, 2, 1], []⟩) (.exit 4) (fun v23 => ⟨141, [(1, (.fz ((eL 1 eI) (a1)))), (2, (fI (a2))), (3, (fI (a3))), (4, (.ref 1 0 0)), (11, (.row 2 (List.length (v4.2.2)))), (12, (fI (v4.1))), (13, (fI (v4.2.1))), (14, (.row 3 (List.length (v23))))], [(1, (.box 26 [(fS (a0.name)), (.fz ((eL 1 eI) (a0.inputs))), (.fz ((eL 2 eSy) (a0.symbols))), (.fz ((eL 9 eRu) (a0.rules)))])), (2, (.frow 22 1 (List.map (eL 1 eI) (v4.2.2)))), (3, (.frow 3 1 (List.map eI (v23))))], [3, 2, 1], []⟩) h (by kernel_rfl) (by kernel_rfl) (fun v10 r h => ?_) fun v23 h => ?_
    ·unfold synthesisref38_Least_l1 at h
     refine cd 9 h (by kernel_rfl) (fun h => ?_) fun h => ?_
     ·refine jn1 3 .normal (fun v21 => ⟨141, [(1, (.fz ((eL 1 eI) (a1)))), (2, (fI (a2))), (3, (fI (a3))), (4, (.ref 1 0 0)), (11, (.row 2 (List.length (v4.2.2)))), (12, (fI (v4.1))), (13, (fI (v4.2.1))), (14, (.row 3 (List.length (v21)))), (16, (fI (v10.1)))], [(1, (.box 26 [(fS (a0.name)), (.fz ((eL 1 eI) (a0.inputs))), (.fz ((eL 2 eSy) (a0.symbols))), (.fz ((eL 9 eRu) (a0.rules)))])), (2, (.frow 22 1 (List.map (eL 1 eI) (v4.2.2)))), (3, (.frow 3 1 (List.map eI (v21))))], [3, 2, 1], []⟩) h (by kernel_rfl) (fun v21 h => ?_) fun v21 h => ?_
      ·refine ix nRu 5 h (by kernel_rfl) fun v11 h => ?_
       refine clL 11 [(.row 73 2 (List.length (v4.2.2)) 22 1 (List.map (eL 1 eI) (v4.2.2)))] h (synthesisref38_spread_ok _ _ _ _) (lend_cons (lend_row (by kernel_rfl) (by kernel_rfl) (by simp)) (lend_nil)) (by kernel_rfl) (fun _ => by kernel_rfl) fun v12 h => ?_
       refine jn1 3 .normal (fun v17 => ⟨141, [(1, (.fz ((eL 1 eI) (a1)))), (2, (fI (a2))), (3, (fI (a3))), (4, (.ref 1 0 0)), (11, (.row 2 (List.length (v4.2.2)))), (12, (fI (v4.1))), (13, (fI (v4.2.1))), (14, (.row 3 (List.length (v10.2)))), (16, (fI (v10.1))), (17, (.ref 4 0 0)), (18, (fI (v12))), (102, (fB (v17)))], [(1, (.box 26 [(fS (a0.name)), (.fz ((eL 1 eI) (a0.inputs))), (.fz ((eL 2 eSy) (a0.symbols))), (.fz ((eL 9 eRu) (a0.rules)))])), (2, (.frow 22 1 (List.map (eL 1 eI) (v4.2.2)))), (3, (.frow 3 1 (List.map eI (v10.2)))), (4, (.box 55 [(fI (v11.symbol)), (fI (v11.kind)), (fI (v11.input)), (fI (v11.const.type)), (fI (v11.const.num)), (fS (v11.const.text)), (.fz ((eL 4 eVaR) (v11.const.items))), (fS (v11.op)), (.fz ((eL 1 eI) (v11.args)))]))], [4, 3, 2, 1], []⟩) h (by kernel_rfl) (fun v17 h => ?_) fun v17 h => ?_
       ·refine dw 0 21 (by kernel_rfl) ?_
        refine gd 3 h (by kernel_rfl) (fun h => ?_) fun h => ?_
        ·obtain ⟨v13, hv13, h⟩ := Option.bind_eq_some_iff.1 h
         refine nst 3 (n_rowAddr (t := 22) (X := (.tmp 82)) (Y := (.tmp 84)) (id := 3) (k := .i64) (d := tt22) (e := 3) (de := tt3) (enc := eI) (xs := v10.2) (n := List.length (v10.2)) hv13 tt_ok (by kernel_rfl) (by kernel_rfl) (by kernel_rfl) (by kernel_rfl) (by kernel_rfl) (by kernel_rfl) (by kernel_rfl) rfl (by kernel_rfl)) (by kernel_rfl) ?_
         refine nst 0 (n_rowLoad (t := 3) (X := (.tmp 85)) (id := 3) (d := tt3) (enc := eI) (xs := v10.2) (x := v13) (i := v11.symbol) (n := List.length (v10.2)) hv13 tt_ok (by kernel_rfl) (by kernel_rfl) (by kernel_rfl) (by kernel_rfl) (by kernel_rfl) rfl (fun _ => rfl)) (by kernel_rfl) ?_
         refine gd 2 h (by kernel_rfl) (fun h => ?_) fun h => ?_
         ·cases h; exact lj 16 (by kernel_rfl)
         refine ix nI 3 h (by kernel_rfl) fun v14 h => ?_
         obtain ⟨v15, hv15, h⟩ := Option.bind_eq_some_iff.1 h
         refine nst 5 (n_rowAddr (t := 22) (X := (.tmp 95)) (Y := (.tmp 97)) (id := 3) (k := .i64) (d := tt22) (e := 3) (de := tt3) (enc := eI) (xs := v10.2) (n := List.length (v10.2)) hv15 tt_ok (by kernel_rfl) (by kernel_rfl) (by kernel_rfl) (by kernel_rfl) (by kernel_rfl) (by kernel_rfl) (by kernel_rfl) rfl (by kernel_rfl)) (by kernel_rfl) ?_
         refine nst 0 (n_rowLoad (t := 3) (X := (.tmp 98)) (id := 3) (d := tt3) (enc := eI) (xs := v10.2) (x := v15) (i := v11.symbol) (n := List.length (v10.2)) hv15 tt_ok (by kernel_rfl) (by kernel_rfl) (by kernel_rfl) (by kernel_rfl) (by kernel_rfl) rfl (fun _ => rfl)) (by kernel_rfl) ?_
         cases h; exact lj 5 (by kernel_rfl)
        cases h; exact lj 23 (by kernel_rfl)
       refine cd 0 h (by kernel_rfl) (fun h => ?_) fun h => ?_
       ·refine dw 0 9 (by kernel_rfl) ?_
        refine ix nI 6 h (by kernel_rfl) fun v18 h => ?_
        obtain ⟨v19, hv19, h⟩ := Option.bind_eq_some_iff.1 h
        refine nst 3 (n_rowAddr (t := 22) (X := (.tmp 103)) (Y := (.tmp 105)) (id := 3) (k := .i64) (d := tt22) (e := 3) (de := tt3) (enc := eI) (xs := v10.2) (n := List.length (v10.2)) hv19 tt_ok (by kernel_rfl) (by kernel_rfl) (by kernel_rfl) (by kernel_rfl) (by kernel_rfl) (by kernel_rfl) (by kernel_rfl) rfl (by kernel_rfl)) (by kernel_rfl) ?_
        refine sst 0 (e_rowStore (t := 3) (X := (.tmp 112)) (Y := (.tmp 111)) (id := 3) (d := tt3) (enc := eI) (xs := v10.2) (x := v19) (i := v11.symbol) (y := (w64 (v12 + v18))) (n := List.length (v10.2)) hv19 tt_ok (by kernel_rfl) (by kernel_rfl) (by kernel_rfl) (by kernel_rfl) (by kernel_rfl) rfl (by kernel_rfl) (fun _ => ⟨_, rfl, rfl⟩)) (by kernel_rfl) ?_
        refine wle 0 (LeSt.trans (show LeSt _ ⟨141, [(1, (.fz ((eL 1 eI) (a1)))), (2, (fI (a2))), (3, (fI (a3))), (4, (.ref 1 0 0)), (11, (.row 2 (List.length (v4.2.2)))), (12, (fI (v4.1))), (13, (fI (v4.2.1))), (14, (.row 3 (List.length (v10.2)))), (16, (fI (v10.1))), (103, (.row 3 (List.length (v10.2)))), (105, (fI (v11.symbol))), (111, (fI ((w64 (v12 + v18)))))], [(1, (.box 26 [(fS (a0.name)), (.fz ((eL 1 eI) (a0.inputs))), (.fz ((eL 2 eSy) (a0.symbols))), (.fz ((eL 9 eRu) (a0.rules)))])), (2, (.frow 22 1 (List.map (eL 1 eI) (v4.2.2)))), (3, (.frow 3 1 (List.map eI ((List.set v10.2 (Int.toNat v11.symbol) (w64 (v12 + v18)))))))], [3, 2, 1], []⟩ from le_a (by kernel_rfl)) (LeSt.trans (le_relen 3 (k := 2) (m := List.length (v10.2)) (n := List.length ((List.set v10.2 (Int.toNat v11.symbol) (w64 (v12 + v18))))) (by kernel_rfl) (by simp)) (show LeSt _ ⟨141, [(1, (.fz ((eL 1 eI) (a1)))), (2, (fI (a2))), (3, (fI (a3))), (4, (.ref 1 0 0)), (11, (.row 2 (List.length (v4.2.2)))), (12, (fI (v4.1))), (13, (fI (v4.2.1))), (14, (.row 3 (List.length ((List.set v10.2 (Int.toNat v11.symbol) (w64 (v12 + v18))))))), (16, (fI (v10.1))), (103, (.row 3 (List.length ((List.set v10.2 (Int.toNat v11.symbol) (w64 (v12 + v18))))))), (105, (fI (v11.symbol))), (111, (fI ((w64 (v12 + v18)))))], [(1, (.box 26 [(fS (a0.name)), (.fz ((eL 1 eI) (a0.inputs))), (.fz ((eL 2 eSy) (a0.symbols))), (.fz ((eL 9 eRu) (a0.rules)))])), (2, (.frow 22 1 (List.map (eL 1 eI) (v4.2.2)))), (3, (.frow 3 1 (List.map eI ((List.set v10.2 (Int.toNat v11.symbol) (w64 (v12 + v18)))))))], [3, 2, 1], []⟩ from le_a (by kernel_rfl)))) (by kernel_rfl) ?_
        cases h; exact lj 1 (by kernel_rfl)
       cases h; exact lj 1 (by kernel_rfl)
      cases h; exact lj 5 (by kernel_rfl)
     cases h; exact lo 1 (by kernel_rfl)
    refine wle 4 (le_freezeTs (id := 3) (n := List.length (v23)) (e := 3) (size := 1) (xs := List.map eI (v23)) [14, 114] ⟨by kernel_rfl, by kernel_rfl, trivial⟩ (by kernel_rfl) (by simp)) (by kernel_rfl) ?_
    refine ap (nL 1 nI) 1 h (by kernel_rfl) fun v24 h => ?_
    refine jn1 3 .normal (fun v28 => ⟨141, [(1, (.fz ((eL 1 eI) (a1)))), (2, (fI (a2))), (3, (fI (a3))), (4, (.ref 1 0 0)), (11, (.row 2 (List.length (v24)))), (12, (fI (v4.1))), (13, (fI (v4.2.1))), (14, (.fz ((eL 1 eI) (v23)))), (133, (fB (v28)))], [(1, (.box 26 [(fS (a0.name)), (.fz ((eL 1 eI) (a0.inputs))), (.fz ((eL 2 eSy) (a0.symbols))), (.fz ((eL 9 eRu) (a0.rules)))])), (2, (.frow 22 1 (List.map (eL 1 eI) (v24))))], [2, 1], []⟩) h (by kernel_rfl) (fun v28 h => ?_) fun v28 h => ?_
    ·refine ix nI 3 h (by kernel_rfl) fun v25 h => ?_
     refine gd 3 h (by kernel_rfl) (fun h => ?_) fun h => ?_
     ·refine gd 3 h (by kernel_rfl) (fun h => ?_) fun h => ?_
      ·cases h; exact lj 9 (by kernel_rfl)
      refine ix nI 2 h (by kernel_rfl) fun v26 h => ?_
      cases h; exact lj 6 (by kernel_rfl)
     cases h; exact lj 12 (by kernel_rfl)
    refine cd 0 h (by kernel_rfl) (fun h => ?_) fun h => ?_
    ·refine ix nI 3 h (by kernel_rfl) fun v29 h => ?_
     cases h; exact lj 3 (by kernel_rfl)
    cases h; exact lj 1 (by kernel_rfl)
   cases h; exact lj 5 (by kernel_rfl)
  cases h; exact lo 1 (by kernel_rfl)
 refine cd 6 h (by kernel_rfl) (fun h => ?_) fun h => ?_
 ·cases h; exact lq 6 (by kernel_rfl)
 cases h; exact lq 8 (by kernel_rfl)

structure S_synthesislaw38_Want where
  f_Symbol : Int
  f_Most : Int
def eS_synthesislaw38_Want (x : S_synthesislaw38_Want) : FV := .agg [eI (x.f_Symbol), eI (x.f_Most)]
def synthesislaw38_WeightLeasts (a0 : La) (a1 : List Int) (a2 : S_synthesislaw38_Want) : Option (Bool) := (Option.bind ((Option.bind (synthesislaw38_few (a0) (a1)) fun v1 => (bif (!v1) then (some (true)) else (bif (decide (14 < a2.f_Most)) then (some ((decide (a2.f_Most ≤ 24)))) else (some (false))))) : Option ((Bool))) fun (v3 : (Bool)) => (bif v3 then (Option.bind (synthesislaw38_awake ) fun v4 => (some v4)) else (Option.bind (weight_Least (a0) (a1) (a2.f_Symbol) (a2.f_Most)) fun v5 => (Option.bind (synthesisref38_Least (a0) (a1) (a2.f_Symbol) (a2.f_Most)) fun v6 => (Option.bind ((bif (v5.1 == v6.1) then (bif (v5.2 == v6.2) then (Option.bind (synthesislaw38_awake ) fun v7 => (some (v7))) else (some (false))) else (some (false))) : Option ((Bool))) fun (v9 : (Bool)) => (some v9))))))
theorem synthesislaw38_WeightLeasts_ok (a0 : La) (a1 : List Int) (a2 : S_synthesislaw38_Want) (r : Bool) (h : synthesislaw38_WeightLeasts a0 a1 a2 = some r) : PCall Try.prog 5 [eLa a0, (eL 1 eI) a1, eS_synthesislaw38_Want a2] (eB (r)) := by
 unfold synthesislaw38_WeightLeasts at h
 refine pcl [.one .keep] Try.func5 (by kernel_rfl) (by kernel_rfl) (by kernel_rfl) ?_
 refine jn1 8 .normal (fun v3 => ⟨57, [(1, (.fz ((eL 1 eI) (a1)))), (3, (.ref 1 0 0)), (5, (.ref 2 0 0)), (24, (fB (v3)))], [(1, (.box 26 [(fS (a0.name)), (.fz ((eL 1 eI) (a0.inputs))), (.fz ((eL 2 eSy) (a0.symbols))), (.fz ((eL 9 eRu) (a0.rules)))])), (2, (.box 42 [(fI (a2.f_Symbol)), (fI (a2.f_Most))]))], [2, 1], []⟩) h (by kernel_rfl) (fun v3 h => ?_) fun v3 h => ?_
 ·refine cl 3 h (synthesislaw38_few_ok _ _) (by kernel_rfl) fun v1 h => ?_
  refine gd 2 h (by kernel_rfl) (fun h => ?_) fun h => ?_
  ·cases h; exact lj 10 (by kernel_rfl)
  refine gd 4 h (by kernel_rfl) (fun h => ?_) fun h => ?_
  ·cases h; exact lj 6 (by kernel_rfl)
  cases h; exact lj 6 (by kernel_rfl)
 refine cd 0 h (by kernel_rfl) (fun h => ?_) fun h => ?_
 ·refine cl 2 h (synthesislaw38_awake_ok) (by kernel_rfl) fun v4 h => ?_
  cases h; exact lq 3 (by kernel_rfl)
 refine cl 9 h (weight_Least_ok _ _ _ _) (by kernel_rfl) fun v5 h => ?_
 refine cl 14 h (synthesisref38_Least_ok _ _ _ _) (by kernel_rfl) fun v6 h => ?_
 refine jn1 7 .normal (fun v9 => ⟨57, [(6, (fB (v9)))], [], [], []⟩) h (by kernel_rfl) (fun v9 h => ?_) fun v9 h => ?_
 ·refine gd 5 h (by kernel_rfl) (fun h => ?_) fun h => ?_
  ·refine gd 5 h (by kernel_rfl) (fun h => ?_) fun h => ?_
   ·refine cl 0 h (synthesislaw38_awake_ok) (by kernel_rfl) fun v7 h => ?_
    cases h; exact lj 3 (by kernel_rfl)
   cases h; exact lj 4 (by kernel_rfl)
  cases h; exact lj 9 (by kernel_rfl)
 cases h; exact lq 1 (by kernel_rfl)

end Go.Proofs.Ytpcfkflhnkfjjaa
