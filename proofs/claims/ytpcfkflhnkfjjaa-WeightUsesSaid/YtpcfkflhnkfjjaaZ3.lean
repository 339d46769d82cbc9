/- Typed programs and what computes them. -/
import Derived.Test.YtpcfkflhnkfjjaaZ2
set_option linter.unusedVariables false
set_option linter.unusedSimpArgs false
set_option maxRecDepth 100000
namespace Go.Proofs.Ytpcfkflhnkfjjaa
open Go Go.RowKit Go.Proofs
attribute [local irreducible] NStep StepA EStep LeSt
def synthesisref11_operation_m0 (a0 : La) (a1 : Ru) (v1 : (S_api_Operator) × (Bool)) : List (Nat × AObj) := [(1, (.box 26 [(fS (a0.name)), (.fz ((eL 1 eI) (a0.inputs))), (.fz ((eL 2 eSy) (a0.symbols))), (.fz ((eL 9 eRu) (a0.rules)))])), (2, (.box 55 [(fI (a1.symbol)), (fI (a1.kind)), (fI (a1.input)), (fI (a1.const.type)), (fI (a1.const.num)), (fS (a1.const.text)), (.fz ((eL 4 eVaR) (a1.const.items))), (fS (a1.op)), (.fz ((eL 1 eI) (a1.args)))])), (3, (.box 90 [(fS (v1.1.f_Name)), (.fz ((eL 1 eI) (v1.1.f_Args))), (fI (v1.1.f_Result))]))]
def synthesisref11_operation_l1 (a0 : La) (a1 : Ru) (v1 : (S_api_Operator) × (Bool)) (v2 : (Int)) : Option (((Int)) ⊕ (((Unit) ⊕ (Int)))) := (bif (decide (v2 < (List.length a1.args : Int))) then (Option.bind ((Option.bind (idx a1.args v2) fun v3 => (bif (decide (v3 < 0)) then (some (true)) else (Option.bind (idx a1.args v2) fun v4 => (some ((decide ((List.length a0.symbols : Int) ≤ v4))))))) : Option ((Bool))) fun (v6 : (Bool)) => (bif v6 then (some (.inr (.inr 1))) else (Option.bind (idx a1.args v2) fun v7 => (Option.bind (idx a0.symbols v7) fun v8 => (Option.bind (idx v1.1.f_Args v2) fun v9 => (bif (v8.type != v9) then (some (.inr (.inr 3))) else (some (.inl ((w64 (v2 + 1))))))))))) else (some (.inr (.inl ()))))
def synthesisref11_operation (a0 : La) (a1 : Ru) : Option (Int) := (Option.bind (synthesisref09_Find (a1.op)) fun v1 => (bif (!v1.2) then (some 5) else (bif ((List.length a1.args : Int) != (List.length v1.1.f_Args : Int)) then (some 2) else (Option.bind (loopN (synthesisref11_operation_l1 a0 a1 v1) fuel (0)) fun (v10 : ((Unit) ⊕ (Int))) => Sum.elim (fun v11 => (Option.bind (idx a0.symbols a1.symbol) fun v12 => (bif (v12.type != v1.1.f_Result) then (some 3) else (some 0)))) (fun v13 => (some v13)) v10))))
theorem synthesisref11_operation_ok (a0 : La) (a1 : Ru) (r : Int) (h : synthesisref11_operation a0 a1 = some r) : PCall Try.prog 80 [eLa a0, eRu a1] (eI (r)) := by
 unfold synthesisref11_operation at h
 refine pcl [.one .keep] Try.func80 (by kernel_rfl) (by kernel_rfl) (by kernel_rfl) ?_
 refine cl 10 h (synthesisref09_Find_ok _) (by kernel_rfl) fun v1 h => ?_
 refine cd 13 h (by kernel_rfl) (fun h => ?_) fun h => ?_
 ·cases h; exact lq 5 (by kernel_rfl)
 refine cd 12 h (by kernel_rfl) (fun h => ?_) fun h => ?_
 ·cases h; exact lq 5 (by kernel_rfl)
 refine lpx 7 (fun v2 => ⟨73, [(2, (.ref 1 0 0)), (3, (.ref 2 0 0)), (5, (.ref 3 0 0)), (7, (fI (v2)))], (synthesisref11_operation_m0 a0 a1 v1), [3, 2, 1], []⟩) (fun v10 e st => Sum.elim (fun p => e = .exit 0 ∧ LeSt st ⟨73, [(2, (.ref 1 0 0)), (3, (.ref 2 0 0)), (5, (.ref 3 0 0))], (synthesisref11_operation_m0 a0 a1 v1), [3, 2, 1], []⟩) (fun p => e = .ret ∧ retX TT st Try.f80.results.toList [.one .keep] = some (eI (p))) v10) h (by kernel_rfl) (le_a (by kernel_rfl)) (fun v2 r h => ?_) fun v10 h e st' hq => ?_
 ·unfold synthesisref11_operation_l1 at h
  refine cd 9 h (by kernel_rfl) (fun h => ?_) fun h => ?_
  ·refine jn1 5 .normal (fun v6 => ⟨73, [(2, (.ref 1 0 0)), (3, (.ref 2 0 0)), (5, (.ref 3 0 0)), (7, (fI (v2))), (46, (fB (v6)))], (synthesisref11_operation_m0 a0 a1 v1), [3, 2, 1], []⟩) h (by kernel_rfl) (fun v6 h => ?_) fun v6 h => ?_
   ·refine dw 0 15 (by kernel_rfl) ?_
    refine ix nI 3 h (by kernel_rfl) fun v3 h => ?_
    refine gd 3 h (by kernel_rfl) (fun h => ?_) fun h => ?_
    ·cases h; exact lj 12 (by kernel_rfl)
    refine ix nI 3 h (by kernel_rfl) fun v4 h => ?_
    cases h; exact lj 8 (by kernel_rfl)
   refine cd 0 h (by kernel_rfl) (fun h => ?_) fun h => ?_
   ·cases h; exact lor 5 (by kernel_rfl)
   refine dw 2 15 (by kernel_rfl) ?_
   refine ix nI 5 h (by kernel_rfl) fun v7 h => ?_
   refine ix nSy 1 h (by kernel_rfl) fun v8 h => ?_
   refine ix nI 5 h (by kernel_rfl) fun v9 h => ?_
   refine cd 4 h (by kernel_rfl) (fun h => ?_) fun h => ?_
   ·cases h; exact lor 5 (by kernel_rfl)
   cases h; exact lj 6 (by kernel_rfl)
  cases h; exact lo 1 (by kernel_rfl)
 rcases v10 with v11 | v13
 ·try simp only [Sum.elim_inl, Sum.elim_inr] at h
  obtain ⟨rfl, hle⟩ := hq
  refine ⟨_, hle, ?_⟩
  refine dw 2 9 (by kernel_rfl) ?_
  refine ix nSy 4 h (by kernel_rfl) fun v12 h => ?_
  refine cd 7 h (by kernel_rfl) (fun h => ?_) fun h => ?_
  ·cases h; exact lq 5 (by kernel_rfl)
  cases h; exact lq 6 (by kernel_rfl)
 ·try simp only [Sum.elim_inl, Sum.elim_inr] at h
  obtain ⟨rfl, hret⟩ := hq
  refine ⟨_, LeSt.refl, ?_⟩
  cases h; exact lv hret

def synthesisref11_rule_m0 (a0 : La) (a1 : Ru) : List (Nat × AObj) := [(1, (.box 26 [(fS (a0.name)), (.fz ((eL 1 eI) (a0.inputs))), (.fz ((eL 2 eSy) (a0.symbols))), (.fz ((eL 9 eRu) (a0.rules)))])), (2, (.box 55 [(fI (a1.symbol)), (fI (a1.kind)), (fI (a1.input)), (fI (a1.const.type)), (fI (a1.const.num)), (fS (a1.const.text)), (.fz ((eL 4 eVaR) (a1.const.items))), (fS (a1.op)), (.fz ((eL 1 eI) (a1.args)))]))]
def synthesisref11_rule (a0 : La) (a1 : Ru) : Option (Int) := (Option.bind ((bif (decide (a1.symbol < 0)) then (some (true)) else (some ((decide ((List.length a0.symbols : Int) ≤ a1.symbol))))) : Option ((Bool))) fun (v2 : (Bool)) => (bif v2 then (some 1) else (Option.bind ((bif (decide (a1.kind < 1)) then (some (true)) else (bif (decide (3 < a1.kind)) then (some (true)) else (Option.bind (synthesisref11_zero (a1)) fun v3 => (some ((!v3)))))) : Option ((Bool))) fun (v5 : (Bool)) => (bif v5 then (some 4) else (Option.bind (idx a0.symbols a1.symbol) fun v6 => (bif (a1.kind == 1) then (Option.bind ((bif (decide (a1.input < 0)) then (some (true)) else (some ((decide ((List.length a0.inputs : Int) ≤ a1.input))))) : Option ((Bool))) fun (v8 : (Bool)) => (bif v8 then (some 1) else (Option.bind (idx a0.inputs a1.input) fun v9 => (bif (v9 != v6.type) then (some 3) else (some 0))))) else (bif (a1.kind == 2) then (Option.bind (synthesisref01_Check fuel (a1.const)) fun v10 => (bif (v10 != 0) then (some v10) else (bif (a1.const.type != v6.type) then (some 3) else (some 0)))) else (Option.bind (synthesisref11_operation (a0) (a1)) fun v11 => (some v11)))))))))
theorem synthesisref11_rule_ok (a0 : La) (a1 : Ru) (r : Int) (h : synthesisref11_rule a0 a1 = some r) : PCall Try.prog 57 [eLa a0, eRu a1] (eI (r)) := by
 unfold synthesisref11_rule at h
 refine pcl [.one .keep] Try.func57 (by kernel_rfl) (by kernel_rfl) (by kernel_rfl) ?_
 refine jn1 8 .normal (fun v2 => ⟨77, [(2, (.ref 1 0 0)), (3, (.ref 2 0 0)), (17, (fB (v2)))], (synthesisref11_rule_m0 a0 a1), [2, 1], []⟩) h (by kernel_rfl) (fun v2 h => ?_) fun v2 h => ?_
 ·refine gd 5 h (by kernel_rfl) (fun h => ?_) fun h => ?_
  ·cases h; exact lj 8 (by kernel_rfl)
  cases h; exact lj 8 (by kernel_rfl)
 refine cd 0 h (by kernel_rfl) (fun h => ?_) fun h => ?_
 ·cases h; exact lq 5 (by kernel_rfl)
 refine jn1 3 .normal (fun v5 => ⟨77, [(2, (.ref 1 0 0)), (3, (.ref 2 0 0)), (30, (fB (v5)))], (synthesisref11_rule_m0 a0 a1), [2, 1], []⟩) h (by kernel_rfl) (fun v5 h => ?_) fun v5 h => ?_
 ·refine gd 5 h (by kernel_rfl) (fun h => ?_) fun h => ?_
  ·cases h; exact lj 10 (by kernel_rfl)
  refine gd 5 h (by kernel_rfl) (fun h => ?_) fun h => ?_
  ·cases h; exact lj 5 (by kernel_rfl)
  refine cl 1 h (synthesisref11_zero_ok _) (by kernel_rfl) fun v3 h => ?_
  cases h; exact lj 3 (by kernel_rfl)
 refine cd 0 h (by kernel_rfl) (fun h => ?_) fun h => ?_
 ·cases h; exact lq 5 (by kernel_rfl)
 refine ix nSy 7 h (by kernel_rfl) fun v6 h => ?_
 refine cd 16 h (by kernel_rfl) (fun h => ?_) fun h => ?_
 ·refine jn1 2 .normal (fun v8 => ⟨77, [(2, (.ref 1 0 0)), (3, (.ref 2 0 0)), (5, (fI (v6.type))), (52, (fB (v8)))], (synthesisref11_rule_m0 a0 a1), [2, 1], []⟩) h (by kernel_rfl) (fun v8 h => ?_) fun v8 h => ?_
  ·refine gd 5 h (by kernel_rfl) (fun h => ?_) fun h => ?_
   ·cases h; exact lj 8 (by kernel_rfl)
   cases h; exact lj 8 (by kernel_rfl)
  refine cd 0 h (by kernel_rfl) (fun h => ?_) fun h => ?_
  ·cases h; exact lq 5 (by kernel_rfl)
  refine ix nI 8 h (by kernel_rfl) fun v9 h => ?_
  refine cd 4 h (by kernel_rfl) (fun h => ?_) fun h => ?_
  ·cases h; exact lq 5 (by kernel_rfl)
  cases h; exact lq 6 (by kernel_rfl)
 refine cd 5 h (by kernel_rfl) (fun h => ?_) fun h => ?_
 ·refine cl 5 h (synthesisref01_Check_ok _ _) (by kernel_rfl) fun v10 h => ?_
  refine cd 7 h (by kernel_rfl) (fun h => ?_) fun h => ?_
  ·cases h; exact lq 6 (by kernel_rfl)
  refine cd 10 h (by kernel_rfl) (fun h => ?_) fun h => ?_
  ·cases h; exact lq 5 (by kernel_rfl)
  cases h; exact lq 6 (by kernel_rfl)
 refine cl 5 h (synthesisref11_operation_ok _ _) (by kernel_rfl) fun v11 h => ?_
 cases h; exact lq 3 (by kernel_rfl)

def synthesisref11_SameInts_l1 (a0 : List Int) (a1 : List Int) (v1 : (Int)) : Option (((Int)) ⊕ (((Unit) ⊕ (Bool)))) := (bif (decide (v1 < (List.length a0 : Int))) then (Option.bind (idx a0 v1) fun v2 => (Option.bind (idx a1 v1) fun v3 => (bif (v2 != v3) then (some (.inr (.inr false))) else (some (.inl ((w64 (v1 + 1)))))))) else (some (.inr (.inl ()))))
def synthesisref11_SameInts (a0 : List Int) (a1 : List Int) : Option (Bool) := (bif ((List.length a0 : Int) != (List.length a1 : Int)) then (some false) else (Option.bind (loopN (synthesisref11_SameInts_l1 a0 a1) fuel (0)) fun (v4 : ((Unit) ⊕ (Bool))) => Sum.elim (fun v5 => (some true)) (fun v6 => (some v6)) v4))
theorem synthesisref11_SameInts_ok (a0 : List Int) (a1 : List Int) (r : Bool) (h : synthesisref11_SameInts a0 a1 = some r) : PCall Try.prog 13 [(eL 1 eI) a0, (eL 1 eI) a1] (eB (r)) := by
 unfold synthesisref11_SameInts at h
 refine pcl [.one .keep] Try.func13 (by kernel_rfl) (by kernel_rfl) (by kernel_rfl) ?_
 refine cd 13 h (by kernel_rfl) (fun h => ?_) fun h => ?_
 ·cases h; exact lq 5 (by kernel_rfl)
 refine lpx 7 (fun v1 => ⟨26, [(0, (.fz ((eL 1 eI) (a0)))), (1, (.fz ((eL 1 eI) (a1)))), (5, (fI (v1)))], [], [], []⟩) (fun v4 e st => Sum.elim (fun p => e = .exit 0 ∧ LeSt st ⟨26, [], [], [], []⟩) (fun p => e = .ret ∧ retX TT st Try.f13.results.toList [.one .keep] = some (eB (p))) v4) h (by kernel_rfl) (le_a (by kernel_rfl)) (fun v1 r h => ?_) fun v4 h e st' hq => ?_
 ·unfold synthesisref11_SameInts_l1 at h
  refine cd 8 h (by kernel_rfl) (fun h => ?_) fun h => ?_
  ·refine dw 4 8 (by kernel_rfl) ?_
   refine ix nI 2 h (by kernel_rfl) fun v2 h => ?_
   refine ix nI 3 h (by kernel_rfl) fun v3 h => ?_
   refine cd 4 h (by kernel_rfl) (fun h => ?_) fun h => ?_
   ·cases h; exact lor 5 (by kernel_rfl)
   cases h; exact lj 6 (by kernel_rfl)
  cases h; exact lo 1 (by kernel_rfl)
 rcases v4 with v5 | v6
 ·try simp only [Sum.elim_inl, Sum.elim_inr] at h
  obtain ⟨rfl, hle⟩ := hq
  refine ⟨_, hle, ?_⟩
  cases h; exact lq 5 (by kernel_rfl)
 ·try simp only [Sum.elim_inl, Sum.elim_inr] at h
  obtain ⟨rfl, hret⟩ := hq
  refine ⟨_, LeSt.refl, ?_⟩
  cases h; exact lv hret

def synthesisref11_SameRule (a0 : Ru) (a1 : Ru) : Option (Bool) := (Option.bind ((bif (a0.symbol == a1.symbol) then (bif (a0.kind == a1.kind) then (bif (a0.input == a1.input) then (bif (a0.op.toList == a1.op.toList) then (Option.bind (synthesisref11_SameInts (a0.args) (a1.args)) fun v1 => (bif v1 then (Option.bind (synthesisref01_Equal (a0.const) (a1.const)) fun v2 => (some (v2))) else (some (false)))) else (some (false))) else (some (false))) else (some (false))) else (some (false))) : Option ((Bool))) fun (v4 : (Bool)) => (some v4))
theorem synthesisref11_SameRule_ok (a0 : Ru) (a1 : Ru) (r : Bool) (h : synthesisref11_SameRule a0 a1 = some r) : PCall Try.prog 58 [eRu a0, eRu a1] (eB (r)) := by
 unfold synthesisref11_SameRule at h
 refine pcl [.one .keep] Try.func58 (by kernel_rfl) (by kernel_rfl) (by kernel_rfl) ?_
 refine jn1 7 .normal (fun v4 => ⟨45, [(4, (fB (v4)))], [], [], []⟩) h (by kernel_rfl) (fun v4 h => ?_) fun v4 h => ?_
 ·refine gd 7 h (by kernel_rfl) (fun h => ?_) fun h => ?_
  ·refine gd 7 h (by kernel_rfl) (fun h => ?_) fun h => ?_
   ·refine gd 7 h (by kernel_rfl) (fun h => ?_) fun h => ?_
    ·refine gd 7 h (by kernel_rfl) (fun h => ?_) fun h => ?_
     ·refine cl 4 h (synthesisref11_SameInts_ok _ _) (by kernel_rfl) fun v1 h => ?_
      refine gd 2 h (by kernel_rfl) (fun h => ?_) fun h => ?_
      ·refine cl 4 h (synthesisref01_Equal_ok _ _) (by kernel_rfl) fun v2 h => ?_
       cases h; exact lj 3 (by kernel_rfl)
      cases h; exact lj 8 (by kernel_rfl)
     cases h; exact lj 15 (by kernel_rfl)
    cases h; exact lj 22 (by kernel_rfl)
   cases h; exact lj 29 (by kernel_rfl)
  cases h; exact lj 36 (by kernel_rfl)
 cases h; exact lq 1 (by kernel_rfl)

def synthesisref11_Check_m0 (a0 : La) : List (Nat × AObj) := [(1, (.box 26 [(fS (a0.name)), (.fz ((eL 1 eI) (a0.inputs))), (.fz ((eL 2 eSy) (a0.symbols))), (.fz ((eL 9 eRu) (a0.rules)))]))]
def synthesisref11_Check_l1 (a0 : La) (v9 : (Int)) (v12 : (Int)) : Option (((Int)) ⊕ (((Unit) ⊕ (Int)))) := (bif (decide (v12 < v9)) then (Option.bind (idx a0.symbols v12) fun v13 => (Option.bind (idx a0.symbols v9) fun v14 => (bif (v13.name.toList == v14.name.toList) then (some (.inr (.inr 6))) else (some (.inl ((w64 (v12 + 1)))))))) else (some (.inr (.inl ()))))
def synthesisref11_Check_l2 (a0 : La) (v22 : (Int)) (v25 : (Int)) : Option (((Int)) ⊕ (((Unit) ⊕ (Int)))) := (bif (decide (v25 < v22)) then (Option.bind (idx a0.rules v25) fun v26 => (Option.bind (idx a0.rules v22) fun v27 => (Option.bind (synthesisref11_SameRule (v26) (v27)) fun v28 => (bif v28 then (some (.inr (.inr 6))) else (some (.inl ((w64 (v25 + 1))))))))) else (some (.inr (.inl ()))))
def synthesisref11_Check_l3 (a0 : La) (v22 : (Int)) : Option (((Int)) ⊕ (((Unit) ⊕ (Int)))) := (bif (decide (v22 < (List.length a0.rules : Int))) then (Option.bind (idx a0.rules v22) fun v23 => (Option.bind (synthesisref11_rule (a0) (v23)) fun v24 => (bif (v24 != 0) then (some (.inr (.inr v24))) else (Option.bind (loopN (synthesisref11_Check_l2 a0 v22) fuel (0)) fun (v29 : ((Unit) ⊕ (Int))) => Sum.elim (fun v30 => (some (.inl ((w64 (v22 + 1)))))) (fun v31 => (some (.inr (.inr v31)))) v29)))) else (some (.inr (.inl ()))))
def synthesisref11_Check_l4 (a0 : La) (v9 : (Int)) : Option (((Int)) ⊕ (((Unit) ⊕ (Int)))) := (bif (decide (v9 < (List.length a0.symbols : Int))) then (Option.bind (idx a0.symbols v9) fun v10 => (Option.bind (synthesisref11_Name (v10.name)) fun v11 => (bif (!v11) then (some (.inr (.inr 5))) else (Option.bind (loopN (synthesisref11_Check_l1 a0 v9) fuel (0)) fun (v15 : ((Unit) ⊕ (Int))) => Sum.elim (fun v16 => (Option.bind (idx a0.symbols v9) fun v17 => (Option.bind (synthesisref11_typed (v17.type)) fun v18 => (bif (!v18) then (some (.inr (.inr 3))) else (some (.inl ((w64 (v9 + 1))))))))) (fun v19 => (some (.inr (.inr v19)))) v15)))) else (some (.inr (.inl ()))))
def synthesisref11_Check_l5 (a0 : La) (v2 : (Int)) : Option (((Int)) ⊕ (((Unit) ⊕ (Int)))) := (bif (decide (v2 < (List.length a0.inputs : Int))) then (Option.bind (idx a0.inputs v2) fun v3 => (Option.bind (synthesisref11_typed (v3)) fun v4 => (bif (!v4) then (some (.inr (.inr 3))) else (some (.inl ((w64 (v2 + 1)))))))) else (some (.inr (.inl ()))))
def synthesisref11_Check (a0 : La) : Option (Int) := (Option.bind (synthesisref11_Name (a0.name)) fun v1 => (bif (!v1) then (some 5) else (bif (decide (4 < (List.length a0.inputs : Int))) then (some 2) else (Option.bind (loopN (synthesisref11_Check_l5 a0) fuel (0)) fun (v5 : ((Unit) ⊕ (Int))) => Sum.elim (fun v6 => (Option.bind ((bif (decide ((List.length a0.symbols : Int) < 1)) then (some (true)) else (some ((decide (16 < (List.length a0.symbols : Int)))))) : Option ((Bool))) fun (v8 : (Bool)) => (bif v8 then (some 2) else (Option.bind (loopN (synthesisref11_Check_l4 a0) fuel (0)) fun (v20 : ((Unit) ⊕ (Int))) => Sum.elim (fun v21 => (bif (decide (96 < (List.length a0.rules : Int))) then (some 2) else (Option.bind (loopN (synthesisref11_Check_l3 a0) fuel (0)) fun (v32 : ((Unit) ⊕ (Int))) => Sum.elim (fun v33 => (some 0)) (fun v34 => (some v34)) v32))) (fun v35 => (some v35)) v20)))) (fun v36 => (some v36)) v5))))
theorem synthesisref11_Check_ok (a0 : La) (r : Int) (h : synthesisref11_Check a0 = some r) : PCall Try.prog 32 [eLa a0] (eI (r)) := by
 unfold synthesisref11_Check at h
 refine pcl [.one .keep] Try.func32 (by kernel_rfl) (by kernel_rfl) (by kernel_rfl) ?_
 refine cl 10 h (synthesisref11_Name_ok _) (by kernel_rfl) fun v1 h => ?_
 refine cd 2 h (by kernel_rfl) (fun h => ?_) fun h => ?_
 ·cases h; exact lq 5 (by kernel_rfl)
 refine cd 9 h (by kernel_rfl) (fun h => ?_) fun h => ?_
 ·cases h; exact lq 5 (by kernel_rfl)
 refine lpx 7 (fun v2 => ⟨119, [(1, (.ref 1 0 0)), (3, (fI (v2)))], (synthesisref11_Check_m0 a0), [1], []⟩) (fun v5 e st => Sum.elim (fun p => e = .exit 0 ∧ LeSt st ⟨119, [(1, (.ref 1 0 0))], (synthesisref11_Check_m0 a0), [1], []⟩) (fun p => e = .ret ∧ retX TT st Try.f32.results.toList [.one .keep] = some (eI (p))) v5) h (by kernel_rfl) (le_a (by kernel_rfl)) (fun v2 r h => ?_) fun v5 h e st' hq => ?_
 ·unfold synthesisref11_Check_l5 at h
  refine cd 9 h (by kernel_rfl) (fun h => ?_) fun h => ?_
  ·refine ix nI 8 h (by kernel_rfl) fun v3 h => ?_
   refine cl 1 h (synthesisref11_typed_ok _) (by kernel_rfl) fun v4 h => ?_
   refine cd 2 h (by kernel_rfl) (fun h => ?_) fun h => ?_
   ·cases h; exact lor 5 (by kernel_rfl)
   cases h; exact lj 6 (by kernel_rfl)
  cases h; exact lo 1 (by kernel_rfl)
 rcases v5 with v6 | v36
 ·try simp only [Sum.elim_inl, Sum.elim_inr] at h
  obtain ⟨rfl, hle⟩ := hq
  refine ⟨_, hle, ?_⟩
  refine jn1 2 .normal (fun v8 => ⟨119, [(1, (.ref 1 0 0)), (40, (fB (v8)))], (synthesisref11_Check_m0 a0), [1], []⟩) h (by kernel_rfl) (fun v8 h => ?_) fun v8 h => ?_
  ·refine gd 6 h (by kernel_rfl) (fun h => ?_) fun h => ?_
   ·cases h; exact lj 6 (by kernel_rfl)
   cases h; exact lj 6 (by kernel_rfl)
  refine cd 0 h (by kernel_rfl) (fun h => ?_) fun h => ?_
  ·cases h; exact lq 5 (by kernel_rfl)
  refine lpx 7 (fun v9 => ⟨119, [(1, (.ref 1 0 0)), (4, (fI (v9)))], (synthesisref11_Check_m0 a0), [1], []⟩) (fun v20 e st => Sum.elim (fun p => e = .exit 2 ∧ LeSt st ⟨119, [(1, (.ref 1 0 0))], (synthesisref11_Check_m0 a0), [1], []⟩) (fun p => e = .ret ∧ retX TT st Try.f32.results.toList [.one .keep] = some (eI (p))) v20) h (by kernel_rfl) (le_a (by kernel_rfl)) (fun v9 r h => ?_) fun v20 h e st' hq => ?_
  ·unfold synthesisref11_Check_l4 at h
   refine cd 9 h (by kernel_rfl) (fun h => ?_) fun h => ?_
   ·refine ix nSy 9 h (by kernel_rfl) fun v10 h => ?_
    refine cl 2 h (synthesisref11_Name_ok _) (by kernel_rfl) fun v11 h => ?_
    refine cd 2 h (by kernel_rfl) (fun h => ?_) fun h => ?_
    ·cases h; exact lor 5 (by kernel_rfl)
    refine lpx 7 (fun v12 => ⟨119, [(1, (.ref 1 0 0)), (4, (fI (v9))), (5, (fI (v12)))], (synthesisref11_Check_m0 a0), [1], []⟩) (fun v15 e st => Sum.elim (fun p => e = .exit 4 ∧ LeSt st ⟨119, [(1, (.ref 1 0 0)), (4, (fI (v9)))], (synthesisref11_Check_m0 a0), [1], []⟩) (fun p => e = .ret ∧ retX TT st Try.f32.results.toList [.one .keep] = some (eI (p))) v15) h (by kernel_rfl) (le_a (by kernel_rfl)) (fun v12 r h => ?_) fun v15 h e st' hq => ?_
    ·unfold synthesisref11_Check_l1 at h
     refine cd 7 h (by kernel_rfl) (fun h => ?_) fun h => ?_
     ·refine dw 4 12 (by kernel_rfl) ?_
      refine ix nSy 3 h (by kernel_rfl) fun v13 h => ?_
      refine ix nSy 5 h (by kernel_rfl) fun v14 h => ?_
      refine cd 5 h (by kernel_rfl) (fun h => ?_) fun h => ?_
      ·cases h; exact lor 5 (by kernel_rfl)
      cases h; exact lj 6 (by kernel_rfl)
     cases h; exact lo 1 (by kernel_rfl)
    rcases v15 with v16 | v19
    ·try simp only [Sum.elim_inl, Sum.elim_inr] at h
     obtain ⟨rfl, hle⟩ := hq
     refine ⟨_, hle, ?_⟩
     refine ix nSy 5 h (by kernel_rfl) fun v17 h => ?_
     refine cl 2 h (synthesisref11_typed_ok _) (by kernel_rfl) fun v18 h => ?_
     refine cd 2 h (by kernel_rfl) (fun h => ?_) fun h => ?_
     ·cases h; exact lor 5 (by kernel_rfl)
     cases h; exact lj 6 (by kernel_rfl)
    ·try simp only [Sum.elim_inl, Sum.elim_inr] at h
     obtain ⟨rfl, hret⟩ := hq
     refine ⟨_, LeSt.refl, ?_⟩
     cases h; exact lvo hret
   cases h; exact lo 1 (by kernel_rfl)
  rcases v20 with v21 | v35
  ·try simp only [Sum.elim_inl, Sum.elim_inr] at h
   obtain ⟨rfl, hle⟩ := hq
   refine ⟨_, hle, ?_⟩
   refine cd 8 h (by kernel_rfl) (fun h => ?_) fun h => ?_
   ·cases h; exact lq 5 (by kernel_rfl)
   refine lpx 7 (fun v22 => ⟨119, [(1, (.ref 1 0 0)), (6, (fI (v22)))], (synthesisref11_Check_m0 a0), [1], []⟩) (fun v32 e st => Sum.elim (fun p => e = .exit 6 ∧ LeSt st ⟨119, [], [], [], []⟩) (fun p => e = .ret ∧ retX TT st Try.f32.results.toList [.one .keep] = some (eI (p))) v32) h (by kernel_rfl) (le_a (by kernel_rfl)) (fun v22 r h => ?_) fun v32 h e st' hq => ?_
   ·unfold synthesisref11_Check_l3 at h
    refine cd 9 h (by kernel_rfl) (fun h => ?_) fun h => ?_
    ·refine dw 5 6 (by kernel_rfl) ?_
     refine ix nRu 4 h (by kernel_rfl) fun v23 h => ?_
     refine cl 2 h (synthesisref11_rule_ok _ _) (by kernel_rfl) fun v24 h => ?_
     refine cd 7 h (by kernel_rfl) (fun h => ?_) fun h => ?_
     ·cases h; exact lor 6 (by kernel_rfl)
     refine lpx 6 (fun v25 => ⟨119, [(1, (.ref 1 0 0)), (6, (fI (v22))), (8, (fI (v25)))], (synthesisref11_Check_m0 a0), [1], []⟩) (fun v29 e st => Sum.elim (fun p => e = .exit 8 ∧ LeSt st ⟨119, [(1, (.ref 1 0 0)), (6, (fI (v22)))], (synthesisref11_Check_m0 a0), [1], []⟩) (fun p => e = .ret ∧ retX TT st Try.f32.results.toList [.one .keep] = some (eI (p))) v29) h (by kernel_rfl) (le_a (by kernel_rfl)) (fun v25 r h => ?_) fun v29 h e st' hq => ?_
     ·unfold synthesisref11_Check_l2 at h
      refine cd 7 h (by kernel_rfl) (fun h => ?_) fun h => ?_
      ·refine dw 4 10 (by kernel_rfl) ?_
       refine ix nRu 3 h (by kernel_rfl) fun v26 h => ?_
       refine ix nRu 4 h (by kernel_rfl) fun v27 h => ?_
       refine cl 2 h (synthesisref11_SameRule_ok _ _) (by kernel_rfl) fun v28 h => ?_
       refine cd 1 h (by kernel_rfl) (fun h => ?_) fun h => ?_
       ·cases h; exact lor 5 (by kernel_rfl)
       cases h; exact lj 6 (by kernel_rfl)
      cases h; exact lo 1 (by kernel_rfl)
     rcases v29 with v30 | v31
     ·try simp only [Sum.elim_inl, Sum.elim_inr] at h
      obtain ⟨rfl, hle⟩ := hq
      refine ⟨_, hle, ?_⟩
      cases h; exact lj 5 (by kernel_rfl)
     ·try simp only [Sum.elim_inl, Sum.elim_inr] at h
      obtain ⟨rfl, hret⟩ := hq
      refine ⟨_, LeSt.refl, ?_⟩
      cases h; exact lvo hret
    cases h; exact lo 1 (by kernel_rfl)
   rcases v32 with v33 | v34
   ·try simp only [Sum.elim_inl, Sum.elim_inr] at h
    obtain ⟨rfl, hle⟩ := hq
    refine ⟨_, hle, ?_⟩
    cases h; exact lq 5 (by kernel_rfl)
   ·try simp only [Sum.elim_inl, Sum.elim_inr] at h
    obtain ⟨rfl, hret⟩ := hq
    refine ⟨_, LeSt.refl, ?_⟩
    cases h; exact lv hret
  ·try simp only [Sum.elim_inl, Sum.elim_inr] at h
   obtain ⟨rfl, hret⟩ := hq
   refine ⟨_, LeSt.refl, ?_⟩
   cases h; exact lv hret
 ·try simp only [Sum.elim_inl, Sum.elim_inr] at h
  obtain ⟨rfl, hret⟩ := hq
  refine ⟨_, LeSt.refl, ?_⟩
  cases h; exact lv hret

def synthesisref38_Check_l1 (a1 : List Int) (v2 : (Int)) : Option (((Int)) ⊕ (((Unit) ⊕ (Int)))) := (bif (decide (v2 < (List.length a1 : Int))) then (Option.bind ((Option.bind (idx a1 v2) fun v3 => (bif (decide (v3 < 0)) then (some (true)) else (Option.bind (idx a1 v2) fun v4 => (some ((decide (1000 < v4))))))) : Option ((Bool))) fun (v6 : (Bool)) => (bif v6 then (some (.inr (.inr 1))) else (some (.inl ((w64 (v2 + 1))))))) else (some (.inr (.inl ()))))
def synthesisref38_Check (a0 : La) (a1 : List Int) : Option (Int) := (Option.bind (synthesisref11_Check (a0)) fun v1 => (bif (v1 != 0) then (some v1) else (bif ((List.length a1 : Int) != (List.length a0.rules : Int)) then (some 2) else (Option.bind (loopN (synthesisref38_Check_l1 a1) fuel (0)) fun (v7 : ((Unit) ⊕ (Int))) => Sum.elim (fun v8 => (some 0)) (fun v9 => (some v9)) v7))))
theorem synthesisref38_Check_ok (a0 : La) (a1 : List Int) (r : Int) (h : synthesisref38_Check a0 a1 = some r) : PCall Try.prog 12 [eLa a0, (eL 1 eI) a1] (eI (r)) := by
 unfold synthesisref38_Check at h
 refine pcl [.one .keep] Try.func12 (by kernel_rfl) (by kernel_rfl) (by kernel_rfl) ?_
 refine cl 9 h (synthesisref11_Check_ok _) (by kernel_rfl) fun v1 h => ?_
 refine cd 7 h (by kernel_rfl) (fun h => ?_) fun h => ?_
 ·cases h; exact lq 6 (by kernel_rfl)
 refine cd 11 h (by kernel_rfl) (fun h => ?_) fun h => ?_
 ·cases h; exact lq 5 (by kernel_rfl)
 refine lpx 7 (fun v2 => ⟨36, [(1, (.fz ((eL 1 eI) (a1)))), (6, (fI (v2)))], [], [], []⟩) (fun v7 e st => Sum.elim (fun p => e = .exit 0 ∧ LeSt st ⟨36, [], [], [], []⟩) (fun p => e = .ret ∧ retX TT st Try.f12.results.toList [.one .keep] = some (eI (p))) v7) h (by kernel_rfl) (le_a (by kernel_rfl)) (fun v2 r h => ?_) fun v7 h e st' hq => ?_
 ·unfold synthesisref38_Check_l1 at h
  refine cd 8 h (by kernel_rfl) (fun h => ?_) fun h => ?_
  ·refine jn1 4 .normal (fun v6 => ⟨36, [(1, (.fz ((eL 1 eI) (a1)))), (6, (fI (v2))), (35, (fB (v6)))], [], [], []⟩) h (by kernel_rfl) (fun v6 h => ?_) fun v6 h => ?_
   ·refine ix nI 3 h (by kernel_rfl) fun v3 h => ?_
    refine gd 3 h (by kernel_rfl) (fun h => ?_) fun h => ?_
    ·cases h; exact lj 7 (by kernel_rfl)
    refine ix nI 2 h (by kernel_rfl) fun v4 h => ?_
    cases h; exact lj 4 (by kernel_rfl)
   refine cd 0 h (by kernel_rfl) (fun h => ?_) fun h => ?_
   ·cases h; exact lor 5 (by kernel_rfl)
   cases h; exact lj 6 (by kernel_rfl)
  cases h; exact lo 1 (by kernel_rfl)
 rcases v7 with v8 | v9
 ·try simp only [Sum.elim_inl, Sum.elim_inr] at h
  obtain ⟨rfl, hle⟩ := hq
  refine ⟨_, hle, ?_⟩
  cases h; exact lq 5 (by kernel_rfl)
 ·try simp only [Sum.elim_inl, Sum.elim_inr] at h
  obtain ⟨rfl, hret⟩ := hq
  refine ⟨_, LeSt.refl, ?_⟩
  cases h; exact lv hret

def synthesisref38_Uniform_l1 (v3 : (Int) × (List Int)) : Option (((Int) × (List Int)) ⊕ ((List Int))) := (bif (decide (v3.1 < (List.length (v3.2) : Int))) then (Option.bind (idx v3.2 v3.1) fun v4 => (some (.inl ((w64 (v3.1 + 1)), (List.set v3.2 (Int.toNat v3.1) 1))))) else (some (.inr (v3.2))))
def synthesisref38_Uniform (a0 : La) : Option (List Int) := (Option.bind (synthesisref11_Check (a0)) fun v1 => (bif (v1 != 0) then (some ([] : List Int)) else (Option.bind (mkL 8 0 (List.length a0.rules : Int)) fun v2 => (Option.bind (loopN (synthesisref38_Uniform_l1) fuel (0, v2)) fun (v6 : (List Int)) => (some v6)))))
def synthesisref13_left_l1 (a0 : Tm) (r33 : (Tm) → (Int) → Option (Int)) (v1 : (Int) × (Int)) : Option (((Int) × (Int)) ⊕ ((Int))) := (Option.bind ((bif (decide (v1.2 < (List.length a0.args : Int))) then (some ((decide (0 ≤ v1.1)))) else (some (false))) : Option ((Bool))) fun (v3 : (Bool)) => (bif v3 then (Option.bind (idx a0.args v1.2) fun v4 => (Option.bind (r33 (v4) (v1.1)) fun v5 => (some (.inl (v5, (w64 (v1.2 + 1))))))) else (some (.inr (v1.1)))))
def synthesisref13_left_b (r33 : (Tm) → (Int) → Option (Int)) (a0 : Tm) (a1 : Int) : Option (Int) := (Option.bind (loopN (synthesisref13_left_l1 a0 r33) fuel ((w64 (a1 - 1)), 0)) fun (v7 : (Int)) => (some v7))
theorem synthesisref13_left_b_ok (r33 : (Tm) → (Int) → Option (Int)) (ih33 : ∀ (x0 : Tm) (x1 : Int) r, r33 x0 x1 = some r → PCall Try.prog 33 [eTm x0, eI x1] (eI (r))) (a0 : Tm) (a1 : Int) (r : Int) (h : synthesisref13_left_b r33 a0 a1 = some r) : PCall Try.prog 33 [eTm a0, eI a1] (eI (r)) := by
 unfold synthesisref13_left_b at h
 refine pcl [.one .keep] Try.func33 (by kernel_rfl) (by kernel_rfl) (by kernel_rfl) ?_
 refine lp1 17 (fun v1 => ⟨27, [(1, (fI (v1.1))), (2, (.ref 1 0 0)), (5, (fI (v1.2)))], [(1, (.box 35 [(fI (a0.rule)), (.fz ((eL 2 eTmR) (a0.args)))]))], [1], []⟩) (.exit 0) (fun v7 => ⟨27, [(1, (fI (v7)))], [], [], []⟩) h (by kernel_rfl) (by kernel_rfl) (fun v1 r h => ?_) fun v7 h => ?_
 ·unfold synthesisref13_left_l1 at h
  refine jn1 2 .normal (fun v3 => ⟨27, [(1, (fI (v1.1))), (2, (.ref 1 0 0)), (5, (fI (v1.2))), (16, (fB (v3)))], [(1, (.box 35 [(fI (a0.rule)), (.fz ((eL 2 eTmR) (a0.args)))]))], [1], []⟩) h (by kernel_rfl) (fun v3 h => ?_) fun v3 h => ?_
  ·refine gd 7 h (by kernel_rfl) (fun h => ?_) fun h => ?_
   ·cases h; exact lj 4 (by kernel_rfl)
   cases h; exact lj 4 (by kernel_rfl)
  refine cd 0 h (by kernel_rfl) (fun h => ?_) fun h => ?_
  ·refine ix nTmR 7 h (by kernel_rfl) fun v4 h => ?_
   refine cl 2 h (ih33 _ _) (by kernel_rfl) fun v5 h => ?_
   cases h; exact lj 7 (by kernel_rfl)
  cases h; exact lo 1 (by kernel_rfl)
 cases h; exact lq 6 (by kernel_rfl)
def synthesisref13_left : Nat → (Tm) → (Int) → Option (Int)
  | 0 => fun _ _ => none
  | n + 1 => synthesisref13_left_b (synthesisref13_left n)
theorem synthesisref13_left_ok : ∀ (n : Nat) (x0 : Tm) (x1 : Int) r, synthesisref13_left n x0 x1 = some r → PCall Try.prog 33 [eTm x0, eI x1] (eI (r))
  | 0, _, _, _, h => by cases h
  | n + 1, x0, x1, r, h => synthesisref13_left_b_ok (synthesisref13_left n) (synthesisref13_left_ok n) x0 x1 r h

def synthesisref13_Within (a0 : Tm) (a1 : Int) : Option (Bool) := (Option.bind (synthesisref13_left fuel (a0) (a1)) fun v1 => (some (decide (0 ≤ v1))))
theorem synthesisref13_Within_ok (a0 : Tm) (a1 : Int) (r : Bool) (h : synthesisref13_Within a0 a1 = some r) : PCall Try.prog 16 [eTm a0, eI a1] (eB (r)) := by
 unfold synthesisref13_Within at h
 refine pcl [.one .keep] Try.func16 (by kernel_rfl) (by kernel_rfl) (by kernel_rfl) ?_
 refine cl 9 h (synthesisref13_left_ok _ _ _) (by kernel_rfl) fun v1 h => ?_
 cases h; exact lq 4 (by kernel_rfl)

def synthesisref13_Rules_l1 (a0 : Tm) (r26 : (Tm) → Option (List Int)) (v1 : (Int) × (List Int)) : Option (((Int) × (List Int)) ⊕ ((List Int))) := (bif (decide (v1.1 < (List.length a0.args : Int))) then (Option.bind (idx a0.args v1.1) fun v2 => (Option.bind (r26 (v2)) fun v3 => (Option.bind (app 8 v1.2 v3) fun v4 => (some (.inl ((w64 (v1.1 + 1)), v4)))))) else (some (.inr (v1.2))))
def synthesisref13_Rules_b (r26 : (Tm) → Option (List Int)) (a0 : Tm) : Option (List Int) := (Option.bind (loopN (synthesisref13_Rules_l1 a0 r26) fuel (0, ([a0.rule] : List (Int)))) fun (v6 : (List Int)) => (some v6))
theorem synthesisref13_Rules_b_ok (r26 : (Tm) → Option (List Int)) (ih26 : ∀ (x0 : Tm) r, r26 x0 = some r → PCall Try.prog 26 [eTm x0] ((eL 1 eI) (r))) (a0 : Tm) (r : List Int) (h : synthesisref13_Rules_b r26 a0 = some r) : PCall Try.prog 26 [eTm a0] ((eL 1 eI) (r)) := by
 unfold synthesisref13_Rules_b at h
 refine pcl [.one (.sl 1)] Try.func26 (by kernel_rfl) (by kernel_rfl) (by kernel_rfl) ?_
 refine sst 9 (s_litrow (t := 22) (n := 1) (parts := #[(0, (.tmp 6))]) (d := tt22) (e := 3) (de := tt3) (enc := eI) (xs := ([a0.rule] : List (Int))) (id := 2) tt_ok (by kernel_rfl) (by kernel_rfl) (by kernel_rfl) (by kernel_rfl) (by kernel_rfl) rfl (by kernel_rfl) (by kernel_rfl) (by kernel_rfl)) (by kernel_rfl) ?_
 refine lp1 8 (fun v1 => ⟨24, [(1, (.ref 1 0 0)), (3, (.row 2 (List.length (v1.2)))), (4, (fI (v1.1)))], [(1, (.box 35 [(fI (a0.rule)), (.fz ((eL 2 eTmR) (a0.args)))])), (2, (.frow 3 1 (List.map eI (v1.2))))], [2, 1], []⟩) (.exit 0) (fun v6 => ⟨24, [(3, (.row 2 (List.length (v6))))], [(2, (.frow 3 1 (List.map eI (v6))))], [2], []⟩) h (by kernel_rfl) (by kernel_rfl) (fun v1 r h => ?_) fun v6 h => ?_
 ·unfold synthesisref13_Rules_l1 at h
  refine cd 9 h (by kernel_rfl) (fun h => ?_) fun h => ?_
  ·refine ix nTmR 8 h (by kernel_rfl) fun v2 h => ?_
   refine cl 1 h (ih26 _) (by kernel_rfl) fun v3 h => ?_
   refine ap nI 0 h (by kernel_rfl) fun v4 h => ?_
   cases h; exact lj 7 (by kernel_rfl)
  cases h; exact lo 1 (by kernel_rfl)
 refine wle 5 (le_freeze (t := 2) (id := 2) (n := List.length (v6)) (e := 3) (size := 1) (xs := List.map eI (v6)) (by kernel_rfl) (by kernel_rfl) (by simp)) (by kernel_rfl) ?_
 cases h; exact lq 1 (by kernel_rfl)
def synthesisref13_Rules : Nat → (Tm) → Option (List Int)
  | 0 => fun _ => none
  | n + 1 => synthesisref13_Rules_b (synthesisref13_Rules n)
theorem synthesisref13_Rules_ok : ∀ (n : Nat) (x0 : Tm) r, synthesisref13_Rules n x0 = some r → PCall Try.prog 26 [eTm x0] ((eL 1 eI) (r))
  | 0, _, _, h => by cases h
  | n + 1, x0, r, h => synthesisref13_Rules_b_ok (synthesisref13_Rules n) (synthesisref13_Rules_ok n) x0 r h

def synthesisref13_Size_l1 (a0 : Tm) (r27 : (Tm) → Option (Int)) (v1 : (Int) × (Int)) : Option (((Int) × (Int)) ⊕ ((Int))) := (bif (decide (v1.2 < (List.length a0.args : Int))) then (Option.bind (idx a0.args v1.2) fun v2 => (Option.bind (r27 (v2)) fun v3 => (some (.inl ((w64 (v1.1 + v3)), (w64 (v1.2 + 1))))))) else (some (.inr (v1.1))))
def synthesisref13_Size_b (r27 : (Tm) → Option (Int)) (a0 : Tm) : Option (Int) := (Option.bind (loopN (synthesisref13_Size_l1 a0 r27) fuel (1, 0)) fun (v5 : (Int)) => (some v5))
theorem synthesisref13_Size_b_ok (r27 : (Tm) → Option (Int)) (ih27 : ∀ (x0 : Tm) r, r27 x0 = some r → PCall Try.prog 27 [eTm x0] (eI (r))) (a0 : Tm) (r : Int) (h : synthesisref13_Size_b r27 a0 = some r) : PCall Try.prog 27 [eTm a0] (eI (r)) := by
 unfold synthesisref13_Size_b at h
 refine pcl [.one .keep] Try.func27 (by kernel_rfl) (by kernel_rfl) (by kernel_rfl) ?_
 refine lp1 15 (fun v1 => ⟨21, [(1, (.ref 1 0 0)), (3, (fI (v1.1))), (4, (fI (v1.2)))], [(1, (.box 35 [(fI (a0.rule)), (.fz ((eL 2 eTmR) (a0.args)))]))], [1], []⟩) (.exit 0) (fun v5 => ⟨21, [(3, (fI (v5)))], [], [], []⟩) h (by kernel_rfl) (by kernel_rfl) (fun v1 r h => ?_) fun v5 h => ?_
 ·unfold synthesisref13_Size_l1 at h
  refine cd 9 h (by kernel_rfl) (fun h => ?_) fun h => ?_
  ·refine ix nTmR 8 h (by kernel_rfl) fun v2 h => ?_
   refine cl 1 h (ih27 _) (by kernel_rfl) fun v3 h => ?_
   cases h; exact lj 8 (by kernel_rfl)
  cases h; exact lo 1 (by kernel_rfl)
 cases h; exact lq 6 (by kernel_rfl)
def synthesisref13_Size : Nat → (Tm) → Option (Int)
  | 0 => fun _ => none
  | n + 1 => synthesisref13_Size_b (synthesisref13_Size n)
theorem synthesisref13_Size_ok : ∀ (n : Nat) (x0 : Tm) r, synthesisref13_Size n x0 = some r → PCall Try.prog 27 [eTm x0] (eI (r))
  | 0, _, _, h => by cases h
  | n + 1, x0, r, h => synthesisref13_Size_b_ok (synthesisref13_Size n) (synthesisref13_Size_ok n) x0 r h

structure S_synthesislaw38_Want where
  f_Symbol : Int
  f_Most : Int
def synthesisref13_Depth_l1 (a0 : Tm) (r69 : (Tm) → Option (Int)) (v1 : (Int) × (Int)) : Option (((Int) × (Int)) ⊕ ((Int))) := (bif (decide (v1.2 < (List.length a0.args : Int))) then (Option.bind (idx a0.args v1.2) fun v2 => (Option.bind (r69 (v2)) fun v3 => (some (.inl ((imax v1.1 v3), (w64 (v1.2 + 1))))))) else (some (.inr (v1.1))))
def synthesisref13_Depth_b (r69 : (Tm) → Option (Int)) (a0 : Tm) : Option (Int) := (Option.bind (loopN (synthesisref13_Depth_l1 a0 r69) fuel (0, 0)) fun (v5 : (Int)) => (some (w64 (v5 + 1))))
def synthesisref13_Depth : Nat → (Tm) → Option (Int)
  | 0 => fun _ => none
  | n + 1 => synthesisref13_Depth_b (synthesisref13_Depth n)
def synthesisref13_Arity (a0 : Ru) : Option (Int) := (bif (a0.kind != 3) then (some 0) else (some (List.length a0.args : Int)))
def synthesisref13_fits_l1 (a0 : La) (a2 : Tm) (r70 : (La) → (Int) → (Tm) → Option (Int)) (v3 : Ru) (v5 : (Int)) : Option (((Int)) ⊕ (((Unit) ⊕ (Int)))) := (bif (decide (v5 < (List.length a2.args : Int))) then (Option.bind (idx v3.args v5) fun v6 => (Option.bind (idx a2.args v5) fun v7 => (Option.bind (r70 (a0) (v6) (v7)) fun v8 => (bif (v8 != 0) then (some (.inr (.inr v8))) else (some (.inl ((w64 (v5 + 1))))))))) else (some (.inr (.inl ()))))
def synthesisref13_fits_b (r70 : (La) → (Int) → (Tm) → Option (Int)) (a0 : La) (a1 : Int) (a2 : Tm) : Option (Int) := (Option.bind ((bif (decide (a2.rule < 0)) then (some (true)) else (some ((decide ((List.length a0.rules : Int) ≤ a2.rule))))) : Option ((Bool))) fun (v2 : (Bool)) => (bif v2 then (some 1) else (Option.bind (idx a0.rules a2.rule) fun v3 => (bif (v3.symbol != a1) then (some 3) else (Option.bind (synthesisref13_Arity (v3)) fun v4 => (bif ((List.length a2.args : Int) != v4) then (some 4) else (Option.bind (loopN (synthesisref13_fits_l1 a0 a2 r70 v3) fuel (0)) fun (v9 : ((Unit) ⊕ (Int))) => Sum.elim (fun v10 => (some 0)) (fun v11 => (some v11)) v9)))))))
def synthesisref13_fits : Nat → (La) → (Int) → (Tm) → Option (Int)
  | 0 => fun _ _ _ => none
  | n + 1 => synthesisref13_fits_b (synthesisref13_fits n)
def synthesisref13_Check (a0 : La) (a1 : Int) (a2 : Tm) : Option (Int) := (Option.bind (synthesisref11_Check (a0)) fun v1 => (bif (v1 != 0) then (some v1) else (Option.bind ((bif (decide (a1 < 0)) then (some (true)) else (some ((decide ((List.length a0.symbols : Int) ≤ a1))))) : Option ((Bool))) fun (v3 : (Bool)) => (bif v3 then (some 1) else (Option.bind ((Option.bind (synthesisref13_Within (a2) (4096)) fun v4 => (bif (!v4) then (some (true)) else (Option.bind (synthesisref13_Depth fuel (a2)) fun v5 => (some ((decide (32 < v5))))))) : Option ((Bool))) fun (v7 : (Bool)) => (bif v7 then (some 2) else (Option.bind (synthesisref13_fits fuel (a0) (a1) (a2)) fun v8 => (some v8))))))))
end Go.Proofs.Ytpcfkflhnkfjjaa
