/- Typed programs and what computes them. -/
import Derived.Test.YtfkddbccogakoaaZ2
set_option linter.unusedVariables false
set_option linter.unusedSimpArgs false
set_option maxRecDepth 100000
namespace Go.Proofs.Ytfkddbccogakoaa
open Go Go.RowKit Go.Proofs
attribute [local irreducible] NStep StepA EStep LeSt
def synthesisref11_Check_m0 (a0 : La) : List (Nat × AObj) := [(1, (.box 26 [(fS (a0.name)), (.fz ((eL 1 eI) (a0.inputs))), (.fz ((eL 2 eSy) (a0.symbols))), (.fz ((eL 9 eRu) (a0.rules)))]))]
def synthesisref11_Check_l1 (a0 : La) (v9 : (Int)) (v12 : (Int)) : Option (((Int)) ⊕ (((Unit) ⊕ (Int)))) := (bif (decide (v12 < v9)) then (Option.bind (idx a0.symbols v12) fun v13 => (Option.bind (idx a0.symbols v9) fun v14 => (bif (v13.name.toList == v14.name.toList) then (some (.inr (.inr 6))) else (some (.inl ((w64 (v12 + 1)))))))) else (some (.inr (.inl ()))))
def synthesisref11_Check_l2 (a0 : La) (v22 : (Int)) (v25 : (Int)) : Option (((Int)) ⊕ (((Unit) ⊕ (Int)))) := (bif (decide (v25 < v22)) then (Option.bind (idx a0.rules v25) fun v26 => (Option.bind (idx a0.rules v22) fun v27 => (Option.bind (synthesisref11_SameRule (v26) (v27)) fun v28 => (bif v28 then (some (.inr (.inr 6))) else (some (.inl ((w64 (v25 + 1))))))))) else (some (.inr (.inl ()))))
def synthesisref11_Check_l3 (a0 : La) (v22 : (Int)) : Option (((Int)) ⊕ (((Unit) ⊕ (Int)))) := (bif (decide (v22 < (List.length a0.rules : Int))) then (Option.bind (idx a0.rules v22) fun v23 => (Option.bind (synthesisref11_rule (a0) (v23)) fun v24 => (bif (v24 != 0) then (some (.inr (.inr v24))) else (Option.bind (loopN (synthesisref11_Check_l2 a0 v22) fuel (0)) fun (v29 : ((Unit) ⊕ (Int))) => Sum.elim (fun v30 => (some (.inl ((w64 (v22 + 1)))))) (fun v31 => (some (.inr (.inr v31)))) v29)))) else (some (.inr (.inl ()))))
def synthesisref11_Check_l4 (a0 : La) (v9 : (Int)) : Option (((Int)) ⊕ (((Unit) ⊕ (Int)))) := (bif (decide (v9 < (List.length a0.symbols : Int))) then (Option.bind (idx a0.symbols v9) fun v10 => (Option.bind (synthesisref11_Name (v10.name)) fun v11 => (bif (!v11) then (some (.inr (.inr 5))) else (Option.bind (loopN (synthesisref11_Check_l1 a0 v9) fuel (0)) fun (v15 : ((Unit) ⊕ (Int))) => Sum.elim (fun v16 => (Option.bind (idx a0.symbols v9) fun v17 => (Option.bind (synthesisref11_typed (v17.type)) fun v18 => (bif (!v18) then (some (.inr (.inr 3))) else (some (.inl ((w64 (v9 + 1))))))))) (fun v19 => (some (.inr (.inr v19)))) v15)))) else (some (.inr (.inl ()))))
def synthesisref11_Check_l5 (a0 : La) (v2 : (Int)) : Option (((Int)) ⊕ (((Unit) ⊕ (Int)))) := (bif (decide (v2 < (List.length a0.inputs : Int))) then (Option.bind (idx a0.inputs v2) fun v3 => (Option.bind (synthesisref11_typed (v3)) fun v4 => (bif (!v4) then (some (.inr (.inr 3))) else (some (.inl ((w64 (v2 + 1)))))))) else (some (.inr (.inl ()))))
def synthesisref11_Check (a0 : La) : Option (Int) := (Option.bind (synthesisref11_Name (a0.name)) fun v1 => (bif (!v1) then (some 5) else (bif (decide (4 < (List.length a0.inputs : Int))) then (some 2) else (Option.bind (loopN (synthesisref11_Check_l5 a0) fuel (0)) fun (v5 : ((Unit) ⊕ (Int))) => Sum.elim (fun v6 => (Option.bind ((bif (decide ((List.length a0.symbols : Int) < 1)) then (some (true)) else (some ((decide (16 < (List.length a0.symbols : Int)))))) : Option ((Bool))) fun (v8 : (Bool)) => (bif v8 then (some 2) else (Option.bind (loopN (synthesisref11_Check_l4 a0) fuel (0)) fun (v20 : ((Unit) ⊕ (Int))) => Sum.elim (fun v21 => (bif (decide (96 < (List.length a0.rules : Int))) then (some 2) else (Option.bind (loopN (synthesisref11_Check_l3 a0) fuel (0)) fun (v32 : ((Unit) ⊕ (Int))) => Sum.elim (fun v33 => (some 0)) (fun v34 => (some v34)) v32))) (fun v35 => (some v35)) v20)))) (fun v36 => (some v36)) v5))))
theorem synthesisref11_Check_ok (a0 : La) (r : Int) (h : synthesisref11_Check a0 = some r) : PCall Try.prog 40 [eLa a0] (eI (r)) := by
 unfold synthesisref11_Check at h
 refine pcl [.one .keep] Try.func40 (by kernel_rfl) (by kernel_rfl) (by kernel_rfl) ?_
 refine cl 10 h (synthesisref11_Name_ok _) (by kernel_rfl) fun v1 h => ?_
 refine cd 2 h (by kernel_rfl) (fun h => ?_) fun h => ?_
 ·cases h; exact lq 5 (by kernel_rfl)
 refine cd 9 h (by kernel_rfl) (fun h => ?_) fun h => ?_
 ·cases h; exact lq 5 (by kernel_rfl)
 refine lpx 7 (fun v2 => ⟨119, [(1, (.ref 1 0 0)), (3, (fI (v2)))], (synthesisref11_Check_m0 a0), [1], []⟩) (fun v5 e st => Sum.elim (fun p => e = .exit 0 ∧ LeSt st ⟨119, [(1, (.ref 1 0 0))], (synthesisref11_Check_m0 a0), [1], []⟩) (fun p => e = .ret ∧ retX TT st Try.f40.results.toList [.one .keep] = some (eI (p))) v5) h (by kernel_rfl) (le_a (by kernel_rfl)) (fun v2 r h => ?_) fun v5 h e st' hq => ?_
 ·unfold synthesisref11_Check_l5 at h
  refine cd 9 h (by kernel_rfl) (fun h => ?_) fun h => ?_
  ·refine ix nI 8 h (by kernel_rfl) fun v3 h => ?_
   refine cl 1 h (synthesisref11_typed_ok _) (by kernel_rfl) fun v4 h => ?_
   refine cd 2 h (by kernel_rfl) (fun h => ?_) fun h => ?_
   ·cases h; exact lor 5 (by kernel_rfl)
   cases h; exact lj 6 (by kernel_rfl)
  cases h; exact lo 1 (by kernel_rfl)
 rcases v5 with v6 | v36
 ·try simp only [Sum.elim_inl, Sum.elim_inr] at h
  obtain ⟨rfl, hle⟩ := hq
  refine ⟨_, hle, ?_⟩
  refine jn1 2 .normal (fun v8 => ⟨119, [(1, (.ref 1 0 0)), (40, (fB (v8)))], (synthesisref11_Check_m0 a0), [1], []⟩) h (by kernel_rfl) (fun v8 h => ?_) fun v8 h => ?_
  ·refine gd 6 h (by kernel_rfl) (fun h => ?_) fun h => ?_
   ·cases h; exact lj 6 (by kernel_rfl)
   cases h; exact lj 6 (by kernel_rfl)
  refine cd 0 h (by kernel_rfl) (fun h => ?_) fun h => ?_
  ·cases h; exact lq 5 (by kernel_rfl)
  refine lpx 7 (fun v9 => ⟨119, [(1, (.ref 1 0 0)), (4, (fI (v9)))], (synthesisref11_Check_m0 a0), [1], []⟩) (fun v20 e st => Sum.elim (fun p => e = .exit 2 ∧ LeSt st ⟨119, [(1, (.ref 1 0 0))], (synthesisref11_Check_m0 a0), [1], []⟩) (fun p => e = .ret ∧ retX TT st Try.f40.results.toList [.one .keep] = some (eI (p))) v20) h (by kernel_rfl) (le_a (by kernel_rfl)) (fun v9 r h => ?_) fun v20 h e st' hq => ?_
  ·unfold synthesisref11_Check_l4 at h
   refine cd 9 h (by kernel_rfl) (fun h => ?_) fun h => ?_
   ·refine ix nSy 9 h (by kernel_rfl) fun v10 h => ?_
    refine cl 2 h (synthesisref11_Name_ok _) (by kernel_rfl) fun v11 h => ?_
    refine cd 2 h (by kernel_rfl) (fun h => ?_) fun h => ?_
    ·cases h; exact lor 5 (by kernel_rfl)
    refine lpx 7 (fun v12 => ⟨119, [(1, (.ref 1 0 0)), (4, (fI (v9))), (5, (fI (v12)))], (synthesisref11_Check_m0 a0), [1], []⟩) (fun v15 e st => Sum.elim (fun p => e = .exit 4 ∧ LeSt st ⟨119, [(1, (.ref 1 0 0)), (4, (fI (v9)))], (synthesisref11_Check_m0 a0), [1], []⟩) (fun p => e = .ret ∧ retX TT st Try.f40.results.toList [.one .keep] = some (eI (p))) v15) h (by kernel_rfl) (le_a (by kernel_rfl)) (fun v12 r h => ?_) fun v15 h e st' hq => ?_
    ·unfold synthesisref11_Check_l1 at h
     refine cd 7 h (by kernel_rfl) (fun h => ?_) fun h => ?_
     ·refine dw 4 12 (by kernel_rfl) ?_
      refine ix nSy 3 h (by kernel_rfl) fun v13 h => ?_
      refine ix nSy 5 h (by kernel_rfl) fun v14 h => ?_
      refine cd 5 h (by kernel_rfl) (fun h => ?_) fun h => ?_
      ·cases h; exact lor 5 (by kernel_rfl)
      cases h; exact lj 6 (by kernel_rfl)
     cases h; exact lo 1 (by kernel_rfl)
    rcases v15 with v16 | v19
    ·try simp only [Sum.elim_inl, Sum.elim_inr] at h
     obtain ⟨rfl, hle⟩ := hq
     refine ⟨_, hle, ?_⟩
     refine ix nSy 5 h (by kernel_rfl) fun v17 h => ?_
     refine cl 2 h (synthesisref11_typed_ok _) (by kernel_rfl) fun v18 h => ?_
     refine cd 2 h (by kernel_rfl) (fun h => ?_) fun h => ?_
     ·cases h; exact lor 5 (by kernel_rfl)
     cases h; exact lj 6 (by kernel_rfl)
    ·try simp only [Sum.elim_inl, Sum.elim_inr] at h
     obtain ⟨rfl, hret⟩ := hq
     refine ⟨_, LeSt.refl, ?_⟩
     cases h; exact lvo hret
   cases h; exact lo 1 (by kernel_rfl)
  rcases v20 with v21 | v35
  ·try simp only [Sum.elim_inl, Sum.elim_inr] at h
   obtain ⟨rfl, hle⟩ := hq
   refine ⟨_, hle, ?_⟩
   refine cd 8 h (by kernel_rfl) (fun h => ?_) fun h => ?_
   ·cases h; exact lq 5 (by kernel_rfl)
   refine lpx 7 (fun v22 => ⟨119, [(1, (.ref 1 0 0)), (6, (fI (v22)))], (synthesisref11_Check_m0 a0), [1], []⟩) (fun v32 e st => Sum.elim (fun p => e = .exit 6 ∧ LeSt st ⟨119, [], [], [], []⟩) (fun p => e = .ret ∧ retX TT st Try.f40.results.toList [.one .keep] = some (eI (p))) v32) h (by kernel_rfl) (le_a (by kernel_rfl)) (fun v22 r h => ?_) fun v32 h e st' hq => ?_
   ·unfold synthesisref11_Check_l3 at h
    refine cd 9 h (by kernel_rfl) (fun h => ?_) fun h => ?_
    ·refine dw 5 6 (by kernel_rfl) ?_
     refine ix nRu 4 h (by kernel_rfl) fun v23 h => ?_
     refine cl 2 h (synthesisref11_rule_ok _ _) (by kernel_rfl) fun v24 h => ?_
     refine cd 7 h (by kernel_rfl) (fun h => ?_) fun h => ?_
     ·cases h; exact lor 6 (by kernel_rfl)
     refine lpx 6 (fun v25 => ⟨119, [(1, (.ref 1 0 0)), (6, (fI (v22))), (8, (fI (v25)))], (synthesisref11_Check_m0 a0), [1], []⟩) (fun v29 e st => Sum.elim (fun p => e = .exit 8 ∧ LeSt st ⟨119, [(1, (.ref 1 0 0)), (6, (fI (v22)))], (synthesisref11_Check_m0 a0), [1], []⟩) (fun p => e = .ret ∧ retX TT st Try.f40.results.toList [.one .keep] = some (eI (p))) v29) h (by kernel_rfl) (le_a (by kernel_rfl)) (fun v25 r h => ?_) fun v29 h e st' hq => ?_
     ·unfold synthesisref11_Check_l2 at h
      refine cd 7 h (by kernel_rfl) (fun h => ?_) fun h => ?_
      ·refine dw 4 10 (by kernel_rfl) ?_
       refine ix nRu 3 h (by kernel_rfl) fun v26 h => ?_
       refine ix nRu 4 h (by kernel_rfl) fun v27 h => ?_
       refine cl 2 h (synthesisref11_SameRule_ok _ _) (by kernel_rfl) fun v28 h => ?_
       refine cd 1 h (by kernel_rfl) (fun h => ?_) fun h => ?_
       ·cases h; exact lor 5 (by kernel_rfl)
       cases h; exact lj 6 (by kernel_rfl)
      cases h; exact lo 1 (by kernel_rfl)
     rcases v29 with v30 | v31
     ·try simp only [Sum.elim_inl, Sum.elim_inr] at h
      obtain ⟨rfl, hle⟩ := hq
      refine ⟨_, hle, ?_⟩
      cases h; exact lj 5 (by kernel_rfl)
     ·try simp only [Sum.elim_inl, Sum.elim_inr] at h
      obtain ⟨rfl, hret⟩ := hq
      refine ⟨_, LeSt.refl, ?_⟩
      cases h; exact lvo hret
    cases h; exact lo 1 (by kernel_rfl)
   rcases v32 with v33 | v34
   ·try simp only [Sum.elim_inl, Sum.elim_inr] at h
    obtain ⟨rfl, hle⟩ := hq
    refine ⟨_, hle, ?_⟩
    cases h; exact lq 5 (by kernel_rfl)
   ·try simp only [Sum.elim_inl, Sum.elim_inr] at h
    obtain ⟨rfl, hret⟩ := hq
    refine ⟨_, LeSt.refl, ?_⟩
    cases h; exact lv hret
  ·try simp only [Sum.elim_inl, Sum.elim_inr] at h
   obtain ⟨rfl, hret⟩ := hq
   refine ⟨_, LeSt.refl, ?_⟩
   cases h; exact lv hret
 ·try simp only [Sum.elim_inl, Sum.elim_inr] at h
  obtain ⟨rfl, hret⟩ := hq
  refine ⟨_, LeSt.refl, ?_⟩
  cases h; exact lv hret

def synthesisref12_Least_m0 (a0 : La) (v4 : (Int) × (List Int)) (v5 : Ru) : List (Nat × AObj) := [(1, (.box 26 [(fS (a0.name)), (.fz ((eL 1 eI) (a0.inputs))), (.fz ((eL 2 eSy) (a0.symbols))), (.fz ((eL 9 eRu) (a0.rules)))])), (2, (.frow 3 1 (List.map eI (v4.2)))), (3, (.box 50 [(fI (v5.symbol)), (fI (v5.kind)), (fI (v5.input)), (fI (v5.const.type)), (fI (v5.const.num)), (fS (v5.const.text)), (.fz ((eL 4 eVaR) (v5.const.items))), (fS (v5.op)), (.fz ((eL 1 eI) (v5.args)))]))]
def synthesisref12_Least_m1 (a0 : La) (v4 : (Int) × (List Int)) (v5 : Ru) (v15 : Int) : List (Nat × AObj) := [(1, (.box 26 [(fS (a0.name)), (.fz ((eL 1 eI) (a0.inputs))), (.fz ((eL 2 eSy) (a0.symbols))), (.fz ((eL 9 eRu) (a0.rules)))])), (2, (.frow 3 1 (List.map eI ((List.set v4.2 (Int.toNat v5.symbol) v15)))))]
def synthesisref12_Least_l1 (v4 : (Int) × (List Int)) (v5 : Ru) (v6 : (Int) × (Int)) : Option (((Int) × (Int)) ⊕ ((Int))) := (bif (decide (v6.2 < (List.length v5.args : Int))) then (Option.bind ((Option.bind (idx v5.args v6.2) fun v7 => (Option.bind ((Option.bind (idx v4.2 v7) fun v8 => (bif (v8 == 0) then (some (0)) else (some (v6.1)))) : Option ((Int))) fun (v10 : (Int)) => (bif (decide (0 < v10)) then (Option.bind (idx v4.2 v7) fun v11 => (some ((w64 (v10 + v11))))) else (some (v10))))) : Option ((Int))) fun (v13 : (Int)) => (some (.inl (v13, (w64 (v6.2 + 1)))))) else (some (.inr (v6.1))))
def synthesisref12_Least_l2 (a0 : La) (v4 : (Int) × (List Int)) : Option (((Int) × (List Int)) ⊕ ((List Int))) := (bif (decide (v4.1 < (List.length a0.rules : Int))) then (Option.bind ((Option.bind (idx a0.rules v4.1) fun v5 => (Option.bind (loopN (synthesisref12_Least_l1 v4 v5) fuel (1, 0)) fun (v15 : (Int)) => (Option.bind ((bif (decide (0 < v15)) then (Option.bind (idx v4.2 v5.symbol) fun v16 => (bif (v16 == 0) then (some (true)) else (Option.bind (idx v4.2 v5.symbol) fun v17 => (some ((decide (v15 < v17))))))) else (some (false))) : Option ((Bool))) fun (v19 : (Bool)) => (bif v19 then (Option.bind (idx v4.2 v5.symbol) fun v20 => (some ((List.set v4.2 (Int.toNat v5.symbol) v15)))) else (some (v4.2)))))) : Option ((List Int))) fun (v22 : (List Int)) => (some (.inl ((w64 (v4.1 + 1)), v22)))) else (some (.inr (v4.2))))
def synthesisref12_Least_l3 (a0 : La) (v3 : (Int) × (List Int)) : Option (((Int) × (List Int)) ⊕ ((List Int))) := (bif (decide (v3.1 < (List.length a0.symbols : Int))) then (Option.bind (loopN (synthesisref12_Least_l2 a0) fuel (0, v3.2)) fun (v24 : (List Int)) => (some (.inl ((w64 (v3.1 + 1)), v24)))) else (some (.inr (v3.2))))
def synthesisref12_Least (a0 : La) : Option ((List Int) × (Int)) := (Option.bind (synthesisref11_Check (a0)) fun v1 => (bif (v1 != 0) then (some (([] : List Int), v1)) else (Option.bind (mkL 8 0 (List.length a0.symbols : Int)) fun v2 => (Option.bind (loopN (synthesisref12_Least_l3 a0) fuel (0, v2)) fun (v26 : (List Int)) => (some (v26, 0))))))
theorem synthesisref12_Least_ok (a0 : La) (r : (List Int) × (Int)) (h : synthesisref12_Least a0 = some r) : PCall Try.prog 17 [eLa a0] (.tup [(eL 1 eI) (r.1), eI (r.2)]) := by
 unfold synthesisref12_Least at h
 refine pcl [.one (.sl 1), .one .keep] Try.func17 (by kernel_rfl) (by kernel_rfl) (by kernel_rfl) ?_
 refine cl 10 h (synthesisref11_Check_ok _) (by kernel_rfl) fun v1 h => ?_
 refine cd 7 h (by kernel_rfl) (fun h => ?_) fun h => ?_
 ·cases h; exact lq 7 (by kernel_rfl)
 obtain ⟨v2, hv2, h⟩ := Option.bind_eq_some_iff.1 h
 refine sst 6 (s_make (t := 22) (X := (.tmp 18)) (Y := (.tmp 18)) (id := 2) (k := .i64) (k' := .i64) (d := tt22) (e := 3) (de := tt3) (enc := eI) (zv := .int .i64 0) hv2 (by kernel_rfl) tt_ok (by kernel_rfl) (by kernel_rfl) (by kernel_rfl) rfl rfl rfl rfl rfl (by kernel_rfl) (by kernel_rfl) (by kernel_rfl)) (by kernel_rfl) ?_
 refine lp1 11 (fun v3 => ⟨80, [(1, (.ref 1 0 0)), (5, (.row 2 (List.length (v3.2)))), (22, (fI ((List.length a0.symbols : Int)))), (23, (fI (v3.1)))], [(1, (.box 26 [(fS (a0.name)), (.fz ((eL 1 eI) (a0.inputs))), (.fz ((eL 2 eSy) (a0.symbols))), (.fz ((eL 9 eRu) (a0.rules)))])), (2, (.frow 3 1 (List.map eI (v3.2))))], [2, 1], []⟩) (.exit 0) (fun v26 => ⟨80, [(5, (.row 2 (List.length (v26))))], [(2, (.frow 3 1 (List.map eI (v26))))], [2], []⟩) h (by kernel_rfl) (by kernel_rfl) (fun v3 r h => ?_) fun v26 h => ?_
 ·unfold synthesisref12_Least_l3 at h
  refine cd 5 h (by kernel_rfl) (fun h => ?_) fun h => ?_
  ·refine lp1 11 (fun v4 => ⟨80, [(1, (.ref 1 0 0)), (5, (.row 2 (List.length (v4.2)))), (22, (fI ((List.length a0.symbols : Int)))), (23, (fI (v3.1))), (26, (.fz ((eL 9 eRu) (a0.rules)))), (27, (fI ((List.length a0.rules : Int)))), (28, (fI (v4.1)))], [(1, (.box 26 [(fS (a0.name)), (.fz ((eL 1 eI) (a0.inputs))), (.fz ((eL 2 eSy) (a0.symbols))), (.fz ((eL 9 eRu) (a0.rules)))])), (2, (.frow 3 1 (List.map eI (v4.2))))], [2, 1], []⟩) (.exit 2) (fun v24 => ⟨80, [(1, (.ref 1 0 0)), (5, (.row 2 (List.length (v24)))), (22, (fI ((List.length a0.symbols : Int)))), (23, (fI (v3.1)))], [(1, (.box 26 [(fS (a0.name)), (.fz ((eL 1 eI) (a0.inputs))), (.fz ((eL 2 eSy) (a0.symbols))), (.fz ((eL 9 eRu) (a0.rules)))])), (2, (.frow 3 1 (List.map eI (v24))))], [2, 1], []⟩) h (by kernel_rfl) (by kernel_rfl) (fun v4 r h => ?_) fun v24 h => ?_
   ·unfold synthesisref12_Least_l2 at h
    refine cd 5 h (by kernel_rfl) (fun h => ?_) fun h => ?_
    ·refine jn1 3 .normal (fun v22 => ⟨80, [(1, (.ref 1 0 0)), (5, (.row 2 (List.length (v22)))), (22, (fI ((List.length a0.symbols : Int)))), (23, (fI (v3.1))), (26, (.fz ((eL 9 eRu) (a0.rules)))), (27, (fI ((List.length a0.rules : Int)))), (28, (fI (v4.1)))], [(1, (.box 26 [(fS (a0.name)), (.fz ((eL 1 eI) (a0.inputs))), (.fz ((eL 2 eSy) (a0.symbols))), (.fz ((eL 9 eRu) (a0.rules)))])), (2, (.frow 3 1 (List.map eI (v22))))], [2, 1], []⟩) h (by kernel_rfl) (fun v22 h => ?_) fun v22 h => ?_
     ·refine ix nRu 2 h (by kernel_rfl) fun v5 h => ?_
      refine lp1 17 (fun v6 => ⟨80, [(1, (.ref 1 0 0)), (5, (.row 2 (List.length (v4.2)))), (7, (.ref 3 0 0)), (8, (fI (v6.1))), (22, (fI ((List.length a0.symbols : Int)))), (23, (fI (v3.1))), (26, (.fz ((eL 9 eRu) (a0.rules)))), (27, (fI ((List.length a0.rules : Int)))), (28, (fI (v4.1))), (33, (.fz ((eL 1 eI) (v5.args)))), (34, (fI ((List.length v5.args : Int)))), (35, (fI (v6.2)))], (synthesisref12_Least_m0 a0 v4 v5), [3, 2, 1], []⟩) (.exit 4) (fun v15 => ⟨80, [(1, (.ref 1 0 0)), (5, (.row 2 (List.length (v4.2)))), (7, (.ref 3 0 0)), (8, (fI (v15))), (22, (fI ((List.length a0.symbols : Int)))), (23, (fI (v3.1))), (26, (.fz ((eL 9 eRu) (a0.rules)))), (27, (fI ((List.length a0.rules : Int)))), (28, (fI (v4.1)))], (synthesisref12_Least_m0 a0 v4 v5), [3, 2, 1], []⟩) h (by kernel_rfl) (by kernel_rfl) (fun v6 r h => ?_) fun v15 h => ?_
      ·unfold synthesisref12_Least_l1 at h
       refine cd 5 h (by kernel_rfl) (fun h => ?_) fun h => ?_
       ·refine jn1 3 .normal (fun v13 => ⟨80, [(1, (.ref 1 0 0)), (5, (.row 2 (List.length (v4.2)))), (7, (.ref 3 0 0)), (8, (fI (v13))), (22, (fI ((List.length a0.symbols : Int)))), (23, (fI (v3.1))), (26, (.fz ((eL 9 eRu) (a0.rules)))), (27, (fI ((List.length a0.rules : Int)))), (28, (fI (v4.1))), (33, (.fz ((eL 1 eI) (v5.args)))), (34, (fI ((List.length v5.args : Int)))), (35, (fI (v6.2)))], (synthesisref12_Least_m0 a0 v4 v5), [3, 2, 1], []⟩) h (by kernel_rfl) (fun v13 h => ?_) fun v13 h => ?_
        ·refine ix nI 2 h (by kernel_rfl) fun v7 h => ?_
         refine jn1 4 .normal (fun v10 => ⟨80, [(1, (.ref 1 0 0)), (5, (.row 2 (List.length (v4.2)))), (7, (.ref 3 0 0)), (8, (fI (v10))), (10, (fI (v7))), (22, (fI ((List.length a0.symbols : Int)))), (23, (fI (v3.1))), (26, (.fz ((eL 9 eRu) (a0.rules)))), (27, (fI ((List.length a0.rules : Int)))), (28, (fI (v4.1))), (33, (.fz ((eL 1 eI) (v5.args)))), (34, (fI ((List.length v5.args : Int)))), (35, (fI (v6.2)))], (synthesisref12_Least_m0 a0 v4 v5), [3, 2, 1], []⟩) h (by kernel_rfl) (fun v10 h => ?_) fun v10 h => ?_
         ·obtain ⟨v8, hv8, h⟩ := Option.bind_eq_some_iff.1 h
          refine nst 4 (n_rowAddr (t := 22) (X := (.tmp 39)) (Y := (.tmp 40)) (id := 2) (k := .i64) (d := tt22) (e := 3) (de := tt3) (enc := eI) (xs := v4.2) (n := List.length (v4.2)) hv8 tt_ok (by kernel_rfl) (by kernel_rfl) (by kernel_rfl) (by kernel_rfl) (by kernel_rfl) (by kernel_rfl) (by kernel_rfl) rfl (by kernel_rfl)) (by kernel_rfl) ?_
          refine nst 0 (n_rowLoad (t := 3) (X := (.tmp 41)) (id := 2) (d := tt3) (enc := eI) (xs := v4.2) (x := v8) (i := v7) (n := List.length (v4.2)) hv8 tt_ok (by kernel_rfl) (by kernel_rfl) (by kernel_rfl) (by kernel_rfl) (by kernel_rfl) rfl (fun _ => rfl)) (by kernel_rfl) ?_
          refine cd 2 h (by kernel_rfl) (fun h => ?_) fun h => ?_
          ·cases h; exact lj 3 (by kernel_rfl)
          cases h; exact lj 1 (by kernel_rfl)
         refine cd 5 h (by kernel_rfl) (fun h => ?_) fun h => ?_
         ·obtain ⟨v11, hv11, h⟩ := Option.bind_eq_some_iff.1 h
          refine nst 4 (n_rowAddr (t := 22) (X := (.tmp 47)) (Y := (.tmp 48)) (id := 2) (k := .i64) (d := tt22) (e := 3) (de := tt3) (enc := eI) (xs := v4.2) (n := List.length (v4.2)) hv11 tt_ok (by kernel_rfl) (by kernel_rfl) (by kernel_rfl) (by kernel_rfl) (by kernel_rfl) (by kernel_rfl) (by kernel_rfl) rfl (by kernel_rfl)) (by kernel_rfl) ?_
          refine nst 0 (n_rowLoad (t := 3) (X := (.tmp 49)) (id := 2) (d := tt3) (enc := eI) (xs := v4.2) (x := v11) (i := v7) (n := List.length (v4.2)) hv11 tt_ok (by kernel_rfl) (by kernel_rfl) (by kernel_rfl) (by kernel_rfl) (by kernel_rfl) rfl (fun _ => rfl)) (by kernel_rfl) ?_
          cases h; exact lj 3 (by kernel_rfl)
         cases h; exact lj 1 (by kernel_rfl)
        cases h; exact lj 4 (by kernel_rfl)
       cases h; exact lo 1 (by kernel_rfl)
      refine jn1 1 .normal (fun v19 => ⟨80, [(1, (.ref 1 0 0)), (5, (.row 2 (List.length (v4.2)))), (7, (.ref 3 0 0)), (8, (fI (v15))), (22, (fI ((List.length a0.symbols : Int)))), (23, (fI (v3.1))), (26, (.fz ((eL 9 eRu) (a0.rules)))), (27, (fI ((List.length a0.rules : Int)))), (28, (fI (v4.1))), (71, (fB (v19)))], (synthesisref12_Least_m0 a0 v4 v5), [3, 2, 1], []⟩) h (by kernel_rfl) (fun v19 h => ?_) fun v19 h => ?_
      ·refine gd 4 h (by kernel_rfl) (fun h => ?_) fun h => ?_
       ·obtain ⟨v16, hv16, h⟩ := Option.bind_eq_some_iff.1 h
        refine nst 3 (n_rowAddr (t := 22) (X := (.tmp 56)) (Y := (.tmp 58)) (id := 2) (k := .i64) (d := tt22) (e := 3) (de := tt3) (enc := eI) (xs := v4.2) (n := List.length (v4.2)) hv16 tt_ok (by kernel_rfl) (by kernel_rfl) (by kernel_rfl) (by kernel_rfl) (by kernel_rfl) (by kernel_rfl) (by kernel_rfl) rfl (by kernel_rfl)) (by kernel_rfl) ?_
        refine nst 0 (n_rowLoad (t := 3) (X := (.tmp 59)) (id := 2) (d := tt3) (enc := eI) (xs := v4.2) (x := v16) (i := v5.symbol) (n := List.length (v4.2)) hv16 tt_ok (by kernel_rfl) (by kernel_rfl) (by kernel_rfl) (by kernel_rfl) (by kernel_rfl) rfl (fun _ => rfl)) (by kernel_rfl) ?_
        refine gd 2 h (by kernel_rfl) (fun h => ?_) fun h => ?_
        ·cases h; exact lj 10 (by kernel_rfl)
        obtain ⟨v17, hv17, h⟩ := Option.bind_eq_some_iff.1 h
        refine nst 4 (n_rowAddr (t := 22) (X := (.tmp 64)) (Y := (.tmp 66)) (id := 2) (k := .i64) (d := tt22) (e := 3) (de := tt3) (enc := eI) (xs := v4.2) (n := List.length (v4.2)) hv17 tt_ok (by kernel_rfl) (by kernel_rfl) (by kernel_rfl) (by kernel_rfl) (by kernel_rfl) (by kernel_rfl) (by kernel_rfl) rfl (by kernel_rfl)) (by kernel_rfl) ?_
        refine nst 0 (n_rowLoad (t := 3) (X := (.tmp 67)) (id := 2) (d := tt3) (enc := eI) (xs := v4.2) (x := v17) (i := v5.symbol) (n := List.length (v4.2)) hv17 tt_ok (by kernel_rfl) (by kernel_rfl) (by kernel_rfl) (by kernel_rfl) (by kernel_rfl) rfl (fun _ => rfl)) (by kernel_rfl) ?_
        cases h; exact lj 4 (by kernel_rfl)
       cases h; exact lj 17 (by kernel_rfl)
      refine cd 0 h (by kernel_rfl) (fun h => ?_) fun h => ?_
      ·obtain ⟨v20, hv20, h⟩ := Option.bind_eq_some_iff.1 h
       refine nst 5 (n_rowAddr (t := 22) (X := (.tmp 72)) (Y := (.tmp 74)) (id := 2) (k := .i64) (d := tt22) (e := 3) (de := tt3) (enc := eI) (xs := v4.2) (n := List.length (v4.2)) hv20 tt_ok (by kernel_rfl) (by kernel_rfl) (by kernel_rfl) (by kernel_rfl) (by kernel_rfl) (by kernel_rfl) (by kernel_rfl) rfl (by kernel_rfl)) (by kernel_rfl) ?_
       refine sst 0 (e_rowStore (t := 3) (X := (.tmp 76)) (Y := (.tmp 75)) (id := 2) (d := tt3) (enc := eI) (xs := v4.2) (x := v20) (i := v5.symbol) (y := v15) (n := List.length (v4.2)) hv20 tt_ok (by kernel_rfl) (by kernel_rfl) (by kernel_rfl) (by kernel_rfl) (by kernel_rfl) rfl (by kernel_rfl) (fun _ => ⟨_, rfl, rfl⟩)) (by kernel_rfl) ?_
       refine wle 0 (LeSt.trans (show LeSt _ ⟨80, [(1, (.ref 1 0 0)), (5, (.row 2 (List.length (v4.2)))), (22, (fI ((List.length a0.symbols : Int)))), (23, (fI (v3.1))), (26, (.fz ((eL 9 eRu) (a0.rules)))), (27, (fI ((List.length a0.rules : Int)))), (28, (fI (v4.1))), (72, (.row 2 (List.length (v4.2)))), (74, (fI (v5.symbol))), (75, (fI (v15)))], (synthesisref12_Least_m1 a0 v4 v5 v15), [2, 1], []⟩ from le_a (by kernel_rfl)) (LeSt.trans (le_relen 2 (k := 2) (m := List.length (v4.2)) (n := List.length ((List.set v4.2 (Int.toNat v5.symbol) v15))) (by kernel_rfl) (by simp)) (show LeSt _ ⟨80, [(1, (.ref 1 0 0)), (5, (.row 2 (List.length ((List.set v4.2 (Int.toNat v5.symbol) v15))))), (22, (fI ((List.length a0.symbols : Int)))), (23, (fI (v3.1))), (26, (.fz ((eL 9 eRu) (a0.rules)))), (27, (fI ((List.length a0.rules : Int)))), (28, (fI (v4.1))), (72, (.row 2 (List.length ((List.set v4.2 (Int.toNat v5.symbol) v15))))), (74, (fI (v5.symbol))), (75, (fI (v15)))], (synthesisref12_Least_m1 a0 v4 v5 v15), [2, 1], []⟩ from le_a (by kernel_rfl)))) (by kernel_rfl) ?_
       cases h; exact lj 1 (by kernel_rfl)
      cases h; exact lj 1 (by kernel_rfl)
     cases h; exact lj 4 (by kernel_rfl)
    cases h; exact lo 1 (by kernel_rfl)
   cases h; exact lj 4 (by kernel_rfl)
  cases h; exact lo 1 (by kernel_rfl)
 refine wle 6 (le_freeze (t := 2) (id := 2) (n := List.length (v26)) (e := 3) (size := 1) (xs := List.map eI (v26)) (by kernel_rfl) (by kernel_rfl) (by simp)) (by kernel_rfl) ?_
 cases h; exact lq 1 (by kernel_rfl)

def synthesislaw12_CountingLeast_l1 (v3 : (List Int) × (Int)) (v4 : (List Int) × (Int)) (v7 : (Int)) : Option (((Int)) ⊕ (((Unit) ⊕ (Bool)))) := (bif (decide (v7 < (List.length v3.1 : Int))) then (Option.bind (idx v3.1 v7) fun v8 => (Option.bind (idx v4.1 v7) fun v9 => (bif (v8 != v9) then (some (.inr (.inr false))) else (some (.inl ((w64 (v7 + 1)))))))) else (some (.inr (.inl ()))))
def synthesislaw12_CountingLeast (a0 : La) : Option (Bool) := (Option.bind (synthesislaw12_small (a0) ((Tm.mk (0) (([] : List Tm))))) fun v1 => (bif (!v1) then (Option.bind (synthesislaw12_alive ) fun v2 => (some v2)) else (Option.bind (counting_Least (a0)) fun v3 => (Option.bind (synthesisref12_Least (a0)) fun v4 => (Option.bind ((bif (v3.2 != v4.2) then (some (true)) else (some (((List.length v3.1 : Int) != (List.length v4.1 : Int))))) : Option ((Bool))) fun (v6 : (Bool)) => (bif v6 then (some false) else (Option.bind (loopN (synthesislaw12_CountingLeast_l1 v3 v4) fuel (0)) fun (v10 : ((Unit) ⊕ (Bool))) => Sum.elim (fun v11 => (Option.bind (synthesislaw12_alive ) fun v12 => (some v12))) (fun v13 => (some v13)) v10)))))))
theorem synthesislaw12_CountingLeast_ok (a0 : La) (r : Bool) (h : synthesislaw12_CountingLeast a0 = some r) : PCall Try.prog 4 [eLa a0] (eB (r)) := by
 unfold synthesislaw12_CountingLeast at h
 refine pcl [.one .keep] Try.func4 (by kernel_rfl) (by kernel_rfl) (by kernel_rfl) ?_
 refine cl 10 h (synthesislaw12_small_ok _ _) (by kernel_rfl) fun v1 h => ?_
 refine cd 2 h (by kernel_rfl) (fun h => ?_) fun h => ?_
 ·refine cl 2 h (synthesislaw12_alive_ok) (by kernel_rfl) fun v2 h => ?_
  cases h; exact lq 3 (by kernel_rfl)
 refine cl 4 h (counting_Least_ok _) (by kernel_rfl) fun v3 h => ?_
 refine cl 9 h (synthesisref12_Least_ok _) (by kernel_rfl) fun v4 h => ?_
 refine jn1 8 .normal (fun v6 => ⟨49, [(3, (.fz ((eL 1 eI) (v3.1)))), (5, (.fz ((eL 1 eI) (v4.1)))), (32, (fB (v6)))], [], [], []⟩) h (by kernel_rfl) (fun v6 h => ?_) fun v6 h => ?_
 ·refine gd 5 h (by kernel_rfl) (fun h => ?_) fun h => ?_
  ·cases h; exact lj 7 (by kernel_rfl)
  cases h; exact lj 7 (by kernel_rfl)
 refine cd 0 h (by kernel_rfl) (fun h => ?_) fun h => ?_
 ·cases h; exact lq 5 (by kernel_rfl)
 refine lpx 9 (fun v7 => ⟨49, [(3, (.fz ((eL 1 eI) (v3.1)))), (5, (.fz ((eL 1 eI) (v4.1)))), (34, (fI ((List.length v3.1 : Int)))), (35, (fI (v7)))], [], [], []⟩) (fun v10 e st => Sum.elim (fun p => e = .exit 0 ∧ LeSt st ⟨49, [], [], [], []⟩) (fun p => e = .ret ∧ retX TT st Try.f4.results.toList [.one .keep] = some (eB (p))) v10) h (by kernel_rfl) (le_a (by kernel_rfl)) (fun v7 r h => ?_) fun v10 h e st' hq => ?_
 ·unfold synthesislaw12_CountingLeast_l1 at h
  refine cd 5 h (by kernel_rfl) (fun h => ?_) fun h => ?_
  ·refine dw 9 8 (by kernel_rfl) ?_
   refine ix nI 2 h (by kernel_rfl) fun v8 h => ?_
   refine ix nI 3 h (by kernel_rfl) fun v9 h => ?_
   refine cd 4 h (by kernel_rfl) (fun h => ?_) fun h => ?_
   ·cases h; exact lor 5 (by kernel_rfl)
   cases h; exact lj 5 (by kernel_rfl)
  cases h; exact lo 1 (by kernel_rfl)
 rcases v10 with v11 | v13
 ·try simp only [Sum.elim_inl, Sum.elim_inr] at h
  obtain ⟨rfl, hle⟩ := hq
  refine ⟨_, hle, ?_⟩
  refine cl 2 h (synthesislaw12_alive_ok) (by kernel_rfl) fun v12 h => ?_
  cases h; exact lq 3 (by kernel_rfl)
 ·try simp only [Sum.elim_inl, Sum.elim_inr] at h
  obtain ⟨rfl, hret⟩ := hq
  refine ⟨_, LeSt.refl, ?_⟩
  cases h; exact lv hret

structure S_synthesisref12_reader where
  f_l : La
  f_rules : List Int
structure S_ar2_i64 where
  f_0 : Int
  f_1 : Int
end Go.Proofs.Ytfkddbccogakoaa
