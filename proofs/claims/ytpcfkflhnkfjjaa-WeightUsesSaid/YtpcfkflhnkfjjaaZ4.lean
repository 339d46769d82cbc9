/- Typed programs and what computes them. -/
import Derived.Test.YtpcfkflhnkfjjaaZ3
set_option linter.unusedVariables false
set_option linter.unusedSimpArgs false
set_option maxRecDepth 100000
namespace Go.Proofs.Ytpcfkflhnkfjjaa
open Go Go.RowKit Go.Proofs
attribute [local irreducible] NStep StepA EStep LeSt
def synthesisref38_Learn_l1 (v13 : List Int) (v14 : (Int) × (List Int)) : Option (((Int) × (List Int)) ⊕ ((List Int))) := (bif (decide (v14.1 < (List.length v13 : Int))) then (Option.bind (idx v13 v14.1) fun v15 => (Option.bind (idx v13 v14.1) fun v16 => (Option.bind (idx v14.2 v16) fun v17 => (Option.bind (idx v14.2 v15) fun v18 => (some (.inl ((w64 (v14.1 + 1)), (List.set v14.2 (Int.toNat v15) (w64 (v17 + 1)))))))))) else (some (.inr (v14.2))))
def synthesisref38_Learn_l2 (a0 : La) (v22 : (List Int)) (v23 : (Int) × (List Int)) (v24 : (Int) × (Int)) : Option (((Int) × (Int)) ⊕ ((Int))) := (bif (decide (v24.2 < (List.length a0.rules : Int))) then (Option.bind ((Option.bind (idx a0.rules v24.2) fun v25 => (Option.bind (idx a0.rules v23.1) fun v26 => (bif (v25.symbol == v26.symbol) then (Option.bind (idx v22 v24.2) fun v27 => (some ((w64 ((w64 (v24.1 + v27)) + 1))))) else (some (v24.1))))) : Option ((Int))) fun (v29 : (Int)) => (some (.inl (v29, (w64 (v24.2 + 1)))))) else (some (.inr (v24.1))))
def synthesisref38_Learn_l3 (a0 : La) (v22 : (List Int)) (v23 : (Int) × (List Int)) : Option (((Int) × (List Int)) ⊕ ((List Int))) := (bif (decide (v23.1 < (List.length a0.rules : Int))) then (Option.bind (loopN (synthesisref38_Learn_l2 a0 v22 v23) fuel (0, 0)) fun (v31 : (Int)) => (Option.bind (idx v22 v23.1) fun v32 => (Option.bind (quo .i64 v31 (w64 (v32 + 1))) fun v33 => (Option.bind (app 8 v23.2 ([(imin v33 1000)] : List (Int))) fun v34 => (some (.inl ((w64 (v23.1 + 1)), v34))))))) else (some (.inr (v23.2))))
def synthesisref38_Learn_l4 (a0 : La) (a1 : List Tm) (v3 : (Int) × (List Int)) : Option (((Int) × (List Int)) ⊕ ((((List Int)) ⊕ ((List Int) × (Int))))) := (bif (decide (v3.1 < (List.length a1 : Int))) then (Option.bind ((Option.bind (idx a1 v3.1) fun v4 => (bif (decide (v4.rule < 0)) then (some (true)) else (Option.bind (idx a1 v3.1) fun v5 => (some ((decide ((List.length a0.rules : Int) ≤ v5.rule))))))) : Option ((Bool))) fun (v7 : (Bool)) => (bif v7 then (some (.inr (.inr (([] : List Int), 1)))) else (Option.bind (idx a1 v3.1) fun v8 => (Option.bind (idx a0.rules v8.rule) fun v9 => (Option.bind (idx a1 v3.1) fun v10 => (Option.bind (synthesisref13_Check (a0) (v9.symbol) (v10)) fun v11 => (bif (v11 != 0) then (some (.inr (.inr (([] : List Int), v11)))) else (Option.bind (idx a1 v3.1) fun v12 => (Option.bind (synthesisref13_Rules fuel (v12)) fun v13 => (Option.bind (loopN (synthesisref38_Learn_l1 v13) fuel (0, v3.2)) fun (v20 : (List Int)) => (some (.inl ((w64 (v3.1 + 1)), v20))))))))))))) else (some (.inr (.inl (v3.2)))))
def synthesisref38_Learn (a0 : La) (a1 : List Tm) : Option ((List Int) × (Int)) := (Option.bind (synthesisref11_Check (a0)) fun v1 => (bif (v1 != 0) then (some (([] : List Int), v1)) else (bif (decide (4096 < (List.length a1 : Int))) then (some (([] : List Int), 11)) else (Option.bind (mkL 8 0 (List.length a0.rules : Int)) fun v2 => (Option.bind (loopN (synthesisref38_Learn_l4 a0 a1) fuel (0, v2)) fun (v21 : (((List Int)) ⊕ ((List Int) × (Int)))) => Sum.elim (fun v22 => (Option.bind (loopN (synthesisref38_Learn_l3 a0 v22) fuel (0, ([] : List (Int)))) fun (v36 : (List Int)) => (some (v36, 0)))) (fun v37 => (some v37)) v21)))))
def synthesislaw38_WeightUses_m0 (a0 : La) (v27 : List Int) : List (Nat × AObj) := [(1, (.box 26 [(fS (a0.name)), (.fz ((eL 1 eI) (a0.inputs))), (.fz ((eL 2 eSy) (a0.symbols))), (.fz ((eL 9 eRu) (a0.rules)))])), (2, (.frow 3 1 (List.map eI (v27))))]
def synthesislaw38_WeightUses_m1 (a0 : La) (v13 : (Int) × (List Int)) : List (Nat × AObj) := [(1, (.box 26 [(fS (a0.name)), (.fz ((eL 1 eI) (a0.inputs))), (.fz ((eL 2 eSy) (a0.symbols))), (.fz ((eL 9 eRu) (a0.rules)))])), (2, (.frow 3 1 (List.map eI (v13.2))))]
def synthesislaw38_WeightUses_l1 (v12 : List Int) (v13 : (Int) × (List Int)) : Option (((Int) × (List Int)) ⊕ ((List Int))) := (bif (decide (v13.1 < (List.length v12 : Int))) then (Option.bind ((Option.bind ((Option.bind (idx v12 v13.1) fun v14 => (bif (decide (0 ≤ v14)) then (Option.bind (idx v12 v13.1) fun v15 => (some ((decide (v15 < (List.length (v13.2) : Int)))))) else (some (false)))) : Option ((Bool))) fun (v17 : (Bool)) => (bif v17 then (Option.bind (idx v12 v13.1) fun v18 => (Option.bind (idx v12 v13.1) fun v19 => (Option.bind (idx v13.2 v19) fun v20 => (Option.bind (idx v13.2 v18) fun v21 => (some ((List.set v13.2 (Int.toNat v18) (w64 (v20 + 1))))))))) else (some (v13.2)))) : Option ((List Int))) fun (v23 : (List Int)) => (some (.inl ((w64 (v13.1 + 1)), v23)))) else (some (.inr (v13.2))))
def synthesislaw38_WeightUses_l2 (a0 : La) (v27 : (List Int)) (v28 : (List Int) × (Int)) (v33 : (Int)) (v34 : (Int)) : Option (((Int)) ⊕ (((Unit) ⊕ (Bool)))) := (bif (decide (v34 < (List.length v28.1 : Int))) then (Option.bind ((Option.bind (idx v28.1 v33) fun v35 => (bif (decide (v35 < 1)) then (some (true)) else (Option.bind (idx a0.rules v33) fun v36 => (Option.bind (idx a0.rules v34) fun v37 => (bif (v36.symbol == v37.symbol) then (Option.bind (idx v27 v33) fun v38 => (Option.bind (idx v27 v34) fun v39 => (bif (decide (v39 < v38)) then (Option.bind (idx v28.1 v33) fun v40 => (Option.bind (idx v28.1 v34) fun v41 => (some ((decide (v41 < v40)))))) else (some (false))))) else (some (false))))))) : Option ((Bool))) fun (v43 : (Bool)) => (bif v43 then (some (.inr (.inr false))) else (some (.inl ((w64 (v34 + 1))))))) else (some (.inr (.inl ()))))
def synthesislaw38_WeightUses_l3 (a1 : List Tm) (v6 : List Int) (v49 : (Int)) : Option (((Int)) ⊕ (((Unit) ⊕ (Bool)))) := (bif (decide (v49 < (List.length a1 : Int))) then (Option.bind (idx a1 v49) fun v50 => (Option.bind (weight_Cost fuel (v6) (v50)) fun v51 => (Option.bind ((bif (v51.2 != 0) then (some (true)) else (Option.bind (idx a1 v49) fun v52 => (Option.bind (synthesisref13_Size fuel (v52)) fun v53 => (some ((v51.1 != v53)))))) : Option ((Bool))) fun (v55 : (Bool)) => (bif v55 then (some (.inr (.inr false))) else (some (.inl ((w64 (v49 + 1))))))))) else (some (.inr (.inl ()))))
def synthesislaw38_WeightUses_l4 (a0 : La) (v27 : (List Int)) (v28 : (List Int) × (Int)) (v33 : (Int)) : Option (((Int)) ⊕ (((Unit) ⊕ (Bool)))) := (bif (decide (v33 < (List.length v28.1 : Int))) then (Option.bind (loopN (synthesislaw38_WeightUses_l2 a0 v27 v28 v33) fuel (0)) fun (v44 : ((Unit) ⊕ (Bool))) => Sum.elim (fun v45 => (some (.inl ((w64 (v33 + 1)))))) (fun v46 => (some (.inr (.inr v46)))) v44) else (some (.inr (.inl ()))))
def synthesislaw38_WeightUses_l5 (a1 : List Tm) (v7 : (Int) × (List Int)) : Option (((Int) × (List Int)) ⊕ ((((List Int)) ⊕ (Bool)))) := (bif (decide (v7.1 < (List.length a1 : Int))) then (Option.bind (idx a1 v7.1) fun v8 => (Option.bind (synthesisref13_Within (v8) (30)) fun v9 => (bif (!v9) then (Option.bind (synthesislaw38_awake ) fun v10 => (some (.inr (.inr v10)))) else (Option.bind (idx a1 v7.1) fun v11 => (Option.bind (synthesisref13_Rules fuel (v11)) fun v12 => (Option.bind (loopN (synthesislaw38_WeightUses_l1 v12) fuel (0, v7.2)) fun (v25 : (List Int)) => (some (.inl ((w64 (v7.1 + 1)), v25))))))))) else (some (.inr (.inl (v7.2)))))
def synthesislaw38_WeightUses (a0 : La) (a1 : List Tm) : Option (Bool) := (Option.bind ((Option.bind (synthesislaw38_few (a0) (([] : List Int))) fun v1 => (bif (!v1) then (some (true)) else (some ((decide (20 < (List.length a1 : Int))))))) : Option ((Bool))) fun (v3 : (Bool)) => (bif v3 then (Option.bind (synthesislaw38_awake ) fun v4 => (some v4)) else (Option.bind (mkL 8 0 (List.length a0.rules : Int)) fun v5 => (Option.bind (weight_Uniform (a0)) fun v6 => (Option.bind (loopN (synthesislaw38_WeightUses_l5 a1) fuel (0, v5)) fun (v26 : (((List Int)) ⊕ (Bool))) => Sum.elim (fun v27 => (Option.bind (weight_Learn (a0) (a1)) fun v28 => (bif (v28.2 != 0) then (Option.bind ((bif ((List.length v28.1 : Int) == 0) then (Option.bind (synthesislaw38_awake ) fun v29 => (some (v29))) else (some (false))) : Option ((Bool))) fun (v31 : (Bool)) => (some v31)) else (Option.bind (synthesisref38_Check (a0) (v28.1)) fun v32 => (bif (v32 != 0) then (some false) else (Option.bind (loopN (synthesislaw38_WeightUses_l4 a0 v27 v28) fuel (0)) fun (v47 : ((Unit) ⊕ (Bool))) => Sum.elim (fun v48 => (Option.bind (loopN (synthesislaw38_WeightUses_l3 a1 v6) fuel (0)) fun (v56 : ((Unit) ⊕ (Bool))) => Sum.elim (fun v57 => (Option.bind (synthesislaw38_awake ) fun v58 => (some v58))) (fun v59 => (some v59)) v56)) (fun v60 => (some v60)) v47)))))) (fun v61 => (some v61)) v26)))))
theorem synthesislaw38_WeightUses_ok (a0 : La) (a1 : List Tm) (r : Bool) (h : synthesislaw38_WeightUses a0 a1 = some r) : PCall Try.prog 8 [eLa a0, (eL 2 eTmR) a1] (eB (r)) := by
 unfold synthesislaw38_WeightUses at h
 refine pcl [.one .keep] Try.func8 (by kernel_rfl) (by kernel_rfl) (by kernel_rfl) ?_
 refine jn1 7 .normal (fun v3 => ⟨183, [(1, (.fz ((eL 2 eTmR) (a1)))), (2, (.ref 1 0 0)), (24, (fB (v3)))], [(1, (.box 26 [(fS (a0.name)), (.fz ((eL 1 eI) (a0.inputs))), (.fz ((eL 2 eSy) (a0.symbols))), (.fz ((eL 9 eRu) (a0.rules)))]))], [1], []⟩) h (by kernel_rfl) (fun v3 h => ?_) fun v3 h => ?_
 ·refine cl 2 h (synthesislaw38_few_ok _ _) (by kernel_rfl) fun v1 h => ?_
  refine gd 2 h (by kernel_rfl) (fun h => ?_) fun h => ?_
  ·cases h; exact lj 5 (by kernel_rfl)
  cases h; exact lj 5 (by kernel_rfl)
 refine cd 0 h (by kernel_rfl) (fun h => ?_) fun h => ?_
 ·refine cl 2 h (synthesislaw38_awake_ok) (by kernel_rfl) fun v4 h => ?_
  cases h; exact lq 3 (by kernel_rfl)
 obtain ⟨v5, hv5, h⟩ := Option.bind_eq_some_iff.1 h
 refine sst 6 (s_make (t := 22) (X := (.tmp 28)) (Y := (.tmp 28)) (id := 2) (k := .i64) (k' := .i64) (d := tt22) (e := 3) (de := tt3) (enc := eI) (zv := .int .i64 0) hv5 (by kernel_rfl) tt_ok (by kernel_rfl) (by kernel_rfl) (by kernel_rfl) rfl rfl rfl rfl rfl (by kernel_rfl) (by kernel_rfl) (by kernel_rfl)) (by kernel_rfl) ?_
 refine cl 5 h (weight_Uniform_ok _) (by kernel_rfl) fun v6 h => ?_
 refine lpx 8 (fun v7 => ⟨183, [(1, (.fz ((eL 2 eTmR) (a1)))), (2, (.ref 1 0 0)), (5, (.row 2 (List.length (v7.2)))), (6, (.fz ((eL 1 eI) (v6)))), (7, (fI (v7.1)))], [(1, (.box 26 [(fS (a0.name)), (.fz ((eL 1 eI) (a0.inputs))), (.fz ((eL 2 eSy) (a0.symbols))), (.fz ((eL 9 eRu) (a0.rules)))])), (2, (.frow 3 1 (List.map eI (v7.2))))], [2, 1], []⟩) (fun v26 e st => Sum.elim (fun p => e = .exit 0 ∧ LeSt st ⟨183, [(1, (.fz ((eL 2 eTmR) (a1)))), (2, (.ref 1 0 0)), (5, (.row 2 (List.length (p)))), (6, (.fz ((eL 1 eI) (v6))))], [(1, (.box 26 [(fS (a0.name)), (.fz ((eL 1 eI) (a0.inputs))), (.fz ((eL 2 eSy) (a0.symbols))), (.fz ((eL 9 eRu) (a0.rules)))])), (2, (.frow 3 1 (List.map eI (p))))], [2, 1], []⟩) (fun p => e = .ret ∧ retX TT st Try.f8.results.toList [.one .keep] = some (eB (p))) v26) h (by kernel_rfl) (le_a (by kernel_rfl)) (fun v7 r h => ?_) fun v26 h e st' hq => ?_
 ·unfold synthesislaw38_WeightUses_l5 at h
  refine cd 8 h (by kernel_rfl) (fun h => ?_) fun h => ?_
  ·refine ix nTmR 8 h (by kernel_rfl) fun v8 h => ?_
   refine cl 1 h (synthesisref13_Within_ok _ _) (by kernel_rfl) fun v9 h => ?_
   refine cd 2 h (by kernel_rfl) (fun h => ?_) fun h => ?_
   ·refine cl 2 h (synthesislaw38_awake_ok) (by kernel_rfl) fun v10 h => ?_
    cases h; exact lor 3 (by kernel_rfl)
   refine ix nTmR 5 h (by kernel_rfl) fun v11 h => ?_
   refine cl 1 h (synthesisref13_Rules_ok _ _) (by kernel_rfl) fun v12 h => ?_
   refine lp1 7 (fun v13 => ⟨183, [(1, (.fz ((eL 2 eTmR) (a1)))), (2, (.ref 1 0 0)), (5, (.row 2 (List.length (v13.2)))), (6, (.fz ((eL 1 eI) (v6)))), (7, (fI (v7.1))), (8, (.fz ((eL 1 eI) (v12)))), (9, (fI (v13.1)))], (synthesislaw38_WeightUses_m1 a0 v13), [2, 1], []⟩) (.exit 2) (fun v25 => ⟨183, [(1, (.fz ((eL 2 eTmR) (a1)))), (2, (.ref 1 0 0)), (5, (.row 2 (List.length (v25)))), (6, (.fz ((eL 1 eI) (v6)))), (7, (fI (v7.1)))], [(1, (.box 26 [(fS (a0.name)), (.fz ((eL 1 eI) (a0.inputs))), (.fz ((eL 2 eSy) (a0.symbols))), (.fz ((eL 9 eRu) (a0.rules)))])), (2, (.frow 3 1 (List.map eI (v25))))], [2, 1], []⟩) h (by kernel_rfl) (by kernel_rfl) (fun v13 r h => ?_) fun v25 h => ?_
   ·unfold synthesislaw38_WeightUses_l1 at h
    refine cd 8 h (by kernel_rfl) (fun h => ?_) fun h => ?_
    ·refine jn1 3 .normal (fun v23 => ⟨183, [(1, (.fz ((eL 2 eTmR) (a1)))), (2, (.ref 1 0 0)), (5, (.row 2 (List.length (v23)))), (6, (.fz ((eL 1 eI) (v6)))), (7, (fI (v7.1))), (8, (.fz ((eL 1 eI) (v12)))), (9, (fI (v13.1)))], [(1, (.box 26 [(fS (a0.name)), (.fz ((eL 1 eI) (a0.inputs))), (.fz ((eL 2 eSy) (a0.symbols))), (.fz ((eL 9 eRu) (a0.rules)))])), (2, (.frow 3 1 (List.map eI (v23))))], [2, 1], []⟩) h (by kernel_rfl) (fun v23 h => ?_) fun v23 h => ?_
     ·refine jn1 1 .normal (fun v17 => ⟨183, [(1, (.fz ((eL 2 eTmR) (a1)))), (2, (.ref 1 0 0)), (5, (.row 2 (List.length (v13.2)))), (6, (.fz ((eL 1 eI) (v6)))), (7, (fI (v7.1))), (8, (.fz ((eL 1 eI) (v12)))), (9, (fI (v13.1))), (69, (fB (v17)))], (synthesislaw38_WeightUses_m1 a0 v13), [2, 1], []⟩) h (by kernel_rfl) (fun v17 h => ?_) fun v17 h => ?_
      ·refine ix nI 3 h (by kernel_rfl) fun v14 h => ?_
       refine gd 3 h (by kernel_rfl) (fun h => ?_) fun h => ?_
       ·refine ix nI 2 h (by kernel_rfl) fun v15 h => ?_
        refine nst 2 (n_len_row (t := 22) (x := (.tmp 66)) (d := tt22) (id := 2) (e2 := 3) (e := 3) (size := 1) (n := List.length (v13.2)) (xs := List.map eI (v13.2)) tt_ok (by kernel_rfl) (by kernel_rfl) rfl (by kernel_rfl) (by kernel_rfl) (by simp)) (by kernel_rfl) ?_
        cases h; exact lj 3 (by kernel_rfl)
       cases h; exact lj 9 (by kernel_rfl)
      refine cd 0 h (by kernel_rfl) (fun h => ?_) fun h => ?_
      ·refine dw 0 13 (by kernel_rfl) ?_
       refine ix nI 3 h (by kernel_rfl) fun v18 h => ?_
       refine ix nI 4 h (by kernel_rfl) fun v19 h => ?_
       obtain ⟨v20, hv20, h⟩ := Option.bind_eq_some_iff.1 h
       refine nst 1 (n_rowAddr (t := 22) (X := (.tmp 75)) (Y := (.tmp 79)) (id := 2) (k := .i64) (d := tt22) (e := 3) (de := tt3) (enc := eI) (xs := v13.2) (n := List.length (v13.2)) hv20 tt_ok (by kernel_rfl) (by kernel_rfl) (by kernel_rfl) (by kernel_rfl) (by kernel_rfl) (by kernel_rfl) (by kernel_rfl) rfl (by kernel_rfl)) (by kernel_rfl) ?_
       refine nst 0 (n_rowLoad (t := 3) (X := (.tmp 80)) (id := 2) (d := tt3) (enc := eI) (xs := v13.2) (x := v20) (i := v19) (n := List.length (v13.2)) hv20 tt_ok (by kernel_rfl) (by kernel_rfl) (by kernel_rfl) (by kernel_rfl) (by kernel_rfl) rfl (fun _ => rfl)) (by kernel_rfl) ?_
       obtain ⟨v21, hv21, h⟩ := Option.bind_eq_some_iff.1 h
       refine nst 2 (n_rowAddr (t := 22) (X := (.tmp 70)) (Y := (.tmp 74)) (id := 2) (k := .i64) (d := tt22) (e := 3) (de := tt3) (enc := eI) (xs := v13.2) (n := List.length (v13.2)) hv21 tt_ok (by kernel_rfl) (by kernel_rfl) (by kernel_rfl) (by kernel_rfl) (by kernel_rfl) (by kernel_rfl) (by kernel_rfl) rfl (by kernel_rfl)) (by kernel_rfl) ?_
       refine sst 0 (e_rowStore (t := 3) (X := (.tmp 83)) (Y := (.tmp 82)) (id := 2) (d := tt3) (enc := eI) (xs := v13.2) (x := v21) (i := v18) (y := (w64 (v20 + 1))) (n := List.length (v13.2)) hv21 tt_ok (by kernel_rfl) (by kernel_rfl) (by kernel_rfl) (by kernel_rfl) (by kernel_rfl) rfl (by kernel_rfl) (fun _ => ⟨_, rfl, rfl⟩)) (by kernel_rfl) ?_
       refine wle 0 (LeSt.trans (show LeSt _ ⟨183, [(1, (.fz ((eL 2 eTmR) (a1)))), (2, (.ref 1 0 0)), (5, (.row 2 (List.length (v13.2)))), (6, (.fz ((eL 1 eI) (v6)))), (7, (fI (v7.1))), (8, (.fz ((eL 1 eI) (v12)))), (9, (fI (v13.1))), (70, (.row 2 (List.length (v13.2)))), (74, (fI (v18))), (82, (fI ((w64 (v20 + 1)))))], [(1, (.box 26 [(fS (a0.name)), (.fz ((eL 1 eI) (a0.inputs))), (.fz ((eL 2 eSy) (a0.symbols))), (.fz ((eL 9 eRu) (a0.rules)))])), (2, (.frow 3 1 (List.map eI ((List.set v13.2 (Int.toNat v18) (w64 (v20 + 1)))))))], [2, 1], []⟩ from le_a (by kernel_rfl)) (LeSt.trans (le_relen 2 (k := 2) (m := List.length (v13.2)) (n := List.length ((List.set v13.2 (Int.toNat v18) (w64 (v20 + 1))))) (by kernel_rfl) (by simp)) (show LeSt _ ⟨183, [(1, (.fz ((eL 2 eTmR) (a1)))), (2, (.ref 1 0 0)), (5, (.row 2 (List.length ((List.set v13.2 (Int.toNat v18) (w64 (v20 + 1))))))), (6, (.fz ((eL 1 eI) (v6)))), (7, (fI (v7.1))), (8, (.fz ((eL 1 eI) (v12)))), (9, (fI (v13.1))), (70, (.row 2 (List.length ((List.set v13.2 (Int.toNat v18) (w64 (v20 + 1))))))), (74, (fI (v18))), (82, (fI ((w64 (v20 + 1)))))], [(1, (.box 26 [(fS (a0.name)), (.fz ((eL 1 eI) (a0.inputs))), (.fz ((eL 2 eSy) (a0.symbols))), (.fz ((eL 9 eRu) (a0.rules)))])), (2, (.frow 3 1 (List.map eI ((List.set v13.2 (Int.toNat v18) (w64 (v20 + 1)))))))], [2, 1], []⟩ from le_a (by kernel_rfl)))) (by kernel_rfl) ?_
       cases h; exact lj 1 (by kernel_rfl)
      cases h; exact lj 1 (by kernel_rfl)
     cases h; exact lj 5 (by kernel_rfl)
    cases h; exact lo 1 (by kernel_rfl)
   cases h; exact lj 5 (by kernel_rfl)
  cases h; exact lo 1 (by kernel_rfl)
 rcases v26 with v27 | v61
 ·try simp only [Sum.elim_inl, Sum.elim_inr] at h
  obtain ⟨rfl, hle⟩ := hq
  refine ⟨_, hle, ?_⟩
  refine cl 4 h (weight_Learn_ok _ _) (by kernel_rfl) fun v28 h => ?_
  refine cd 12 h (by kernel_rfl) (fun h => ?_) fun h => ?_
  ·refine jn1 1 .normal (fun v31 => ⟨183, [(4, (fB (v31)))], [], [], []⟩) h (by kernel_rfl) (fun v31 h => ?_) fun v31 h => ?_
   ·refine gd 5 h (by kernel_rfl) (fun h => ?_) fun h => ?_
    ·refine cl 0 h (synthesislaw38_awake_ok) (by kernel_rfl) fun v29 h => ?_
     cases h; exact lj 3 (by kernel_rfl)
    cases h; exact lj 4 (by kernel_rfl)
   cases h; exact lq 1 (by kernel_rfl)
  refine cl 6 h (synthesisref38_Check_ok _ _) (by kernel_rfl) fun v32 h => ?_
  refine cd 2 h (by kernel_rfl) (fun h => ?_) fun h => ?_
  ·cases h; exact lq 5 (by kernel_rfl)
  refine lpx 7 (fun v33 => ⟨183, [(1, (.fz ((eL 2 eTmR) (a1)))), (2, (.ref 1 0 0)), (5, (.row 2 (List.length (v27)))), (6, (.fz ((eL 1 eI) (v6)))), (10, (.fz ((eL 1 eI) (v28.1)))), (12, (fI (v33)))], (synthesislaw38_WeightUses_m0 a0 v27), [2, 1], []⟩) (fun v47 e st => Sum.elim (fun p => e = .exit 4 ∧ LeSt st ⟨183, [(1, (.fz ((eL 2 eTmR) (a1)))), (6, (.fz ((eL 1 eI) (v6))))], [], [], []⟩) (fun p => e = .ret ∧ retX TT st Try.f8.results.toList [.one .keep] = some (eB (p))) v47) h (by kernel_rfl) (le_a (by kernel_rfl)) (fun v33 r h => ?_) fun v47 h e st' hq => ?_
  ·unfold synthesislaw38_WeightUses_l4 at h
   refine cd 8 h (by kernel_rfl) (fun h => ?_) fun h => ?_
   ·refine lpx 8 (fun v34 => ⟨183, [(1, (.fz ((eL 2 eTmR) (a1)))), (2, (.ref 1 0 0)), (5, (.row 2 (List.length (v27)))), (6, (.fz ((eL 1 eI) (v6)))), (10, (.fz ((eL 1 eI) (v28.1)))), (12, (fI (v33))), (13, (fI (v34)))], (synthesislaw38_WeightUses_m0 a0 v27), [2, 1], []⟩) (fun v44 e st => Sum.elim (fun p => e = .exit 6 ∧ LeSt st ⟨183, [(1, (.fz ((eL 2 eTmR) (a1)))), (2, (.ref 1 0 0)), (5, (.row 2 (List.length (v27)))), (6, (.fz ((eL 1 eI) (v6)))), (10, (.fz ((eL 1 eI) (v28.1)))), (12, (fI (v33)))], (synthesislaw38_WeightUses_m0 a0 v27), [2, 1], []⟩) (fun p => e = .ret ∧ retX TT st Try.f8.results.toList [.one .keep] = some (eB (p))) v44) h (by kernel_rfl) (le_a (by kernel_rfl)) (fun v34 r h => ?_) fun v44 h e st' hq => ?_
    ·unfold synthesislaw38_WeightUses_l2 at h
     refine cd 8 h (by kernel_rfl) (fun h => ?_) fun h => ?_
     ·refine jn1 4 .normal (fun v43 => ⟨183, [(1, (.fz ((eL 2 eTmR) (a1)))), (2, (.ref 1 0 0)), (5, (.row 2 (List.length (v27)))), (6, (.fz ((eL 1 eI) (v6)))), (10, (.fz ((eL 1 eI) (v28.1)))), (12, (fI (v33))), (13, (fI (v34))), (155, (fB (v43)))], (synthesislaw38_WeightUses_m0 a0 v27), [2, 1], []⟩) h (by kernel_rfl) (fun v43 h => ?_) fun v43 h => ?_
      ·refine dw 0 39 (by kernel_rfl) ?_
       refine ix nI 2 h (by kernel_rfl) fun v35 h => ?_
       refine gd 3 h (by kernel_rfl) (fun h => ?_) fun h => ?_
       ·cases h; exact lj 38 (by kernel_rfl)
       refine ix nRu 3 h (by kernel_rfl) fun v36 h => ?_
       refine ix nRu 5 h (by kernel_rfl) fun v37 h => ?_
       refine gd 4 h (by kernel_rfl) (fun h => ?_) fun h => ?_
       ·obtain ⟨v38, hv38, h⟩ := Option.bind_eq_some_iff.1 h
        refine nst 2 (n_rowAddr (t := 22) (X := (.tmp 134)) (Y := (.tmp 135)) (id := 2) (k := .i64) (d := tt22) (e := 3) (de := tt3) (enc := eI) (xs := v27) (n := List.length (v27)) hv38 tt_ok (by kernel_rfl) (by kernel_rfl) (by kernel_rfl) (by kernel_rfl) (by kernel_rfl) (by kernel_rfl) (by kernel_rfl) rfl (by kernel_rfl)) (by kernel_rfl) ?_
        refine nst 0 (n_rowLoad (t := 3) (X := (.tmp 136)) (id := 2) (d := tt3) (enc := eI) (xs := v27) (x := v38) (i := v33) (n := List.length (v27)) hv38 tt_ok (by kernel_rfl) (by kernel_rfl) (by kernel_rfl) (by kernel_rfl) (by kernel_rfl) rfl (fun _ => rfl)) (by kernel_rfl) ?_
        obtain ⟨v39, hv39, h⟩ := Option.bind_eq_some_iff.1 h
        refine nst 2 (n_rowAddr (t := 22) (X := (.tmp 138)) (Y := (.tmp 139)) (id := 2) (k := .i64) (d := tt22) (e := 3) (de := tt3) (enc := eI) (xs := v27) (n := List.length (v27)) hv39 tt_ok (by kernel_rfl) (by kernel_rfl) (by kernel_rfl) (by kernel_rfl) (by kernel_rfl) (by kernel_rfl) (by kernel_rfl) rfl (by kernel_rfl)) (by kernel_rfl) ?_
        refine nst 0 (n_rowLoad (t := 3) (X := (.tmp 140)) (id := 2) (d := tt3) (enc := eI) (xs := v27) (x := v39) (i := v34) (n := List.length (v27)) hv39 tt_ok (by kernel_rfl) (by kernel_rfl) (by kernel_rfl) (by kernel_rfl) (by kernel_rfl) rfl (fun _ => rfl)) (by kernel_rfl) ?_
        refine gd 3 h (by kernel_rfl) (fun h => ?_) fun h => ?_
        ·refine ix nI 2 h (by kernel_rfl) fun v40 h => ?_
         refine ix nI 3 h (by kernel_rfl) fun v41 h => ?_
         cases h; exact lj 6 (by kernel_rfl)
        cases h; exact lj 13 (by kernel_rfl)
       cases h; exact lj 24 (by kernel_rfl)
      refine cd 0 h (by kernel_rfl) (fun h => ?_) fun h => ?_
      ·cases h; exact lor 5 (by kernel_rfl)
      cases h; exact lj 6 (by kernel_rfl)
     cases h; exact lo 1 (by kernel_rfl)
    rcases v44 with v45 | v46
    ·try simp only [Sum.elim_inl, Sum.elim_inr] at h
     obtain ⟨rfl, hle⟩ := hq
     refine ⟨_, hle, ?_⟩
     cases h; exact lj 5 (by kernel_rfl)
    ·try simp only [Sum.elim_inl, Sum.elim_inr] at h
     obtain ⟨rfl, hret⟩ := hq
     refine ⟨_, LeSt.refl, ?_⟩
     cases h; exact lvo hret
   cases h; exact lo 1 (by kernel_rfl)
  rcases v47 with v48 | v60
  ·try simp only [Sum.elim_inl, Sum.elim_inr] at h
   obtain ⟨rfl, hle⟩ := hq
   refine ⟨_, hle, ?_⟩
   refine lpx 6 (fun v49 => ⟨183, [(1, (.fz ((eL 2 eTmR) (a1)))), (6, (.fz ((eL 1 eI) (v6)))), (14, (fI (v49)))], [], [], []⟩) (fun v56 e st => Sum.elim (fun p => e = .exit 8 ∧ LeSt st ⟨183, [], [], [], []⟩) (fun p => e = .ret ∧ retX TT st Try.f8.results.toList [.one .keep] = some (eB (p))) v56) h (by kernel_rfl) (le_a (by kernel_rfl)) (fun v49 r h => ?_) fun v56 h e st' hq => ?_
   ·unfold synthesislaw38_WeightUses_l3 at h
    refine cd 8 h (by kernel_rfl) (fun h => ?_) fun h => ?_
    ·refine ix nTmR 8 h (by kernel_rfl) fun v50 h => ?_
     refine cl 1 h (weight_Cost_ok _ _ _) (by kernel_rfl) fun v51 h => ?_
     refine jn1 7 .normal (fun v55 => ⟨183, [(1, (.fz ((eL 2 eTmR) (a1)))), (6, (.fz ((eL 1 eI) (v6)))), (14, (fI (v49))), (181, (fB (v55)))], [], [], []⟩) h (by kernel_rfl) (fun v55 h => ?_) fun v55 h => ?_
     ·refine gd 4 h (by kernel_rfl) (fun h => ?_) fun h => ?_
      ·cases h; exact lj 9 (by kernel_rfl)
      refine ix nTmR 3 h (by kernel_rfl) fun v52 h => ?_
      refine cl 1 h (synthesisref13_Size_ok _ _) (by kernel_rfl) fun v53 h => ?_
      cases h; exact lj 3 (by kernel_rfl)
     refine cd 0 h (by kernel_rfl) (fun h => ?_) fun h => ?_
     ·cases h; exact lor 5 (by kernel_rfl)
     cases h; exact lj 6 (by kernel_rfl)
    cases h; exact lo 1 (by kernel_rfl)
   rcases v56 with v57 | v59
   ·try simp only [Sum.elim_inl, Sum.elim_inr] at h
    obtain ⟨rfl, hle⟩ := hq
    refine ⟨_, hle, ?_⟩
    refine cl 2 h (synthesislaw38_awake_ok) (by kernel_rfl) fun v58 h => ?_
    cases h; exact lq 3 (by kernel_rfl)
   ·try simp only [Sum.elim_inl, Sum.elim_inr] at h
    obtain ⟨rfl, hret⟩ := hq
    refine ⟨_, LeSt.refl, ?_⟩
    cases h; exact lv hret
  ·try simp only [Sum.elim_inl, Sum.elim_inr] at h
   obtain ⟨rfl, hret⟩ := hq
   refine ⟨_, LeSt.refl, ?_⟩
   cases h; exact lv hret
 ·try simp only [Sum.elim_inl, Sum.elim_inr] at h
  obtain ⟨rfl, hret⟩ := hq
  refine ⟨_, LeSt.refl, ?_⟩
  cases h; exact lv hret
end Go.Proofs.Ytpcfkflhnkfjjaa
