/- Typed programs and what computes them. -/
import Derived.Test.YtpcfkflhnkfjjaaZ3
set_option linter.unusedVariables false
set_option linter.unusedSimpArgs false
set_option maxRecDepth 100000
namespace Go.Proofs.Ytpcfkflhnkfjjaa
open Go Go.RowKit Go.Proofs
attribute [local irreducible] NStep StepA EStep LeSt
def synthesisref38_Learn_m0 (a0 : La) (v22 : List Int) (v23 : (Int) × (List Int)) : List (Nat × AObj) := [(1, (.box 26 [(fS (a0.name)), (.fz ((eL 1 eI) (a0.inputs))), (.fz ((eL 2 eSy) (a0.symbols))), (.fz ((eL 9 eRu) (a0.rules)))])), (2, (.frow 3 1 (List.map eI (v22)))), (3, (.frow 3 1 (List.map eI (v23.2))))]
def synthesisref38_Learn_m1 (a0 : La) (v3 : (Int) × (List Int)) : List (Nat × AObj) := [(1, (.box 26 [(fS (a0.name)), (.fz ((eL 1 eI) (a0.inputs))), (.fz ((eL 2 eSy) (a0.symbols))), (.fz ((eL 9 eRu) (a0.rules)))])), (2, (.frow 3 1 (List.map eI (v3.2))))]
def synthesisref38_Learn_l1 (v13 : List Int) (v14 : (Int) × (List Int)) : Option (((Int) × (List Int)) ⊕ ((List Int))) := (bif (decide (v14.1 < (List.length v13 : Int))) then (Option.bind (idx v13 v14.1) fun v15 => (Option.bind (idx v13 v14.1) fun v16 => (Option.bind (idx v14.2 v16) fun v17 => (Option.bind (idx v14.2 v15) fun v18 => (some (.inl ((w64 (v14.1 + 1)), (List.set v14.2 (Int.toNat v15) (w64 (v17 + 1)))))))))) else (some (.inr (v14.2))))
def synthesisref38_Learn_l2 (a0 : La) (v22 : (List Int)) (v23 : (Int) × (List Int)) (v24 : (Int) × (Int)) : Option (((Int) × (Int)) ⊕ ((Int))) := (bif (decide (v24.2 < (List.length a0.rules : Int))) then (Option.bind ((Option.bind (idx a0.rules v24.2) fun v25 => (Option.bind (idx a0.rules v23.1) fun v26 => (bif (v25.symbol == v26.symbol) then (Option.bind (idx v22 v24.2) fun v27 => (some ((w64 ((w64 (v24.1 + v27)) + 1))))) else (some (v24.1))))) : Option ((Int))) fun (v29 : (Int)) => (some (.inl (v29, (w64 (v24.2 + 1)))))) else (some (.inr (v24.1))))
def synthesisref38_Learn_l3 (a0 : La) (v22 : (List Int)) (v23 : (Int) × (List Int)) : Option (((Int) × (List Int)) ⊕ ((List Int))) := (bif (decide (v23.1 < (List.length a0.rules : Int))) then (Option.bind (loopN (synthesisref38_Learn_l2 a0 v22 v23) fuel (0, 0)) fun (v31 : (Int)) => (Option.bind (idx v22 v23.1) fun v32 => (Option.bind (quo .i64 v31 (w64 (v32 + 1))) fun v33 => (Option.bind (app 8 v23.2 ([(imin v33 1000)] : List (Int))) fun v34 => (some (.inl ((w64 (v23.1 + 1)), v34))))))) else (some (.inr (v23.2))))
def synthesisref38_Learn_l4 (a0 : La) (a1 : List Tm) (v3 : (Int) × (List Int)) : Option (((Int) × (List Int)) ⊕ ((((List Int)) ⊕ ((List Int) × (Int))))) := (bif (decide (v3.1 < (List.length a1 : Int))) then (Option.bind ((Option.bind (idx a1 v3.1) fun v4 => (bif (decide (v4.rule < 0)) then (some (true)) else (Option.bind (idx a1 v3.1) fun v5 => (some ((decide ((List.length a0.rules : Int) ≤ v5.rule))))))) : Option ((Bool))) fun (v7 : (Bool)) => (bif v7 then (some (.inr (.inr (([] : List Int), 1)))) else (Option.bind (idx a1 v3.1) fun v8 => (Option.bind (idx a0.rules v8.rule) fun v9 => (Option.bind (idx a1 v3.1) fun v10 => (Option.bind (synthesisref13_Check (a0) (v9.symbol) (v10)) fun v11 => (bif (v11 != 0) then (some (.inr (.inr (([] : List Int), v11)))) else (Option.bind (idx a1 v3.1) fun v12 => (Option.bind (synthesisref13_Rules fuel (v12)) fun v13 => (Option.bind (loopN (synthesisref38_Learn_l1 v13) fuel (0, v3.2)) fun (v20 : (List Int)) => (some (.inl ((w64 (v3.1 + 1)), v20))))))))))))) else (some (.inr (.inl (v3.2)))))
def synthesisref38_Learn (a0 : La) (a1 : List Tm) : Option ((List Int) × (Int)) := (Option.bind (synthesisref11_Check (a0)) fun v1 => (bif (v1 != 0) then (some (([] : List Int), v1)) else (bif (decide (4096 < (List.length a1 : Int))) then (some (([] : List Int), 11)) else (Option.bind (mkL 8 0 (List.length a0.rules : Int)) fun v2 => (Option.bind (loopN (synthesisref38_Learn_l4 a0 a1) fuel (0, v2)) fun (v21 : (((List Int)) ⊕ ((List Int) × (Int)))) => Sum.elim (fun v22 => (Option.bind (loopN (synthesisref38_Learn_l3 a0 v22) fuel (0, ([] : List (Int)))) fun (v36 : (List Int)) => (some (v36, 0)))) (fun v37 => (some v37)) v21)))))
theorem synthesisref38_Learn_ok (a0 : La) (a1 : List Tm) (r : (List Int) × (Int)) (h : synthesisref38_Learn a0 a1 = some r) : PCall Try.prog 24 [eLa a0, (eL 2 eTmR) a1] (.tup [(eL 1 eI) (r.1), eI (r.2)]) := by
 unfold synthesisref38_Learn at h
 refine pcl [.one (.sl 1), .one .keep] Try.func24 (by kernel_rfl) (by kernel_rfl) (by kernel_rfl) ?_
 refine cl 10 h (synthesisref11_Check_ok _) (by kernel_rfl) fun v1 h => ?_
 refine cd 7 h (by kernel_rfl) (fun h => ?_) fun h => ?_
 ·cases h; exact lq 7 (by kernel_rfl)
 refine cd 8 h (by kernel_rfl) (fun h => ?_) fun h => ?_
 ·cases h; exact lq 6 (by kernel_rfl)
 obtain ⟨v2, hv2, h⟩ := Option.bind_eq_some_iff.1 h
 refine sst 6 (s_make (t := 22) (X := (.tmp 26)) (Y := (.tmp 26)) (id := 2) (k := .i64) (k' := .i64) (d := tt22) (e := 3) (de := tt3) (enc := eI) (zv := .int .i64 0) hv2 (by kernel_rfl) tt_ok (by kernel_rfl) (by kernel_rfl) (by kernel_rfl) rfl rfl rfl rfl rfl (by kernel_rfl) (by kernel_rfl) (by kernel_rfl)) (by kernel_rfl) ?_
 refine lpx 8 (fun v3 => ⟨141, [(1, (.fz ((eL 2 eTmR) (a1)))), (2, (.ref 1 0 0)), (7, (.row 2 (List.length (v3.2)))), (8, (fI (v3.1)))], (synthesisref38_Learn_m1 a0 v3), [2, 1], []⟩) (fun v21 e st => Sum.elim (fun p => e = .exit 0 ∧ LeSt st ⟨141, [(2, (.ref 1 0 0)), (7, (.row 2 (List.length (p))))], [(1, (.box 26 [(fS (a0.name)), (.fz ((eL 1 eI) (a0.inputs))), (.fz ((eL 2 eSy) (a0.symbols))), (.fz ((eL 9 eRu) (a0.rules)))])), (2, (.frow 3 1 (List.map eI (p))))], [2, 1], []⟩) (fun p => e = .ret ∧ retX TT st Try.f24.results.toList [.one (.sl 1), .one .keep] = some (.tup [(eL 1 eI) (p.1), eI (p.2)])) v21) h (by kernel_rfl) (le_a (by kernel_rfl)) (fun v3 r h => ?_) fun v21 h e st' hq => ?_
 ·unfold synthesisref38_Learn_l4 at h
  refine cd 8 h (by kernel_rfl) (fun h => ?_) fun h => ?_
  ·refine jn1 5 .normal (fun v7 => ⟨141, [(1, (.fz ((eL 2 eTmR) (a1)))), (2, (.ref 1 0 0)), (7, (.row 2 (List.length (v3.2)))), (8, (fI (v3.1))), (50, (fB (v7)))], (synthesisref38_Learn_m1 a0 v3), [2, 1], []⟩) h (by kernel_rfl) (fun v7 h => ?_) fun v7 h => ?_
   ·refine dw 0 15 (by kernel_rfl) ?_
    refine ix nTmR 2 h (by kernel_rfl) fun v4 h => ?_
    refine gd 4 h (by kernel_rfl) (fun h => ?_) fun h => ?_
    ·cases h; exact lj 12 (by kernel_rfl)
    refine ix nTmR 2 h (by kernel_rfl) fun v5 h => ?_
    cases h; exact lj 9 (by kernel_rfl)
   refine cd 0 h (by kernel_rfl) (fun h => ?_) fun h => ?_
   ·cases h; exact lor 6 (by kernel_rfl)
   refine dw 3 15 (by kernel_rfl) ?_
   refine ix nTmR 5 h (by kernel_rfl) fun v8 h => ?_
   refine ix nRu 2 h (by kernel_rfl) fun v9 h => ?_
   refine ix nTmR 4 h (by kernel_rfl) fun v10 h => ?_
   refine cl 2 h (synthesisref13_Check_ok _ _ _) (by kernel_rfl) fun v11 h => ?_
   refine cd 7 h (by kernel_rfl) (fun h => ?_) fun h => ?_
   ·cases h; exact lor 7 (by kernel_rfl)
   refine ix nTmR 5 h (by kernel_rfl) fun v12 h => ?_
   refine cl 1 h (synthesisref13_Rules_ok _ _) (by kernel_rfl) fun v13 h => ?_
   refine lp1 7 (fun v14 => ⟨141, [(1, (.fz ((eL 2 eTmR) (a1)))), (2, (.ref 1 0 0)), (7, (.row 2 (List.length (v14.2)))), (8, (fI (v3.1))), (10, (.fz ((eL 1 eI) (v13)))), (11, (fI (v14.1)))], [(1, (.box 26 [(fS (a0.name)), (.fz ((eL 1 eI) (a0.inputs))), (.fz ((eL 2 eSy) (a0.symbols))), (.fz ((eL 9 eRu) (a0.rules)))])), (2, (.frow 3 1 (List.map eI (v14.2))))], [2, 1], []⟩) (.exit 2) (fun v20 => ⟨141, [(1, (.fz ((eL 2 eTmR) (a1)))), (2, (.ref 1 0 0)), (7, (.row 2 (List.length (v20)))), (8, (fI (v3.1)))], [(1, (.box 26 [(fS (a0.name)), (.fz ((eL 1 eI) (a0.inputs))), (.fz ((eL 2 eSy) (a0.symbols))), (.fz ((eL 9 eRu) (a0.rules)))])), (2, (.frow 3 1 (List.map eI (v20))))], [2, 1], []⟩) h (by kernel_rfl) (by kernel_rfl) (fun v14 r h => ?_) fun v20 h => ?_
   ·unfold synthesisref38_Learn_l1 at h
    refine cd 8 h (by kernel_rfl) (fun h => ?_) fun h => ?_
    ·refine dw 3 13 (by kernel_rfl) ?_
     refine ix nI 3 h (by kernel_rfl) fun v15 h => ?_
     refine ix nI 4 h (by kernel_rfl) fun v16 h => ?_
     obtain ⟨v17, hv17, h⟩ := Option.bind_eq_some_iff.1 h
     refine nst 1 (n_rowAddr (t := 22) (X := (.tmp 86)) (Y := (.tmp 90)) (id := 2) (k := .i64) (d := tt22) (e := 3) (de := tt3) (enc := eI) (xs := v14.2) (n := List.length (v14.2)) hv17 tt_ok (by kernel_rfl) (by kernel_rfl) (by kernel_rfl) (by kernel_rfl) (by kernel_rfl) (by kernel_rfl) (by kernel_rfl) rfl (by kernel_rfl)) (by kernel_rfl) ?_
     refine nst 0 (n_rowLoad (t := 3) (X := (.tmp 91)) (id := 2) (d := tt3) (enc := eI) (xs := v14.2) (x := v17) (i := v16) (n := List.length (v14.2)) hv17 tt_ok (by kernel_rfl) (by kernel_rfl) (by kernel_rfl) (by kernel_rfl) (by kernel_rfl) rfl (fun _ => rfl)) (by kernel_rfl) ?_
     obtain ⟨v18, hv18, h⟩ := Option.bind_eq_some_iff.1 h
     refine nst 2 (n_rowAddr (t := 22) (X := (.tmp 81)) (Y := (.tmp 85)) (id := 2) (k := .i64) (d := tt22) (e := 3) (de := tt3) (enc := eI) (xs := v14.2) (n := List.length (v14.2)) hv18 tt_ok (by kernel_rfl) (by kernel_rfl) (by kernel_rfl) (by kernel_rfl) (by kernel_rfl) (by kernel_rfl) (by kernel_rfl) rfl (by kernel_rfl)) (by kernel_rfl) ?_
     refine sst 0 (e_rowStore (t := 3) (X := (.tmp 94)) (Y := (.tmp 93)) (id := 2) (d := tt3) (enc := eI) (xs := v14.2) (x := v18) (i := v15) (y := (w64 (v17 + 1))) (n := List.length (v14.2)) hv18 tt_ok (by kernel_rfl) (by kernel_rfl) (by kernel_rfl) (by kernel_rfl) (by kernel_rfl) rfl (by kernel_rfl) (fun _ => ⟨_, rfl, rfl⟩)) (by kernel_rfl) ?_
     refine wle 0 (LeSt.trans (show LeSt _ ⟨141, [(1, (.fz ((eL 2 eTmR) (a1)))), (2, (.ref 1 0 0)), (7, (.row 2 (List.length (v14.2)))), (8, (fI (v3.1))), (10, (.fz ((eL 1 eI) (v13)))), (11, (fI (v14.1))), (81, (.row 2 (List.length (v14.2)))), (85, (fI (v15))), (93, (fI ((w64 (v17 + 1)))))], [(1, (.box 26 [(fS (a0.name)), (.fz ((eL 1 eI) (a0.inputs))), (.fz ((eL 2 eSy) (a0.symbols))), (.fz ((eL 9 eRu) (a0.rules)))])), (2, (.frow 3 1 (List.map eI ((List.set v14.2 (Int.toNat v15) (w64 (v17 + 1)))))))], [2, 1], []⟩ from le_a (by kernel_rfl)) (LeSt.trans (le_relen 2 (k := 2) (m := List.length (v14.2)) (n := List.length ((List.set v14.2 (Int.toNat v15) (w64 (v17 + 1))))) (by kernel_rfl) (by simp)) (show LeSt _ ⟨141, [(1, (.fz ((eL 2 eTmR) (a1)))), (2, (.ref 1 0 0)), (7, (.row 2 (List.length ((List.set v14.2 (Int.toNat v15) (w64 (v17 + 1))))))), (8, (fI (v3.1))), (10, (.fz ((eL 1 eI) (v13)))), (11, (fI (v14.1))), (81, (.row 2 (List.length ((List.set v14.2 (Int.toNat v15) (w64 (v17 + 1))))))), (85, (fI (v15))), (93, (fI ((w64 (v17 + 1)))))], [(1, (.box 26 [(fS (a0.name)), (.fz ((eL 1 eI) (a0.inputs))), (.fz ((eL 2 eSy) (a0.symbols))), (.fz ((eL 9 eRu) (a0.rules)))])), (2, (.frow 3 1 (List.map eI ((List.set v14.2 (Int.toNat v15) (w64 (v17 + 1)))))))], [2, 1], []⟩ from le_a (by kernel_rfl)))) (by kernel_rfl) ?_
     cases h; exact lj 6 (by kernel_rfl)
    cases h; exact lo 1 (by kernel_rfl)
   cases h; exact lj 5 (by kernel_rfl)
  cases h; exact lo 1 (by kernel_rfl)
 rcases v21 with v22 | v37
 ·try simp only [Sum.elim_inl, Sum.elim_inr] at h
  obtain ⟨rfl, hle⟩ := hq
  refine ⟨_, hle, ?_⟩
  refine wle 10 (le_nilrow (e := 3) (size := 1) (t := 12) (id := 3) (by decide) (by kernel_rfl) (by kernel_rfl)) (by kernel_rfl) ?_
  refine lp1 0 (fun v23 => ⟨141, [(2, (.ref 1 0 0)), (7, (.row 2 (List.length (v22)))), (12, (.row 3 (List.length (v23.2)))), (13, (fI (v23.1)))], (synthesisref38_Learn_m0 a0 v22 v23), [3, 2, 1], []⟩) (.exit 4) (fun v36 => ⟨141, [(12, (.row 3 (List.length (v36))))], [(3, (.frow 3 1 (List.map eI (v36))))], [3], []⟩) h (by kernel_rfl) (by kernel_rfl) (fun v23 r h => ?_) fun v36 h => ?_
  ·unfold synthesisref38_Learn_l3 at h
   refine cd 9 h (by kernel_rfl) (fun h => ?_) fun h => ?_
   ·refine lp1 13 (fun v24 => ⟨141, [(2, (.ref 1 0 0)), (7, (.row 2 (List.length (v22)))), (12, (.row 3 (List.length (v23.2)))), (13, (fI (v23.1))), (14, (fI (v24.1))), (15, (fI (v24.2)))], (synthesisref38_Learn_m0 a0 v22 v23), [3, 2, 1], []⟩) (.exit 6) (fun v31 => ⟨141, [(2, (.ref 1 0 0)), (7, (.row 2 (List.length (v22)))), (12, (.row 3 (List.length (v23.2)))), (13, (fI (v23.1))), (14, (fI (v31)))], (synthesisref38_Learn_m0 a0 v22 v23), [3, 2, 1], []⟩) h (by kernel_rfl) (by kernel_rfl) (fun v24 r h => ?_) fun v31 h => ?_
    ·unfold synthesisref38_Learn_l2 at h
     refine cd 9 h (by kernel_rfl) (fun h => ?_) fun h => ?_
     ·refine jn1 3 .normal (fun v29 => ⟨141, [(2, (.ref 1 0 0)), (7, (.row 2 (List.length (v22)))), (12, (.row 3 (List.length (v23.2)))), (13, (fI (v23.1))), (14, (fI (v29))), (15, (fI (v24.2)))], (synthesisref38_Learn_m0 a0 v22 v23), [3, 2, 1], []⟩) h (by kernel_rfl) (fun v29 h => ?_) fun v29 h => ?_
      ·refine dw 1 12 (by kernel_rfl) ?_
       refine ix nRu 3 h (by kernel_rfl) fun v25 h => ?_
       refine ix nRu 5 h (by kernel_rfl) fun v26 h => ?_
       refine cd 5 h (by kernel_rfl) (fun h => ?_) fun h => ?_
       ·obtain ⟨v27, hv27, h⟩ := Option.bind_eq_some_iff.1 h
        refine nst 4 (n_rowAddr (t := 22) (X := (.tmp 123)) (Y := (.tmp 124)) (id := 2) (k := .i64) (d := tt22) (e := 3) (de := tt3) (enc := eI) (xs := v22) (n := List.length (v22)) hv27 tt_ok (by kernel_rfl) (by kernel_rfl) (by kernel_rfl) (by kernel_rfl) (by kernel_rfl) (by kernel_rfl) (by kernel_rfl) rfl (by kernel_rfl)) (by kernel_rfl) ?_
        refine nst 0 (n_rowLoad (t := 3) (X := (.tmp 125)) (id := 2) (d := tt3) (enc := eI) (xs := v22) (x := v27) (i := v24.2) (n := List.length (v22)) hv27 tt_ok (by kernel_rfl) (by kernel_rfl) (by kernel_rfl) (by kernel_rfl) (by kernel_rfl) rfl (fun _ => rfl)) (by kernel_rfl) ?_
        cases h; exact lj 4 (by kernel_rfl)
       cases h; exact lj 1 (by kernel_rfl)
      cases h; exact lj 5 (by kernel_rfl)
     cases h; exact lo 1 (by kernel_rfl)
    obtain ⟨v32, hv32, h⟩ := Option.bind_eq_some_iff.1 h
    refine nst 5 (n_rowAddr (t := 22) (X := (.tmp 131)) (Y := (.tmp 132)) (id := 2) (k := .i64) (d := tt22) (e := 3) (de := tt3) (enc := eI) (xs := v22) (n := List.length (v22)) hv32 tt_ok (by kernel_rfl) (by kernel_rfl) (by kernel_rfl) (by kernel_rfl) (by kernel_rfl) (by kernel_rfl) (by kernel_rfl) rfl (by kernel_rfl)) (by kernel_rfl) ?_
    refine nst 0 (n_rowLoad (t := 3) (X := (.tmp 133)) (id := 2) (d := tt3) (enc := eI) (xs := v22) (x := v32) (i := v23.1) (n := List.length (v22)) hv32 tt_ok (by kernel_rfl) (by kernel_rfl) (by kernel_rfl) (by kernel_rfl) (by kernel_rfl) rfl (fun _ => rfl)) (by kernel_rfl) ?_
    obtain ⟨v33, hv33, h⟩ := Option.bind_eq_some_iff.1 h
    refine nst 1 (s_quo (t := 3) (x := (.tmp 130)) (y := (.tmp 135)) (yt := 3) (k := .i64) (m := v31) (n := (w64 (v32 + 1))) hv33 (by kernel_rfl) (by kernel_rfl) (by kernel_rfl)) (by kernel_rfl) ?_
    refine ap nI 2 h (by kernel_rfl) fun v34 h => ?_
    cases h; exact lj 7 (by kernel_rfl)
   cases h; exact lo 1 (by kernel_rfl)
  refine wle 6 (le_freeze (t := 4) (id := 3) (n := List.length (v36)) (e := 3) (size := 1) (xs := List.map eI (v36)) (by kernel_rfl) (by kernel_rfl) (by simp)) (by kernel_rfl) ?_
  cases h; exact lq 1 (by kernel_rfl)
 ·try simp only [Sum.elim_inl, Sum.elim_inr] at h
  obtain ⟨rfl, hret⟩ := hq
  refine ⟨_, LeSt.refl, ?_⟩
  cases h; exact lv hret

def synthesislaw38_WeightLearns_m0 (a0 : La) : List (Nat × AObj) := [(1, (.box 26 [(fS (a0.name)), (.fz ((eL 1 eI) (a0.inputs))), (.fz ((eL 2 eSy) (a0.symbols))), (.fz ((eL 9 eRu) (a0.rules)))]))]
def synthesislaw38_WeightLearns_l1 (a1 : List Tm) (v5 : (Int)) : Option (((Int)) ⊕ (((Unit) ⊕ (Bool)))) := (bif (decide (v5 < (List.length a1 : Int))) then (Option.bind (idx a1 v5) fun v6 => (Option.bind (synthesisref13_Within (v6) (30)) fun v7 => (bif (!v7) then (Option.bind (synthesislaw38_awake ) fun v8 => (some (.inr (.inr v8)))) else (some (.inl ((w64 (v5 + 1)))))))) else (some (.inr (.inl ()))))
def synthesislaw38_WeightLearns (a0 : La) (a1 : List Tm) : Option (Bool) := (Option.bind ((Option.bind (synthesislaw38_few (a0) (([] : List Int))) fun v1 => (bif (!v1) then (some (true)) else (some ((decide (20 < (List.length a1 : Int))))))) : Option ((Bool))) fun (v3 : (Bool)) => (bif v3 then (Option.bind (synthesislaw38_awake ) fun v4 => (some v4)) else (Option.bind (loopN (synthesislaw38_WeightLearns_l1 a1) fuel (0)) fun (v9 : ((Unit) ⊕ (Bool))) => Sum.elim (fun v10 => (Option.bind (weight_Learn (a0) (a1)) fun v11 => (Option.bind (synthesisref38_Learn (a0) (a1)) fun v12 => (Option.bind ((Option.bind (synthesisref11_SameInts (v11.1) (v12.1)) fun v13 => (bif v13 then (bif (v11.2 == v12.2) then (Option.bind (synthesislaw38_awake ) fun v14 => (some (v14))) else (some (false))) else (some (false)))) : Option ((Bool))) fun (v16 : (Bool)) => (some v16))))) (fun v17 => (some v17)) v9)))
theorem synthesislaw38_WeightLearns_ok (a0 : La) (a1 : List Tm) (r : Bool) (h : synthesislaw38_WeightLearns a0 a1 = some r) : PCall Try.prog 6 [eLa a0, (eL 2 eTmR) a1] (eB (r)) := by
 unfold synthesislaw38_WeightLearns at h
 refine pcl [.one .keep] Try.func6 (by kernel_rfl) (by kernel_rfl) (by kernel_rfl) ?_
 refine jn1 7 .normal (fun v3 => ⟨55, [(1, (.fz ((eL 2 eTmR) (a1)))), (2, (.ref 1 0 0)), (17, (fB (v3)))], (synthesislaw38_WeightLearns_m0 a0), [1], []⟩) h (by kernel_rfl) (fun v3 h => ?_) fun v3 h => ?_
 ·refine cl 2 h (synthesislaw38_few_ok _ _) (by kernel_rfl) fun v1 h => ?_
  refine gd 2 h (by kernel_rfl) (fun h => ?_) fun h => ?_
  ·cases h; exact lj 5 (by kernel_rfl)
  cases h; exact lj 5 (by kernel_rfl)
 refine cd 0 h (by kernel_rfl) (fun h => ?_) fun h => ?_
 ·refine cl 2 h (synthesislaw38_awake_ok) (by kernel_rfl) fun v4 h => ?_
  cases h; exact lq 3 (by kernel_rfl)
 refine lpx 7 (fun v5 => ⟨55, [(1, (.fz ((eL 2 eTmR) (a1)))), (2, (.ref 1 0 0)), (5, (fI (v5)))], (synthesislaw38_WeightLearns_m0 a0), [1], []⟩) (fun v9 e st => Sum.elim (fun p => e = .exit 0 ∧ LeSt st ⟨55, [(1, (.fz ((eL 2 eTmR) (a1)))), (2, (.ref 1 0 0))], (synthesislaw38_WeightLearns_m0 a0), [1], []⟩) (fun p => e = .ret ∧ retX TT st Try.f6.results.toList [.one .keep] = some (eB (p))) v9) h (by kernel_rfl) (le_a (by kernel_rfl)) (fun v5 r h => ?_) fun v9 h e st' hq => ?_
 ·unfold synthesislaw38_WeightLearns_l1 at h
  refine cd 8 h (by kernel_rfl) (fun h => ?_) fun h => ?_
  ·refine ix nTmR 7 h (by kernel_rfl) fun v6 h => ?_
   refine cl 1 h (synthesisref13_Within_ok _ _) (by kernel_rfl) fun v7 h => ?_
   refine cd 2 h (by kernel_rfl) (fun h => ?_) fun h => ?_
   ·refine cl 2 h (synthesislaw38_awake_ok) (by kernel_rfl) fun v8 h => ?_
    cases h; exact lor 3 (by kernel_rfl)
   cases h; exact lj 6 (by kernel_rfl)
  cases h; exact lo 1 (by kernel_rfl)
 rcases v9 with v10 | v17
 ·try simp only [Sum.elim_inl, Sum.elim_inr] at h
  obtain ⟨rfl, hle⟩ := hq
  refine ⟨_, hle, ?_⟩
  refine cl 4 h (weight_Learn_ok _ _) (by kernel_rfl) fun v11 h => ?_
  refine cl 10 h (synthesisref38_Learn_ok _ _) (by kernel_rfl) fun v12 h => ?_
  refine jn1 7 .normal (fun v16 => ⟨55, [(4, (fB (v16)))], [], [], []⟩) h (by kernel_rfl) (fun v16 h => ?_) fun v16 h => ?_
  ·refine cl 3 h (synthesisref11_SameInts_ok _ _) (by kernel_rfl) fun v13 h => ?_
   refine gd 1 h (by kernel_rfl) (fun h => ?_) fun h => ?_
   ·refine gd 5 h (by kernel_rfl) (fun h => ?_) fun h => ?_
    ·refine cl 0 h (synthesislaw38_awake_ok) (by kernel_rfl) fun v14 h => ?_
     cases h; exact lj 3 (by kernel_rfl)
    cases h; exact lj 4 (by kernel_rfl)
   cases h; exact lj 9 (by kernel_rfl)
  cases h; exact lq 1 (by kernel_rfl)
 ·try simp only [Sum.elim_inl, Sum.elim_inr] at h
  obtain ⟨rfl, hret⟩ := hq
  refine ⟨_, LeSt.refl, ?_⟩
  cases h; exact lv hret

end Go.Proofs.Ytpcfkflhnkfjjaa
