/- Typed programs and what computes them. -/
import Derived.Test.YtfhmljjkhjifeaaGreatDoorZ1
set_option linter.unusedVariables false
set_option linter.unusedSimpArgs false
set_option maxRecDepth 100000
namespace Go.Proofs.YtfhmljjkhjifeaaGreatDoor
open Go Go.RowKit Go.Proofs
set_option maxHeartbeats 2000000
attribute [local irreducible] NStep StepA EStep LeSt
def grammar_Trim_l1 (v16 : (List Int) × (List Sy)) (v18 : Ru) (v25 : (Int) × (List Int)) : Option (((Int) × (List Int)) ⊕ ((List Int))) := (bif (decide (v25.1 < (List.length v18.args : Int))) then (Option.bind (idx v18.args v25.1) fun v26 => (Option.bind (idx v16.1 v26) fun v27 => (Option.bind (app 8 v25.2 ([v27] : List (Int))) fun v28 => (some (.inl ((w64 (v25.1 + 1)), v28)))))) else (some (.inr (v25.2))))
def grammar_Trim_l2 (a0 : La) (v4 : (List Bool)) (v5 : (List Bool)) (v16 : (List Int) × (List Sy)) (v17 : (Int) × (List Int) × (List Ru)) : Option (((Int) × (List Int) × (List Ru)) ⊕ ((List Int) × (List Ru))) := (bif (decide (v17.1 < (List.length a0.rules : Int))) then (Option.bind ((Option.bind ((Option.bind (idx a0.rules v17.1) fun v18 => (Option.bind ((Option.bind (idx v5 v18.symbol) fun v19 => (bif (!v19) then (some (true)) else (Option.bind (grammar_complete_1_h (v18) (v4)) fun v20 => (some ((!v20)))))) : Option ((Bool))) fun (v22 : (Bool)) => (bif v22 then (some (.inr ())) else (Option.bind (idx v16.1 v18.symbol) fun v23 => (Option.bind (grammar_copied fuel (v18.const)) fun v24 => (Option.bind (loopN (grammar_Trim_l1 v16 v18) fuel (0, ([] : List (Int)))) fun (v30 : (List Int)) => (Option.bind (app 120 v17.2.2 ([(Ru.mk (v23) (v18.kind) (v18.input) (v24) (v18.op) (v30))] : List (Ru))) fun v31 => (Option.bind (app 8 v17.2.1 ([v17.1] : List (Int))) fun v32 => (some (.inl (v32, v31))))))))))) : Option ((((List Int) × (List Ru)) ⊕ (Unit)))) fun (v33 : (((List Int) × (List Ru)) ⊕ (Unit))) => Sum.elim (fun v34 => (some (v34.1, v34.2))) (fun v35 => (some (v17.2.1, v17.2.2))) v33) : Option ((List Int) × (List Ru))) fun (v37 : (List Int) × (List Ru)) => (some (.inl ((w64 (v17.1 + 1)), v37.1, v37.2)))) else (some (.inr (v17.2.1, v17.2.2))))
def grammar_Trim_l3 (a0 : La) (v5 : (List Bool)) (v8 : (Int) × (List Int) × (List Sy)) : Option (((Int) × (List Int) × (List Sy)) ⊕ ((List Int) × (List Sy))) := (bif (decide (v8.1 < (List.length (v5) : Int))) then (Option.bind ((Option.bind (idx v5 v8.1) fun v9 => (bif v9 then (Option.bind (idx v8.2.1 v8.1) fun v10 => (Option.bind (idx a0.symbols v8.1) fun v11 => (Option.bind (app 24 v8.2.2 ([v11] : List (Sy))) fun v12 => (some ((List.set v8.2.1 (Int.toNat v8.1) (List.length (v8.2.2) : Int)), v12))))) else (some (v8.2.1, v8.2.2)))) : Option ((List Int) × (List Sy))) fun (v14 : (List Int) × (List Sy)) => (some (.inl ((w64 (v8.1 + 1)), v14.1, v14.2)))) else (some (.inr (v8.2.1, v8.2.2))))
def grammar_Trim (a0 : La) : Option ((La) × (List Int) × (Int)) := (Option.bind (grammar_Check (a0)) fun v1 => (bif (v1 != 0) then (some ((La.mk ((⟨#[]⟩ : ByteArray)) (([] : List Int)) (([] : List Sy)) (([] : List Ru))), ([] : List Int), v1)) else (Option.bind (grammar_productive (a0)) fun v2 => (Option.bind (idx v2 0) fun v3 => (bif (!v3) then (some ((La.mk ((⟨#[]⟩ : ByteArray)) (([] : List Int)) (([] : List Sy)) (([] : List Ru))), ([] : List Int), 12)) else (Option.bind (grammar_complete_h (a0)) fun v4 => (Option.bind (grammar_reach_h2 (a0) (0) (true) (v4)) fun v5 => (Option.bind (app 8 [] a0.inputs) fun v6 => (Option.bind (mkL 8 0 (List.length (v5) : Int)) fun v7 => (Option.bind (loopN (grammar_Trim_l3 a0 v5) fuel (0, v7, ([] : List (Sy)))) fun (v16 : (List Int) × (List Sy)) => (Option.bind (loopN (grammar_Trim_l2 a0 v4 v5 v16) fuel (0, ([] : List (Int)), ([] : List (Ru)))) fun (v39 : (List Int) × (List Ru)) => (some ((La.mk (a0.name) (v6) (v16.2) (v39.2)), v39.1, 0)))))))))))))
theorem grammar_Trim_ok (a0 : La) (r : (La) × (List Int) × (Int)) (h : grammar_Trim a0 = some r) : PCall Tryz.prog 24 [eLa a0] (.tup [eLa (r.1), (eL 1 eI) (r.2.1), eI (r.2.2)]) := by
 unfold grammar_Trim at h
 refine pcl [.ag [.keep, .sl 1, .sl 2, .sl 9], .one (.sl 1), .one .keep] Tryz.func24 (by kernel_rfl) (by kernel_rfl) (by kernel_rfl) ?_
 refine cl 11 h (grammar_Check_ok _) (by kernel_rfl) fun v1 h => ?_
 refine cd 7 h (by kernel_rfl) (fun h => ?_) fun h => ?_
 ·cases h; exact lq 9 (by kernel_rfl)
 refine cl 5 h (grammar_productive_ok _) (by kernel_rfl) fun v2 h => ?_
 refine ix nB 0 h (by kernel_rfl) fun v3 h => ?_
 refine cd 3 h (by kernel_rfl) (fun h => ?_) fun h => ?_
 ·cases h; exact lq 8 (by kernel_rfl)
 refine hcl 4 [.one .keep] [] [(2, 3)] [] h (grammar_complete_h_ok _) (fun _ => by kernel_rfl) fun v4 h => ?_
 refine hcl 6 [.one .keep, .one .keep, .one .keep, .one .keep] [(3, 1)] [(1, 3), (4, 4)] [1] h (grammar_reach_h2_ok _ _ _ _) (fun _ => by kernel_rfl) fun v5 h => ?_
 refine dz 3 7 [6] [5] (List.range 6) (by kernel_rfl) ?_
 obtain ⟨v6, hv6, h⟩ := Option.bind_eq_some_iff.1 h
 refine nst 4 (s_clone (t := 22) (X := (.const (.slice none 0 0))) (Y := (.tmp 38)) (d := tt22) (e := 3) (de := tt3) (enc := eI) (ys := a0.inputs) (m := List.length a0.inputs) hv6 tt_ok (by kernel_rfl) (by kernel_rfl) (by kernel_rfl) (by kernel_rfl) (by kernel_rfl) (by kernel_rfl) (by kernel_rfl) (by kernel_rfl) (.inl (by kernel_rfl))) (by kernel_rfl) ?_
 refine nst 8 (n_len_row (t := 35) (x := (.tmp 41)) (d := tt35) (id := 4) (e2 := 4) (e := 4) (size := 1) (n := List.length (v5)) (xs := List.map eB (v5)) tt_ok (by kernel_rfl) (by kernel_rfl) rfl (by kernel_rfl) (by kernel_rfl) (by simp)) (by kernel_rfl) ?_
 obtain ⟨v7, hv7, h⟩ := Option.bind_eq_some_iff.1 h
 refine sst 0 (s_make (t := 22) (X := (.tmp 42)) (Y := (.tmp 42)) (id := 6) (k := .i64) (k' := .i64) (d := tt22) (e := 3) (de := tt3) (enc := eI) (zv := .int .i64 0) hv7 (by kernel_rfl) tt_ok (by kernel_rfl) (by kernel_rfl) (by kernel_rfl) rfl rfl rfl rfl rfl (by kernel_rfl) (by kernel_rfl) (by kernel_rfl)) (by kernel_rfl) ?_
 refine nst 6 (n_len_row (t := 35) (x := (.tmp 44)) (d := tt35) (id := 4) (e2 := 4) (e := 4) (size := 1) (n := List.length (v5)) (xs := List.map eB (v5)) tt_ok (by kernel_rfl) (by kernel_rfl) rfl (by kernel_rfl) (by kernel_rfl) (by simp)) (by kernel_rfl) ?_
 refine wle 3 (le_nilcell (e2 := 26) (e := 49) (size := 2) (id2 := 5) (j := 2) (id := 7) (cells := [(fS (a0.name)), (.fz ((eL 1 eI) (v6))), (.fz (.atom (.slice none 0 0))), (.fz (.atom (.slice none 0 0)))]) (by kernel_rfl) (by kernel_rfl) (by kernel_rfl) (by kernel_rfl)) (by kernel_rfl) ?_
 refine lp1 0 (fun v8 => ⟨131, [(1, (.ref 1 0 0)), (2, (.ref 2 0 0)), (6, (.fn 69 [(.ref 3 0 0)])), (7, (.row 4 (List.length (v5)))), (8, (.ref 5 0 0)), (9, (.row 6 (List.length (v8.2.1)))), (44, (.row 4 (List.length (v5)))), (45, (fI ((List.length (v5) : Int)))), (46, (fI (v8.1)))], [(1, (.box 26 [(fS (a0.name)), (.fz ((eL 1 eI) (a0.inputs))), (.fz ((eL 2 eSy) (a0.symbols))), (.fz ((eL 9 eRu) (a0.rules)))])), (2, (.box 26 [(fS ((⟨#[]⟩ : ByteArray))), (.fz (.atom (.slice none 0 0))), (.fz (.atom (.slice none 0 0))), (.fz (.atom (.slice none 0 0)))])), (3, (.box 35 [(.fz ((eL 1 eB) (v4)))])), (4, (.frow 4 1 (List.map eB (v5)))), (5, (.box 26 [(fS (a0.name)), (.fz ((eL 1 eI) (v6))), (.row 7 (List.length (v8.2.2))), (.fz (.atom (.slice none 0 0)))])), (6, (.frow 3 1 (List.map eI (v8.2.1)))), (7, (.frow 49 2 (List.map eSy (v8.2.2))))], [7, 6, 5, 4, 3, 2, 1], []⟩) (.exit 0) (fun v16 => ⟨131, [(1, (.ref 1 0 0)), (2, (.ref 2 0 0)), (6, (.fn 69 [(.ref 3 0 0)])), (7, (.row 4 (List.length (v5)))), (8, (.ref 5 0 0)), (9, (.row 6 (List.length (v16.1))))], [(1, (.box 26 [(fS (a0.name)), (.fz ((eL 1 eI) (a0.inputs))), (.fz ((eL 2 eSy) (a0.symbols))), (.fz ((eL 9 eRu) (a0.rules)))])), (2, (.box 26 [(fS ((⟨#[]⟩ : ByteArray))), (.fz (.atom (.slice none 0 0))), (.fz (.atom (.slice none 0 0))), (.fz (.atom (.slice none 0 0)))])), (3, (.box 35 [(.fz ((eL 1 eB) (v4)))])), (4, (.frow 4 1 (List.map eB (v5)))), (5, (.box 26 [(fS (a0.name)), (.fz ((eL 1 eI) (v6))), (.row 7 (List.length (v16.2))), (.fz (.atom (.slice none 0 0)))])), (6, (.frow 3 1 (List.map eI (v16.1)))), (7, (.frow 49 2 (List.map eSy (v16.2))))], [7, 6, 5, 4, 3, 2, 1], []⟩) h (by kernel_rfl) (by kernel_rfl) (fun v8 r h => ?_) fun v16 h => ?_
 ·unfold grammar_Trim_l3 at h
  refine cd 5 h (by kernel_rfl) (fun h => ?_) fun h => ?_
  ·refine jn1 3 .normal (fun v14 => ⟨131, [(1, (.ref 1 0 0)), (2, (.ref 2 0 0)), (6, (.fn 69 [(.ref 3 0 0)])), (7, (.row 4 (List.length (v5)))), (8, (.ref 5 0 0)), (9, (.row 6 (List.length (v14.1)))), (44, (.row 4 (List.length (v5)))), (45, (fI ((List.length (v5) : Int)))), (46, (fI (v8.1)))], [(1, (.box 26 [(fS (a0.name)), (.fz ((eL 1 eI) (a0.inputs))), (.fz ((eL 2 eSy) (a0.symbols))), (.fz ((eL 9 eRu) (a0.rules)))])), (2, (.box 26 [(fS ((⟨#[]⟩ : ByteArray))), (.fz (.atom (.slice none 0 0))), (.fz (.atom (.slice none 0 0))), (.fz (.atom (.slice none 0 0)))])), (3, (.box 35 [(.fz ((eL 1 eB) (v4)))])), (4, (.frow 4 1 (List.map eB (v5)))), (5, (.box 26 [(fS (a0.name)), (.fz ((eL 1 eI) (v6))), (.row 7 (List.length (v14.2))), (.fz (.atom (.slice none 0 0)))])), (6, (.frow 3 1 (List.map eI (v14.1)))), (7, (.frow 49 2 (List.map eSy (v14.2))))], [7, 6, 5, 4, 3, 2, 1], []⟩) h (by kernel_rfl) (fun v14 h => ?_) fun v14 h => ?_
   ·obtain ⟨v9, hv9, h⟩ := Option.bind_eq_some_iff.1 h
    refine nst 3 (n_rowAddr (t := 35) (X := (.tmp 44)) (Y := (.tmp 46)) (id := 4) (k := .i64) (d := tt35) (e := 4) (de := tt4) (enc := eB) (xs := v5) (n := List.length (v5)) hv9 tt_ok (by kernel_rfl) (by kernel_rfl) (by kernel_rfl) (by kernel_rfl) (by kernel_rfl) (by kernel_rfl) (by kernel_rfl) rfl (by kernel_rfl)) (by kernel_rfl) ?_
    refine nst 0 (n_rowLoad (t := 4) (X := (.tmp 49)) (id := 4) (d := tt4) (enc := eB) (xs := v5) (x := v9) (i := v8.1) (n := List.length (v5)) hv9 tt_ok (by kernel_rfl) (by kernel_rfl) (by kernel_rfl) (by kernel_rfl) (by kernel_rfl) rfl (fun _ => rfl)) (by kernel_rfl) ?_
    refine cd 7 h (by kernel_rfl) (fun h => ?_) fun h => ?_
    ·refine nst 6 (n_len_row (t := 23) (x := (.tmp 55)) (d := tt23) (id := 7) (e2 := 49) (e := 49) (size := 2) (n := List.length (v8.2.2)) (xs := List.map eSy (v8.2.2)) tt_ok (by kernel_rfl) (by kernel_rfl) rfl (by kernel_rfl) (by kernel_rfl) (by simp)) (by kernel_rfl) ?_
     obtain ⟨v10, hv10, h⟩ := Option.bind_eq_some_iff.1 h
     refine nst 0 (n_rowAddr (t := 22) (X := (.tmp 52)) (Y := (.tmp 53)) (id := 6) (k := .i64) (d := tt22) (e := 3) (de := tt3) (enc := eI) (xs := v8.2.1) (n := List.length (v8.2.1)) hv10 tt_ok (by kernel_rfl) (by kernel_rfl) (by kernel_rfl) (by kernel_rfl) (by kernel_rfl) (by kernel_rfl) (by kernel_rfl) rfl (by kernel_rfl)) (by kernel_rfl) ?_
     refine sst 0 (e_rowStore (t := 3) (X := (.tmp 57)) (Y := (.tmp 56)) (id := 6) (d := tt3) (enc := eI) (xs := v8.2.1) (x := v10) (i := v8.1) (y := (List.length (v8.2.2) : Int)) (n := List.length (v8.2.1)) hv10 tt_ok (by kernel_rfl) (by kernel_rfl) (by kernel_rfl) (by kernel_rfl) (by kernel_rfl) rfl (by kernel_rfl) (fun _ => ⟨_, rfl, rfl⟩)) (by kernel_rfl) ?_
     refine wle 0 (LeSt.trans (show LeSt _ ⟨131, [(1, (.ref 1 0 0)), (2, (.ref 2 0 0)), (6, (.fn 69 [(.ref 3 0 0)])), (7, (.row 4 (List.length (v5)))), (8, (.ref 5 0 0)), (9, (.row 6 (List.length (v8.2.1)))), (10, (fI (v8.1))), (44, (.row 4 (List.length (v5)))), (45, (fI ((List.length (v5) : Int)))), (46, (fI (v8.1))), (52, (.row 6 (List.length (v8.2.1)))), (53, (fI (v8.1))), (55, (.row 7 (List.length (v8.2.2)))), (56, (fI ((List.length (v8.2.2) : Int))))], [(1, (.box 26 [(fS (a0.name)), (.fz ((eL 1 eI) (a0.inputs))), (.fz ((eL 2 eSy) (a0.symbols))), (.fz ((eL 9 eRu) (a0.rules)))])), (2, (.box 26 [(fS ((⟨#[]⟩ : ByteArray))), (.fz (.atom (.slice none 0 0))), (.fz (.atom (.slice none 0 0))), (.fz (.atom (.slice none 0 0)))])), (3, (.box 35 [(.fz ((eL 1 eB) (v4)))])), (4, (.frow 4 1 (List.map eB (v5)))), (5, (.box 26 [(fS (a0.name)), (.fz ((eL 1 eI) (v6))), (.row 7 (List.length (v8.2.2))), (.fz (.atom (.slice none 0 0)))])), (6, (.frow 3 1 (List.map eI ((List.set v8.2.1 (Int.toNat v8.1) (List.length (v8.2.2) : Int)))))), (7, (.frow 49 2 (List.map eSy (v8.2.2))))], [7, 6, 5, 4, 3, 2, 1], []⟩ from le_a (by kernel_rfl)) (LeSt.trans (le_relen 6 (k := 2) (m := List.length (v8.2.1)) (n := List.length ((List.set v8.2.1 (Int.toNat v8.1) (List.length (v8.2.2) : Int)))) (by kernel_rfl) (by simp)) (show LeSt _ ⟨131, [(1, (.ref 1 0 0)), (2, (.ref 2 0 0)), (6, (.fn 69 [(.ref 3 0 0)])), (7, (.row 4 (List.length (v5)))), (8, (.ref 5 0 0)), (9, (.row 6 (List.length ((List.set v8.2.1 (Int.toNat v8.1) (List.length (v8.2.2) : Int)))))), (10, (fI (v8.1))), (44, (.row 4 (List.length (v5)))), (45, (fI ((List.length (v5) : Int)))), (46, (fI (v8.1))), (52, (.row 6 (List.length ((List.set v8.2.1 (Int.toNat v8.1) (List.length (v8.2.2) : Int)))))), (53, (fI (v8.1))), (55, (.row 7 (List.length (v8.2.2)))), (56, (fI ((List.length (v8.2.2) : Int))))], [(1, (.box 26 [(fS (a0.name)), (.fz ((eL 1 eI) (a0.inputs))), (.fz ((eL 2 eSy) (a0.symbols))), (.fz ((eL 9 eRu) (a0.rules)))])), (2, (.box 26 [(fS ((⟨#[]⟩ : ByteArray))), (.fz (.atom (.slice none 0 0))), (.fz (.atom (.slice none 0 0))), (.fz (.atom (.slice none 0 0)))])), (3, (.box 35 [(.fz ((eL 1 eB) (v4)))])), (4, (.frow 4 1 (List.map eB (v5)))), (5, (.box 26 [(fS (a0.name)), (.fz ((eL 1 eI) (v6))), (.row 7 (List.length (v8.2.2))), (.fz (.atom (.slice none 0 0)))])), (6, (.frow 3 1 (List.map eI ((List.set v8.2.1 (Int.toNat v8.1) (List.length (v8.2.2) : Int)))))), (7, (.frow 49 2 (List.map eSy (v8.2.2))))], [7, 6, 5, 4, 3, 2, 1], []⟩ from le_a (by kernel_rfl)))) (by kernel_rfl) ?_
     refine dw 1 8 (by kernel_rfl) ?_
     refine ix nSy 5 h (by kernel_rfl) fun v11 h => ?_
     refine ap nSy 3 h (by kernel_rfl) fun v12 h => ?_
     cases h; exact lj 3 (by kernel_rfl)
    cases h; exact lj 1 (by kernel_rfl)
   cases h; exact lj 4 (by kernel_rfl)
  cases h; exact lo 1 (by kernel_rfl)
 refine wle 13 (le_nilrow (e := 3) (size := 1) (t := 12) (id := 8) (by decide) (by kernel_rfl) (by kernel_rfl)) (by kernel_rfl) ?_
 refine wle 0 (le_nilcell (e2 := 26) (e := 47) (size := 9) (id2 := 5) (j := 3) (id := 9) (cells := [(fS (a0.name)), (.fz ((eL 1 eI) (v6))), (.row 7 (List.length (v16.2))), (.fz (.atom (.slice none 0 0)))]) (by kernel_rfl) (by kernel_rfl) (by kernel_rfl) (by kernel_rfl)) (by kernel_rfl) ?_
 refine lp1 0 (fun v17 => ⟨131, [(2, (.ref 2 0 0)), (6, (.fn 69 [(.ref 3 0 0)])), (7, (.row 4 (List.length (v5)))), (8, (.ref 5 0 0)), (9, (.row 6 (List.length (v16.1)))), (12, (.row 8 (List.length (v17.2.1)))), (70, (.fz ((eL 9 eRu) (a0.rules)))), (71, (fI ((List.length a0.rules : Int)))), (72, (fI (v17.1)))], [(2, (.box 26 [(fS ((⟨#[]⟩ : ByteArray))), (.fz (.atom (.slice none 0 0))), (.fz (.atom (.slice none 0 0))), (.fz (.atom (.slice none 0 0)))])), (3, (.box 35 [(.fz ((eL 1 eB) (v4)))])), (4, (.frow 4 1 (List.map eB (v5)))), (5, (.box 26 [(fS (a0.name)), (.fz ((eL 1 eI) (v6))), (.row 7 (List.length (v16.2))), (.row 9 (List.length (v17.2.2)))])), (6, (.frow 3 1 (List.map eI (v16.1)))), (7, (.frow 49 2 (List.map eSy (v16.2)))), (8, (.frow 3 1 (List.map eI (v17.2.1)))), (9, (.frow 47 9 (List.map eRu (v17.2.2))))], [9, 8, 7, 6, 5, 4, 3, 2], []⟩) (.exit 2) (fun v39 => ⟨131, [(2, (.ref 2 0 0)), (8, (.ref 5 0 0)), (12, (.row 8 (List.length (v39.1))))], [(2, (.box 26 [(fS ((⟨#[]⟩ : ByteArray))), (.fz (.atom (.slice none 0 0))), (.fz (.atom (.slice none 0 0))), (.fz (.atom (.slice none 0 0)))])), (5, (.box 26 [(fS (a0.name)), (.fz ((eL 1 eI) (v6))), (.row 7 (List.length (v16.2))), (.row 9 (List.length (v39.2)))])), (7, (.frow 49 2 (List.map eSy (v16.2)))), (8, (.frow 3 1 (List.map eI (v39.1)))), (9, (.frow 47 9 (List.map eRu (v39.2))))], [9, 8, 7, 5, 2], []⟩) h (by kernel_rfl) (by kernel_rfl) (fun v17 r h => ?_) fun v39 h => ?_
 ·unfold grammar_Trim_l2 at h
  refine cd 5 h (by kernel_rfl) (fun h => ?_) fun h => ?_
  ·refine jn1 2 .normal (fun v37 => ⟨131, [(2, (.ref 2 0 0)), (6, (.fn 69 [(.ref 3 0 0)])), (7, (.row 4 (List.length (v5)))), (8, (.ref 5 0 0)), (9, (.row 6 (List.length (v16.1)))), (12, (.row 8 (List.length (v37.1)))), (70, (.fz ((eL 9 eRu) (a0.rules)))), (71, (fI ((List.length a0.rules : Int)))), (72, (fI (v17.1)))], [(2, (.box 26 [(fS ((⟨#[]⟩ : ByteArray))), (.fz (.atom (.slice none 0 0))), (.fz (.atom (.slice none 0 0))), (.fz (.atom (.slice none 0 0)))])), (3, (.box 35 [(.fz ((eL 1 eB) (v4)))])), (4, (.frow 4 1 (List.map eB (v5)))), (5, (.box 26 [(fS (a0.name)), (.fz ((eL 1 eI) (v6))), (.row 7 (List.length (v16.2))), (.row 9 (List.length (v37.2)))])), (6, (.frow 3 1 (List.map eI (v16.1)))), (7, (.frow 49 2 (List.map eSy (v16.2)))), (8, (.frow 3 1 (List.map eI (v37.1)))), (9, (.frow 47 9 (List.map eRu (v37.2))))], [9, 8, 7, 6, 5, 4, 3, 2], []⟩) h (by kernel_rfl) (fun v37 h => ?_) fun v37 h => ?_
   ·refine jnQ 1 (fun v33 e st => Sum.elim (fun p => e = .normal ∧ LeSt st ⟨131, [(2, (.ref 2 0 0)), (6, (.fn 69 [(.ref 3 0 0)])), (7, (.row 4 (List.length (v5)))), (8, (.ref 5 0 0)), (9, (.row 6 (List.length (v16.1)))), (12, (.row 8 (List.length (p.1)))), (70, (.fz ((eL 9 eRu) (a0.rules)))), (71, (fI ((List.length a0.rules : Int)))), (72, (fI (v17.1)))], [(2, (.box 26 [(fS ((⟨#[]⟩ : ByteArray))), (.fz (.atom (.slice none 0 0))), (.fz (.atom (.slice none 0 0))), (.fz (.atom (.slice none 0 0)))])), (3, (.box 35 [(.fz ((eL 1 eB) (v4)))])), (4, (.frow 4 1 (List.map eB (v5)))), (5, (.box 26 [(fS (a0.name)), (.fz ((eL 1 eI) (v6))), (.row 7 (List.length (v16.2))), (.row 9 (List.length (p.2)))])), (6, (.frow 3 1 (List.map eI (v16.1)))), (7, (.frow 49 2 (List.map eSy (v16.2)))), (8, (.frow 3 1 (List.map eI (p.1)))), (9, (.frow 47 9 (List.map eRu (p.2))))], [9, 8, 7, 6, 5, 4, 3, 2], []⟩) (fun p => e = .exit 3 ∧ LeSt st ⟨131, [(2, (.ref 2 0 0)), (6, (.fn 69 [(.ref 3 0 0)])), (7, (.row 4 (List.length (v5)))), (8, (.ref 5 0 0)), (9, (.row 6 (List.length (v16.1)))), (12, (.row 8 (List.length (v17.2.1)))), (70, (.fz ((eL 9 eRu) (a0.rules)))), (71, (fI ((List.length a0.rules : Int)))), (72, (fI (v17.1)))], [(2, (.box 26 [(fS ((⟨#[]⟩ : ByteArray))), (.fz (.atom (.slice none 0 0))), (.fz (.atom (.slice none 0 0))), (.fz (.atom (.slice none 0 0)))])), (3, (.box 35 [(.fz ((eL 1 eB) (v4)))])), (4, (.frow 4 1 (List.map eB (v5)))), (5, (.box 26 [(fS (a0.name)), (.fz ((eL 1 eI) (v6))), (.row 7 (List.length (v16.2))), (.row 9 (List.length (v17.2.2)))])), (6, (.frow 3 1 (List.map eI (v16.1)))), (7, (.frow 49 2 (List.map eSy (v16.2)))), (8, (.frow 3 1 (List.map eI (v17.2.1)))), (9, (.frow 47 9 (List.map eRu (v17.2.2))))], [9, 8, 7, 6, 5, 4, 3, 2], []⟩) v33) h (by kernel_rfl) (fun v33 h => ?_) fun v33 h e st' hq => ?_
    ·refine ix nRu 3 h (by kernel_rfl) fun v18 h => ?_
     refine jn1 7 .normal (fun v22 => ⟨131, [(2, (.ref 2 0 0)), (6, (.fn 69 [(.ref 3 0 0)])), (7, (.row 4 (List.length (v5)))), (8, (.ref 5 0 0)), (9, (.row 6 (List.length (v16.1)))), (12, (.row 8 (List.length (v17.2.1)))), (13, (fI (v17.1))), (14, (.ref 10 0 0)), (70, (.fz ((eL 9 eRu) (a0.rules)))), (71, (fI ((List.length a0.rules : Int)))), (72, (fI (v17.1))), (88, (fB (v22)))], [(2, (.box 26 [(fS ((⟨#[]⟩ : ByteArray))), (.fz (.atom (.slice none 0 0))), (.fz (.atom (.slice none 0 0))), (.fz (.atom (.slice none 0 0)))])), (3, (.box 35 [(.fz ((eL 1 eB) (v4)))])), (4, (.frow 4 1 (List.map eB (v5)))), (5, (.box 26 [(fS (a0.name)), (.fz ((eL 1 eI) (v6))), (.row 7 (List.length (v16.2))), (.row 9 (List.length (v17.2.2)))])), (6, (.frow 3 1 (List.map eI (v16.1)))), (7, (.frow 49 2 (List.map eSy (v16.2)))), (8, (.frow 3 1 (List.map eI (v17.2.1)))), (9, (.frow 47 9 (List.map eRu (v17.2.2)))), (10, (.box 47 [(fI (v18.symbol)), (fI (v18.kind)), (fI (v18.input)), (fI (v18.const.type)), (fI (v18.const.num)), (fS (v18.const.text)), (.fz ((eL 4 eVaR) (v18.const.items))), (fS (v18.op)), (.fz ((eL 1 eI) (v18.args)))]))], [10, 9, 8, 7, 6, 5, 4, 3, 2], []⟩) h (by kernel_rfl) (fun v22 h => ?_) fun v22 h => ?_
     ·obtain ⟨v19, hv19, h⟩ := Option.bind_eq_some_iff.1 h
      refine nst 4 (n_rowAddr (t := 35) (X := (.tmp 77)) (Y := (.tmp 79)) (id := 4) (k := .i64) (d := tt35) (e := 4) (de := tt4) (enc := eB) (xs := v5) (n := List.length (v5)) hv19 tt_ok (by kernel_rfl) (by kernel_rfl) (by kernel_rfl) (by kernel_rfl) (by kernel_rfl) (by kernel_rfl) (by kernel_rfl) rfl (by kernel_rfl)) (by kernel_rfl) ?_
      refine nst 0 (n_rowLoad (t := 4) (X := (.tmp 80)) (id := 4) (d := tt4) (enc := eB) (xs := v5) (x := v19) (i := v18.symbol) (n := List.length (v5)) hv19 tt_ok (by kernel_rfl) (by kernel_rfl) (by kernel_rfl) (by kernel_rfl) (by kernel_rfl) rfl (fun _ => rfl)) (by kernel_rfl) ?_
      refine gd 2 h (by kernel_rfl) (fun h => ?_) fun h => ?_
      ·cases h; exact lj 6 (by kernel_rfl)
      refine hcl 2 [.one .keep] [(3, 1)] [(1, 3)] [1] h (grammar_complete_1_h_ok _ _) (fun _ => by kernel_rfl) fun v20 h => ?_
      cases h; exact lj 3 (by kernel_rfl)
     refine cd 0 h (by kernel_rfl) (fun h => ?_) fun h => ?_
     ·cases h; exact lj 1 (by kernel_rfl)
     obtain ⟨v23, hv23, h⟩ := Option.bind_eq_some_iff.1 h
     refine nst 12 (n_rowAddr (t := 22) (X := (.tmp 90)) (Y := (.tmp 92)) (id := 6) (k := .i64) (d := tt22) (e := 3) (de := tt3) (enc := eI) (xs := v16.1) (n := List.length (v16.1)) hv23 tt_ok (by kernel_rfl) (by kernel_rfl) (by kernel_rfl) (by kernel_rfl) (by kernel_rfl) (by kernel_rfl) (by kernel_rfl) rfl (by kernel_rfl)) (by kernel_rfl) ?_
     refine nst 0 (n_rowLoad (t := 3) (X := (.tmp 93)) (id := 6) (d := tt3) (enc := eI) (xs := v16.1) (x := v23) (i := v18.symbol) (n := List.length (v16.1)) hv23 tt_ok (by kernel_rfl) (by kernel_rfl) (by kernel_rfl) (by kernel_rfl) (by kernel_rfl) rfl (fun _ => rfl)) (by kernel_rfl) ?_
     refine cl 7 h (grammar_copied_ok _ _) (by kernel_rfl) fun v24 h => ?_
     refine wle 17 (le_nilcell (e2 := 47) (e := 3) (size := 1) (id2 := 11) (j := 8) (id := 12) (cells := [(fI (v23)), (fI (v18.kind)), (fI (v18.input)), (fI (v24.type)), (fI (v24.num)), (fS (v24.text)), (.fz ((eL 4 eVaR) (v24.items))), (fS (v18.op)), (.fz (.atom (.slice none 0 0)))]) (by kernel_rfl) (by kernel_rfl) (by kernel_rfl) (by kernel_rfl)) (by kernel_rfl) ?_
     refine lp1 0 (fun v25 => ⟨131, [(2, (.ref 2 0 0)), (6, (.fn 69 [(.ref 3 0 0)])), (7, (.row 4 (List.length (v5)))), (8, (.ref 5 0 0)), (9, (.row 6 (List.length (v16.1)))), (12, (.row 8 (List.length (v17.2.1)))), (13, (fI (v17.1))), (15, (.ref 11 0 0)), (70, (.fz ((eL 9 eRu) (a0.rules)))), (71, (fI ((List.length a0.rules : Int)))), (72, (fI (v17.1))), (102, (.fz ((eL 1 eI) (v18.args)))), (103, (fI ((List.length v18.args : Int)))), (104, (fI (v25.1)))], [(2, (.box 26 [(fS ((⟨#[]⟩ : ByteArray))), (.fz (.atom (.slice none 0 0))), (.fz (.atom (.slice none 0 0))), (.fz (.atom (.slice none 0 0)))])), (3, (.box 35 [(.fz ((eL 1 eB) (v4)))])), (4, (.frow 4 1 (List.map eB (v5)))), (5, (.box 26 [(fS (a0.name)), (.fz ((eL 1 eI) (v6))), (.row 7 (List.length (v16.2))), (.row 9 (List.length (v17.2.2)))])), (6, (.frow 3 1 (List.map eI (v16.1)))), (7, (.frow 49 2 (List.map eSy (v16.2)))), (8, (.frow 3 1 (List.map eI (v17.2.1)))), (9, (.frow 47 9 (List.map eRu (v17.2.2)))), (11, (.box 47 [(fI (v23)), (fI (v18.kind)), (fI (v18.input)), (fI (v24.type)), (fI (v24.num)), (fS (v24.text)), (.fz ((eL 4 eVaR) (v24.items))), (fS (v18.op)), (.row 12 (List.length (v25.2)))])), (12, (.frow 3 1 (List.map eI (v25.2))))], [12, 11, 9, 8, 7, 6, 5, 4, 3, 2], []⟩) (.exit 4) (fun v30 => ⟨131, [(2, (.ref 2 0 0)), (6, (.fn 69 [(.ref 3 0 0)])), (7, (.row 4 (List.length (v5)))), (8, (.ref 5 0 0)), (9, (.row 6 (List.length (v16.1)))), (12, (.row 8 (List.length (v17.2.1)))), (13, (fI (v17.1))), (15, (.ref 11 0 0)), (70, (.fz ((eL 9 eRu) (a0.rules)))), (71, (fI ((List.length a0.rules : Int)))), (72, (fI (v17.1)))], [(2, (.box 26 [(fS ((⟨#[]⟩ : ByteArray))), (.fz (.atom (.slice none 0 0))), (.fz (.atom (.slice none 0 0))), (.fz (.atom (.slice none 0 0)))])), (3, (.box 35 [(.fz ((eL 1 eB) (v4)))])), (4, (.frow 4 1 (List.map eB (v5)))), (5, (.box 26 [(fS (a0.name)), (.fz ((eL 1 eI) (v6))), (.row 7 (List.length (v16.2))), (.row 9 (List.length (v17.2.2)))])), (6, (.frow 3 1 (List.map eI (v16.1)))), (7, (.frow 49 2 (List.map eSy (v16.2)))), (8, (.frow 3 1 (List.map eI (v17.2.1)))), (9, (.frow 47 9 (List.map eRu (v17.2.2)))), (11, (.box 47 [(fI (v23)), (fI (v18.kind)), (fI (v18.input)), (fI (v24.type)), (fI (v24.num)), (fS (v24.text)), (.fz ((eL 4 eVaR) (v24.items))), (fS (v18.op)), (.row 12 (List.length (v30)))])), (12, (.frow 3 1 (List.map eI (v30))))], [12, 11, 9, 8, 7, 6, 5, 4, 3, 2], []⟩) h (by kernel_rfl) (by kernel_rfl) (fun v25 r h => ?_) fun v30 h => ?_
     ·unfold grammar_Trim_l1 at h
      refine cd 5 h (by kernel_rfl) (fun h => ?_) fun h => ?_
      ·refine ix nI 5 h (by kernel_rfl) fun v26 h => ?_
       refine dw 3 7 (by kernel_rfl) ?_
       obtain ⟨v27, hv27, h⟩ := Option.bind_eq_some_iff.1 h
       refine nst 4 (n_rowAddr (t := 22) (X := (.tmp 110)) (Y := (.tmp 111)) (id := 6) (k := .i64) (d := tt22) (e := 3) (de := tt3) (enc := eI) (xs := v16.1) (n := List.length (v16.1)) hv27 tt_ok (by kernel_rfl) (by kernel_rfl) (by kernel_rfl) (by kernel_rfl) (by kernel_rfl) (by kernel_rfl) (by kernel_rfl) rfl (by kernel_rfl)) (by kernel_rfl) ?_
       refine nst 0 (n_rowLoad (t := 3) (X := (.tmp 112)) (id := 6) (d := tt3) (enc := eI) (xs := v16.1) (x := v27) (i := v26) (n := List.length (v16.1)) hv27 tt_ok (by kernel_rfl) (by kernel_rfl) (by kernel_rfl) (by kernel_rfl) (by kernel_rfl) rfl (fun _ => rfl)) (by kernel_rfl) ?_
       refine ap nI 2 h (by kernel_rfl) fun v28 h => ?_
       cases h; exact lj 7 (by kernel_rfl)
      cases h; exact lo 1 (by kernel_rfl)
     refine wle 5 (LeSt.trans (show LeSt _ ⟨131, [(2, (.ref 2 0 0)), (6, (.fn 69 [(.ref 3 0 0)])), (7, (.row 4 (List.length (v5)))), (8, (.ref 5 0 0)), (9, (.row 6 (List.length (v16.1)))), (12, (.row 8 (List.length (v17.2.1)))), (13, (fI (v17.1))), (70, (.fz ((eL 9 eRu) (a0.rules)))), (71, (fI ((List.length a0.rules : Int)))), (72, (fI (v17.1))), (119, (.row 9 (List.length (v17.2.2)))), (120, (.agg [(fI (v23)), (fI (v18.kind)), (fI (v18.input)), (fI (v24.type)), (fI (v24.num)), (fS (v24.text)), (.fz ((eL 4 eVaR) (v24.items))), (fS (v18.op)), (.row 12 (List.length (v30)))]))], [(2, (.box 26 [(fS ((⟨#[]⟩ : ByteArray))), (.fz (.atom (.slice none 0 0))), (.fz (.atom (.slice none 0 0))), (.fz (.atom (.slice none 0 0)))])), (3, (.box 35 [(.fz ((eL 1 eB) (v4)))])), (4, (.frow 4 1 (List.map eB (v5)))), (5, (.box 26 [(fS (a0.name)), (.fz ((eL 1 eI) (v6))), (.row 7 (List.length (v16.2))), (.row 9 (List.length (v17.2.2)))])), (6, (.frow 3 1 (List.map eI (v16.1)))), (7, (.frow 49 2 (List.map eSy (v16.2)))), (8, (.frow 3 1 (List.map eI (v17.2.1)))), (9, (.frow 47 9 (List.map eRu (v17.2.2)))), (12, (.frow 3 1 (List.map eI (v30))))], [12, 9, 8, 7, 6, 5, 4, 3, 2], []⟩ from le_a (by kernel_rfl)) (LeSt.trans (le_frz 12 (n := List.length (v30)) (k := 1) (e := 3) (size := 1) (xs := List.map eI (v30)) (by kernel_rfl) (by simp) (by kernel_rfl)) (show LeSt _ ⟨131, [(2, (.ref 2 0 0)), (6, (.fn 69 [(.ref 3 0 0)])), (7, (.row 4 (List.length (v5)))), (8, (.ref 5 0 0)), (9, (.row 6 (List.length (v16.1)))), (12, (.row 8 (List.length (v17.2.1)))), (13, (fI (v17.1))), (70, (.fz ((eL 9 eRu) (a0.rules)))), (71, (fI ((List.length a0.rules : Int)))), (72, (fI (v17.1))), (119, (.row 9 (List.length (v17.2.2)))), (120, (.fz (.agg [(eI (v23)), (eI (v18.kind)), (eI (v18.input)), (eI (v24.type)), (eI (v24.num)), (eS (v24.text)), ((eL 4 eVaR) (v24.items)), (eS (v18.op)), ((eL 1 eI) (v30))])))], [(2, (.box 26 [(fS ((⟨#[]⟩ : ByteArray))), (.fz (.atom (.slice none 0 0))), (.fz (.atom (.slice none 0 0))), (.fz (.atom (.slice none 0 0)))])), (3, (.box 35 [(.fz ((eL 1 eB) (v4)))])), (4, (.frow 4 1 (List.map eB (v5)))), (5, (.box 26 [(fS (a0.name)), (.fz ((eL 1 eI) (v6))), (.row 7 (List.length (v16.2))), (.row 9 (List.length (v17.2.2)))])), (6, (.frow 3 1 (List.map eI (v16.1)))), (7, (.frow 49 2 (List.map eSy (v16.2)))), (8, (.frow 3 1 (List.map eI (v17.2.1)))), (9, (.frow 47 9 (List.map eRu (v17.2.2))))], [12, 9, 8, 7, 6, 5, 4, 3, 2], []⟩ from le_a (by kernel_rfl)))) (by kernel_rfl) ?_
     refine ap nRu 1 h (by kernel_rfl) fun v31 h => ?_
     refine ap nI 7 h (by kernel_rfl) fun v32 h => ?_
     cases h; exact lj 2 (by kernel_rfl)
    rcases v33 with v34 | v35
    ·try simp only [Sum.elim_inl, Sum.elim_inr] at h
     obtain ⟨rfl, hle⟩ := hq
     refine ⟨_, hle, ?_⟩
     cases h; exact lj 0 (by kernel_rfl)
    ·try simp only [Sum.elim_inl, Sum.elim_inr] at h
     obtain ⟨rfl, hle⟩ := hq
     refine ⟨_, hle, ?_⟩
     cases h; exact lj 0 (by kernel_rfl)
   cases h; exact lj 4 (by kernel_rfl)
  cases h; exact lo 1 (by kernel_rfl)
 refine wle 8 (le_freezeCell (e2 := 26) (id2 := 2) (j := 2) (id := 7) (n := List.length (v16.2)) (e := 49) (size := 2) (xs := List.map eSy (v16.2)) (cells := [(fS (a0.name)), (.fz ((eL 1 eI) (v6))), (.row 7 (List.length (v16.2))), (.row 9 (List.length (v39.2)))]) (by kernel_rfl) (by kernel_rfl) (by kernel_rfl) (by simp)) (by kernel_rfl) ?_
 refine wle 0 (le_freezeCell (e2 := 26) (id2 := 2) (j := 3) (id := 9) (n := List.length (v39.2)) (e := 47) (size := 9) (xs := List.map eRu (v39.2)) (cells := [(fS (a0.name)), (.fz ((eL 1 eI) (v6))), (.fz ((eL 2 eSy) (v16.2))), (.row 9 (List.length (v39.2)))]) (by kernel_rfl) (by kernel_rfl) (by kernel_rfl) (by simp)) (by kernel_rfl) ?_
 refine wle 0 (le_freeze (t := 3) (id := 8) (n := List.length (v39.1)) (e := 3) (size := 1) (xs := List.map eI (v39.1)) (by kernel_rfl) (by kernel_rfl) (by simp)) (by kernel_rfl) ?_
 cases h; exact lq 1 (by kernel_rfl)

def internal_strconv_FormatBool (a0 : Bool) : Option (ByteArray) := (bif a0 then (some (⟨#[116, 114, 117, 101]⟩ : ByteArray)) else (some (⟨#[102, 97, 108, 115, 101]⟩ : ByteArray)))
theorem internal_strconv_FormatBool_ok (a0 : Bool) (r : ByteArray) (h : internal_strconv_FormatBool a0 = some r) : PCall Tryz.prog 131 [eB a0] (eS (r)) := by
 unfold internal_strconv_FormatBool at h
 refine pcl [.one .keep] Tryz.func131 (by kernel_rfl) (by kernel_rfl) (by kernel_rfl) ?_
 refine cd 9 h (by kernel_rfl) (fun h => ?_) fun h => ?_
 ·cases h; exact lq 5 (by kernel_rfl)
 cases h; exact lq 6 (by kernel_rfl)

def strconv_FormatBool (a0 : Bool) : Option (ByteArray) := (Option.bind (internal_strconv_FormatBool (a0)) fun v1 => (some v1))
theorem strconv_FormatBool_ok (a0 : Bool) (r : ByteArray) (h : strconv_FormatBool a0 = some r) : PCall Tryz.prog 123 [eB a0] (eS (r)) := by
 unfold strconv_FormatBool at h
 refine pcl [.one .keep] Tryz.func123 (by kernel_rfl) (by kernel_rfl) (by kernel_rfl) ?_
 refine cl 7 h (internal_strconv_FormatBool_ok _) (by kernel_rfl) fun v1 h => ?_
 cases h; exact lq 3 (by kernel_rfl)

def literal_plain (a0 : Int) : Option (Bool) := (Option.bind ((bif (decide (32 ≤ a0)) then (some ((decide (a0 ≤ 126)))) else (some (false))) : Option ((Bool))) fun (v2 : (Bool)) => (some v2))
theorem literal_plain_ok (a0 : Int) (r : Bool) (h : literal_plain a0 = some r) : PCall Tryz.prog 132 [eI32 a0] (eB (r)) := by
 unfold literal_plain at h
 refine pcl [.one .keep] Tryz.func132 (by kernel_rfl) (by kernel_rfl) (by kernel_rfl) ?_
 refine jn1 5 .normal (fun v2 => ⟨9, [(2, (fB (v2)))], [], [], []⟩) h (by kernel_rfl) (fun v2 h => ?_) fun v2 h => ?_
 ·refine gd 4 h (by kernel_rfl) (fun h => ?_) fun h => ?_
  ·cases h; exact lj 5 (by kernel_rfl)
  cases h; exact lj 5 (by kernel_rfl)
 cases h; exact lq 1 (by kernel_rfl)

def literal_brackets (a0 : Int) : Option ((ByteArray) × (ByteArray)) := (bif (a0 == 5) then (some ((⟨#[91]⟩ : ByteArray), (⟨#[93]⟩ : ByteArray))) else (bif (a0 == 6) then (some ((⟨#[123]⟩ : ByteArray), (⟨#[125]⟩ : ByteArray))) else (some ((⟨#[60]⟩ : ByteArray), (⟨#[62]⟩ : ByteArray)))))
theorem literal_brackets_ok (a0 : Int) (r : (ByteArray) × (ByteArray)) (h : literal_brackets a0 = some r) : PCall Tryz.prog 127 [eI a0] (.tup [eS (r.1), eS (r.2)]) := by
 unfold literal_brackets at h
 refine pcl [.one .keep, .one .keep] Tryz.func127 (by kernel_rfl) (by kernel_rfl) (by kernel_rfl) ?_
 refine cd 16 h (by kernel_rfl) (fun h => ?_) fun h => ?_
 ·cases h; exact lq 6 (by kernel_rfl)
 refine cd 5 h (by kernel_rfl) (fun h => ?_) fun h => ?_
 ·cases h; exact lq 6 (by kernel_rfl)
 cases h; exact lq 7 (by kernel_rfl)

def slices_Equal_api_Symbol_api_Symbol_l1 (a0 : List Sy) (a1 : List Sy) (v1 : (Int)) : Option (((Int)) ⊕ (((Unit) ⊕ (Bool)))) := (bif (decide (v1 < (List.length a0 : Int))) then (Option.bind (idx a0 v1) fun v2 => (Option.bind (idx a1 v1) fun v3 => (bif (!((v2.name.toList == v3.name.toList) && ((v2.type == v3.type) && true))) then (some (.inr (.inr false))) else (some (.inl ((w64 (v1 + 1)))))))) else (some (.inr (.inl ()))))
def slices_Equal_api_Symbol_api_Symbol (a0 : List Sy) (a1 : List Sy) : Option (Bool) := (bif ((List.length a0 : Int) != (List.length a1 : Int)) then (some false) else (Option.bind (loopN (slices_Equal_api_Symbol_api_Symbol_l1 a0 a1) fuel (0)) fun (v4 : ((Unit) ⊕ (Bool))) => Sum.elim (fun v5 => (some true)) (fun v6 => (some v6)) v4))
theorem slices_Equal_api_Symbol_api_Symbol_ok (a0 : List Sy) (a1 : List Sy) (r : Bool) (h : slices_Equal_api_Symbol_api_Symbol a0 a1 = some r) : PCall Tryz.prog 54 [(eL 2 eSy) a0, (eL 2 eSy) a1] (eB (r)) := by
 unfold slices_Equal_api_Symbol_api_Symbol at h
 refine pcl [.one .keep] Tryz.func54 (by kernel_rfl) (by kernel_rfl) (by kernel_rfl) ?_
 refine cd 13 h (by kernel_rfl) (fun h => ?_) fun h => ?_
 ·cases h; exact lq 5 (by kernel_rfl)
 refine lpx 9 (fun v1 => ⟨26, [(0, (.fz ((eL 2 eSy) (a0)))), (1, (.fz ((eL 2 eSy) (a1)))), (12, (fI ((List.length a0 : Int)))), (13, (fI (v1)))], [], [], []⟩) (fun v4 e st => Sum.elim (fun p => e = .exit 0 ∧ LeSt st ⟨26, [], [], [], []⟩) (fun p => e = .ret ∧ retX TT st Tryz.f54.results.toList [.one .keep] = some (eB (p))) v4) h (by kernel_rfl) (le_a (by kernel_rfl)) (fun v1 r h => ?_) fun v4 h e st' hq => ?_
 ·unfold slices_Equal_api_Symbol_api_Symbol_l1 at h
  refine cd 5 h (by kernel_rfl) (fun h => ?_) fun h => ?_
  ·refine dw 9 8 (by kernel_rfl) ?_
   refine ix nSy 2 h (by kernel_rfl) fun v2 h => ?_
   refine ix nSy 3 h (by kernel_rfl) fun v3 h => ?_
   refine nst 2 (n_structeq (t := 49) (x := (.tmp 19)) (y := (.tmp 23)) (yt := 49) (d := tt49) (xs := [(eS (v2.name)), (eI (v2.type))]) (ys := [(eS (v3.name)), (eI (v3.type))]) (r := ((v2.name.toList == v3.name.toList) && ((v2.type == v3.type) && true))) true tt_ok (by kernel_rfl) (by kernel_rfl) rfl (by kernel_rfl) (by kernel_rfl) (by kernel_rfl) (by kernel_rfl) (by kernel_rfl) (by kernel_rfl)) (by kernel_rfl) ?_
   refine cd 1 h (by kernel_rfl) (fun h => ?_) fun h => ?_
   ·cases h; exact lor 5 (by kernel_rfl)
   cases h; exact lj 5 (by kernel_rfl)
  cases h; exact lo 1 (by kernel_rfl)
 rcases v4 with v5 | v6
 ·try simp only [Sum.elim_inl, Sum.elim_inr] at h
  obtain ⟨rfl, hle⟩ := hq
  refine ⟨_, hle, ?_⟩
  cases h; exact lq 5 (by kernel_rfl)
 ·try simp only [Sum.elim_inl, Sum.elim_inr] at h
  obtain ⟨rfl, hret⟩ := hq
  refine ⟨_, LeSt.refl, ?_⟩
  cases h; exact lv hret

def grammar_sameRule_h (a0 : Ru) (a1 : Ru) : Option ((Bool)) := (Option.bind ((bif (a0.symbol == a1.symbol) then (bif (a0.kind == a1.kind) then (bif (a0.input == a1.input) then (bif (a0.op.toList == a1.op.toList) then (Option.bind (slices_Equal_int_int (a0.args) (a1.args)) fun v1 => (bif v1 then (Option.bind (value_Equal (a0.const) (a1.const)) fun v2 => (some (v2))) else (some (false)))) else (some (false))) else (some (false))) else (some (false))) else (some (false))) : Option ((Bool))) fun (v4 : (Bool)) => (some (v4)))
theorem grammar_sameRule_h_ok (a0 : Ru) (a1 : Ru) (r : (Bool)) (h : grammar_sameRule_h a0 a1 = some r) : HCall Tryz.prog 38 ([(.fz (eRu (a0))), (.fz (eRu (a1)))] ++ []) [] [] (.ret (fB (r))) [] [] := by
 unfold grammar_sameRule_h at h
 refine hcx (gi := 0) Tryz.func38 (by kernel_rfl) (by kernel_rfl) (by kernel_rfl) (by kernel_rfl) (by kernel_rfl) (by kernel_rfl) (by kernel_rfl) (by kernel_rfl) ?_
 intro p0 q0 w0
 refine jn1 7 .normal (fun v4 => ⟨45, [(4, (fB (v4)))], [(0, (.was p0 [] q0 w0))], [0], []⟩) h (by kernel_rfl) (fun v4 h => ?_) fun v4 h => ?_
 ·refine gd 7 h (by kernel_rfl) (fun h => ?_) fun h => ?_
  ·refine gd 7 h (by kernel_rfl) (fun h => ?_) fun h => ?_
   ·refine gd 7 h (by kernel_rfl) (fun h => ?_) fun h => ?_
    ·refine gd 7 h (by kernel_rfl) (fun h => ?_) fun h => ?_
     ·refine cl 4 h (slices_Equal_int_int_ok _ _) (by kernel_rfl) fun v1 h => ?_
      refine gd 2 h (by kernel_rfl) (fun h => ?_) fun h => ?_
      ·refine cl 4 h (value_Equal_ok _ _) (by kernel_rfl) fun v2 h => ?_
       cases h; exact lj 3 (by kernel_rfl)
      cases h; exact lj 8 (by kernel_rfl)
     cases h; exact lj 15 (by kernel_rfl)
    cases h; exact lj 22 (by kernel_rfl)
   cases h; exact lj 29 (by kernel_rfl)
  cases h; exact lj 36 (by kernel_rfl)
 obtain rfl := Option.some.inj h; exact lh 1 ⟨45, [(4, (fB (v4)))], [(0, (.was p0 [] q0 w0))], [0], []⟩ (le_a (by kernel_rfl)) rfl rfl (by kernel_rfl) (by kernel_rfl)

def slices_EqualFunc_api_Rule_api_Rule_api_Rule_api_Rule_h_l1 (a0 : List Ru) (a1 : List Ru) (v1 : (Int)) : Option (((Int)) ⊕ (((Unit) ⊕ (Unit)))) := (bif (decide (v1 < (List.length a0 : Int))) then (Option.bind (idx a0 v1) fun v2 => (Option.bind (idx a1 v1) fun v3 => (Option.bind (grammar_sameRule_h (v2) (v3)) fun v4 => (bif (!v4) then (some (.inr (.inr ()))) else (some (.inl ((w64 (v1 + 1))))))))) else (some (.inr (.inl ()))))
def slices_EqualFunc_api_Rule_api_Rule_api_Rule_api_Rule_h (a0 : List Ru) (a1 : List Ru) : Option ((Bool)) := (bif ((List.length a0 : Int) != (List.length a1 : Int)) then (some (false)) else (Option.bind (loopN (slices_EqualFunc_api_Rule_api_Rule_api_Rule_api_Rule_h_l1 a0 a1) fuel (0)) fun (v5 : ((Unit) ⊕ (Unit))) => Sum.elim (fun v6 => (some (true))) (fun v7 => (some (false))) v5))
theorem slices_EqualFunc_api_Rule_api_Rule_api_Rule_api_Rule_h_ok (a0 : List Ru) (a1 : List Ru) (r : (Bool)) (h : slices_EqualFunc_api_Rule_api_Rule_api_Rule_api_Rule_h a0 a1 = some r) : HCall Tryz.prog 55 ([(.fz ((eL 9 eRu) (a0))), (.fz ((eL 9 eRu) (a1))), (.fn 38 [])] ++ []) [] [] (.ret (fB (r))) [] [] := by
 unfold slices_EqualFunc_api_Rule_api_Rule_api_Rule_api_Rule_h at h
 refine hcx (gi := 0) Tryz.func55 (by kernel_rfl) (by kernel_rfl) (by kernel_rfl) (by kernel_rfl) (by kernel_rfl) (by kernel_rfl) (by kernel_rfl) (by kernel_rfl) ?_
 intro p0 q0 w0
 refine cd 13 h (by kernel_rfl) (fun h => ?_) fun h => ?_
 ·obtain rfl := Option.some.inj h; exact lh 5 ⟨32, [(6, (fB (false)))], [(0, (.was p0 [] q0 w0))], [0], []⟩ (le_a (by kernel_rfl)) rfl rfl (by kernel_rfl) (by kernel_rfl)
 refine lpx 9 (fun v1 => ⟨32, [(1, (.fz ((eL 9 eRu) (a1)))), (2, (.fn 38 [])), (15, (.fz ((eL 9 eRu) (a0)))), (16, (fI ((List.length a0 : Int)))), (17, (fI (v1)))], [(0, (.was p0 [] q0 w0))], [0], []⟩) (fun v5 e st => Sum.elim (fun p => e = .exit 0 ∧ LeSt st ⟨32, [], [(0, (.was p0 [] q0 w0))], [0], []⟩) (fun p => e = .ret ∧ LeSt st ⟨32, [(6, (fB (false)))], [(0, (.was p0 [] q0 w0))], [0], []⟩) v5) h (by kernel_rfl) (le_a (by kernel_rfl)) (fun v1 r h => ?_) fun v5 h e st' hq => ?_
 ·unfold slices_EqualFunc_api_Rule_api_Rule_api_Rule_api_Rule_h_l1 at h
  refine cd 5 h (by kernel_rfl) (fun h => ?_) fun h => ?_
  ·refine ix nRu 6 h (by kernel_rfl) fun v2 h => ?_
   refine ix nRu 9 h (by kernel_rfl) fun v3 h => ?_
   refine hcl 9 [.one .keep, .one .keep] [] [] [] h (grammar_sameRule_h_ok _ _) (fun _ => by kernel_rfl) fun v4 h => ?_
   refine cd 2 h (by kernel_rfl) (fun h => ?_) fun h => ?_
   ·cases h; exact lo 5 (by kernel_rfl)
   cases h; exact lj 5 (by kernel_rfl)
  cases h; exact lo 1 (by kernel_rfl)
 rcases v5 with v6 | v7
 ·try simp only [Sum.elim_inl, Sum.elim_inr] at h
  obtain ⟨rfl, hle⟩ := hq
  refine ⟨_, hle, ?_⟩
  obtain rfl := Option.some.inj h; exact lh 5 ⟨32, [(6, (fB (true)))], [(0, (.was p0 [] q0 w0))], [0], []⟩ (le_a (by kernel_rfl)) rfl rfl (by kernel_rfl) (by kernel_rfl)
 ·try simp only [Sum.elim_inl, Sum.elim_inr] at h
  obtain ⟨rfl, hle⟩ := hq
  refine ⟨_, hle, ?_⟩
  obtain rfl := Option.some.inj h; exact lh 0 ⟨32, [(6, (fB (false)))], [(0, (.was p0 [] q0 w0))], [0], []⟩ (le_a (by kernel_rfl)) rfl rfl (by kernel_rfl) (by kernel_rfl)

def grammar_Same (a0 : La) (a1 : La) : Option (Bool) := (Option.bind ((bif (a0.name.toList == a1.name.toList) then (Option.bind (slices_Equal_int_int (a0.inputs) (a1.inputs)) fun v1 => (bif v1 then (Option.bind (slices_Equal_api_Symbol_api_Symbol (a0.symbols) (a1.symbols)) fun v2 => (bif v2 then (Option.bind (slices_EqualFunc_api_Rule_api_Rule_api_Rule_api_Rule_h (a0.rules) (a1.rules)) fun v3 => (some (v3))) else (some (false)))) else (some (false)))) else (some (false))) : Option ((Bool))) fun (v5 : (Bool)) => (some v5))
theorem grammar_Same_ok (a0 : La) (a1 : La) (r : Bool) (h : grammar_Same a0 a1 = some r) : PCall Tryz.prog 29 [eLa a0, eLa a1] (eB (r)) := by
 unfold grammar_Same at h
 refine pcl [.one .keep] Tryz.func29 (by kernel_rfl) (by kernel_rfl) (by kernel_rfl) ?_
 refine jn1 7 .normal (fun v5 => ⟨31, [(4, (fB (v5)))], [], [], []⟩) h (by kernel_rfl) (fun v5 h => ?_) fun v5 h => ?_
 ·refine gd 7 h (by kernel_rfl) (fun h => ?_) fun h => ?_
  ·refine cl 4 h (slices_Equal_int_int_ok _ _) (by kernel_rfl) fun v1 h => ?_
   refine gd 2 h (by kernel_rfl) (fun h => ?_) fun h => ?_
   ·refine cl 4 h (slices_Equal_api_Symbol_api_Symbol_ok _ _) (by kernel_rfl) fun v2 h => ?_
    refine gd 2 h (by kernel_rfl) (fun h => ?_) fun h => ?_
    ·refine hcl 4 [.one .keep, .one .keep, .one .keep] [] [] [] h (slices_EqualFunc_api_Rule_api_Rule_api_Rule_api_Rule_h_ok _ _) (fun _ => by kernel_rfl) fun v3 h => ?_
     cases h; exact lj 3 (by kernel_rfl)
    cases h; exact lj 8 (by kernel_rfl)
   cases h; exact lj 15 (by kernel_rfl)
  cases h; exact lj 22 (by kernel_rfl)
 cases h; exact lq 1 (by kernel_rfl)

def synthesisref11_Name_l1 (a0 : ByteArray) (v1 : (Int)) : Option (((Int)) ⊕ (((Unit) ⊕ (Bool)))) := (bif (decide (v1 < (a0.size : Int))) then (Option.bind ((Option.bind (byt a0 v1) fun v2 => (bif (decide (97 ≤ v2)) then (Option.bind (byt a0 v1) fun v3 => (bif (decide (v3 ≤ 122)) then (some (true)) else (Option.bind (byt a0 v1) fun v4 => (bif (decide (65 ≤ v4)) then (Option.bind (byt a0 v1) fun v5 => (some ((decide (v5 ≤ 90))))) else (some (false)))))) else (Option.bind (byt a0 v1) fun v6 => (bif (decide (65 ≤ v6)) then (Option.bind (byt a0 v1) fun v7 => (some ((decide (v7 ≤ 90))))) else (some (false)))))) : Option ((Bool))) fun (v9 : (Bool)) => (Option.bind ((bif (!v9) then (bif (v1 == 0) then (some (true)) else (Option.bind (byt a0 v1) fun v10 => (bif (v10 != 45) then (Option.bind (byt a0 v1) fun v11 => (bif (decide (v11 < 48)) then (some (true)) else (Option.bind (byt a0 v1) fun v12 => (some ((decide (57 < v12))))))) else (some (false))))) else (some (false))) : Option ((Bool))) fun (v14 : (Bool)) => (bif v14 then (some (.inr (.inr false))) else (some (.inl ((w64 (v1 + 1)))))))) else (some (.inr (.inl ()))))
def synthesisref11_Name (a0 : ByteArray) : Option (Bool) := (Option.bind (loopN (synthesisref11_Name_l1 a0) fuel (0)) fun (v15 : ((Unit) ⊕ (Bool))) => Sum.elim (fun v16 => (Option.bind ((bif (decide (1 ≤ (a0.size : Int))) then (some ((decide ((a0.size : Int) ≤ 24)))) else (some (false))) : Option ((Bool))) fun (v18 : (Bool)) => (some v18))) (fun v19 => (some v19)) v15)
theorem synthesisref11_Name_ok (a0 : ByteArray) (r : Bool) (h : synthesisref11_Name a0 = some r) : PCall Tryz.prog 39 [eS a0] (eB (r)) := by
 unfold synthesisref11_Name at h
 refine pcl [.one .keep] Tryz.func39 (by kernel_rfl) (by kernel_rfl) (by kernel_rfl) ?_
 refine lpx 10 (fun v1 => ⟨65, [(0, (fS (a0))), (3, (fI (v1)))], [], [], []⟩) (fun v15 e st => Sum.elim (fun p => e = .exit 0 ∧ LeSt st ⟨65, [(0, (fS (a0)))], [], [], []⟩) (fun p => e = .ret ∧ retX TT st Tryz.f39.results.toList [.one .keep] = some (eB (p))) v15) h (by kernel_rfl) (le_a (by kernel_rfl)) (fun v1 r h => ?_) fun v15 h e st' hq => ?_
 ·unfold synthesisref11_Name_l1 at h
  refine cd 8 h (by kernel_rfl) (fun h => ?_) fun h => ?_
  ·refine jn1 4 .normal (fun v9 => ⟨65, [(0, (fS (a0))), (3, (fI (v1))), (4, (fB (v9)))], [], [], []⟩) h (by kernel_rfl) (fun v9 h => ?_) fun v9 h => ?_
   ·refine byx 3 h (by kernel_rfl) fun v2 h => ?_
    refine gd 2 h (by kernel_rfl) (fun h => ?_) fun h => ?_
    ·refine byx 2 h (by kernel_rfl) fun v3 h => ?_
     refine gd 3 h (by kernel_rfl) (fun h => ?_) fun h => ?_
     ·cases h; exact lj 13 (by kernel_rfl)
     refine byx 2 h (by kernel_rfl) fun v4 h => ?_
     refine gd 2 h (by kernel_rfl) (fun h => ?_) fun h => ?_
     ·refine byx 2 h (by kernel_rfl) fun v5 h => ?_
      cases h; exact lj 5 (by kernel_rfl)
     cases h; exact lj 8 (by kernel_rfl)
    refine byx 8 h (by kernel_rfl) fun v6 h => ?_
    refine gd 2 h (by kernel_rfl) (fun h => ?_) fun h => ?_
    ·refine byx 2 h (by kernel_rfl) fun v7 h => ?_
     cases h; exact lj 5 (by kernel_rfl)
    cases h; exact lj 8 (by kernel_rfl)
   refine jn1 1 .normal (fun v14 => ⟨65, [(0, (fS (a0))), (3, (fI (v1))), (56, (fB (v14)))], [], [], []⟩) h (by kernel_rfl) (fun v14 h => ?_) fun v14 h => ?_
   ·refine gd 4 h (by kernel_rfl) (fun h => ?_) fun h => ?_
    ·refine gd 3 h (by kernel_rfl) (fun h => ?_) fun h => ?_
     ·cases h; exact lj 19 (by kernel_rfl)
     refine byx 2 h (by kernel_rfl) fun v10 h => ?_
     refine gd 2 h (by kernel_rfl) (fun h => ?_) fun h => ?_
     ·refine byx 2 h (by kernel_rfl) fun v11 h => ?_
      refine gd 2 h (by kernel_rfl) (fun h => ?_) fun h => ?_
      ·cases h; exact lj 9 (by kernel_rfl)
      refine byx 2 h (by kernel_rfl) fun v12 h => ?_
      cases h; exact lj 6 (by kernel_rfl)
     cases h; exact lj 14 (by kernel_rfl)
    cases h; exact lj 22 (by kernel_rfl)
   refine cd 0 h (by kernel_rfl) (fun h => ?_) fun h => ?_
   ·cases h; exact lor 5 (by kernel_rfl)
   cases h; exact lj 6 (by kernel_rfl)
  cases h; exact lo 1 (by kernel_rfl)
 rcases v15 with v16 | v19
 ·try simp only [Sum.elim_inl, Sum.elim_inr] at h
  obtain ⟨rfl, hle⟩ := hq
  refine ⟨_, hle, ?_⟩
  refine jn1 1 .normal (fun v18 => ⟨65, [(2, (fB (v18)))], [], [], []⟩) h (by kernel_rfl) (fun v18 h => ?_) fun v18 h => ?_
  ·refine gd 5 h (by kernel_rfl) (fun h => ?_) fun h => ?_
   ·cases h; exact lj 6 (by kernel_rfl)
   cases h; exact lj 6 (by kernel_rfl)
  cases h; exact lq 1 (by kernel_rfl)
 ·try simp only [Sum.elim_inl, Sum.elim_inr] at h
  obtain ⟨rfl, hret⟩ := hq
  refine ⟨_, LeSt.refl, ?_⟩
  cases h; exact lv hret

def synthesisref11_typed (a0 : Int) : Option (Bool) := (Option.bind ((bif (decide (1 ≤ a0)) then (some ((decide (a0 ≤ 8)))) else (some (false))) : Option ((Bool))) fun (v2 : (Bool)) => (some v2))
theorem synthesisref11_typed_ok (a0 : Int) (r : Bool) (h : synthesisref11_typed a0 = some r) : PCall Tryz.prog 40 [eI a0] (eB (r)) := by
 unfold synthesisref11_typed at h
 refine pcl [.one .keep] Tryz.func40 (by kernel_rfl) (by kernel_rfl) (by kernel_rfl) ?_
 refine jn1 5 .normal (fun v2 => ⟨9, [(2, (fB (v2)))], [], [], []⟩) h (by kernel_rfl) (fun v2 h => ?_) fun v2 h => ?_
 ·refine gd 4 h (by kernel_rfl) (fun h => ?_) fun h => ?_
  ·cases h; exact lj 5 (by kernel_rfl)
  cases h; exact lj 5 (by kernel_rfl)
 cases h; exact lq 1 (by kernel_rfl)

def synthesisref01_sign (a0 : Bool) : Option (Int) := (bif a0 then (some (-1)) else (some 1))
theorem synthesisref01_sign_ok (a0 : Bool) (r : Int) (h : synthesisref01_sign a0 = some r) : PCall Tryz.prog 101 [eB a0] (eI (r)) := by
 unfold synthesisref01_sign at h
 refine pcl [.one .keep] Tryz.func101 (by kernel_rfl) (by kernel_rfl) (by kernel_rfl) ?_
 refine cd 9 h (by kernel_rfl) (fun h => ?_) fun h => ?_
 ·cases h; exact lq 5 (by kernel_rfl)
 cases h; exact lq 6 (by kernel_rfl)

def synthesisref01_Compare_b (r90 : (Va) → (Va) → Option (Int)) (r102 : (List Va) → (List Va) → Option (Int)) (a0 : Va) (a1 : Va) : Option (Int) := (bif (a0.type != a1.type) then (Option.bind (synthesisref01_sign ((decide (a0.type < a1.type)))) fun v1 => (some v1)) else (bif (a0.num != a1.num) then (Option.bind (synthesisref01_sign ((decide (a0.num < a1.num)))) fun v2 => (some v2)) else (bif (!(a0.text.toList == a1.text.toList)) then (Option.bind (synthesisref01_sign ((Op.bytesLess a0.text.toList a1.text.toList))) fun v3 => (some v3)) else (Option.bind (r102 (a0.items) (a1.items)) fun v4 => (some v4)))))
theorem synthesisref01_Compare_b_ok (r90 : (Va) → (Va) → Option (Int)) (r102 : (List Va) → (List Va) → Option (Int)) (ih90 : ∀ (x0 : Va) (x1 : Va) r, r90 x0 x1 = some r → PCall Tryz.prog 90 [eVa x0, eVa x1] (eI (r))) (ih102 : ∀ (x0 : List Va) (x1 : List Va) r, r102 x0 x1 = some r → PCall Tryz.prog 102 [(eL 4 eVaR) x0, (eL 4 eVaR) x1] (eI (r))) (a0 : Va) (a1 : Va) (r : Int) (h : synthesisref01_Compare_b r90 r102 a0 a1 = some r) : PCall Tryz.prog 90 [eVa a0, eVa a1] (eI (r)) := by
 unfold synthesisref01_Compare_b at h
 refine pcl [.one .keep] Tryz.func90 (by kernel_rfl) (by kernel_rfl) (by kernel_rfl) ?_
 refine cd 17 h (by kernel_rfl) (fun h => ?_) fun h => ?_
 ·refine cl 7 h (synthesisref01_sign_ok _) (by kernel_rfl) fun v1 h => ?_
  cases h; exact lq 3 (by kernel_rfl)
 refine cd 9 h (by kernel_rfl) (fun h => ?_) fun h => ?_
 ·refine cl 7 h (synthesisref01_sign_ok _) (by kernel_rfl) fun v2 h => ?_
  cases h; exact lq 3 (by kernel_rfl)
 refine cd 9 h (by kernel_rfl) (fun h => ?_) fun h => ?_
 ·refine cl 7 h (synthesisref01_sign_ok _) (by kernel_rfl) fun v3 h => ?_
  cases h; exact lq 3 (by kernel_rfl)
 refine cl 7 h (ih102 _ _) (by kernel_rfl) fun v4 h => ?_
 cases h; exact lq 3 (by kernel_rfl)
def synthesisref01_CompareAll_l1 (a0 : List Va) (a1 : List Va) (r90 : (Va) → (Va) → Option (Int)) (v1 : (Int)) : Option (((Int)) ⊕ (((Unit) ⊕ (Int)))) := (Option.bind ((bif (decide (v1 < (List.length a0 : Int))) then (some ((decide (v1 < (List.length a1 : Int))))) else (some (false))) : Option ((Bool))) fun (v3 : (Bool)) => (bif v3 then (Option.bind (idx a0 v1) fun v4 => (Option.bind (idx a1 v1) fun v5 => (Option.bind (r90 (v4) (v5)) fun v6 => (bif (v6 != 0) then (some (.inr (.inr v6))) else (some (.inl ((w64 (v1 + 1))))))))) else (some (.inr (.inl ())))))
def synthesisref01_CompareAll_b (r90 : (Va) → (Va) → Option (Int)) (r102 : (List Va) → (List Va) → Option (Int)) (a0 : List Va) (a1 : List Va) : Option (Int) := (Option.bind (loopN (synthesisref01_CompareAll_l1 a0 a1 r90) fuel (0)) fun (v7 : ((Unit) ⊕ (Int))) => Sum.elim (fun v8 => (bif ((List.length a0 : Int) == (List.length a1 : Int)) then (some 0) else (Option.bind (synthesisref01_sign ((decide ((List.length a0 : Int) < (List.length a1 : Int))))) fun v9 => (some v9)))) (fun v10 => (some v10)) v7)
theorem synthesisref01_CompareAll_b_ok (r90 : (Va) → (Va) → Option (Int)) (r102 : (List Va) → (List Va) → Option (Int)) (ih90 : ∀ (x0 : Va) (x1 : Va) r, r90 x0 x1 = some r → PCall Tryz.prog 90 [eVa x0, eVa x1] (eI (r))) (ih102 : ∀ (x0 : List Va) (x1 : List Va) r, r102 x0 x1 = some r → PCall Tryz.prog 102 [(eL 4 eVaR) x0, (eL 4 eVaR) x1] (eI (r))) (a0 : List Va) (a1 : List Va) (r : Int) (h : synthesisref01_CompareAll_b r90 r102 a0 a1 = some r) : PCall Tryz.prog 102 [(eL 4 eVaR) a0, (eL 4 eVaR) a1] (eI (r)) := by
 unfold synthesisref01_CompareAll_b at h
 refine pcl [.one .keep] Tryz.func102 (by kernel_rfl) (by kernel_rfl) (by kernel_rfl) ?_
 refine lpx 10 (fun v1 => ⟨42, [(0, (.fz ((eL 4 eVaR) (a0)))), (1, (.fz ((eL 4 eVaR) (a1)))), (5, (fI (v1)))], [], [], []⟩) (fun v7 e st => Sum.elim (fun p => e = .exit 0 ∧ LeSt st ⟨42, [(0, (.fz ((eL 4 eVaR) (a0)))), (1, (.fz ((eL 4 eVaR) (a1))))], [], [], []⟩) (fun p => e = .ret ∧ retX TT st Tryz.f102.results.toList [.one .keep] = some (eI (p))) v7) h (by kernel_rfl) (le_a (by kernel_rfl)) (fun v1 r h => ?_) fun v7 h e st' hq => ?_
 ·unfold synthesisref01_CompareAll_l1 at h
  refine jn1 2 .normal (fun v3 => ⟨42, [(0, (.fz ((eL 4 eVaR) (a0)))), (1, (.fz ((eL 4 eVaR) (a1)))), (5, (fI (v1))), (16, (fB (v3)))], [], [], []⟩) h (by kernel_rfl) (fun v3 h => ?_) fun v3 h => ?_
  ·refine gd 6 h (by kernel_rfl) (fun h => ?_) fun h => ?_
   ·cases h; exact lj 6 (by kernel_rfl)
   cases h; exact lj 6 (by kernel_rfl)
  refine cd 0 h (by kernel_rfl) (fun h => ?_) fun h => ?_
  ·refine dw 4 8 (by kernel_rfl) ?_
   refine ix nVaR 2 h (by kernel_rfl) fun v4 h => ?_
   refine ix nVaR 3 h (by kernel_rfl) fun v5 h => ?_
   refine cl 2 h (ih90 _ _) (by kernel_rfl) fun v6 h => ?_
   refine cd 7 h (by kernel_rfl) (fun h => ?_) fun h => ?_
   ·cases h; exact lor 6 (by kernel_rfl)
   cases h; exact lj 6 (by kernel_rfl)
  cases h; exact lo 1 (by kernel_rfl)
 rcases v7 with v8 | v10
 ·try simp only [Sum.elim_inl, Sum.elim_inr] at h
  obtain ⟨rfl, hle⟩ := hq
  refine ⟨_, hle, ?_⟩
  refine cd 9 h (by kernel_rfl) (fun h => ?_) fun h => ?_
  ·cases h; exact lq 5 (by kernel_rfl)
  refine cl 8 h (synthesisref01_sign_ok _) (by kernel_rfl) fun v9 h => ?_
  cases h; exact lq 3 (by kernel_rfl)
 ·try simp only [Sum.elim_inl, Sum.elim_inr] at h
  obtain ⟨rfl, hret⟩ := hq
  refine ⟨_, LeSt.refl, ?_⟩
  cases h; exact lv hret
def synthesisref01_Compare_all : Nat → ((Va) → (Va) → Option (Int)) × ((List Va) → (List Va) → Option (Int))
  | 0 => (fun _ _ => none, fun _ _ => none)
  | n + 1 => (synthesisref01_Compare_b ((synthesisref01_Compare_all n).1) ((synthesisref01_Compare_all n).2), synthesisref01_CompareAll_b ((synthesisref01_Compare_all n).1) ((synthesisref01_Compare_all n).2))
def synthesisref01_Compare (n : Nat) : (Va) → (Va) → Option (Int) := (synthesisref01_Compare_all n).1
def synthesisref01_CompareAll (n : Nat) : (List Va) → (List Va) → Option (Int) := (synthesisref01_Compare_all n).2
theorem synthesisref01_Compare_all_ok : ∀ n : Nat, (∀ (x0 : Va) (x1 : Va) r, synthesisref01_Compare n x0 x1 = some r → PCall Tryz.prog 90 [eVa x0, eVa x1] (eI (r))) ∧ (∀ (x0 : List Va) (x1 : List Va) r, synthesisref01_CompareAll n x0 x1 = some r → PCall Tryz.prog 102 [(eL 4 eVaR) x0, (eL 4 eVaR) x1] (eI (r)))
  | 0 => ⟨(fun _ _ _ h => nomatch h), (fun _ _ _ h => nomatch h)⟩
  | n + 1 => ⟨(synthesisref01_Compare_b_ok _ _ ((synthesisref01_Compare_all_ok n).1) ((synthesisref01_Compare_all_ok n).2)), (synthesisref01_CompareAll_b_ok _ _ ((synthesisref01_Compare_all_ok n).1) ((synthesisref01_Compare_all_ok n).2))⟩
theorem synthesisref01_Compare_ok (n : Nat) : ∀ (x0 : Va) (x1 : Va) r, synthesisref01_Compare n x0 x1 = some r → PCall Tryz.prog 90 [eVa x0, eVa x1] (eI (r)) := (synthesisref01_Compare_all_ok n).1
def synthesisref01_Equal (a0 : Va) (a1 : Va) : Option (Bool) := (Option.bind (synthesisref01_Compare fuel (a0) (a1)) fun v1 => (some (v1 == 0)))
theorem synthesisref01_Equal_ok (a0 : Va) (a1 : Va) (r : Bool) (h : synthesisref01_Equal a0 a1 = some r) : PCall Tryz.prog 66 [eVa a0, eVa a1] (eB (r)) := by
 unfold synthesisref01_Equal at h
 refine pcl [.one .keep] Tryz.func66 (by kernel_rfl) (by kernel_rfl) (by kernel_rfl) ?_
 refine cl 10 h (synthesisref01_Compare_ok _ _ _) (by kernel_rfl) fun v1 h => ?_
 cases h; exact lq 4 (by kernel_rfl)

def synthesisref11_zero (a0 : Ru) : Option (Bool) := (Option.bind (synthesisref01_Equal (a0.const) ((Va.mk (0) (0) ((⟨#[]⟩ : ByteArray)) (([] : List Va))))) fun v1 => (bif (a0.kind == 1) then (Option.bind ((bif v1 then (bif (a0.op.toList == (⟨#[]⟩ : ByteArray).toList) then (some (((List.length a0.args : Int) == 0))) else (some (false))) else (some (false))) : Option ((Bool))) fun (v3 : (Bool)) => (some v3)) else (bif (a0.kind == 2) then (Option.bind ((bif (a0.input == 0) then (bif (a0.op.toList == (⟨#[]⟩ : ByteArray).toList) then (some (((List.length a0.args : Int) == 0))) else (some (false))) else (some (false))) : Option ((Bool))) fun (v5 : (Bool)) => (some v5)) else (Option.bind ((bif (a0.input == 0) then (some (v1)) else (some (false))) : Option ((Bool))) fun (v7 : (Bool)) => (some v7)))))
theorem synthesisref11_zero_ok (a0 : Ru) (r : Bool) (h : synthesisref11_zero a0 = some r) : PCall Tryz.prog 63 [eRu a0] (eB (r)) := by
 unfold synthesisref11_zero at h
 refine pcl [.one .keep] Tryz.func63 (by kernel_rfl) (by kernel_rfl) (by kernel_rfl) ?_
 refine cl 10 h (synthesisref01_Equal_ok _ _) (by kernel_rfl) fun v1 h => ?_
 refine cd 14 h (by kernel_rfl) (fun h => ?_) fun h => ?_
 ·refine jn1 1 .normal (fun v3 => ⟨46, [(2, (fB (v3)))], [], [], []⟩) h (by kernel_rfl) (fun v3 h => ?_) fun v3 h => ?_
  ·refine gd 3 h (by kernel_rfl) (fun h => ?_) fun h => ?_
   ·refine gd 5 h (by kernel_rfl) (fun h => ?_) fun h => ?_
    ·cases h; exact lj 7 (by kernel_rfl)
    cases h; exact lj 7 (by kernel_rfl)
   cases h; exact lj 12 (by kernel_rfl)
  cases h; exact lq 1 (by kernel_rfl)
 refine cd 5 h (by kernel_rfl) (fun h => ?_) fun h => ?_
 ·refine jn1 1 .normal (fun v5 => ⟨46, [(2, (fB (v5)))], [], [], []⟩) h (by kernel_rfl) (fun v5 h => ?_) fun v5 h => ?_
  ·refine gd 5 h (by kernel_rfl) (fun h => ?_) fun h => ?_
   ·refine gd 5 h (by kernel_rfl) (fun h => ?_) fun h => ?_
    ·cases h; exact lj 7 (by kernel_rfl)
    cases h; exact lj 7 (by kernel_rfl)
   cases h; exact lj 12 (by kernel_rfl)
  cases h; exact lq 1 (by kernel_rfl)
 refine jn1 2 .normal (fun v7 => ⟨46, [(2, (fB (v7)))], [], [], []⟩) h (by kernel_rfl) (fun v7 h => ?_) fun v7 h => ?_
 ·refine gd 5 h (by kernel_rfl) (fun h => ?_) fun h => ?_
  ·cases h; exact lj 4 (by kernel_rfl)
  cases h; exact lj 4 (by kernel_rfl)
 cases h; exact lq 1 (by kernel_rfl)

def synthesisref01_within (a0 : Int) (a1 : Int) (a2 : Int) : Option (Int) := (Option.bind ((bif (decide (a0 < a1)) then (some (true)) else (some ((decide (a2 < a0))))) : Option ((Bool))) fun (v2 : (Bool)) => (bif v2 then (some 1) else (some 0)))
theorem synthesisref01_within_ok (a0 : Int) (a1 : Int) (a2 : Int) (r : Int) (h : synthesisref01_within a0 a1 a2 = some r) : PCall Tryz.prog 85 [eI a0, eI a1, eI a2] (eI (r)) := by
 unfold synthesisref01_within at h
 refine pcl [.one .keep] Tryz.func85 (by kernel_rfl) (by kernel_rfl) (by kernel_rfl) ?_
 refine jn1 6 .normal (fun v2 => ⟨15, [(14, (fB (v2)))], [], [], []⟩) h (by kernel_rfl) (fun v2 h => ?_) fun v2 h => ?_
 ·refine gd 5 h (by kernel_rfl) (fun h => ?_) fun h => ?_
  ·cases h; exact lj 5 (by kernel_rfl)
  cases h; exact lj 5 (by kernel_rfl)
 refine cd 0 h (by kernel_rfl) (fun h => ?_) fun h => ?_
 ·cases h; exact lq 5 (by kernel_rfl)
 cases h; exact lq 6 (by kernel_rfl)

def synthesisref01_plain_l1 (a0 : ByteArray) (v3 : (Int)) : Option (((Int)) ⊕ (((Unit) ⊕ (Int)))) := (bif (decide (v3 < (a0.size : Int))) then (Option.bind ((Option.bind (byt a0 v3) fun v4 => (bif (decide (v4 < 32)) then (some (true)) else (Option.bind (byt a0 v3) fun v5 => (some ((decide (126 < v5))))))) : Option ((Bool))) fun (v7 : (Bool)) => (bif v7 then (some (.inr (.inr 1))) else (some (.inl ((w64 (v3 + 1))))))) else (some (.inr (.inl ()))))
def synthesisref01_plain (a0 : ByteArray) (a1 : Int) (a2 : Int) : Option (Int) := (Option.bind ((bif (decide ((a0.size : Int) < a1)) then (some (true)) else (some ((decide (a2 < (a0.size : Int)))))) : Option ((Bool))) fun (v2 : (Bool)) => (bif v2 then (some 2) else (Option.bind (loopN (synthesisref01_plain_l1 a0) fuel (0)) fun (v8 : ((Unit) ⊕ (Int))) => Sum.elim (fun v9 => (some 0)) (fun v10 => (some v10)) v8)))
theorem synthesisref01_plain_ok (a0 : ByteArray) (a1 : Int) (a2 : Int) (r : Int) (h : synthesisref01_plain a0 a1 a2 = some r) : PCall Tryz.prog 86 [eS a0, eI a1, eI a2] (eI (r)) := by
 unfold synthesisref01_plain at h
 refine pcl [.one .keep] Tryz.func86 (by kernel_rfl) (by kernel_rfl) (by kernel_rfl) ?_
 refine jn1 6 .normal (fun v2 => ⟨34, [(0, (fS (a0))), (17, (fB (v2)))], [], [], []⟩) h (by kernel_rfl) (fun v2 h => ?_) fun v2 h => ?_
 ·refine gd 6 h (by kernel_rfl) (fun h => ?_) fun h => ?_
  ·cases h; exact lj 6 (by kernel_rfl)
  cases h; exact lj 6 (by kernel_rfl)
 refine cd 0 h (by kernel_rfl) (fun h => ?_) fun h => ?_
 ·cases h; exact lq 5 (by kernel_rfl)
 refine lpx 7 (fun v3 => ⟨34, [(0, (fS (a0))), (7, (fI (v3)))], [], [], []⟩) (fun v8 e st => Sum.elim (fun p => e = .exit 0 ∧ LeSt st ⟨34, [], [], [], []⟩) (fun p => e = .ret ∧ retX TT st Tryz.f86.results.toList [.one .keep] = some (eI (p))) v8) h (by kernel_rfl) (le_a (by kernel_rfl)) (fun v3 r h => ?_) fun v8 h e st' hq => ?_
 ·unfold synthesisref01_plain_l1 at h
  refine cd 8 h (by kernel_rfl) (fun h => ?_) fun h => ?_
  ·refine jn1 4 .normal (fun v7 => ⟨34, [(0, (fS (a0))), (7, (fI (v3))), (33, (fB (v7)))], [], [], []⟩) h (by kernel_rfl) (fun v7 h => ?_) fun v7 h => ?_
   ·refine byx 3 h (by kernel_rfl) fun v4 h => ?_
    refine gd 2 h (by kernel_rfl) (fun h => ?_) fun h => ?_
    ·cases h; exact lj 6 (by kernel_rfl)
    refine byx 2 h (by kernel_rfl) fun v5 h => ?_
    cases h; exact lj 3 (by kernel_rfl)
   refine cd 0 h (by kernel_rfl) (fun h => ?_) fun h => ?_
   ·cases h; exact lor 5 (by kernel_rfl)
   cases h; exact lj 6 (by kernel_rfl)
  cases h; exact lo 1 (by kernel_rfl)
 rcases v8 with v9 | v10
 ·try simp only [Sum.elim_inl, Sum.elim_inr] at h
  obtain ⟨rfl, hle⟩ := hq
  refine ⟨_, hle, ?_⟩
  cases h; exact lq 5 (by kernel_rfl)
 ·try simp only [Sum.elim_inl, Sum.elim_inr] at h
  obtain ⟨rfl, hret⟩ := hq
  refine ⟨_, LeSt.refl, ?_⟩
  cases h; exact lv hret

def synthesisref01_Check_m0 (a0 : Va) : List (Nat × AObj) := [(1, (.box 45 [(fI (a0.type)), (fI (a0.num)), (fS (a0.text)), (.fz ((eL 4 eVaR) (a0.items)))]))]
def synthesisref01_Check_b (r64 : (Va) → Option (Int)) (r87 : (List Va) → (Int) → Option (Int)) (r88 : (List Va) → Option (Int)) (a0 : Va) : Option (Int) := (Option.bind ((bif (decide (a0.type < 1)) then (some (true)) else (some ((decide (8 < a0.type))))) : Option ((Bool))) fun (v2 : (Bool)) => (bif v2 then (some 3) else (Option.bind ((bif (a0.type == 1) then (some (true)) else (bif (a0.type == 2) then (some (true)) else (some ((a0.type == 4))))) : Option ((Bool))) fun (v4 : (Bool)) => (Option.bind ((bif (a0.type == 3) then (some (true)) else (some ((a0.type == 8)))) : Option ((Bool))) fun (v6 : (Bool)) => (Option.bind ((bif (!v4) then (bif (a0.num != 0) then (some (true)) else (bif (!v6) then (bif (!(a0.text.toList == (⟨#[]⟩ : ByteArray).toList)) then (some (true)) else (bif v4 then (some ((decide (0 < (List.length a0.items : Int))))) else (bif v6 then (some ((decide (0 < (List.length a0.items : Int))))) else (some (false))))) else (bif v4 then (some ((decide (0 < (List.length a0.items : Int))))) else (bif v6 then (some ((decide (0 < (List.length a0.items : Int))))) else (some (false)))))) else (bif (!v6) then (bif (!(a0.text.toList == (⟨#[]⟩ : ByteArray).toList)) then (some (true)) else (bif v4 then (some ((decide (0 < (List.length a0.items : Int))))) else (bif v6 then (some ((decide (0 < (List.length a0.items : Int))))) else (some (false))))) else (bif v4 then (some ((decide (0 < (List.length a0.items : Int))))) else (bif v6 then (some ((decide (0 < (List.length a0.items : Int))))) else (some (false)))))) : Option ((Bool))) fun (v8 : (Bool)) => (bif v8 then (some 4) else (bif (a0.type == 1) then (Option.bind (synthesisref01_within (a0.num) (0) (1)) fun v9 => (some v9)) else (bif (a0.type == 2) then (Option.bind (synthesisref01_within (a0.num) ((-1000000)) (1000000)) fun v10 => (some v10)) else (bif (a0.type == 4) then (Option.bind (synthesisref01_within (a0.num) (0) (255)) fun v11 => (some v11)) else (bif (a0.type == 3) then (Option.bind (synthesisref01_plain (a0.text) (0) (64)) fun v12 => (some v12)) else (bif (a0.type == 8) then (Option.bind (synthesisref01_plain (a0.text) (1) (40)) fun v13 => (some v13)) else (bif (a0.type == 5) then (Option.bind (r87 (a0.items) (2)) fun v14 => (some v14)) else (bif (a0.type == 6) then (Option.bind (r87 (a0.items) (3)) fun v15 => (some v15)) else (Option.bind (r88 (a0.items)) fun v16 => (some v16)))))))))))))))
theorem synthesisref01_Check_b_ok (r64 : (Va) → Option (Int)) (r87 : (List Va) → (Int) → Option (Int)) (r88 : (List Va) → Option (Int)) (ih64 : ∀ (x0 : Va) r, r64 x0 = some r → PCall Tryz.prog 64 [eVa x0] (eI (r))) (ih87 : ∀ (x0 : List Va) (x1 : Int) r, r87 x0 x1 = some r → PCall Tryz.prog 87 [(eL 4 eVaR) x0, eI x1] (eI (r))) (ih88 : ∀ (x0 : List Va) r, r88 x0 = some r → PCall Tryz.prog 88 [(eL 4 eVaR) x0] (eI (r))) (a0 : Va) (r : Int) (h : synthesisref01_Check_b r64 r87 r88 a0 = some r) : PCall Tryz.prog 64 [eVa a0] (eI (r)) := by
 unfold synthesisref01_Check_b at h
 refine pcl [.one .keep] Tryz.func64 (by kernel_rfl) (by kernel_rfl) (by kernel_rfl) ?_
 refine jn1 7 .normal (fun v2 => ⟨102, [(1, (.ref 1 0 0)), (12, (fB (v2)))], (synthesisref01_Check_m0 a0), [1], []⟩) h (by kernel_rfl) (fun v2 h => ?_) fun v2 h => ?_
 ·refine gd 5 h (by kernel_rfl) (fun h => ?_) fun h => ?_
  ·cases h; exact lj 5 (by kernel_rfl)
  cases h; exact lj 5 (by kernel_rfl)
 refine cd 0 h (by kernel_rfl) (fun h => ?_) fun h => ?_
 ·cases h; exact lq 5 (by kernel_rfl)
 refine jn1 2 .normal (fun v4 => ⟨102, [(1, (.ref 1 0 0)), (3, (fB (v4)))], (synthesisref01_Check_m0 a0), [1], []⟩) h (by kernel_rfl) (fun v4 h => ?_) fun v4 h => ?_
 ·refine gd 5 h (by kernel_rfl) (fun h => ?_) fun h => ?_
  ·cases h; exact lj 11 (by kernel_rfl)
  refine gd 5 h (by kernel_rfl) (fun h => ?_) fun h => ?_
  ·cases h; exact lj 6 (by kernel_rfl)
  cases h; exact lj 6 (by kernel_rfl)
 refine jn1 1 .normal (fun v6 => ⟨102, [(1, (.ref 1 0 0)), (3, (fB (v4))), (4, (fB (v6)))], (synthesisref01_Check_m0 a0), [1], []⟩) h (by kernel_rfl) (fun v6 h => ?_) fun v6 h => ?_
 ·refine gd 5 h (by kernel_rfl) (fun h => ?_) fun h => ?_
  ·cases h; exact lj 6 (by kernel_rfl)
  cases h; exact lj 6 (by kernel_rfl)
 refine jn1 2 .normal (fun v8 => ⟨102, [(1, (.ref 1 0 0)), (61, (fB (v8)))], (synthesisref01_Check_m0 a0), [1], []⟩) h (by kernel_rfl) (fun v8 h => ?_) fun v8 h => ?_
 ·refine gd 4 h (by kernel_rfl) (fun h => ?_) fun h => ?_
  ·refine gd 5 h (by kernel_rfl) (fun h => ?_) fun h => ?_
   ·cases h; exact lj 21 (by kernel_rfl)
   refine gd 3 h (by kernel_rfl) (fun h => ?_) fun h => ?_
   ·refine gd 6 h (by kernel_rfl) (fun h => ?_) fun h => ?_
    ·cases h; exact lj 12 (by kernel_rfl)
    refine gd 2 h (by kernel_rfl) (fun h => ?_) fun h => ?_
    ·cases h; exact lj 10 (by kernel_rfl)
    refine gd 3 h (by kernel_rfl) (fun h => ?_) fun h => ?_
    ·cases h; exact lj 7 (by kernel_rfl)
    cases h; exact lj 7 (by kernel_rfl)
   refine gd 8 h (by kernel_rfl) (fun h => ?_) fun h => ?_
   ·cases h; exact lj 10 (by kernel_rfl)
   refine gd 3 h (by kernel_rfl) (fun h => ?_) fun h => ?_
   ·cases h; exact lj 7 (by kernel_rfl)
   cases h; exact lj 7 (by kernel_rfl)
  refine gd 8 h (by kernel_rfl) (fun h => ?_) fun h => ?_
  ·refine gd 6 h (by kernel_rfl) (fun h => ?_) fun h => ?_
   ·cases h; exact lj 12 (by kernel_rfl)
   refine gd 2 h (by kernel_rfl) (fun h => ?_) fun h => ?_
   ·cases h; exact lj 10 (by kernel_rfl)
   refine gd 3 h (by kernel_rfl) (fun h => ?_) fun h => ?_
   ·cases h; exact lj 7 (by kernel_rfl)
   cases h; exact lj 7 (by kernel_rfl)
  refine gd 8 h (by kernel_rfl) (fun h => ?_) fun h => ?_
  ·cases h; exact lj 10 (by kernel_rfl)
  refine gd 3 h (by kernel_rfl) (fun h => ?_) fun h => ?_
  ·cases h; exact lj 7 (by kernel_rfl)
  cases h; exact lj 7 (by kernel_rfl)
 refine cd 0 h (by kernel_rfl) (fun h => ?_) fun h => ?_
 ·cases h; exact lq 5 (by kernel_rfl)
 refine cd 13 h (by kernel_rfl) (fun h => ?_) fun h => ?_
 ·refine cl 4 h (synthesisref01_within_ok _ _ _) (by kernel_rfl) fun v9 h => ?_
  cases h; exact lq 3 (by kernel_rfl)
 refine cd 5 h (by kernel_rfl) (fun h => ?_) fun h => ?_
 ·refine cl 4 h (synthesisref01_within_ok _ _ _) (by kernel_rfl) fun v10 h => ?_
  cases h; exact lq 3 (by kernel_rfl)
 refine cd 5 h (by kernel_rfl) (fun h => ?_) fun h => ?_
 ·refine cl 4 h (synthesisref01_within_ok _ _ _) (by kernel_rfl) fun v11 h => ?_
  cases h; exact lq 3 (by kernel_rfl)
 refine cd 5 h (by kernel_rfl) (fun h => ?_) fun h => ?_
 ·refine cl 4 h (synthesisref01_plain_ok _ _ _) (by kernel_rfl) fun v12 h => ?_
  cases h; exact lq 3 (by kernel_rfl)
 refine cd 5 h (by kernel_rfl) (fun h => ?_) fun h => ?_
 ·refine cl 4 h (synthesisref01_plain_ok _ _ _) (by kernel_rfl) fun v13 h => ?_
  cases h; exact lq 3 (by kernel_rfl)
 refine cd 5 h (by kernel_rfl) (fun h => ?_) fun h => ?_
 ·refine cl 4 h (ih87 _ _) (by kernel_rfl) fun v14 h => ?_
  cases h; exact lq 3 (by kernel_rfl)
 refine cd 5 h (by kernel_rfl) (fun h => ?_) fun h => ?_
 ·refine cl 4 h (ih87 _ _) (by kernel_rfl) fun v15 h => ?_
  cases h; exact lq 3 (by kernel_rfl)
 refine cl 5 h (ih88 _) (by kernel_rfl) fun v16 h => ?_
 cases h; exact lq 3 (by kernel_rfl)
def synthesisref01_elements_l1 (a0 : List Va) (a1 : Int) (r64 : (Va) → Option (Int)) (v1 : (Int)) : Option (((Int)) ⊕ (((Unit) ⊕ (Int)))) := (bif (decide (v1 < (List.length a0 : Int))) then (Option.bind (idx a0 v1) fun v2 => (bif (v2.type != a1) then (some (.inr (.inr 3))) else (Option.bind (idx a0 v1) fun v3 => (Option.bind (r64 (v3)) fun v4 => (bif (v4 != 0) then (some (.inr (.inr v4))) else (some (.inl ((w64 (v1 + 1)))))))))) else (some (.inr (.inl ()))))
def synthesisref01_elements_b (r64 : (Va) → Option (Int)) (r87 : (List Va) → (Int) → Option (Int)) (r88 : (List Va) → Option (Int)) (a0 : List Va) (a1 : Int) : Option (Int) := (bif (decide (16 < (List.length a0 : Int))) then (some 2) else (Option.bind (loopN (synthesisref01_elements_l1 a0 a1 r64) fuel (0)) fun (v5 : ((Unit) ⊕ (Int))) => Sum.elim (fun v6 => (some 0)) (fun v7 => (some v7)) v5))
theorem synthesisref01_elements_b_ok (r64 : (Va) → Option (Int)) (r87 : (List Va) → (Int) → Option (Int)) (r88 : (List Va) → Option (Int)) (ih64 : ∀ (x0 : Va) r, r64 x0 = some r → PCall Tryz.prog 64 [eVa x0] (eI (r))) (ih87 : ∀ (x0 : List Va) (x1 : Int) r, r87 x0 x1 = some r → PCall Tryz.prog 87 [(eL 4 eVaR) x0, eI x1] (eI (r))) (ih88 : ∀ (x0 : List Va) r, r88 x0 = some r → PCall Tryz.prog 88 [(eL 4 eVaR) x0] (eI (r))) (a0 : List Va) (a1 : Int) (r : Int) (h : synthesisref01_elements_b r64 r87 r88 a0 a1 = some r) : PCall Tryz.prog 87 [(eL 4 eVaR) a0, eI a1] (eI (r)) := by
 unfold synthesisref01_elements_b at h
 refine pcl [.one .keep] Tryz.func87 (by kernel_rfl) (by kernel_rfl) (by kernel_rfl) ?_
 refine cd 11 h (by kernel_rfl) (fun h => ?_) fun h => ?_
 ·cases h; exact lq 5 (by kernel_rfl)
 refine lpx 7 (fun v1 => ⟨31, [(0, (.fz ((eL 4 eVaR) (a0)))), (1, (fI (a1))), (5, (fI (v1)))], [], [], []⟩) (fun v5 e st => Sum.elim (fun p => e = .exit 0 ∧ LeSt st ⟨31, [], [], [], []⟩) (fun p => e = .ret ∧ retX TT st Tryz.f87.results.toList [.one .keep] = some (eI (p))) v5) h (by kernel_rfl) (le_a (by kernel_rfl)) (fun v1 r h => ?_) fun v5 h e st' hq => ?_
 ·unfold synthesisref01_elements_l1 at h
  refine cd 8 h (by kernel_rfl) (fun h => ?_) fun h => ?_
  ·refine ix nVaR 8 h (by kernel_rfl) fun v2 h => ?_
   refine cd 5 h (by kernel_rfl) (fun h => ?_) fun h => ?_
   ·cases h; exact lor 5 (by kernel_rfl)
   refine ix nVaR 5 h (by kernel_rfl) fun v3 h => ?_
   refine cl 1 h (ih64 _) (by kernel_rfl) fun v4 h => ?_
   refine cd 7 h (by kernel_rfl) (fun h => ?_) fun h => ?_
   ·cases h; exact lor 6 (by kernel_rfl)
   cases h; exact lj 6 (by kernel_rfl)
  cases h; exact lo 1 (by kernel_rfl)
 rcases v5 with v6 | v7
 ·try simp only [Sum.elim_inl, Sum.elim_inr] at h
  obtain ⟨rfl, hle⟩ := hq
  refine ⟨_, hle, ?_⟩
  cases h; exact lq 5 (by kernel_rfl)
 ·try simp only [Sum.elim_inl, Sum.elim_inr] at h
  obtain ⟨rfl, hret⟩ := hq
  refine ⟨_, LeSt.refl, ?_⟩
  cases h; exact lv hret
def synthesisref01_rows_l1 (a0 : List Va) (r64 : (Va) → Option (Int)) (v1 : (Int)) : Option (((Int)) ⊕ (((Unit) ⊕ (Int)))) := (bif (decide (v1 < (List.length a0 : Int))) then (Option.bind (idx a0 v1) fun v2 => (bif (v2.type != 6) then (some (.inr (.inr 3))) else (Option.bind (idx a0 v1) fun v3 => (Option.bind ((bif (decide ((List.length v3.items : Int) < 1)) then (some (true)) else (bif (decide (8 < (List.length v3.items : Int))) then (some (true)) else (Option.bind (idx a0 0) fun v4 => (some (((List.length v3.items : Int) != (List.length v4.items : Int))))))) : Option ((Bool))) fun (v6 : (Bool)) => (bif v6 then (some (.inr (.inr 2))) else (Option.bind (idx a0 v1) fun v7 => (Option.bind (r64 (v7)) fun v8 => (bif (v8 != 0) then (some (.inr (.inr v8))) else (some (.inl ((w64 (v1 + 1))))))))))))) else (some (.inr (.inl ()))))
def synthesisref01_rows_b (r64 : (Va) → Option (Int)) (r87 : (List Va) → (Int) → Option (Int)) (r88 : (List Va) → Option (Int)) (a0 : List Va) : Option (Int) := (bif (decide (8 < (List.length a0 : Int))) then (some 2) else (Option.bind (loopN (synthesisref01_rows_l1 a0 r64) fuel (0)) fun (v9 : ((Unit) ⊕ (Int))) => Sum.elim (fun v10 => (some 0)) (fun v11 => (some v11)) v9))
theorem synthesisref01_rows_b_ok (r64 : (Va) → Option (Int)) (r87 : (List Va) → (Int) → Option (Int)) (r88 : (List Va) → Option (Int)) (ih64 : ∀ (x0 : Va) r, r64 x0 = some r → PCall Tryz.prog 64 [eVa x0] (eI (r))) (ih87 : ∀ (x0 : List Va) (x1 : Int) r, r87 x0 x1 = some r → PCall Tryz.prog 87 [(eL 4 eVaR) x0, eI x1] (eI (r))) (ih88 : ∀ (x0 : List Va) r, r88 x0 = some r → PCall Tryz.prog 88 [(eL 4 eVaR) x0] (eI (r))) (a0 : List Va) (r : Int) (h : synthesisref01_rows_b r64 r87 r88 a0 = some r) : PCall Tryz.prog 88 [(eL 4 eVaR) a0] (eI (r)) := by
 unfold synthesisref01_rows_b at h
 refine pcl [.one .keep] Tryz.func88 (by kernel_rfl) (by kernel_rfl) (by kernel_rfl) ?_
 refine cd 11 h (by kernel_rfl) (fun h => ?_) fun h => ?_
 ·cases h; exact lq 5 (by kernel_rfl)
 refine lpx 7 (fun v1 => ⟨50, [(0, (.fz ((eL 4 eVaR) (a0)))), (3, (fI (v1)))], [], [], []⟩) (fun v9 e st => Sum.elim (fun p => e = .exit 0 ∧ LeSt st ⟨50, [], [], [], []⟩) (fun p => e = .ret ∧ retX TT st Tryz.f88.results.toList [.one .keep] = some (eI (p))) v9) h (by kernel_rfl) (le_a (by kernel_rfl)) (fun v1 r h => ?_) fun v9 h e st' hq => ?_
 ·unfold synthesisref01_rows_l1 at h
  refine cd 8 h (by kernel_rfl) (fun h => ?_) fun h => ?_
  ·refine ix nVaR 8 h (by kernel_rfl) fun v2 h => ?_
   refine cd 4 h (by kernel_rfl) (fun h => ?_) fun h => ?_
   ·cases h; exact lor 5 (by kernel_rfl)
   refine ix nVaR 6 h (by kernel_rfl) fun v3 h => ?_
   refine jn1 6 .normal (fun v6 => ⟨50, [(0, (.fz ((eL 4 eVaR) (a0)))), (3, (fI (v1))), (41, (fB (v6)))], [], [], []⟩) h (by kernel_rfl) (fun v6 h => ?_) fun v6 h => ?_
   ·refine gd 4 h (by kernel_rfl) (fun h => ?_) fun h => ?_
    ·cases h; exact lj 13 (by kernel_rfl)
    refine gd 4 h (by kernel_rfl) (fun h => ?_) fun h => ?_
    ·cases h; exact lj 9 (by kernel_rfl)
    refine ix nVaR 2 h (by kernel_rfl) fun v4 h => ?_
    cases h; exact lj 6 (by kernel_rfl)
   refine cd 0 h (by kernel_rfl) (fun h => ?_) fun h => ?_
   ·cases h; exact lor 5 (by kernel_rfl)
   refine ix nVaR 5 h (by kernel_rfl) fun v7 h => ?_
   refine cl 1 h (ih64 _) (by kernel_rfl) fun v8 h => ?_
   refine cd 7 h (by kernel_rfl) (fun h => ?_) fun h => ?_
   ·cases h; exact lor 6 (by kernel_rfl)
   cases h; exact lj 6 (by kernel_rfl)
  cases h; exact lo 1 (by kernel_rfl)
 rcases v9 with v10 | v11
 ·try simp only [Sum.elim_inl, Sum.elim_inr] at h
  obtain ⟨rfl, hle⟩ := hq
  refine ⟨_, hle, ?_⟩
  cases h; exact lq 5 (by kernel_rfl)
 ·try simp only [Sum.elim_inl, Sum.elim_inr] at h
  obtain ⟨rfl, hret⟩ := hq
  refine ⟨_, LeSt.refl, ?_⟩
  cases h; exact lv hret
def synthesisref01_Check_all : Nat → ((Va) → Option (Int)) × ((List Va) → (Int) → Option (Int)) × ((List Va) → Option (Int))
  | 0 => (fun _ => none, fun _ _ => none, fun _ => none)
  | n + 1 => (synthesisref01_Check_b ((synthesisref01_Check_all n).1) ((synthesisref01_Check_all n).2.1) ((synthesisref01_Check_all n).2.2), synthesisref01_elements_b ((synthesisref01_Check_all n).1) ((synthesisref01_Check_all n).2.1) ((synthesisref01_Check_all n).2.2), synthesisref01_rows_b ((synthesisref01_Check_all n).1) ((synthesisref01_Check_all n).2.1) ((synthesisref01_Check_all n).2.2))
def synthesisref01_Check (n : Nat) : (Va) → Option (Int) := (synthesisref01_Check_all n).1
def synthesisref01_elements (n : Nat) : (List Va) → (Int) → Option (Int) := (synthesisref01_Check_all n).2.1
def synthesisref01_rows (n : Nat) : (List Va) → Option (Int) := (synthesisref01_Check_all n).2.2
theorem synthesisref01_Check_all_ok : ∀ n : Nat, (∀ (x0 : Va) r, synthesisref01_Check n x0 = some r → PCall Tryz.prog 64 [eVa x0] (eI (r))) ∧ (∀ (x0 : List Va) (x1 : Int) r, synthesisref01_elements n x0 x1 = some r → PCall Tryz.prog 87 [(eL 4 eVaR) x0, eI x1] (eI (r))) ∧ (∀ (x0 : List Va) r, synthesisref01_rows n x0 = some r → PCall Tryz.prog 88 [(eL 4 eVaR) x0] (eI (r)))
  | 0 => ⟨(fun _ _ h => nomatch h), (fun _ _ _ h => nomatch h), (fun _ _ h => nomatch h)⟩
  | n + 1 => ⟨(synthesisref01_Check_b_ok _ _ _ ((synthesisref01_Check_all_ok n).1) ((synthesisref01_Check_all_ok n).2.1) ((synthesisref01_Check_all_ok n).2.2)), (synthesisref01_elements_b_ok _ _ _ ((synthesisref01_Check_all_ok n).1) ((synthesisref01_Check_all_ok n).2.1) ((synthesisref01_Check_all_ok n).2.2)), (synthesisref01_rows_b_ok _ _ _ ((synthesisref01_Check_all_ok n).1) ((synthesisref01_Check_all_ok n).2.1) ((synthesisref01_Check_all_ok n).2.2))⟩
theorem synthesisref01_Check_ok (n : Nat) : ∀ (x0 : Va) r, synthesisref01_Check n x0 = some r → PCall Tryz.prog 64 [eVa x0] (eI (r)) := (synthesisref01_Check_all_ok n).1
end Go.Proofs.YtfhmljjkhjifeaaGreatDoor
