/- Typed programs and what computes them. -/
import Derived.Test.YtpcfkflhnkfjjaaZ1
set_option linter.unusedVariables false
set_option linter.unusedSimpArgs false
set_option maxRecDepth 100000
namespace Go.Proofs.Ytpcfkflhnkfjjaa
open Go Go.RowKit Go.Proofs
set_option maxHeartbeats 2000000
attribute [local irreducible] NStep StepA EStep LeSt
def weight_table_sums_h_l1 (a0 : List (List Int)) (a2 : Int) (v4 : Int) (v6 : (Int) × (List Int)) (v7 : Int) (v8 : (Int) × (List Int)) : Option (((Int) × (List Int)) ⊕ ((List Int))) := (bif (decide ((w64 (v6.1 + v8.1)) ≤ a2)) then (Option.bind (idx v8.2 (w64 (v6.1 + v8.1))) fun v9 => (Option.bind (idx (a0) v4) fun v10 => (Option.bind (idx v10 v8.1) fun v11 => (Option.bind (idx v8.2 (w64 (v6.1 + v8.1))) fun v12 => (some (.inl ((w64 (v8.1 + 1)), (List.set v8.2 (Int.toNat (w64 (v6.1 + v8.1))) (imin v9 (w64 (v7 + v11))))))))))) else (some (.inr (v8.2))))
def weight_table_sums_h_l2 (a0 : List (List Int)) (a2 : Int) (v3 : (Int) × (List Int)) (v4 : Int) (v6 : (Int) × (List Int)) : Option (((Int) × (List Int)) ⊕ ((List Int))) := (bif (decide (v6.1 < (List.length (v3.2) : Int))) then (Option.bind (idx v3.2 v6.1) fun v7 => (Option.bind (loopN (weight_table_sums_h_l1 a0 a2 v4 v6 v7) fuel (1, v6.2)) fun (v14 : (List Int)) => (some (.inl ((w64 (v6.1 + 1)), v14))))) else (some (.inr (v6.2))))
def weight_table_sums_h_l3 (a0 : List (List Int)) (a1 : List Int) (a2 : Int) (v3 : (Int) × (List Int)) : Option (((Int) × (List Int)) ⊕ ((List Int))) := (bif (decide (v3.1 < (List.length a1 : Int))) then (Option.bind (idx a1 v3.1) fun v4 => (Option.bind (slices_Repeat_int_int_h (([1099511627776] : List (Int))) ((w64 (a2 + 1)))) fun v5 => (Option.bind (loopN (weight_table_sums_h_l2 a0 a2 v3 v4) fuel (0, v5)) fun (v16 : (List Int)) => (some (.inl ((w64 (v3.1 + 1)), v16)))))) else (some (.inr (v3.2))))
def weight_table_sums_h (a0 : List (List Int)) (a1 : List Int) (a2 : Int) : Option ((List Int)) := (Option.bind (slices_Repeat_int_int_h (([1099511627776] : List (Int))) ((w64 (a2 + 1)))) fun v1 => (Option.bind (idx v1 0) fun v2 => (Option.bind (loopN (weight_table_sums_h_l3 a0 a1 a2) fuel (0, (List.set v1 (Int.toNat 0) 0))) fun (v18 : (List Int)) => (some (v18)))))
theorem weight_table_sums_h_ok (a0 : List (List Int)) (a1 : List Int) (a2 : Int) (r : (List Int)) (h : weight_table_sums_h a0 a1 a2 = some r) : ∀ (ox1 : Value), HCall Try.prog 38 ([(.fz (.atom ox1)), (.fz ((eL 1 eI) (a1))), (fI (a2))] ++ []) [(1, (.tab 0 ox1 22 3 (List.map (List.map vI) (a0))))] [1] (.ret (.row 2 (List.length (r)))) [(1, (.tab 0 ox1 22 3 (List.map (List.map vI) (a0)))), (2, (.frow 3 1 (List.map eI (r))))] [1, 2] := by
 unfold weight_table_sums_h at h
 intro ox1
 refine hcx (gi := 0) Try.func38 (by kernel_rfl) (by kernel_rfl) (by kernel_rfl) (by kernel_rfl) (by kernel_rfl) (by kernel_rfl) (by kernel_rfl) (by kernel_rfl) ?_
 intro p0 q0 w0
 refine hcl 9 [(.one (.sl 1)), .one .keep] [] [(1, 2)] [] h (slices_Repeat_int_int_h_ok _ _) (fun _ => by kernel_rfl) fun v1 h => ?_
 obtain ⟨v2, hv2, h⟩ := Option.bind_eq_some_iff.1 h
 refine nst 5 (n_rowAddr (t := 22) (X := (.tmp 18)) (Y := (.const (.int .i64 0))) (id := 2) (k := .i64) (d := tt22) (e := 3) (de := tt3) (enc := eI) (xs := v1) (n := List.length (v1)) hv2 tt_ok (by kernel_rfl) (by kernel_rfl) (by kernel_rfl) (by kernel_rfl) (by kernel_rfl) (by kernel_rfl) (by kernel_rfl) rfl (by kernel_rfl)) (by kernel_rfl) ?_
 refine sst 0 (e_rowStore (t := 3) (X := (.tmp 19)) (Y := (.const (.int .i64 0))) (id := 2) (d := tt3) (enc := eI) (xs := v1) (x := v2) (i := 0) (y := 0) (n := List.length (v1)) hv2 tt_ok (by kernel_rfl) (by kernel_rfl) (by kernel_rfl) (by kernel_rfl) (by kernel_rfl) rfl (by kernel_rfl) (fun _ => ⟨_, rfl, rfl⟩)) (by kernel_rfl) ?_
 refine wle 0 (LeSt.trans (show LeSt _ ⟨69, [(0, (.fz (.atom ox1))), (1, (.fz ((eL 1 eI) (a1)))), (2, (fI (a2))), (7, (.row 2 (List.length (v1)))), (18, (.row 2 (List.length (v1))))], [(0, (.was p0 [1] q0 w0)), (1, (.tab 0 ox1 22 3 (List.map (List.map vI) (a0)))), (2, (.frow 3 1 (List.map eI ((List.set v1 (Int.toNat 0) 0)))))], [2, 0, 1], []⟩ from le_a (by kernel_rfl)) (LeSt.trans (le_relen 2 (k := 2) (m := List.length (v1)) (n := List.length ((List.set v1 (Int.toNat 0) 0))) (by kernel_rfl) (by simp)) (show LeSt _ ⟨69, [(0, (.fz (.atom ox1))), (1, (.fz ((eL 1 eI) (a1)))), (2, (fI (a2))), (7, (.row 2 (List.length ((List.set v1 (Int.toNat 0) 0))))), (18, (.row 2 (List.length ((List.set v1 (Int.toNat 0) 0)))))], [(0, (.was p0 [1] q0 w0)), (1, (.tab 0 ox1 22 3 (List.map (List.map vI) (a0)))), (2, (.frow 3 1 (List.map eI ((List.set v1 (Int.toNat 0) 0)))))], [2, 0, 1], []⟩ from le_a (by kernel_rfl)))) (by kernel_rfl) ?_
 refine lp1 9 (fun v3 => ⟨69, [(0, (.fz (.atom ox1))), (2, (fI (a2))), (7, (.row 2 (List.length (v3.2)))), (20, (.fz ((eL 1 eI) (a1)))), (21, (fI ((List.length a1 : Int)))), (22, (fI (v3.1)))], [(0, (.was p0 [1] q0 w0)), (1, (.tab 0 ox1 22 3 (List.map (List.map vI) (a0)))), (2, (.frow 3 1 (List.map eI (v3.2))))], [2, 0, 1], []⟩) (.exit 0) (fun v18 => ⟨69, [(7, (.row 2 (List.length (v18))))], [(0, (.was p0 [1] q0 w0)), (1, (.tab 0 ox1 22 3 (List.map (List.map vI) (a0)))), (2, (.frow 3 1 (List.map eI (v18))))], [2, 0, 1], []⟩) h (by kernel_rfl) (by kernel_rfl) (fun v3 r h => ?_) fun v18 h => ?_
 ·unfold weight_table_sums_h_l3 at h
  refine cd 5 h (by kernel_rfl) (fun h => ?_) fun h => ?_
  ·refine ix nI 5 h (by kernel_rfl) fun v4 h => ?_
   refine hcl 8 [(.one (.sl 1)), .one .keep] [] [(1, 3)] [] h (slices_Repeat_int_int_h_ok _ _) (fun _ => by kernel_rfl) fun v5 h => ?_
   refine nst 6 (n_len_row (t := 22) (x := (.tmp 30)) (d := tt22) (id := 2) (e2 := 3) (e := 3) (size := 1) (n := List.length (v3.2)) (xs := List.map eI (v3.2)) tt_ok (by kernel_rfl) (by kernel_rfl) rfl (by kernel_rfl) (by kernel_rfl) (by simp)) (by kernel_rfl) ?_
   refine lp1 3 (fun v6 => ⟨69, [(0, (.fz (.atom ox1))), (2, (fI (a2))), (9, (fI (v4))), (10, (.row 3 (List.length (v6.2)))), (20, (.fz ((eL 1 eI) (a1)))), (21, (fI ((List.length a1 : Int)))), (22, (fI (v3.1))), (30, (.row 2 (List.length (v3.2)))), (31, (fI ((List.length (v3.2) : Int)))), (32, (fI (v6.1)))], [(0, (.was p0 [1] q0 w0)), (1, (.tab 0 ox1 22 3 (List.map (List.map vI) (a0)))), (2, (.frow 3 1 (List.map eI (v3.2)))), (3, (.frow 3 1 (List.map eI (v6.2))))], [3, 2, 0, 1], []⟩) (.exit 2) (fun v16 => ⟨69, [(0, (.fz (.atom ox1))), (2, (fI (a2))), (10, (.row 3 (List.length (v16)))), (20, (.fz ((eL 1 eI) (a1)))), (21, (fI ((List.length a1 : Int)))), (22, (fI (v3.1)))], [(0, (.was p0 [1] q0 w0)), (1, (.tab 0 ox1 22 3 (List.map (List.map vI) (a0)))), (3, (.frow 3 1 (List.map eI (v16))))], [3, 0, 1], []⟩) h (by kernel_rfl) (by kernel_rfl) (fun v6 r h => ?_) fun v16 h => ?_
   ·unfold weight_table_sums_h_l2 at h
    refine cd 5 h (by kernel_rfl) (fun h => ?_) fun h => ?_
    ·obtain ⟨v7, hv7, h⟩ := Option.bind_eq_some_iff.1 h
     refine nst 6 (n_rowAddr (t := 22) (X := (.tmp 30)) (Y := (.tmp 32)) (id := 2) (k := .i64) (d := tt22) (e := 3) (de := tt3) (enc := eI) (xs := v3.2) (n := List.length (v3.2)) hv7 tt_ok (by kernel_rfl) (by kernel_rfl) (by kernel_rfl) (by kernel_rfl) (by kernel_rfl) (by kernel_rfl) (by kernel_rfl) rfl (by kernel_rfl)) (by kernel_rfl) ?_
     refine nst 0 (n_rowLoad (t := 3) (X := (.tmp 35)) (id := 2) (d := tt3) (enc := eI) (xs := v3.2) (x := v7) (i := v6.1) (n := List.length (v3.2)) hv7 tt_ok (by kernel_rfl) (by kernel_rfl) (by kernel_rfl) (by kernel_rfl) (by kernel_rfl) rfl (fun _ => rfl)) (by kernel_rfl) ?_
     refine lp1 8 (fun v8 => ⟨69, [(0, (.fz (.atom ox1))), (2, (fI (a2))), (9, (fI (v4))), (10, (.row 3 (List.length (v8.2)))), (11, (fI (v6.1))), (12, (fI (v7))), (13, (fI (v8.1))), (20, (.fz ((eL 1 eI) (a1)))), (21, (fI ((List.length a1 : Int)))), (22, (fI (v3.1))), (30, (.row 2 (List.length (v3.2)))), (31, (fI ((List.length (v3.2) : Int)))), (32, (fI (v6.1)))], [(0, (.was p0 [1] q0 w0)), (1, (.tab 0 ox1 22 3 (List.map (List.map vI) (a0)))), (2, (.frow 3 1 (List.map eI (v3.2)))), (3, (.frow 3 1 (List.map eI (v8.2))))], [3, 2, 0, 1], []⟩) (.exit 4) (fun v14 => ⟨69, [(0, (.fz (.atom ox1))), (2, (fI (a2))), (9, (fI (v4))), (10, (.row 3 (List.length (v14)))), (20, (.fz ((eL 1 eI) (a1)))), (21, (fI ((List.length a1 : Int)))), (22, (fI (v3.1))), (30, (.row 2 (List.length (v3.2)))), (31, (fI ((List.length (v3.2) : Int)))), (32, (fI (v6.1)))], [(0, (.was p0 [1] q0 w0)), (1, (.tab 0 ox1 22 3 (List.map (List.map vI) (a0)))), (2, (.frow 3 1 (List.map eI (v3.2)))), (3, (.frow 3 1 (List.map eI (v14))))], [3, 2, 0, 1], []⟩) h (by kernel_rfl) (by kernel_rfl) (fun v8 r h => ?_) fun v14 h => ?_
     ·unfold weight_table_sums_h_l1 at h
      refine cd 9 h (by kernel_rfl) (fun h => ?_) fun h => ?_
      ·refine dw 3 20 (by kernel_rfl) ?_
       obtain ⟨v9, hv9, h⟩ := Option.bind_eq_some_iff.1 h
       refine nst 8 (n_rowAddr (t := 22) (X := (.tmp 48)) (Y := (.tmp 51)) (id := 3) (k := .i64) (d := tt22) (e := 3) (de := tt3) (enc := eI) (xs := v8.2) (n := List.length (v8.2)) hv9 tt_ok (by kernel_rfl) (by kernel_rfl) (by kernel_rfl) (by kernel_rfl) (by kernel_rfl) (by kernel_rfl) (by kernel_rfl) rfl (by kernel_rfl)) (by kernel_rfl) ?_
       refine nst 0 (n_rowLoad (t := 3) (X := (.tmp 52)) (id := 3) (d := tt3) (enc := eI) (xs := v8.2) (x := v9) (i := (w64 (v6.1 + v8.1))) (n := List.length (v8.2)) hv9 tt_ok (by kernel_rfl) (by kernel_rfl) (by kernel_rfl) (by kernel_rfl) (by kernel_rfl) rfl (fun _ => rfl)) (by kernel_rfl) ?_
       obtain ⟨v10, hv10, h⟩ := Option.bind_eq_some_iff.1 h
       refine nst 3 (n_tabAddr (t := 66) (f := vI) (rows := a0) (row := v10) (i := v4) (X := (.tmp 55)) (Y := (.tmp 56)) (e := 22) (de := tt22) (k := .i64) (id := 1) (g := 0) (ov := ox1) (ei := 3) (d := tt66) hv10 tt_ok (by kernel_rfl) (by kernel_rfl) (by kernel_rfl) (by kernel_rfl) (by kernel_rfl) (by kernel_rfl) (by kernel_rfl) (by kernel_rfl) (by kernel_rfl)) (by kernel_rfl) ?_
       refine nst 0 (n_tabLoad (t := 22) (f := vI) (rows := a0) (row := v10) (i := v4) (X := (.tmp 57)) (id := 1) (g := 0) (ov := ox1) (ei := 3) (d := tt22) hv10 tt_ok (by kernel_rfl) (by kernel_rfl) (by kernel_rfl) (by kernel_rfl) (by kernel_rfl) (by kernel_rfl)) (by kernel_rfl) ?_
       obtain ⟨v11, hv11, h⟩ := Option.bind_eq_some_iff.1 h
       refine nst 1 (n_tinAddr (t := 22) (f := vI) (rows := a0) (row := v10) (x := v11) (i := v4) (j := v8.1) (X := (.tmp 58)) (Y := (.tmp 59)) (e := 3) (de := tt3) (k := .i64) (id := 1) (g := 0) (ov := ox1) (eo := 22) (d := tt22) hv10 hv11 tt_ok (by kernel_rfl) (by kernel_rfl) (by kernel_rfl) (by kernel_rfl) (by kernel_rfl) (by kernel_rfl) (by kernel_rfl) (by kernel_rfl) (by kernel_rfl)) (by kernel_rfl) ?_
       refine nst 0 (n_tinLoad (t := 3) (f := vI) (rows := a0) (row := v10) (x := v11) (i := v4) (j := v8.1) (X := (.tmp 60)) (id := 1) (g := 0) (ov := ox1) (eo := 22) (d := tt3) hv10 hv11 tt_ok (by kernel_rfl) (by kernel_rfl) (by kernel_rfl) (by kernel_rfl) (by kernel_rfl)) (by kernel_rfl) ?_
       obtain ⟨v12, hv12, h⟩ := Option.bind_eq_some_iff.1 h
       refine nst 3 (n_rowAddr (t := 22) (X := (.tmp 44)) (Y := (.tmp 47)) (id := 3) (k := .i64) (d := tt22) (e := 3) (de := tt3) (enc := eI) (xs := v8.2) (n := List.length (v8.2)) hv12 tt_ok (by kernel_rfl) (by kernel_rfl) (by kernel_rfl) (by kernel_rfl) (by kernel_rfl) (by kernel_rfl) (by kernel_rfl) rfl (by kernel_rfl)) (by kernel_rfl) ?_
       refine sst 0 (e_rowStore (t := 3) (X := (.tmp 64)) (Y := (.tmp 63)) (id := 3) (d := tt3) (enc := eI) (xs := v8.2) (x := v12) (i := (w64 (v6.1 + v8.1))) (y := (imin v9 (w64 (v7 + v11)))) (n := List.length (v8.2)) hv12 tt_ok (by kernel_rfl) (by kernel_rfl) (by kernel_rfl) (by kernel_rfl) (by kernel_rfl) rfl (by kernel_rfl) (fun _ => ⟨_, rfl, rfl⟩)) (by kernel_rfl) ?_
       refine wle 0 (LeSt.trans (show LeSt _ ⟨69, [(0, (.fz (.atom ox1))), (2, (fI (a2))), (9, (fI (v4))), (10, (.row 3 (List.length (v8.2)))), (11, (fI (v6.1))), (12, (fI (v7))), (13, (fI (v8.1))), (20, (.fz ((eL 1 eI) (a1)))), (21, (fI ((List.length a1 : Int)))), (22, (fI (v3.1))), (30, (.row 2 (List.length (v3.2)))), (31, (fI ((List.length (v3.2) : Int)))), (32, (fI (v6.1))), (44, (.row 3 (List.length (v8.2)))), (47, (fI ((w64 (v6.1 + v8.1))))), (63, (fI ((imin v9 (w64 (v7 + v11))))))], [(0, (.was p0 [1] q0 w0)), (1, (.tab 0 ox1 22 3 (List.map (List.map vI) (a0)))), (2, (.frow 3 1 (List.map eI (v3.2)))), (3, (.frow 3 1 (List.map eI ((List.set v8.2 (Int.toNat (w64 (v6.1 + v8.1))) (imin v9 (w64 (v7 + v11))))))))], [3, 2, 0, 1], []⟩ from le_a (by kernel_rfl)) (LeSt.trans (le_relen 3 (k := 2) (m := List.length (v8.2)) (n := List.length ((List.set v8.2 (Int.toNat (w64 (v6.1 + v8.1))) (imin v9 (w64 (v7 + v11)))))) (by kernel_rfl) (by simp)) (show LeSt _ ⟨69, [(0, (.fz (.atom ox1))), (2, (fI (a2))), (9, (fI (v4))), (10, (.row 3 (List.length ((List.set v8.2 (Int.toNat (w64 (v6.1 + v8.1))) (imin v9 (w64 (v7 + v11)))))))), (11, (fI (v6.1))), (12, (fI (v7))), (13, (fI (v8.1))), (20, (.fz ((eL 1 eI) (a1)))), (21, (fI ((List.length a1 : Int)))), (22, (fI (v3.1))), (30, (.row 2 (List.length (v3.2)))), (31, (fI ((List.length (v3.2) : Int)))), (32, (fI (v6.1))), (44, (.row 3 (List.length ((List.set v8.2 (Int.toNat (w64 (v6.1 + v8.1))) (imin v9 (w64 (v7 + v11)))))))), (47, (fI ((w64 (v6.1 + v8.1))))), (63, (fI ((imin v9 (w64 (v7 + v11))))))], [(0, (.was p0 [1] q0 w0)), (1, (.tab 0 ox1 22 3 (List.map (List.map vI) (a0)))), (2, (.frow 3 1 (List.map eI (v3.2)))), (3, (.frow 3 1 (List.map eI ((List.set v8.2 (Int.toNat (w64 (v6.1 + v8.1))) (imin v9 (w64 (v7 + v11))))))))], [3, 2, 0, 1], []⟩ from le_a (by kernel_rfl)))) (by kernel_rfl) ?_
       cases h; exact lj 6 (by kernel_rfl)
      cases h; exact lo 1 (by kernel_rfl)
     cases h; exact lj 4 (by kernel_rfl)
    cases h; exact lo 1 (by kernel_rfl)
   cases h; exact ljx 8 (LeSt.trans (show LeSt _ ⟨69, [(0, (.fz (.atom ox1))), (2, (fI (a2))), (7, (.row 3 (List.length (v16)))), (20, (.fz ((eL 1 eI) (a1)))), (21, (fI ((List.length a1 : Int)))), (22, (fI ((w64 (v3.1 + 1)))))], [(0, (.was p0 [1] q0 w0)), (1, (.tab 0 ox1 22 3 (List.map (List.map vI) (a0)))), (3, (.frow 3 1 (List.map eI (v16))))], [3, 0, 1], []⟩ from le_a (by kernel_rfl)) (LeSt.trans (le_ren [(3, 2)] (by kernel_rfl)) (le_a (by kernel_rfl)))) (by kernel_rfl)
  cases h; exact lo 1 (by kernel_rfl)
 obtain rfl := Option.some.inj h; exact lh 6 ⟨69, [(6, (.row 2 (List.length (v18))))], [(0, (.was p0 [1] q0 w0)), (1, (.tab 0 ox1 22 3 (List.map (List.map vI) (a0)))), (2, (.frow 3 1 (List.map eI (v18))))], [0, 1, 2], []⟩ (le_a (by kernel_rfl)) rfl rfl (by kernel_rfl) (by kernel_rfl)

def weight_Least_l1 (a0 : La) (a1 : List Int) (v10 : (Int) × (List (List Int))) (v11 : (Int) × (List (List Int))) : Option (((Int) × (List (List Int))) ⊕ ((List (List Int)))) := (bif (decide (v11.1 < (List.length a0.rules : Int))) then (Option.bind (idx a0.rules v11.1) fun v12 => (Option.bind (idx (v11.2) v12.symbol) fun v13 => (Option.bind (idx v13 (w64 (v10.1 + 1))) fun v14 => (Option.bind (idx a1 v11.1) fun v15 => (Option.bind (weight_table_sums_h (v11.2) (v12.args) (v10.1)) fun v16 => (Option.bind (idx v16 v10.1) fun v17 => (some (.inl ((w64 (v11.1 + 1)), (List.set (v11.2) (Int.toNat (v12.symbol)) (List.set v13 (Int.toNat ((w64 (v10.1 + 1)))) (imin v14 (w64 (v15 + v17)))))))))))))) else (some (.inr (v11.2))))
def weight_Least_l2 (a0 : La) (a1 : List Int) (a3 : Int) (v10 : (Int) × (List (List Int))) : Option (((Int) × (List (List Int))) ⊕ ((List (List Int)))) := (bif (decide (v10.1 < a3)) then (Option.bind (loopN (weight_Least_l1 a0 a1 v10) fuel (0, v10.2)) fun (v19 : (List (List Int))) => (some (.inl ((w64 (v10.1 + 1)), v19)))) else (some (.inr (v10.2))))
def weight_Least_l3 (a3 : Int) (v4 : List (List Int)) (v5 : (Int) × (List (List Int))) : Option (((Int) × (List (List Int))) ⊕ ((List (List Int)))) := (bif (decide (v5.1 < (List.length (v4) : Int))) then (Option.bind (slices_Repeat_int_int_h (([1099511627776] : List (Int))) ((w64 (a3 + 1)))) fun v6 => (Option.bind (idx (v5.2) v5.1) fun v7 => (some (.inl ((w64 (v5.1 + 1)), (List.set (v5.2) (Int.toNat (v5.1)) (v6))))))) else (some (.inr (v5.2))))
def weight_Least (a0 : La) (a1 : List Int) (a2 : Int) (a3 : Int) : Option ((Int) × (Int)) := (Option.bind (weight_Check (a0) (a1)) fun v1 => (bif (v1 != 0) then (some (0, v1)) else (Option.bind ((bif (decide (a2 < 0)) then (some (true)) else (bif (decide ((List.length a0.symbols : Int) ≤ a2)) then (some (true)) else (bif (decide (a3 < 1)) then (some (true)) else (some ((decide (24 < a3))))))) : Option ((Bool))) fun (v3 : (Bool)) => (bif v3 then (some (0, 1)) else (Option.bind (mkL 24 ([] : List Int) (List.length a0.symbols : Int)) fun v4 => (Option.bind (loopN (weight_Least_l3 a3 v4) fuel (0, v4)) fun (v9 : (List (List Int))) => (Option.bind (loopN (weight_Least_l2 a0 a1 a3) fuel (0, v9)) fun (v21 : (List (List Int))) => (Option.bind (idx (v21) a2) fun v22 => (Option.bind (slices_Min_int_int (v22)) fun v23 => (bif (decide (v23 < 1099511627776)) then (some (v23, 0)) else (some (0, 12))))))))))))
theorem weight_Least_ok (a0 : La) (a1 : List Int) (a2 : Int) (a3 : Int) (r : (Int) × (Int)) (h : weight_Least a0 a1 a2 a3 = some r) : PCall Try.prog 21 [eLa a0, (eL 1 eI) a1, eI a2, eI a3] (.tup [eI (r.1), eI (r.2)]) := by
 unfold weight_Least at h
 refine pcl [.one .keep, .one .keep] Try.func21 (by kernel_rfl) (by kernel_rfl) (by kernel_rfl) ?_
 refine cl 11 h (weight_Check_ok _ _) (by kernel_rfl) fun v1 h => ?_
 refine cd 7 h (by kernel_rfl) (fun h => ?_) fun h => ?_
 ·cases h; exact lq 7 (by kernel_rfl)
 refine jn1 3 .normal (fun v3 => ⟨107, [(1, (.fz ((eL 1 eI) (a1)))), (2, (fI (a2))), (3, (fI (a3))), (4, (.ref 1 0 0)), (40, (fB (v3)))], [(1, (.box 26 [(fS (a0.name)), (.fz ((eL 1 eI) (a0.inputs))), (.fz ((eL 2 eSy) (a0.symbols))), (.fz ((eL 9 eRu) (a0.rules)))]))], [1], []⟩) h (by kernel_rfl) (fun v3 h => ?_) fun v3 h => ?_
 ·refine gd 4 h (by kernel_rfl) (fun h => ?_) fun h => ?_
  ·cases h; exact lj 15 (by kernel_rfl)
  refine gd 7 h (by kernel_rfl) (fun h => ?_) fun h => ?_
  ·cases h; exact lj 8 (by kernel_rfl)
  refine gd 4 h (by kernel_rfl) (fun h => ?_) fun h => ?_
  ·cases h; exact lj 4 (by kernel_rfl)
  cases h; exact lj 4 (by kernel_rfl)
 refine cd 0 h (by kernel_rfl) (fun h => ?_) fun h => ?_
 ·cases h; exact lq 6 (by kernel_rfl)
 refine tabm (f := vI) (eo := 22) 6 2 3 h (by kernel_rfl) (by kernel_rfl) fun v4 h ov1 => ?_
 refine nst 6 (n_tabLen (t := 66) (x := (.tmp 45)) (d := tt66) (e2 := 22) (id := 2) (g := 0) (ov := ov1) (eo := 22) (ei := 3) (rows := List.map (List.map vI) (v4)) (n := List.length (v4)) tt_ok (by kernel_rfl) (by kernel_rfl) rfl (by kernel_rfl) (by kernel_rfl) (by simp)) (by kernel_rfl) ?_
 refine lp1 3 (fun v5 => ⟨107, [(1, (.fz ((eL 1 eI) (a1)))), (2, (fI (a2))), (3, (fI (a3))), (4, (.ref 1 0 0)), (11, (.fz (.atom ov1))), (46, (fI ((List.length (v4) : Int)))), (47, (fI (v5.1)))], [(1, (.box 26 [(fS (a0.name)), (.fz ((eL 1 eI) (a0.inputs))), (.fz ((eL 2 eSy) (a0.symbols))), (.fz ((eL 9 eRu) (a0.rules)))])), (2, (.tab 0 ov1 22 3 (List.map (List.map vI) (v5.2))))], [2, 1], []⟩) (.exit 0) (fun v9 => ⟨107, [(1, (.fz ((eL 1 eI) (a1)))), (2, (fI (a2))), (3, (fI (a3))), (4, (.ref 1 0 0)), (11, (.fz (.atom ov1)))], [(1, (.box 26 [(fS (a0.name)), (.fz ((eL 1 eI) (a0.inputs))), (.fz ((eL 2 eSy) (a0.symbols))), (.fz ((eL 9 eRu) (a0.rules)))])), (2, (.tab 0 ov1 22 3 (List.map (List.map vI) (v9))))], [2, 1], []⟩) h (by kernel_rfl) (by kernel_rfl) (fun v5 r h => ?_) fun v9 h => ?_
 ·unfold weight_Least_l3 at h
  refine cd 5 h (by kernel_rfl) (fun h => ?_) fun h => ?_
  ·refine hcl 14 [(.one (.sl 1)), .one .keep] [] [(1, 3)] [] h (slices_Repeat_int_int_h_ok _ _) (fun _ => by kernel_rfl) fun v6 h => ?_
   obtain ⟨v7, hv7, h⟩ := Option.bind_eq_some_iff.1 h
   refine nst 0 (n_tabAddr (t := 66) (f := vI) (rows := v5.2) (row := v7) (i := v5.1) (X := (.tmp 50)) (Y := (.tmp 51)) (e := 22) (de := tt22) (k := .i64) (id := 2) (g := 0) (ov := ov1) (ei := 3) (d := tt66) hv7 tt_ok (by kernel_rfl) (by kernel_rfl) (by kernel_rfl) (by kernel_rfl) (by kernel_rfl) (by kernel_rfl) (by kernel_rfl) (by kernel_rfl) (by kernel_rfl)) (by kernel_rfl) ?_
   refine sst 0 (e_tabStore (t := 22) (f := vI) (enc := eI) (rows := v5.2) (row := v7) (zs := v6) (i := v5.1) (X := (.tmp 56)) (Y := (.tmp 55)) (id := 2) (g := 0) (id2 := 3) (n := List.length (v6)) (ov := ov1) (ei := 3) (d := tt22) hv7 tt_ok (by kernel_rfl) (by kernel_rfl) (by kernel_rfl) (by kernel_rfl) (by kernel_rfl) (by kernel_rfl) (by kernel_rfl) rfl (fun _ => ⟨rfl, rfl⟩)) (by kernel_rfl) ?_
   refine wle 0 (LeSt.trans (show LeSt _ ⟨107, [(1, (.fz ((eL 1 eI) (a1)))), (2, (fI (a2))), (3, (fI (a3))), (4, (.ref 1 0 0)), (11, (.fz (.atom ov1))), (46, (fI ((List.length (v4) : Int)))), (47, (fI (v5.1))), (50, (.fz (.atom ov1))), (51, (fI (v5.1))), (52, (.lim 1 (List.length (([1099511627776] : List (Int)))) (List.map eI (([1099511627776] : List (Int)))))), (54, (fI ((w64 (a3 + 1)))))], [(1, (.box 26 [(fS (a0.name)), (.fz ((eL 1 eI) (a0.inputs))), (.fz ((eL 2 eSy) (a0.symbols))), (.fz ((eL 9 eRu) (a0.rules)))])), (2, (.tab 1 ov1 22 3 (List.map (List.map vI) ((List.set (v5.2) (Int.toNat (v5.1)) (v6))))))], [2, 1], []⟩ from le_a (by kernel_rfl)) (LeSt.trans (le_tabG (g := 1) (ov := ov1) (eo := 22) (ei := 3) (rows := List.map (List.map vI) ((List.set (v5.2) (Int.toNat (v5.1)) (v6)))) 2 [1] (by kernel_rfl) (by kernel_rfl) (by kernel_rfl)) (show LeSt _ ⟨107, [(1, (.fz ((eL 1 eI) (a1)))), (2, (fI (a2))), (3, (fI (a3))), (4, (.ref 1 0 0)), (11, (.fz (.atom ov1))), (46, (fI ((List.length (v4) : Int)))), (47, (fI (v5.1))), (50, (.fz (.atom ov1))), (51, (fI (v5.1))), (52, (.lim 1 (List.length (([1099511627776] : List (Int)))) (List.map eI (([1099511627776] : List (Int)))))), (54, (fI ((w64 (a3 + 1)))))], [(1, (.box 26 [(fS (a0.name)), (.fz ((eL 1 eI) (a0.inputs))), (.fz ((eL 2 eSy) (a0.symbols))), (.fz ((eL 9 eRu) (a0.rules)))])), (2, (.tab 0 ov1 22 3 (List.map (List.map vI) ((List.set (v5.2) (Int.toNat (v5.1)) (v6))))))], [2, 1], []⟩ from le_a (by kernel_rfl)))) (by kernel_rfl) ?_
   cases h; exact lj 5 (by kernel_rfl)
  cases h; exact lo 1 (by kernel_rfl)
 refine lp1 7 (fun v10 => ⟨107, [(1, (.fz ((eL 1 eI) (a1)))), (2, (fI (a2))), (4, (.ref 1 0 0)), (11, (.fz (.atom ov1))), (58, (fI (a3))), (59, (fI (v10.1)))], [(1, (.box 26 [(fS (a0.name)), (.fz ((eL 1 eI) (a0.inputs))), (.fz ((eL 2 eSy) (a0.symbols))), (.fz ((eL 9 eRu) (a0.rules)))])), (2, (.tab 0 ov1 22 3 (List.map (List.map vI) (v10.2))))], [2, 1], []⟩) (.exit 2) (fun v21 => ⟨107, [(2, (fI (a2))), (11, (.fz (.atom ov1)))], [(2, (.tab 0 ov1 22 3 (List.map (List.map vI) (v21))))], [2], []⟩) h (by kernel_rfl) (by kernel_rfl) (fun v10 r h => ?_) fun v21 h => ?_
 ·unfold weight_Least_l2 at h
  refine cd 5 h (by kernel_rfl) (fun h => ?_) fun h => ?_
  ·refine lp1 16 (fun v11 => ⟨107, [(1, (.fz ((eL 1 eI) (a1)))), (2, (fI (a2))), (4, (.ref 1 0 0)), (11, (.fz (.atom ov1))), (13, (fI (v10.1))), (58, (fI (a3))), (59, (fI (v10.1))), (63, (.fz ((eL 9 eRu) (a0.rules)))), (64, (fI ((List.length a0.rules : Int)))), (65, (fI (v11.1)))], [(1, (.box 26 [(fS (a0.name)), (.fz ((eL 1 eI) (a0.inputs))), (.fz ((eL 2 eSy) (a0.symbols))), (.fz ((eL 9 eRu) (a0.rules)))])), (2, (.tab 0 ov1 22 3 (List.map (List.map vI) (v11.2))))], [2, 1], []⟩) (.exit 4) (fun v19 => ⟨107, [(1, (.fz ((eL 1 eI) (a1)))), (2, (fI (a2))), (4, (.ref 1 0 0)), (11, (.fz (.atom ov1))), (58, (fI (a3))), (59, (fI (v10.1)))], [(1, (.box 26 [(fS (a0.name)), (.fz ((eL 1 eI) (a0.inputs))), (.fz ((eL 2 eSy) (a0.symbols))), (.fz ((eL 9 eRu) (a0.rules)))])), (2, (.tab 0 ov1 22 3 (List.map (List.map vI) (v19))))], [2, 1], []⟩) h (by kernel_rfl) (by kernel_rfl) (fun v11 r h => ?_) fun v19 h => ?_
   ·unfold weight_Least_l1 at h
    refine cd 5 h (by kernel_rfl) (fun h => ?_) fun h => ?_
    ·refine ix nRu 6 h (by kernel_rfl) fun v12 h => ?_
     obtain ⟨v13, hv13, h⟩ := Option.bind_eq_some_iff.1 h
     refine nst 10 (n_tabAddr (t := 66) (f := vI) (rows := v11.2) (row := v13) (i := v12.symbol) (X := (.tmp 70)) (Y := (.tmp 72)) (e := 22) (de := tt22) (k := .i64) (id := 2) (g := 0) (ov := ov1) (ei := 3) (d := tt66) hv13 tt_ok (by kernel_rfl) (by kernel_rfl) (by kernel_rfl) (by kernel_rfl) (by kernel_rfl) (by kernel_rfl) (by kernel_rfl) (by kernel_rfl) (by kernel_rfl)) (by kernel_rfl) ?_
     refine nst 0 (n_tabLoad (t := 22) (f := vI) (rows := v11.2) (row := v13) (i := v12.symbol) (X := (.tmp 73)) (id := 2) (g := 0) (ov := ov1) (ei := 3) (d := tt22) hv13 tt_ok (by kernel_rfl) (by kernel_rfl) (by kernel_rfl) (by kernel_rfl) (by kernel_rfl) (by kernel_rfl)) (by kernel_rfl) ?_
     obtain ⟨v14, hv14, h⟩ := Option.bind_eq_some_iff.1 h
     refine nst 2 (n_tinAddr (t := 22) (f := vI) (rows := v11.2) (row := v13) (x := v14) (i := v12.symbol) (j := (w64 (v10.1 + 1))) (X := (.tmp 74)) (Y := (.tmp 76)) (e := 3) (de := tt3) (k := .i64) (id := 2) (g := 0) (ov := ov1) (eo := 22) (d := tt22) hv13 hv14 tt_ok (by kernel_rfl) (by kernel_rfl) (by kernel_rfl) (by kernel_rfl) (by kernel_rfl) (by kernel_rfl) (by kernel_rfl) (by kernel_rfl) (by kernel_rfl)) (by kernel_rfl) ?_
     refine dz 2 18 [12] [4] (List.range 5) (by kernel_rfl) ?_
     refine nst 2 (n_tinNil (X := (.tmp 79)) (id := 2) (g := 0) (i := (Int.toNat (v12.symbol) + 1)) (j := (Int.toNat ((w64 (v10.1 + 1))))) (ov := ov1) (eo := 22) (ei := 3) (rows := List.map (List.map vI) (v11.2)) (by kernel_rfl) (by kernel_rfl) (by kernel_rfl) (by kernel_rfl)) (by kernel_rfl) ?_
     refine nst 0 (n_tinLoad (t := 3) (f := vI) (rows := v11.2) (row := v13) (x := v14) (i := v12.symbol) (j := (w64 (v10.1 + 1))) (X := (.tmp 80)) (id := 2) (g := 0) (ov := ov1) (eo := 22) (d := tt3) hv13 hv14 tt_ok (by kernel_rfl) (by kernel_rfl) (by kernel_rfl) (by kernel_rfl) (by kernel_rfl)) (by kernel_rfl) ?_
     refine ix nI 2 h (by kernel_rfl) fun v15 h => ?_
     refine hclZ 5 [.one .keep, .one .keep, .one .keep] [(2, 1)] [(1, 2), (2, 4)] [1] h (fun vq hq => weight_table_sums_h_ok _ _ _ vq hq ov1) (fun _ => by kernel_rfl) (by kernel_rfl) (fun _ => by kernel_rfl) fun v16 h => ?_
     obtain ⟨v17, hv17, h⟩ := Option.bind_eq_some_iff.1 h
     refine nst 1 (n_rowAddr (t := 22) (X := (.tmp 90)) (Y := (.tmp 91)) (id := 4) (k := .i64) (d := tt22) (e := 3) (de := tt3) (enc := eI) (xs := v16) (n := List.length (v16)) hv17 tt_ok (by kernel_rfl) (by kernel_rfl) (by kernel_rfl) (by kernel_rfl) (by kernel_rfl) (by kernel_rfl) (by kernel_rfl) rfl (by kernel_rfl)) (by kernel_rfl) ?_
     refine nst 0 (n_rowLoad (t := 3) (X := (.tmp 92)) (id := 4) (d := tt3) (enc := eI) (xs := v16) (x := v17) (i := v10.1) (n := List.length (v16)) hv17 tt_ok (by kernel_rfl) (by kernel_rfl) (by kernel_rfl) (by kernel_rfl) (by kernel_rfl) rfl (fun _ => rfl)) (by kernel_rfl) ?_
     refine nst 3 (n_tinNil (X := (.tmp 78)) (id := 2) (g := 0) (i := (Int.toNat (v12.symbol) + 1)) (j := (Int.toNat ((w64 (v10.1 + 1))))) (ov := ov1) (eo := 22) (ei := 3) (rows := List.map (List.map vI) (v11.2)) (by kernel_rfl) (by kernel_rfl) (by kernel_rfl) (by kernel_rfl)) (by kernel_rfl) ?_
     refine sst 0 (e_tinStore (t := 3) (f := vI) (rows := v11.2) (row := v13) (x := v14) (y := (imin v14 (w64 (v15 + v17)))) (i := v12.symbol) (j := (w64 (v10.1 + 1))) (X := (.tmp 96)) (Y := (.tmp 95)) (id := 2) (g := 0) (ov := ov1) (eo := 22) (d := tt3) hv13 hv14 tt_ok (by kernel_rfl) (by kernel_rfl) (by kernel_rfl) (by kernel_rfl) (by kernel_rfl) (by kernel_rfl)) (by kernel_rfl) ?_
     refine wle 0 ((le_a (by kernel_rfl) : LeSt _ ⟨107, [(1, (.fz ((eL 1 eI) (a1)))), (2, (fI (a2))), (4, (.ref 1 0 0)), (11, (.fz (.atom ov1))), (13, (fI (v10.1))), (58, (fI (a3))), (59, (fI (v10.1))), (63, (.fz ((eL 9 eRu) (a0.rules)))), (64, (fI ((List.length a0.rules : Int)))), (65, (fI (v11.1))), (95, (fI ((imin v14 (w64 (v15 + v17))))))], [(1, (.box 26 [(fS (a0.name)), (.fz ((eL 1 eI) (a0.inputs))), (.fz ((eL 2 eSy) (a0.symbols))), (.fz ((eL 9 eRu) (a0.rules)))])), (2, (.tab 0 ov1 22 3 (List.map (List.map vI) ((List.set (v11.2) (Int.toNat (v12.symbol)) (List.set v13 (Int.toNat ((w64 (v10.1 + 1)))) (imin v14 (w64 (v15 + v17)))))))))], [2, 1], []⟩)) (by kernel_rfl) ?_
     cases h; exact lj 5 (by kernel_rfl)
    cases h; exact lo 1 (by kernel_rfl)
   cases h; exact lj 4 (by kernel_rfl)
  cases h; exact lo 1 (by kernel_rfl)
 obtain ⟨v22, hv22, h⟩ := Option.bind_eq_some_iff.1 h
 refine nst 5 (n_tabAddr (t := 66) (f := vI) (rows := v21) (row := v22) (i := a2) (X := (.tmp 99)) (Y := (.tmp 100)) (e := 22) (de := tt22) (k := .i64) (id := 2) (g := 0) (ov := ov1) (ei := 3) (d := tt66) hv22 tt_ok (by kernel_rfl) (by kernel_rfl) (by kernel_rfl) (by kernel_rfl) (by kernel_rfl) (by kernel_rfl) (by kernel_rfl) (by kernel_rfl) (by kernel_rfl)) (by kernel_rfl) ?_
 refine nst 0 (n_tabLoad (t := 22) (f := vI) (rows := v21) (row := v22) (i := a2) (X := (.tmp 101)) (id := 2) (g := 0) (ov := ov1) (ei := 3) (d := tt22) hv22 tt_ok (by kernel_rfl) (by kernel_rfl) (by kernel_rfl) (by kernel_rfl) (by kernel_rfl) (by kernel_rfl)) (by kernel_rfl) ?_
 refine clL 0 [(.inn 102 2 0 ov1 22 3 (List.map (List.map vI) (v21)) (Int.toNat (a2)) (eL 1 eI (v22)))] h (slices_Min_int_int_ok _) (lend_cons (lend_inn (f := vI) (by kernel_rfl) (by kernel_rfl) hv22 (fun _ => rfl)) (lend_nil)) (by kernel_rfl) (fun _ => by kernel_rfl) fun v23 h => ?_
 refine cd 7 h (by kernel_rfl) (fun h => ?_) fun h => ?_
 ·cases h; exact lq 7 (by kernel_rfl)
 cases h; exact lq 7 (by kernel_rfl)

def term_within_l1 (a0 : Tm) (r66 : (Tm) → (Int) → Option (Int)) (v1 : (Int) × (Int)) : Option (((Int) × (Int)) ⊕ ((((Int)) ⊕ (Int)))) := (bif (decide (v1.2 < (List.length a0.args : Int))) then (Option.bind (idx a0.args v1.2) fun v2 => (bif (decide (v1.1 < 0)) then (some (.inr (.inr v1.1))) else (Option.bind (r66 (v2) (v1.1)) fun v3 => (some (.inl (v3, (w64 (v1.2 + 1)))))))) else (some (.inr (.inl (v1.1)))))
def term_within_b (r66 : (Tm) → (Int) → Option (Int)) (a0 : Tm) (a1 : Int) : Option (Int) := (Option.bind (loopN (term_within_l1 a0 r66) fuel ((w64 (a1 - 1)), 0)) fun (v4 : (((Int)) ⊕ (Int))) => Sum.elim (fun v5 => (some v5)) (fun v6 => (some v6)) v4)
theorem term_within_b_ok (r66 : (Tm) → (Int) → Option (Int)) (ih66 : ∀ (x0 : Tm) (x1 : Int) r, r66 x0 x1 = some r → PCall Try.prog 66 [eTm x0, eI x1] (eI (r))) (a0 : Tm) (a1 : Int) (r : Int) (h : term_within_b r66 a0 a1 = some r) : PCall Try.prog 66 [eTm a0, eI a1] (eI (r)) := by
 unfold term_within_b at h
 refine pcl [.one .keep] Try.func66 (by kernel_rfl) (by kernel_rfl) (by kernel_rfl) ?_
 refine lpx 20 (fun v1 => ⟨24, [(1, (fI (v1.1))), (10, (.fz ((eL 2 eTmR) (a0.args)))), (11, (fI ((List.length a0.args : Int)))), (12, (fI (v1.2)))], [], [], []⟩) (fun v4 e st => Sum.elim (fun p => e = .exit 0 ∧ LeSt st ⟨24, [(1, (fI (p)))], [], [], []⟩) (fun p => e = .ret ∧ retX TT st Try.f66.results.toList [.one .keep] = some (eI (p))) v4) h (by kernel_rfl) (le_a (by kernel_rfl)) (fun v1 r h => ?_) fun v4 h e st' hq => ?_
 ·unfold term_within_l1 at h
  refine cd 5 h (by kernel_rfl) (fun h => ?_) fun h => ?_
  ·refine ix nTmR 5 h (by kernel_rfl) fun v2 h => ?_
   refine cd 10 h (by kernel_rfl) (fun h => ?_) fun h => ?_
   ·cases h; exact lor 6 (by kernel_rfl)
   refine cl 4 h (ih66 _ _) (by kernel_rfl) fun v3 h => ?_
   cases h; exact lj 6 (by kernel_rfl)
  cases h; exact lo 1 (by kernel_rfl)
 rcases v4 with v5 | v6
 ·try simp only [Sum.elim_inl, Sum.elim_inr] at h
  obtain ⟨rfl, hle⟩ := hq
  refine ⟨_, hle, ?_⟩
  cases h; exact lq 6 (by kernel_rfl)
 ·try simp only [Sum.elim_inl, Sum.elim_inr] at h
  obtain ⟨rfl, hret⟩ := hq
  refine ⟨_, LeSt.refl, ?_⟩
  cases h; exact lv hret
def term_within : Nat → (Tm) → (Int) → Option (Int)
  | 0 => fun _ _ => none
  | n + 1 => term_within_b (term_within n)
theorem term_within_ok : ∀ (n : Nat) (x0 : Tm) (x1 : Int) r, term_within n x0 x1 = some r → PCall Try.prog 66 [eTm x0, eI x1] (eI (r))
  | 0, _, _, _, h => by cases h
  | n + 1, x0, x1, r, h => term_within_b_ok (term_within n) (term_within_ok n) x0 x1 r h

def term_shallow_l1 (a0 : Tm) (a1 : Int) (r67 : (Tm) → (Int) → Option (Bool)) (v1 : (Int)) : Option (((Int)) ⊕ (((Unit) ⊕ (Bool)))) := (bif (decide (v1 < (List.length a0.args : Int))) then (Option.bind (idx a0.args v1) fun v2 => (Option.bind (r67 (v2) ((w64 (a1 - 1)))) fun v3 => (bif (!v3) then (some (.inr (.inr false))) else (some (.inl ((w64 (v1 + 1)))))))) else (some (.inr (.inl ()))))
def term_shallow_b (r67 : (Tm) → (Int) → Option (Bool)) (a0 : Tm) (a1 : Int) : Option (Bool) := (bif (a1 == 0) then (some false) else (Option.bind (loopN (term_shallow_l1 a0 a1 r67) fuel (0)) fun (v4 : ((Unit) ⊕ (Bool))) => Sum.elim (fun v5 => (some true)) (fun v6 => (some v6)) v4))
theorem term_shallow_b_ok (r67 : (Tm) → (Int) → Option (Bool)) (ih67 : ∀ (x0 : Tm) (x1 : Int) r, r67 x0 x1 = some r → PCall Try.prog 67 [eTm x0, eI x1] (eB (r))) (a0 : Tm) (a1 : Int) (r : Bool) (h : term_shallow_b r67 a0 a1 = some r) : PCall Try.prog 67 [eTm a0, eI a1] (eB (r)) := by
 unfold term_shallow_b at h
 refine pcl [.one .keep] Try.func67 (by kernel_rfl) (by kernel_rfl) (by kernel_rfl) ?_
 refine cd 11 h (by kernel_rfl) (fun h => ?_) fun h => ?_
 ·cases h; exact lq 5 (by kernel_rfl)
 refine lpx 10 (fun v1 => ⟨22, [(1, (fI (a1))), (10, (.fz ((eL 2 eTmR) (a0.args)))), (11, (fI ((List.length a0.args : Int)))), (12, (fI (v1)))], [], [], []⟩) (fun v4 e st => Sum.elim (fun p => e = .exit 0 ∧ LeSt st ⟨22, [], [], [], []⟩) (fun p => e = .ret ∧ retX TT st Try.f67.results.toList [.one .keep] = some (eB (p))) v4) h (by kernel_rfl) (le_a (by kernel_rfl)) (fun v1 r h => ?_) fun v4 h e st' hq => ?_
 ·unfold term_shallow_l1 at h
  refine cd 5 h (by kernel_rfl) (fun h => ?_) fun h => ?_
  ·refine ix nTmR 5 h (by kernel_rfl) fun v2 h => ?_
   refine cl 9 h (ih67 _ _) (by kernel_rfl) fun v3 h => ?_
   refine cd 2 h (by kernel_rfl) (fun h => ?_) fun h => ?_
   ·cases h; exact lor 5 (by kernel_rfl)
   cases h; exact lj 5 (by kernel_rfl)
  cases h; exact lo 1 (by kernel_rfl)
 rcases v4 with v5 | v6
 ·try simp only [Sum.elim_inl, Sum.elim_inr] at h
  obtain ⟨rfl, hle⟩ := hq
  refine ⟨_, hle, ?_⟩
  cases h; exact lq 5 (by kernel_rfl)
 ·try simp only [Sum.elim_inl, Sum.elim_inr] at h
  obtain ⟨rfl, hret⟩ := hq
  refine ⟨_, LeSt.refl, ?_⟩
  cases h; exact lv hret
def term_shallow : Nat → (Tm) → (Int) → Option (Bool)
  | 0 => fun _ _ => none
  | n + 1 => term_shallow_b (term_shallow n)
theorem term_shallow_ok : ∀ (n : Nat) (x0 : Tm) (x1 : Int) r, term_shallow n x0 x1 = some r → PCall Try.prog 67 [eTm x0, eI x1] (eB (r))
  | 0, _, _, _, h => by cases h
  | n + 1, x0, x1, r, h => term_shallow_b_ok (term_shallow n) (term_shallow_ok n) x0 x1 r h

def term_derived_l1 (a0 : La) (a2 : Tm) (r68 : (La) → (Int) → (Tm) → Option (Int)) (v3 : Ru) (v4 : (Int)) : Option (((Int)) ⊕ (((Unit) ⊕ (Int)))) := (bif (decide (v4 < (List.length a2.args : Int))) then (Option.bind (idx a2.args v4) fun v5 => (Option.bind (idx v3.args v4) fun v6 => (Option.bind (r68 (a0) (v6) (v5)) fun v7 => (bif (v7 != 0) then (some (.inr (.inr v7))) else (some (.inl ((w64 (v4 + 1))))))))) else (some (.inr (.inl ()))))
def term_derived_b (r68 : (La) → (Int) → (Tm) → Option (Int)) (a0 : La) (a1 : Int) (a2 : Tm) : Option (Int) := (Option.bind ((bif (decide (a2.rule < 0)) then (some (true)) else (some ((decide ((List.length a0.rules : Int) ≤ a2.rule))))) : Option ((Bool))) fun (v2 : (Bool)) => (bif v2 then (some 1) else (Option.bind (idx a0.rules a2.rule) fun v3 => (bif (v3.symbol != a1) then (some 3) else (bif ((List.length a2.args : Int) != (List.length v3.args : Int)) then (some 4) else (Option.bind (loopN (term_derived_l1 a0 a2 r68 v3) fuel (0)) fun (v8 : ((Unit) ⊕ (Int))) => Sum.elim (fun v9 => (some 0)) (fun v10 => (some v10)) v8))))))
theorem term_derived_b_ok (r68 : (La) → (Int) → (Tm) → Option (Int)) (ih68 : ∀ (x0 : La) (x1 : Int) (x2 : Tm) r, r68 x0 x1 x2 = some r → PCall Try.prog 68 [eLa x0, eI x1, eTm x2] (eI (r))) (a0 : La) (a1 : Int) (a2 : Tm) (r : Int) (h : term_derived_b r68 a0 a1 a2 = some r) : PCall Try.prog 68 [eLa a0, eI a1, eTm a2] (eI (r)) := by
 unfold term_derived_b at h
 refine pcl [.one .keep] Try.func68 (by kernel_rfl) (by kernel_rfl) (by kernel_rfl) ?_
 refine jn1 8 .normal (fun v2 => ⟨59, [(1, (fI (a1))), (3, (.ref 1 0 0)), (5, (.ref 2 0 0)), (21, (fB (v2)))], [(1, (.box 26 [(fS (a0.name)), (.fz ((eL 1 eI) (a0.inputs))), (.fz ((eL 2 eSy) (a0.symbols))), (.fz ((eL 9 eRu) (a0.rules)))])), (2, (.box 35 [(fI (a2.rule)), (.fz ((eL 2 eTmR) (a2.args)))]))], [2, 1], []⟩) h (by kernel_rfl) (fun v2 h => ?_) fun v2 h => ?_
 ·refine gd 5 h (by kernel_rfl) (fun h => ?_) fun h => ?_
  ·cases h; exact lj 8 (by kernel_rfl)
  cases h; exact lj 8 (by kernel_rfl)
 refine cd 0 h (by kernel_rfl) (fun h => ?_) fun h => ?_
 ·cases h; exact lq 5 (by kernel_rfl)
 refine ix nRu 7 h (by kernel_rfl) fun v3 h => ?_
 refine cd 12 h (by kernel_rfl) (fun h => ?_) fun h => ?_
 ·cases h; exact lq 5 (by kernel_rfl)
 refine cd 12 h (by kernel_rfl) (fun h => ?_) fun h => ?_
 ·cases h; exact lq 5 (by kernel_rfl)
 refine lpx 10 (fun v4 => ⟨59, [(3, (.ref 1 0 0)), (7, (.ref 3 0 0)), (40, (.fz ((eL 2 eTmR) (a2.args)))), (41, (fI ((List.length a2.args : Int)))), (42, (fI (v4)))], [(1, (.box 26 [(fS (a0.name)), (.fz ((eL 1 eI) (a0.inputs))), (.fz ((eL 2 eSy) (a0.symbols))), (.fz ((eL 9 eRu) (a0.rules)))])), (3, (.box 55 [(fI (v3.symbol)), (fI (v3.kind)), (fI (v3.input)), (fI (v3.const.type)), (fI (v3.const.num)), (fS (v3.const.text)), (.fz ((eL 4 eVaR) (v3.const.items))), (fS (v3.op)), (.fz ((eL 1 eI) (v3.args)))]))], [3, 1], []⟩) (fun v8 e st => Sum.elim (fun p => e = .exit 0 ∧ LeSt st ⟨59, [], [], [], []⟩) (fun p => e = .ret ∧ retX TT st Try.f68.results.toList [.one .keep] = some (eI (p))) v8) h (by kernel_rfl) (le_a (by kernel_rfl)) (fun v4 r h => ?_) fun v8 h e st' hq => ?_
 ·unfold term_derived_l1 at h
  refine cd 5 h (by kernel_rfl) (fun h => ?_) fun h => ?_
  ·refine ix nTmR 6 h (by kernel_rfl) fun v5 h => ?_
   refine dw 6 7 (by kernel_rfl) ?_
   refine ix nI 4 h (by kernel_rfl) fun v6 h => ?_
   refine cl 3 h (ih68 _ _ _) (by kernel_rfl) fun v7 h => ?_
   refine cd 7 h (by kernel_rfl) (fun h => ?_) fun h => ?_
   ·cases h; exact lor 6 (by kernel_rfl)
   cases h; exact lj 5 (by kernel_rfl)
  cases h; exact lo 1 (by kernel_rfl)
 rcases v8 with v9 | v10
 ·try simp only [Sum.elim_inl, Sum.elim_inr] at h
  obtain ⟨rfl, hle⟩ := hq
  refine ⟨_, hle, ?_⟩
  cases h; exact lq 5 (by kernel_rfl)
 ·try simp only [Sum.elim_inl, Sum.elim_inr] at h
  obtain ⟨rfl, hret⟩ := hq
  refine ⟨_, LeSt.refl, ?_⟩
  cases h; exact lv hret
def term_derived : Nat → (La) → (Int) → (Tm) → Option (Int)
  | 0 => fun _ _ _ => none
  | n + 1 => term_derived_b (term_derived n)
theorem term_derived_ok : ∀ (n : Nat) (x0 : La) (x1 : Int) (x2 : Tm) r, term_derived n x0 x1 x2 = some r → PCall Try.prog 68 [eLa x0, eI x1, eTm x2] (eI (r))
  | 0, _, _, _, _, h => by cases h
  | n + 1, x0, x1, x2, r, h => term_derived_b_ok (term_derived n) (term_derived_ok n) x0 x1 x2 r h

def term_Check_m0 (a0 : La) (a2 : Tm) : List (Nat × AObj) := [(1, (.box 26 [(fS (a0.name)), (.fz ((eL 1 eI) (a0.inputs))), (.fz ((eL 2 eSy) (a0.symbols))), (.fz ((eL 9 eRu) (a0.rules)))])), (2, (.box 35 [(fI (a2.rule)), (.fz ((eL 2 eTmR) (a2.args)))]))]
def term_Check (a0 : La) (a1 : Int) (a2 : Tm) : Option (Int) := (Option.bind (grammar_Check (a0)) fun v1 => (bif (v1 != 0) then (some v1) else (Option.bind ((bif (decide (a1 < 0)) then (some (true)) else (some ((decide ((List.length a0.symbols : Int) ≤ a1))))) : Option ((Bool))) fun (v3 : (Bool)) => (bif v3 then (some 1) else (Option.bind ((Option.bind (term_within fuel (a2) (4096)) fun v4 => (bif (decide (v4 < 0)) then (some (true)) else (Option.bind (term_shallow fuel (a2) (32)) fun v5 => (some ((!v5)))))) : Option ((Bool))) fun (v7 : (Bool)) => (bif v7 then (some 2) else (Option.bind (term_derived fuel (a0) (a1) (a2)) fun v8 => (some v8))))))))
theorem term_Check_ok (a0 : La) (a1 : Int) (a2 : Tm) (r : Int) (h : term_Check a0 a1 a2 = some r) : PCall Try.prog 41 [eLa a0, eI a1, eTm a2] (eI (r)) := by
 unfold term_Check at h
 refine pcl [.one .keep] Try.func41 (by kernel_rfl) (by kernel_rfl) (by kernel_rfl) ?_
 refine cl 10 h (grammar_Check_ok _) (by kernel_rfl) fun v1 h => ?_
 refine cd 7 h (by kernel_rfl) (fun h => ?_) fun h => ?_
 ·cases h; exact lq 6 (by kernel_rfl)
 refine jn1 3 .normal (fun v3 => ⟨34, [(1, (fI (a1))), (3, (.ref 1 0 0)), (5, (.ref 2 0 0)), (21, (fB (v3)))], (term_Check_m0 a0 a2), [2, 1], []⟩) h (by kernel_rfl) (fun v3 h => ?_) fun v3 h => ?_
 ·refine gd 4 h (by kernel_rfl) (fun h => ?_) fun h => ?_
  ·cases h; exact lj 7 (by kernel_rfl)
  cases h; exact lj 7 (by kernel_rfl)
 refine cd 0 h (by kernel_rfl) (fun h => ?_) fun h => ?_
 ·cases h; exact lq 5 (by kernel_rfl)
 refine jn1 3 .normal (fun v7 => ⟨34, [(1, (fI (a1))), (3, (.ref 1 0 0)), (5, (.ref 2 0 0)), (29, (fB (v7)))], (term_Check_m0 a0 a2), [2, 1], []⟩) h (by kernel_rfl) (fun v7 h => ?_) fun v7 h => ?_
 ·refine cl 2 h (term_within_ok _ _ _) (by kernel_rfl) fun v4 h => ?_
  refine gd 2 h (by kernel_rfl) (fun h => ?_) fun h => ?_
  ·cases h; exact lj 5 (by kernel_rfl)
  refine cl 1 h (term_shallow_ok _ _ _) (by kernel_rfl) fun v5 h => ?_
  cases h; exact lj 3 (by kernel_rfl)
 refine cd 0 h (by kernel_rfl) (fun h => ?_) fun h => ?_
 ·cases h; exact lq 5 (by kernel_rfl)
 refine cl 6 h (term_derived_ok _ _ _ _) (by kernel_rfl) fun v8 h => ?_
 cases h; exact lq 3 (by kernel_rfl)

def grammar_Of_l1 (a0 : La) (a1 : Int) (v1 : (Int) × (List Int)) : Option (((Int) × (List Int)) ⊕ ((List Int))) := (bif (decide (v1.1 < (List.length a0.rules : Int))) then (Option.bind ((Option.bind (idx a0.rules v1.1) fun v2 => (bif (v2.symbol == a1) then (Option.bind (app 8 v1.2 ([v1.1] : List (Int))) fun v3 => (some (v3))) else (some (v1.2)))) : Option ((List Int))) fun (v5 : (List Int)) => (some (.inl ((w64 (v1.1 + 1)), v5)))) else (some (.inr (v1.2))))
def grammar_Of (a0 : La) (a1 : Int) : Option (List Int) := (Option.bind (loopN (grammar_Of_l1 a0 a1) fuel (0, ([] : List (Int)))) fun (v7 : (List Int)) => (some v7))
theorem grammar_Of_ok (a0 : La) (a1 : Int) (r : List Int) (h : grammar_Of a0 a1 = some r) : PCall Try.prog 43 [eLa a0, eI a1] ((eL 1 eI) (r)) := by
 unfold grammar_Of at h
 refine pcl [.one (.sl 1)] Try.func43 (by kernel_rfl) (by kernel_rfl) (by kernel_rfl) ?_
 refine wle 18 (le_nilrow (e := 3) (size := 1) (t := 5) (id := 2) (by decide) (by kernel_rfl) (by kernel_rfl)) (by kernel_rfl) ?_
 refine lp1 0 (fun v1 => ⟨26, [(1, (fI (a1))), (5, (.row 2 (List.length (v1.2)))), (9, (.fz ((eL 9 eRu) (a0.rules)))), (10, (fI ((List.length a0.rules : Int)))), (11, (fI (v1.1)))], [(2, (.frow 3 1 (List.map eI (v1.2))))], [2], []⟩) (.exit 0) (fun v7 => ⟨26, [(5, (.row 2 (List.length (v7))))], [(2, (.frow 3 1 (List.map eI (v7))))], [2], []⟩) h (by kernel_rfl) (by kernel_rfl) (fun v1 r h => ?_) fun v7 h => ?_
 ·unfold grammar_Of_l1 at h
  refine cd 5 h (by kernel_rfl) (fun h => ?_) fun h => ?_
  ·refine jn1 3 .normal (fun v5 => ⟨26, [(1, (fI (a1))), (5, (.row 2 (List.length (v5)))), (9, (.fz ((eL 9 eRu) (a0.rules)))), (10, (fI ((List.length a0.rules : Int)))), (11, (fI (v1.1)))], [(2, (.frow 3 1 (List.map eI (v5))))], [2], []⟩) h (by kernel_rfl) (fun v5 h => ?_) fun v5 h => ?_
   ·refine ix nRu 3 h (by kernel_rfl) fun v2 h => ?_
    refine cd 12 h (by kernel_rfl) (fun h => ?_) fun h => ?_
    ·refine ap nI 4 h (by kernel_rfl) fun v3 h => ?_
     cases h; exact lj 2 (by kernel_rfl)
    cases h; exact lj 1 (by kernel_rfl)
   cases h; exact lj 4 (by kernel_rfl)
  cases h; exact lo 1 (by kernel_rfl)
 refine wle 5 (le_freeze (t := 4) (id := 2) (n := List.length (v7)) (e := 3) (size := 1) (xs := List.map eI (v7)) (by kernel_rfl) (by kernel_rfl) (by simp)) (by kernel_rfl) ?_
 cases h; exact lq 1 (by kernel_rfl)

def weight_count_h_l1 (a1 : Tm) (r17 : (List Int) → (Tm) → Option ((List Int))) (v3 : (Int) × (List Int)) : Option (((Int) × (List Int)) ⊕ ((List Int))) := (bif (decide (v3.1 < (List.length a1.args : Int))) then (Option.bind (idx a1.args v3.1) fun v4 => (Option.bind (r17 (v3.2) (v4)) fun v5 => (Option.bind (sameL (v3.2) (v5)) fun _ => (some (.inl ((w64 (v3.1 + 1)), v5)))))) else (some (.inr (v3.2))))
def weight_count_h_b (r17 : (List Int) → (Tm) → Option ((List Int))) (a0 : List Int) (a1 : Tm) : Option ((List Int)) := (Option.bind (idx a0 a1.rule) fun v1 => (Option.bind (idx a0 a1.rule) fun v2 => (Option.bind (loopN (weight_count_h_l1 a1 r17) fuel (0, (List.set a0 (Int.toNat a1.rule) (w64 (v1 + 1))))) fun (v8 : (List Int)) => (some (v8)))))
theorem weight_count_h_b_ok (r17 : (List Int) → (Tm) → Option ((List Int))) (ih17 : ∀ (x0 : List Int) (x1 : Tm) r, r17 x0 x1 = some r → HCall Try.prog 42 ([(.row 1 (List.length (x0))), (.fz (eTm (x1)))] ++ []) [(1, (.frow 3 1 (List.map eI (x0))))] [1] (.ret (.fz (.tup []))) [(1, (.frow 3 1 (List.map eI (r))))] [1]) (a0 : List Int) (a1 : Tm) (r : (List Int)) (h : weight_count_h_b r17 a0 a1 = some r) : HCall Try.prog 42 ([(.row 1 (List.length (a0))), (.fz (eTm (a1)))] ++ []) [(1, (.frow 3 1 (List.map eI (a0))))] [1] (.ret (.fz (.tup []))) [(1, (.frow 3 1 (List.map eI (r))))] [1] := by
 unfold weight_count_h_b at h
 refine hcx (gi := 0) Try.func42 (by kernel_rfl) (by kernel_rfl) (by kernel_rfl) (by kernel_rfl) (by kernel_rfl) (by kernel_rfl) (by kernel_rfl) (by kernel_rfl) ?_
 intro p0 q0 w0
 obtain ⟨v1, hv1, h⟩ := Option.bind_eq_some_iff.1 h
 refine nst 9 (n_rowAddr (t := 22) (X := (.tmp 6)) (Y := (.tmp 8)) (id := 1) (k := .i64) (d := tt22) (e := 3) (de := tt3) (enc := eI) (xs := a0) (n := List.length (a0)) hv1 tt_ok (by kernel_rfl) (by kernel_rfl) (by kernel_rfl) (by kernel_rfl) (by kernel_rfl) (by kernel_rfl) (by kernel_rfl) rfl (by kernel_rfl)) (by kernel_rfl) ?_
 refine nst 0 (n_rowLoad (t := 3) (X := (.tmp 9)) (id := 1) (d := tt3) (enc := eI) (xs := a0) (x := v1) (i := a1.rule) (n := List.length (a0)) hv1 tt_ok (by kernel_rfl) (by kernel_rfl) (by kernel_rfl) (by kernel_rfl) (by kernel_rfl) rfl (fun _ => rfl)) (by kernel_rfl) ?_
 obtain ⟨v2, hv2, h⟩ := Option.bind_eq_some_iff.1 h
 refine nst 1 (n_rowAddr (t := 22) (X := (.tmp 6)) (Y := (.tmp 8)) (id := 1) (k := .i64) (d := tt22) (e := 3) (de := tt3) (enc := eI) (xs := a0) (n := List.length (a0)) hv2 tt_ok (by kernel_rfl) (by kernel_rfl) (by kernel_rfl) (by kernel_rfl) (by kernel_rfl) (by kernel_rfl) (by kernel_rfl) rfl (by kernel_rfl)) (by kernel_rfl) ?_
 refine sst 0 (e_rowStore (t := 3) (X := (.tmp 12)) (Y := (.tmp 11)) (id := 1) (d := tt3) (enc := eI) (xs := a0) (x := v2) (i := a1.rule) (y := (w64 (v1 + 1))) (n := List.length (a0)) hv2 tt_ok (by kernel_rfl) (by kernel_rfl) (by kernel_rfl) (by kernel_rfl) (by kernel_rfl) rfl (by kernel_rfl) (fun _ => ⟨_, rfl, rfl⟩)) (by kernel_rfl) ?_
 refine wle 0 (LeSt.trans (show LeSt _ ⟨24, [(0, (.row 1 (List.length (a0)))), (3, (.ref 2 0 0)), (6, (.row 1 (List.length (a0)))), (8, (fI (a1.rule))), (11, (fI ((w64 (v1 + 1)))))], [(0, (.was p0 [1] q0 w0)), (1, (.frow 3 1 (List.map eI ((List.set a0 (Int.toNat a1.rule) (w64 (v1 + 1))))))), (2, (.box 35 [(fI (a1.rule)), (.fz ((eL 2 eTmR) (a1.args)))]))], [2, 0, 1], []⟩ from le_a (by kernel_rfl)) (LeSt.trans (le_relen 1 (k := 2) (m := List.length (a0)) (n := List.length ((List.set a0 (Int.toNat a1.rule) (w64 (v1 + 1))))) (by kernel_rfl) (by simp)) (show LeSt _ ⟨24, [(0, (.row 1 (List.length ((List.set a0 (Int.toNat a1.rule) (w64 (v1 + 1))))))), (3, (.ref 2 0 0)), (6, (.row 1 (List.length ((List.set a0 (Int.toNat a1.rule) (w64 (v1 + 1))))))), (8, (fI (a1.rule))), (11, (fI ((w64 (v1 + 1)))))], [(0, (.was p0 [1] q0 w0)), (1, (.frow 3 1 (List.map eI ((List.set a0 (Int.toNat a1.rule) (w64 (v1 + 1))))))), (2, (.box 35 [(fI (a1.rule)), (.fz ((eL 2 eTmR) (a1.args)))]))], [2, 0, 1], []⟩ from le_a (by kernel_rfl)))) (by kernel_rfl) ?_
 refine lp1 9 (fun v3 => ⟨24, [(0, (.row 1 (List.length (v3.2)))), (14, (.fz ((eL 2 eTmR) (a1.args)))), (15, (fI ((List.length a1.args : Int)))), (16, (fI (v3.1)))], [(0, (.was p0 [1] q0 w0)), (1, (.frow 3 1 (List.map eI (v3.2))))], [0, 1], []⟩) (.exit 0) (fun v8 => ⟨24, [], [(0, (.was p0 [1] q0 w0)), (1, (.frow 3 1 (List.map eI (v8))))], [0, 1], []⟩) h (by kernel_rfl) (by kernel_rfl) (fun v3 r h => ?_) fun v8 h => ?_
 ·unfold weight_count_h_l1 at h
  refine cd 5 h (by kernel_rfl) (fun h => ?_) fun h => ?_
  ·refine ix nTmR 5 h (by kernel_rfl) fun v4 h => ?_
   refine hcl 7 [.one .keep, .one .keep] [(1, 1)] [(1, 1)] [1] h (ih17 _ _) (fun _ => by kernel_rfl) fun v5 h => ?_
   obtain ⟨_, hs6, h⟩ := Option.bind_eq_some_iff.1 h
   refine wle 0 (LeSt.trans (show LeSt _ ⟨24, [(0, (.row 1 (List.length (v3.2)))), (14, (.fz ((eL 2 eTmR) (a1.args)))), (15, (fI ((List.length a1.args : Int)))), (16, (fI (v3.1))), (20, (.row 1 (List.length (v3.2)))), (21, (.fz (eTm (v4))))], [(0, (.was p0 [1] q0 w0)), (1, (.frow 3 1 (List.map eI (v5))))], [0, 1], []⟩ from le_a (by kernel_rfl)) (LeSt.trans (le_relen 1 (k := 2) (m := List.length (v3.2)) (n := List.length (v5)) (by kernel_rfl) (sameL_some hs6)) (show LeSt _ ⟨24, [(0, (.row 1 (List.length (v5)))), (14, (.fz ((eL 2 eTmR) (a1.args)))), (15, (fI ((List.length a1.args : Int)))), (16, (fI (v3.1))), (20, (.row 1 (List.length (v5)))), (21, (.fz (eTm (v4))))], [(0, (.was p0 [1] q0 w0)), (1, (.frow 3 1 (List.map eI (v5))))], [0, 1], []⟩ from le_a (by kernel_rfl)))) (by kernel_rfl) ?_
   cases h; exact lj 5 (by kernel_rfl)
  cases h; exact lo 1 (by kernel_rfl)
 obtain rfl := Option.some.inj h; exact lh 0 ⟨24, [], [(0, (.was p0 [1] q0 w0)), (1, (.frow 3 1 (List.map eI (v8))))], [0, 1], []⟩ (le_a (by kernel_rfl)) rfl rfl (by kernel_rfl) (by kernel_rfl)
def weight_count_h : Nat → (List Int) → (Tm) → Option ((List Int))
  | 0 => fun _ _ => none
  | n + 1 => weight_count_h_b (weight_count_h n)
theorem weight_count_h_ok : ∀ n : Nat, ∀ (x0 : List Int) (x1 : Tm) r, weight_count_h n x0 x1 = some r → HCall Try.prog 42 ([(.row 1 (List.length (x0))), (.fz (eTm (x1)))] ++ []) [(1, (.frow 3 1 (List.map eI (x0))))] [1] (.ret (.fz (.tup []))) [(1, (.frow 3 1 (List.map eI (r))))] [1]
  | 0 => fun _ _ _ h => by cases h
  | n + 1 => fun a0 a1 r h => weight_count_h_b_ok (weight_count_h n) (weight_count_h_ok n) a0 a1 r h

def weight_Learn_m0 (a0 : La) (v12 : List Int) (v13 : (Int) × (List Int)) : List (Nat × AObj) := [(1, (.box 26 [(fS (a0.name)), (.fz ((eL 1 eI) (a0.inputs))), (.fz ((eL 2 eSy) (a0.symbols))), (.fz ((eL 9 eRu) (a0.rules)))])), (2, (.frow 3 1 (List.map eI (v12)))), (3, (.frow 3 1 (List.map eI (v13.2))))]
def weight_Learn_l1 (v12 : (List Int)) (v15 : List Int) (v16 : (Int) × (Int) × (Int)) : Option (((Int) × (Int) × (Int)) ⊕ ((Int) × (Int))) := (bif (decide (v16.2.2 < (List.length v15 : Int))) then (Option.bind (idx v15 v16.2.2) fun v17 => (Option.bind (idx v12 v17) fun v18 => (some (.inl ((w64 (v16.1 + v18)), (w64 (v16.2.1 + 1)), (w64 (v16.2.2 + 1))))))) else (some (.inr (v16.1, v16.2.1))))
def weight_Learn_l2 (a0 : La) (v12 : (List Int)) (v13 : (Int) × (List Int)) : Option (((Int) × (List Int)) ⊕ ((List Int))) := (bif (decide (v13.1 < (List.length a0.rules : Int))) then (Option.bind (idx a0.rules v13.1) fun v14 => (Option.bind (grammar_Of (a0) (v14.symbol)) fun v15 => (Option.bind (loopN (weight_Learn_l1 v12 v15) fuel (0, 0, 0)) fun (v20 : (Int) × (Int)) => (Option.bind (idx v12 v13.1) fun v21 => (Option.bind (quo .i64 (w64 (v20.1 + v20.2)) (w64 (v21 + 1))) fun v22 => (Option.bind (app 8 v13.2 ([(imin v22 1000)] : List (Int))) fun v23 => (some (.inl ((w64 (v13.1 + 1)), v23))))))))) else (some (.inr (v13.2))))
def weight_Learn_l3 (a0 : La) (a1 : List Tm) (v3 : (Int) × (List Int)) : Option (((Int) × (List Int)) ⊕ ((((List Int)) ⊕ ((List Int) × (Int))))) := (bif (decide (v3.1 < (List.length a1 : Int))) then (Option.bind (idx a1 v3.1) fun v4 => (Option.bind ((bif (decide (v4.rule < 0)) then (some (true)) else (some ((decide ((List.length a0.rules : Int) ≤ v4.rule))))) : Option ((Bool))) fun (v6 : (Bool)) => (bif v6 then (some (.inr (.inr (([] : List Int), 1)))) else (Option.bind (idx a0.rules v4.rule) fun v7 => (Option.bind (term_Check (a0) (v7.symbol) (v4)) fun v8 => (bif (v8 != 0) then (some (.inr (.inr (([] : List Int), v8)))) else (Option.bind (weight_count_h fuel (v3.2) (v4)) fun v9 => (Option.bind (sameL (v3.2) (v9)) fun _ => (some (.inl ((w64 (v3.1 + 1)), v9))))))))))) else (some (.inr (.inl (v3.2)))))
def weight_Learn (a0 : La) (a1 : List Tm) : Option ((List Int) × (Int)) := (Option.bind (grammar_Check (a0)) fun v1 => (bif (v1 != 0) then (some (([] : List Int), v1)) else (bif (decide (4096 < (List.length a1 : Int))) then (some (([] : List Int), 11)) else (Option.bind (mkL 8 0 (List.length a0.rules : Int)) fun v2 => (Option.bind (loopN (weight_Learn_l3 a0 a1) fuel (0, v2)) fun (v11 : (((List Int)) ⊕ ((List Int) × (Int)))) => Sum.elim (fun v12 => (Option.bind (loopN (weight_Learn_l2 a0 v12) fuel (0, ([] : List (Int)))) fun (v25 : (List Int)) => (some (v25, 0)))) (fun v26 => (some v26)) v11)))))
theorem weight_Learn_ok (a0 : La) (a1 : List Tm) (r : (List Int) × (Int)) (h : weight_Learn a0 a1 = some r) : PCall Try.prog 23 [eLa a0, (eL 2 eTmR) a1] (.tup [(eL 1 eI) (r.1), eI (r.2)]) := by
 unfold weight_Learn at h
 refine pcl [.one (.sl 1), .one .keep] Try.func23 (by kernel_rfl) (by kernel_rfl) (by kernel_rfl) ?_
 refine cl 10 h (grammar_Check_ok _) (by kernel_rfl) fun v1 h => ?_
 refine cd 7 h (by kernel_rfl) (fun h => ?_) fun h => ?_
 ·cases h; exact lq 7 (by kernel_rfl)
 refine cd 8 h (by kernel_rfl) (fun h => ?_) fun h => ?_
 ·cases h; exact lq 6 (by kernel_rfl)
 obtain ⟨v2, hv2, h⟩ := Option.bind_eq_some_iff.1 h
 refine sst 6 (s_make (t := 22) (X := (.tmp 28)) (Y := (.tmp 28)) (id := 2) (k := .i64) (k' := .i64) (d := tt22) (e := 3) (de := tt3) (enc := eI) (zv := .int .i64 0) hv2 (by kernel_rfl) tt_ok (by kernel_rfl) (by kernel_rfl) (by kernel_rfl) rfl rfl rfl rfl rfl (by kernel_rfl) (by kernel_rfl) (by kernel_rfl)) (by kernel_rfl) ?_
 refine lpx 10 (fun v3 => ⟨105, [(2, (.ref 1 0 0)), (7, (.row 2 (List.length (v3.2)))), (30, (.fz ((eL 2 eTmR) (a1)))), (31, (fI ((List.length a1 : Int)))), (32, (fI (v3.1)))], [(1, (.box 26 [(fS (a0.name)), (.fz ((eL 1 eI) (a0.inputs))), (.fz ((eL 2 eSy) (a0.symbols))), (.fz ((eL 9 eRu) (a0.rules)))])), (2, (.frow 3 1 (List.map eI (v3.2))))], [2, 1], []⟩) (fun v11 e st => Sum.elim (fun p => e = .exit 0 ∧ LeSt st ⟨105, [(2, (.ref 1 0 0)), (7, (.row 2 (List.length (p))))], [(1, (.box 26 [(fS (a0.name)), (.fz ((eL 1 eI) (a0.inputs))), (.fz ((eL 2 eSy) (a0.symbols))), (.fz ((eL 9 eRu) (a0.rules)))])), (2, (.frow 3 1 (List.map eI (p))))], [2, 1], []⟩) (fun p => e = .ret ∧ retX TT st Try.f23.results.toList [.one (.sl 1), .one .keep] = some (.tup [(eL 1 eI) (p.1), eI (p.2)])) v11) h (by kernel_rfl) (le_a (by kernel_rfl)) (fun v3 r h => ?_) fun v11 h e st' hq => ?_
 ·unfold weight_Learn_l3 at h
  refine cd 5 h (by kernel_rfl) (fun h => ?_) fun h => ?_
  ·refine ix nTmR 5 h (by kernel_rfl) fun v4 h => ?_
   refine jn1 6 .normal (fun v6 => ⟨105, [(2, (.ref 1 0 0)), (7, (.row 2 (List.length (v3.2)))), (9, (.ref 3 0 0)), (30, (.fz ((eL 2 eTmR) (a1)))), (31, (fI ((List.length a1 : Int)))), (32, (fI (v3.1))), (46, (fB (v6)))], [(1, (.box 26 [(fS (a0.name)), (.fz ((eL 1 eI) (a0.inputs))), (.fz ((eL 2 eSy) (a0.symbols))), (.fz ((eL 9 eRu) (a0.rules)))])), (2, (.frow 3 1 (List.map eI (v3.2)))), (3, (.box 35 [(fI (v4.rule)), (.fz ((eL 2 eTmR) (v4.args)))]))], [3, 2, 1], []⟩) h (by kernel_rfl) (fun v6 h => ?_) fun v6 h => ?_
   ·refine gd 5 h (by kernel_rfl) (fun h => ?_) fun h => ?_
    ·cases h; exact lj 8 (by kernel_rfl)
    cases h; exact lj 8 (by kernel_rfl)
   refine cd 0 h (by kernel_rfl) (fun h => ?_) fun h => ?_
   ·cases h; exact lor 6 (by kernel_rfl)
   refine dw 3 9 (by kernel_rfl) ?_
   refine ix nRu 5 h (by kernel_rfl) fun v7 h => ?_
   refine cl 4 h (term_Check_ok _ _ _) (by kernel_rfl) fun v8 h => ?_
   refine cd 7 h (by kernel_rfl) (fun h => ?_) fun h => ?_
   ·cases h; exact lor 7 (by kernel_rfl)
   refine hcl 4 [.one .keep, .one .keep] [(2, 1)] [(1, 2)] [1] h (weight_count_h_ok fuel _ _) (fun _ => by kernel_rfl) fun v9 h => ?_
   obtain ⟨_, hs10, h⟩ := Option.bind_eq_some_iff.1 h
   refine wle 0 (LeSt.trans (show LeSt _ ⟨105, [(2, (.ref 1 0 0)), (7, (.row 2 (List.length (v3.2)))), (30, (.fz ((eL 2 eTmR) (a1)))), (31, (fI ((List.length a1 : Int)))), (32, (fI (v3.1))), (60, (.row 2 (List.length (v3.2)))), (61, (.fz (eTm (v4))))], [(1, (.box 26 [(fS (a0.name)), (.fz ((eL 1 eI) (a0.inputs))), (.fz ((eL 2 eSy) (a0.symbols))), (.fz ((eL 9 eRu) (a0.rules)))])), (2, (.frow 3 1 (List.map eI (v9))))], [2, 1], []⟩ from le_a (by kernel_rfl)) (LeSt.trans (le_relen 2 (k := 2) (m := List.length (v3.2)) (n := List.length (v9)) (by kernel_rfl) (sameL_some hs10)) (show LeSt _ ⟨105, [(2, (.ref 1 0 0)), (7, (.row 2 (List.length (v9)))), (30, (.fz ((eL 2 eTmR) (a1)))), (31, (fI ((List.length a1 : Int)))), (32, (fI (v3.1))), (60, (.row 2 (List.length (v9)))), (61, (.fz (eTm (v4))))], [(1, (.box 26 [(fS (a0.name)), (.fz ((eL 1 eI) (a0.inputs))), (.fz ((eL 2 eSy) (a0.symbols))), (.fz ((eL 9 eRu) (a0.rules)))])), (2, (.frow 3 1 (List.map eI (v9))))], [2, 1], []⟩ from le_a (by kernel_rfl)))) (by kernel_rfl) ?_
   cases h; exact lj 5 (by kernel_rfl)
  cases h; exact lo 1 (by kernel_rfl)
 rcases v11 with v12 | v26
 ·try simp only [Sum.elim_inl, Sum.elim_inr] at h
  obtain ⟨rfl, hle⟩ := hq
  refine ⟨_, hle, ?_⟩
  refine wle 13 (le_nilrow (e := 3) (size := 1) (t := 11) (id := 3) (by decide) (by kernel_rfl) (by kernel_rfl)) (by kernel_rfl) ?_
  refine lp1 0 (fun v13 => ⟨105, [(2, (.ref 1 0 0)), (7, (.row 2 (List.length (v12)))), (11, (.row 3 (List.length (v13.2)))), (65, (.fz ((eL 9 eRu) (a0.rules)))), (66, (fI ((List.length a0.rules : Int)))), (67, (fI (v13.1)))], (weight_Learn_m0 a0 v12 v13), [3, 2, 1], []⟩) (.exit 2) (fun v25 => ⟨105, [(11, (.row 3 (List.length (v25))))], [(3, (.frow 3 1 (List.map eI (v25))))], [3], []⟩) h (by kernel_rfl) (by kernel_rfl) (fun v13 r h => ?_) fun v25 h => ?_
  ·unfold weight_Learn_l2 at h
   refine cd 5 h (by kernel_rfl) (fun h => ?_) fun h => ?_
   ·refine ix nRu 6 h (by kernel_rfl) fun v14 h => ?_
    refine cl 16 h (grammar_Of_ok _ _) (by kernel_rfl) fun v15 h => ?_
    refine lp1 4 (fun v16 => ⟨105, [(2, (.ref 1 0 0)), (7, (.row 2 (List.length (v12)))), (11, (.row 3 (List.length (v13.2)))), (12, (fI (v13.1))), (14, (fI (v16.1))), (15, (fI (v16.2.1))), (65, (.fz ((eL 9 eRu) (a0.rules)))), (66, (fI ((List.length a0.rules : Int)))), (67, (fI (v13.1))), (75, (.fz ((eL 1 eI) (v15)))), (76, (fI ((List.length v15 : Int)))), (77, (fI (v16.2.2)))], (weight_Learn_m0 a0 v12 v13), [3, 2, 1], []⟩) (.exit 4) (fun v20 => ⟨105, [(2, (.ref 1 0 0)), (7, (.row 2 (List.length (v12)))), (11, (.row 3 (List.length (v13.2)))), (12, (fI (v13.1))), (14, (fI (v20.1))), (15, (fI (v20.2))), (65, (.fz ((eL 9 eRu) (a0.rules)))), (66, (fI ((List.length a0.rules : Int)))), (67, (fI (v13.1)))], (weight_Learn_m0 a0 v12 v13), [3, 2, 1], []⟩) h (by kernel_rfl) (by kernel_rfl) (fun v16 r h => ?_) fun v20 h => ?_
    ·unfold weight_Learn_l1 at h
     refine cd 5 h (by kernel_rfl) (fun h => ?_) fun h => ?_
     ·refine ix nI 5 h (by kernel_rfl) fun v17 h => ?_
      obtain ⟨v18, hv18, h⟩ := Option.bind_eq_some_iff.1 h
      refine nst 8 (n_rowAddr (t := 22) (X := (.tmp 82)) (Y := (.tmp 83)) (id := 2) (k := .i64) (d := tt22) (e := 3) (de := tt3) (enc := eI) (xs := v12) (n := List.length (v12)) hv18 tt_ok (by kernel_rfl) (by kernel_rfl) (by kernel_rfl) (by kernel_rfl) (by kernel_rfl) (by kernel_rfl) (by kernel_rfl) rfl (by kernel_rfl)) (by kernel_rfl) ?_
      refine nst 0 (n_rowLoad (t := 3) (X := (.tmp 84)) (id := 2) (d := tt3) (enc := eI) (xs := v12) (x := v18) (i := v17) (n := List.length (v12)) hv18 tt_ok (by kernel_rfl) (by kernel_rfl) (by kernel_rfl) (by kernel_rfl) (by kernel_rfl) rfl (fun _ => rfl)) (by kernel_rfl) ?_
      cases h; exact lj 12 (by kernel_rfl)
     cases h; exact lo 1 (by kernel_rfl)
    obtain ⟨v21, hv21, h⟩ := Option.bind_eq_some_iff.1 h
    refine nst 7 (n_rowAddr (t := 22) (X := (.tmp 94)) (Y := (.tmp 95)) (id := 2) (k := .i64) (d := tt22) (e := 3) (de := tt3) (enc := eI) (xs := v12) (n := List.length (v12)) hv21 tt_ok (by kernel_rfl) (by kernel_rfl) (by kernel_rfl) (by kernel_rfl) (by kernel_rfl) (by kernel_rfl) (by kernel_rfl) rfl (by kernel_rfl)) (by kernel_rfl) ?_
    refine nst 0 (n_rowLoad (t := 3) (X := (.tmp 96)) (id := 2) (d := tt3) (enc := eI) (xs := v12) (x := v21) (i := v13.1) (n := List.length (v12)) hv21 tt_ok (by kernel_rfl) (by kernel_rfl) (by kernel_rfl) (by kernel_rfl) (by kernel_rfl) rfl (fun _ => rfl)) (by kernel_rfl) ?_
    obtain ⟨v22, hv22, h⟩ := Option.bind_eq_some_iff.1 h
    refine nst 1 (s_quo (t := 3) (x := (.tmp 93)) (y := (.tmp 98)) (yt := 3) (k := .i64) (m := (w64 (v20.1 + v20.2))) (n := (w64 (v21 + 1))) hv22 (by kernel_rfl) (by kernel_rfl) (by kernel_rfl)) (by kernel_rfl) ?_
    refine ap nI 2 h (by kernel_rfl) fun v23 h => ?_
    cases h; exact lj 6 (by kernel_rfl)
   cases h; exact lo 1 (by kernel_rfl)
  refine wle 6 (le_freeze (t := 4) (id := 3) (n := List.length (v25)) (e := 3) (size := 1) (xs := List.map eI (v25)) (by kernel_rfl) (by kernel_rfl) (by simp)) (by kernel_rfl) ?_
  cases h; exact lq 1 (by kernel_rfl)
 ·try simp only [Sum.elim_inl, Sum.elim_inr] at h
  obtain ⟨rfl, hret⟩ := hq
  refine ⟨_, LeSt.refl, ?_⟩
  cases h; exact lv hret

def synthesislaw38_awake_m0 : List (Nat × AObj) := [(1, (.box 26 [(fS ((⟨#[110]⟩ : ByteArray))), (.lim 1 (List.length (([2] : List (Int)))) (List.map eI (([2] : List (Int))))), (.lim 2 (List.length (([(Sy.mk ((⟨#[83]⟩ : ByteArray)) (2))] : List (Sy)))) (List.map eSy (([(Sy.mk ((⟨#[83]⟩ : ByteArray)) (2))] : List (Sy))))), (.lim 9 (List.length (([(Ru.mk (0) (1) (0) ((Va.mk (0) (0) ((⟨#[]⟩ : ByteArray)) (([] : List Va)))) ((⟨#[]⟩ : ByteArray)) (([] : List Int))), (Ru.mk (0) (3) (0) ((Va.mk (0) (0) ((⟨#[]⟩ : ByteArray)) (([] : List Va)))) ((⟨#[97, 100, 100]⟩ : ByteArray)) (([0, 0] : List (Int))))] : List (Ru)))) (List.map eRu (([(Ru.mk (0) (1) (0) ((Va.mk (0) (0) ((⟨#[]⟩ : ByteArray)) (([] : List Va)))) ((⟨#[]⟩ : ByteArray)) (([] : List Int))), (Ru.mk (0) (3) (0) ((Va.mk (0) (0) ((⟨#[]⟩ : ByteArray)) (([] : List Va)))) ((⟨#[97, 100, 100]⟩ : ByteArray)) (([0, 0] : List (Int))))] : List (Ru)))))])), (2, (.box 35 [(fI (1)), (.lim 2 (List.length (([(Tm.mk (0) (([] : List Tm))), (Tm.mk (0) (([] : List Tm)))] : List (Tm)))) (List.map eTmR (([(Tm.mk (0) (([] : List Tm))), (Tm.mk (0) (([] : List Tm)))] : List (Tm)))))]))]
def synthesislaw38_awake_m1 : List (Nat × AObj) := [(1, (.box 26 [(fS ((⟨#[110]⟩ : ByteArray))), (.lim 1 (List.length (([2] : List (Int)))) (List.map eI (([2] : List (Int))))), (.lim 2 (List.length (([(Sy.mk ((⟨#[83]⟩ : ByteArray)) (2))] : List (Sy)))) (List.map eSy (([(Sy.mk ((⟨#[83]⟩ : ByteArray)) (2))] : List (Sy))))), (.lim 9 (List.length (([(Ru.mk (0) (1) (0) ((Va.mk (0) (0) ((⟨#[]⟩ : ByteArray)) (([] : List Va)))) ((⟨#[]⟩ : ByteArray)) (([] : List Int))), (Ru.mk (0) (3) (0) ((Va.mk (0) (0) ((⟨#[]⟩ : ByteArray)) (([] : List Va)))) ((⟨#[97, 100, 100]⟩ : ByteArray)) (([0, 0] : List (Int))))] : List (Ru)))) (List.map eRu (([(Ru.mk (0) (1) (0) ((Va.mk (0) (0) ((⟨#[]⟩ : ByteArray)) (([] : List Va)))) ((⟨#[]⟩ : ByteArray)) (([] : List Int))), (Ru.mk (0) (3) (0) ((Va.mk (0) (0) ((⟨#[]⟩ : ByteArray)) (([] : List Va)))) ((⟨#[97, 100, 100]⟩ : ByteArray)) (([0, 0] : List (Int))))] : List (Ru)))))]))]
def synthesislaw38_awake  : Option (Bool) := (Option.bind (weight_Cost fuel (([1, 5] : List (Int))) ((Tm.mk (1) (([(Tm.mk (0) (([] : List Tm))), (Tm.mk (0) (([] : List Tm)))] : List (Tm)))))) fun v1 => (Option.bind (weight_Least ((La.mk ((⟨#[110]⟩ : ByteArray)) (([2] : List (Int))) (([(Sy.mk ((⟨#[83]⟩ : ByteArray)) (2))] : List (Sy))) (([(Ru.mk (0) (1) (0) ((Va.mk (0) (0) ((⟨#[]⟩ : ByteArray)) (([] : List Va)))) ((⟨#[]⟩ : ByteArray)) (([] : List Int))), (Ru.mk (0) (3) (0) ((Va.mk (0) (0) ((⟨#[]⟩ : ByteArray)) (([] : List Va)))) ((⟨#[97, 100, 100]⟩ : ByteArray)) (([0, 0] : List (Int))))] : List (Ru))))) (([1, 5] : List (Int))) (0) (3)) fun v2 => (Option.bind (weight_Learn ((La.mk ((⟨#[110]⟩ : ByteArray)) (([2] : List (Int))) (([(Sy.mk ((⟨#[83]⟩ : ByteArray)) (2))] : List (Sy))) (([(Ru.mk (0) (1) (0) ((Va.mk (0) (0) ((⟨#[]⟩ : ByteArray)) (([] : List Va)))) ((⟨#[]⟩ : ByteArray)) (([] : List Int))), (Ru.mk (0) (3) (0) ((Va.mk (0) (0) ((⟨#[]⟩ : ByteArray)) (([] : List Va)))) ((⟨#[97, 100, 100]⟩ : ByteArray)) (([0, 0] : List (Int))))] : List (Ru))))) (([(Tm.mk (1) (([(Tm.mk (0) (([] : List Tm))), (Tm.mk (0) (([] : List Tm)))] : List (Tm))))] : List (Tm)))) fun v3 => (Option.bind (weight_Uniform ((La.mk ((⟨#[110]⟩ : ByteArray)) (([2] : List (Int))) (([(Sy.mk ((⟨#[83]⟩ : ByteArray)) (2))] : List (Sy))) (([(Ru.mk (0) (1) (0) ((Va.mk (0) (0) ((⟨#[]⟩ : ByteArray)) (([] : List Va)))) ((⟨#[]⟩ : ByteArray)) (([] : List Int))), (Ru.mk (0) (3) (0) ((Va.mk (0) (0) ((⟨#[]⟩ : ByteArray)) (([] : List Va)))) ((⟨#[97, 100, 100]⟩ : ByteArray)) (([0, 0] : List (Int))))] : List (Ru)))))) fun v4 => (Option.bind ((bif (v1.2 != 0) then (some (true)) else (bif (v2.2 != 0) then (some (true)) else (bif (v3.2 != 0) then (some (true)) else (bif ((List.length v3.1 : Int) != 2) then (some (true)) else (some (((List.length v4 : Int) != 2))))))) : Option ((Bool))) fun (v6 : (Bool)) => (bif v6 then (some false) else (Option.bind ((Option.bind (weight_Check ((La.mk ((⟨#[110]⟩ : ByteArray)) (([2] : List (Int))) (([(Sy.mk ((⟨#[83]⟩ : ByteArray)) (2))] : List (Sy))) (([(Ru.mk (0) (1) (0) ((Va.mk (0) (0) ((⟨#[]⟩ : ByteArray)) (([] : List Va)))) ((⟨#[]⟩ : ByteArray)) (([] : List Int))), (Ru.mk (0) (3) (0) ((Va.mk (0) (0) ((⟨#[]⟩ : ByteArray)) (([] : List Va)))) ((⟨#[97, 100, 100]⟩ : ByteArray)) (([0, 0] : List (Int))))] : List (Ru))))) (([1, 5] : List (Int)))) fun v7 => (bif (v7 == 0) then (bif (v1.1 == 7) then (bif (v2.1 == 1) then (Option.bind (idx v3.1 0) fun v8 => (bif (v8 == 1) then (Option.bind (idx v3.1 1) fun v9 => (bif (v9 == 2) then (Option.bind (idx v4 1) fun v10 => (bif (v10 == 1) then (Option.bind (weight_Compare (([1, 5] : List (Int))) ((Tm.mk (1) (([(Tm.mk (0) (([] : List Tm))), (Tm.mk (0) (([] : List Tm)))] : List (Tm))))) ((Tm.mk (0) (([] : List Tm))))) fun v11 => (some ((v11 == 1)))) else (some (false)))) else (some (false)))) else (some (false)))) else (some (false))) else (some (false))) else (some (false)))) : Option ((Bool))) fun (v13 : (Bool)) => (some v13))))))))
theorem synthesislaw38_awake_ok  (r : Bool) (h : synthesislaw38_awake  = some r) : PCall Try.prog 10 [] (eB (r)) := by
 unfold synthesislaw38_awake at h
 refine pcl [.one .keep] Try.func10 (by kernel_rfl) (by kernel_rfl) (by kernel_rfl) ?_
 refine wle 12 ((le_a (by kernel_rfl) : LeSt _ ⟨102, [(11, (.lim 1 (List.length (([2] : List (Int)))) (List.map eI (([2] : List (Int)))))), (13, (.lim 2 (List.length (([(Sy.mk ((⟨#[83]⟩ : ByteArray)) (2))] : List (Sy)))) (List.map eSy (([(Sy.mk ((⟨#[83]⟩ : ByteArray)) (2))] : List (Sy)))))), (14, (.fz (eRu ((Ru.mk (0) (1) (0) ((Va.mk (0) (0) ((⟨#[]⟩ : ByteArray)) (([] : List Va)))) ((⟨#[]⟩ : ByteArray)) (([] : List Int))))))), (16, (.agg [(fI (0)), (fI (3)), (fI (0)), (fI (0)), (fI (0)), (fS ((⟨#[]⟩ : ByteArray))), (.fz (.atom (.slice none 0 0))), (fS ((⟨#[97, 100, 100]⟩ : ByteArray))), (.lim 1 (List.length (([0, 0] : List (Int)))) (List.map eI (([0, 0] : List (Int)))))]))], [], [], []⟩)) (by kernel_rfl) ?_
 refine wle 0 ((le_a (by kernel_rfl) : LeSt _ ⟨102, [(11, (.lim 1 (List.length (([2] : List (Int)))) (List.map eI (([2] : List (Int)))))), (13, (.lim 2 (List.length (([(Sy.mk ((⟨#[83]⟩ : ByteArray)) (2))] : List (Sy)))) (List.map eSy (([(Sy.mk ((⟨#[83]⟩ : ByteArray)) (2))] : List (Sy)))))), (14, (.fz (eRu ((Ru.mk (0) (1) (0) ((Va.mk (0) (0) ((⟨#[]⟩ : ByteArray)) (([] : List Va)))) ((⟨#[]⟩ : ByteArray)) (([] : List Int))))))), (16, (.fz (eRu ((Ru.mk (0) (3) (0) ((Va.mk (0) (0) ((⟨#[]⟩ : ByteArray)) (([] : List Va)))) ((⟨#[97, 100, 100]⟩ : ByteArray)) (([0, 0] : List (Int))))))))], [], [], []⟩)) (by kernel_rfl) ?_
 refine wle 9 ((le_a (by kernel_rfl) : LeSt _ ⟨102, [(1, (.ref 1 0 0)), (19, (.fz (eTm ((Tm.mk (0) (([] : List Tm))))))), (20, (.fz (.agg [(eI (0)), (.atom (.slice none 0 0))])))], (synthesislaw38_awake_m1), [1], []⟩)) (by kernel_rfl) ?_
 refine wle 0 ((le_a (by kernel_rfl) : LeSt _ ⟨102, [(1, (.ref 1 0 0)), (19, (.fz (eTm ((Tm.mk (0) (([] : List Tm))))))), (20, (.fz (eTm ((Tm.mk (0) (([] : List Tm)))))))], (synthesislaw38_awake_m1), [1], []⟩)) (by kernel_rfl) ?_
 refine wle 1 (le_eq (t := 21) (x := .lim 2 2 [eTm ((Tm.mk (0) (([] : List Tm)))), eTm ((Tm.mk (0) (([] : List Tm))))]) (y := .lim 2 2 (List.map eTmR ([(Tm.mk (0) (([] : List Tm))), (Tm.mk (0) (([] : List Tm)))] : List (Tm)))) (by kernel_rfl) (by simp only [List.map, eTmR_eq])) (by kernel_rfl) ?_
 refine cl 13 h (weight_Cost_ok _ _ _) (by kernel_rfl) fun v1 h => ?_
 refine cl 10 h (weight_Least_ok _ _ _ _) (by kernel_rfl) fun v2 h => ?_
 refine wle 10 ((le_a (by kernel_rfl) : LeSt _ ⟨102, [(1, (.ref 1 0 0)), (2, (.ref 2 0 0)), (3, (.lim 1 (List.length (([1, 5] : List (Int)))) (List.map eI (([1, 5] : List (Int)))))), (4, (fI (v1.1))), (5, (fI (v1.2))), (6, (fI (v2.1))), (7, (fI (v2.2))), (37, (.agg [(fS ((⟨#[110]⟩ : ByteArray))), (.lim 1 (List.length (([2] : List (Int)))) (List.map eI (([2] : List (Int))))), (.lim 2 (List.length (([(Sy.mk ((⟨#[83]⟩ : ByteArray)) (2))] : List (Sy)))) (List.map eSy (([(Sy.mk ((⟨#[83]⟩ : ByteArray)) (2))] : List (Sy))))), (.lim 9 (List.length (([(Ru.mk (0) (1) (0) ((Va.mk (0) (0) ((⟨#[]⟩ : ByteArray)) (([] : List Va)))) ((⟨#[]⟩ : ByteArray)) (([] : List Int))), (Ru.mk (0) (3) (0) ((Va.mk (0) (0) ((⟨#[]⟩ : ByteArray)) (([] : List Va)))) ((⟨#[97, 100, 100]⟩ : ByteArray)) (([0, 0] : List (Int))))] : List (Ru)))) (List.map eRu (([(Ru.mk (0) (1) (0) ((Va.mk (0) (0) ((⟨#[]⟩ : ByteArray)) (([] : List Va)))) ((⟨#[]⟩ : ByteArray)) (([] : List Int))), (Ru.mk (0) (3) (0) ((Va.mk (0) (0) ((⟨#[]⟩ : ByteArray)) (([] : List Va)))) ((⟨#[97, 100, 100]⟩ : ByteArray)) (([0, 0] : List (Int))))] : List (Ru)))))])), (38, (.fz (eTm ((Tm.mk (1) (([(Tm.mk (0) (([] : List Tm))), (Tm.mk (0) (([] : List Tm)))] : List (Tm))))))))], (synthesislaw38_awake_m0), [2, 1], []⟩)) (by kernel_rfl) ?_
 refine wle 1 (le_eq (t := 39) (x := .lim 2 1 [eTm ((Tm.mk (1) (([(Tm.mk (0) (([] : List Tm))), (Tm.mk (0) (([] : List Tm)))] : List (Tm)))))]) (y := .lim 2 1 (List.map eTmR ([(Tm.mk (1) (([(Tm.mk (0) (([] : List Tm))), (Tm.mk (0) (([] : List Tm)))] : List (Tm))))] : List (Tm)))) (by kernel_rfl) (by simp only [List.map, eTmR_eq])) (by kernel_rfl) ?_
 refine cl 0 h (weight_Learn_ok _ _) (by kernel_rfl) fun v3 h => ?_
 refine cl 9 h (weight_Uniform_ok _) (by kernel_rfl) fun v4 h => ?_
 refine jn1 4 .normal (fun v6 => ⟨102, [(1, (.ref 1 0 0)), (2, (.ref 2 0 0)), (3, (.lim 1 (List.length (([1, 5] : List (Int)))) (List.map eI (([1, 5] : List (Int)))))), (4, (fI (v1.1))), (6, (fI (v2.1))), (8, (.fz ((eL 1 eI) (v3.1)))), (10, (.fz ((eL 1 eI) (v4)))), (64, (fB (v6)))], (synthesislaw38_awake_m0), [2, 1], []⟩) h (by kernel_rfl) (fun v6 h => ?_) fun v6 h => ?_
 ·refine gd 4 h (by kernel_rfl) (fun h => ?_) fun h => ?_
  ·cases h; exact lj 18 (by kernel_rfl)
  refine gd 4 h (by kernel_rfl) (fun h => ?_) fun h => ?_
  ·cases h; exact lj 14 (by kernel_rfl)
  refine gd 4 h (by kernel_rfl) (fun h => ?_) fun h => ?_
  ·cases h; exact lj 10 (by kernel_rfl)
  refine gd 5 h (by kernel_rfl) (fun h => ?_) fun h => ?_
  ·cases h; exact lj 5 (by kernel_rfl)
  cases h; exact lj 5 (by kernel_rfl)
 refine cd 0 h (by kernel_rfl) (fun h => ?_) fun h => ?_
 ·cases h; exact lq 5 (by kernel_rfl)
 refine jn1 2 .normal (fun v13 => ⟨102, [(0, (fB (v13)))], [], [], []⟩) h (by kernel_rfl) (fun v13 h => ?_) fun v13 h => ?_
 ·refine cl 3 h (weight_Check_ok _ _) (by kernel_rfl) fun v7 h => ?_
  refine gd 2 h (by kernel_rfl) (fun h => ?_) fun h => ?_
  ·refine gd 4 h (by kernel_rfl) (fun h => ?_) fun h => ?_
   ·refine gd 4 h (by kernel_rfl) (fun h => ?_) fun h => ?_
    ·refine ix nI 1 h (by kernel_rfl) fun v8 h => ?_
     refine gd 4 h (by kernel_rfl) (fun h => ?_) fun h => ?_
     ·refine ix nI 1 h (by kernel_rfl) fun v9 h => ?_
      refine gd 4 h (by kernel_rfl) (fun h => ?_) fun h => ?_
      ·refine ix nI 1 h (by kernel_rfl) fun v10 h => ?_
       refine gd 4 h (by kernel_rfl) (fun h => ?_) fun h => ?_
       ·refine cl 3 h (weight_Compare_ok _ _ _) (by kernel_rfl) fun v11 h => ?_
        cases h; exact lj 4 (by kernel_rfl)
       cases h; exact lj 8 (by kernel_rfl)
      cases h; exact lj 14 (by kernel_rfl)
     cases h; exact lj 20 (by kernel_rfl)
    cases h; exact lj 26 (by kernel_rfl)
   cases h; exact lj 30 (by kernel_rfl)
  cases h; exact lj 34 (by kernel_rfl)
 cases h; exact lq 1 (by kernel_rfl)

end Go.Proofs.Ytpcfkflhnkfjjaa
