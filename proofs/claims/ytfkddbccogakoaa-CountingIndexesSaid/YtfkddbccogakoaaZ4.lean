/- Typed programs and what computes them. -/
import Derived.Test.YtfkddbccogakoaaZ3
set_option linter.unusedVariables false
set_option linter.unusedSimpArgs false
set_option maxRecDepth 100000
namespace Go.Proofs.Ytfkddbccogakoaa
open Go Go.RowKit Go.Proofs
attribute [local irreducible] NStep StepA EStep LeSt
def synthesisref12_Index_m0 (a0 : La) : List (Nat × AObj) := [(1, (.box 26 [(fS (a0.name)), (.fz ((eL 1 eI) (a0.inputs))), (.fz ((eL 2 eSy) (a0.symbols))), (.fz ((eL 9 eRu) (a0.rules)))]))]
def synthesisref12_Index_l1 (a0 : La) (v3 : List Int) (v5 : List (List Int)) (v6 : (List Int) × (Int) × (Int)) (v7 : Int) (v8 : (Int) × (Int)) : Option (((Int) × (Int)) ⊕ ((Int))) := (bif (decide (v8.2 < v7)) then (Option.bind ((Option.bind (idx a0.rules v8.2) fun v9 => (Option.bind (idx v6.1 0) fun v10 => (bif (v9.symbol == v10) then (Option.bind ((Option.bind (idx a0.rules v8.2) fun v11 => (bif List.isEmpty v11.args then (Option.bind (cutL v6.1 1 (List.length v6.1)) fun v15 => (bif List.isEmpty v15 then (some (([] : List (Int)))) else (Option.bind (appN 8 ([] : List (Int)) v15) fun v16 => (some (v16))))) else (Option.bind (appN 8 ([] : List (Int)) v11.args) fun v12 => (Option.bind (cutL v6.1 1 (List.length v6.1)) fun v13 => (Option.bind (app 8 v12 v13) fun v14 => (some (v14))))))) : Option ((List Int))) fun (v20 : (List Int)) => (Option.bind (synthesisref12_ways (v5) (v20) ((w64 ((w64 ((List.length v3 : Int) - v6.2.2)) - 1)))) fun v21 => (some ((w64 (v8.1 + v21)))))) else (some (v8.1))))) : Option ((Int))) fun (v23 : (Int)) => (some (.inl (v23, (w64 (v8.2 + 1)))))) else (some (.inr (v8.1))))
def synthesisref12_Index_l2 (a0 : La) (v3 : List Int) (v5 : List (List Int)) (v6 : (List Int) × (Int) × (Int)) : Option (((List Int) × (Int) × (Int)) ⊕ ((Int))) := (bif (decide (v6.2.2 < (List.length v3 : Int))) then (Option.bind (idx v3 v6.2.2) fun v7 => (Option.bind (loopN (synthesisref12_Index_l1 a0 v3 v5 v6 v7) fuel (v6.2.1, 0)) fun (v25 : (Int)) => (Option.bind ((Option.bind (idx a0.rules v7) fun v26 => (bif List.isEmpty v26.args then (Option.bind (cutL v6.1 1 (List.length v6.1)) fun v30 => (bif List.isEmpty v30 then (some (([] : List (Int)))) else (Option.bind (appN 8 ([] : List (Int)) v30) fun v31 => (some (v31))))) else (Option.bind (appN 8 ([] : List (Int)) v26.args) fun v27 => (Option.bind (cutL v6.1 1 (List.length v6.1)) fun v28 => (Option.bind (app 8 v27 v28) fun v29 => (some (v29))))))) : Option ((List Int))) fun (v35 : (List Int)) => (some (.inl (v35, v25, (w64 (v6.2.2 + 1)))))))) else (some (.inr (v6.2.1))))
def synthesisref12_Index (a0 : La) (a1 : Int) (a2 : Tm) : Option ((Int) × (Int)) := (Option.bind (synthesisref12_wrong (a0) (a1) (1)) fun v1 => (bif (v1 != 0) then (some (0, v1)) else (Option.bind (synthesisref12_Is fuel (a0) (a1) (a2)) fun v2 => (bif (!v2) then (some (0, 4)) else (Option.bind (synthesisref12_Rules fuel (a2)) fun v3 => (bif (decide (24 < (List.length v3 : Int))) then (some (0, 1)) else (Option.bind (synthesisref12_Count (a0) (a1) ((List.length v3 : Int))) fun v4 => (bif (v4.2 != 0) then (some (0, v4.2)) else (Option.bind (synthesisref12_Table (a0) ((List.length v3 : Int))) fun v5 => (Option.bind (loopN (synthesisref12_Index_l2 a0 v3 v5) fuel (([a1] : List (Int)), 0, 0)) fun (v37 : (Int)) => (some (v37, 0))))))))))))
theorem synthesisref12_Index_ok (a0 : La) (a1 : Int) (a2 : Tm) (r : (Int) × (Int)) (h : synthesisref12_Index a0 a1 a2 = some r) : PCall Try.prog 22 [eLa a0, eI a1, eTm a2] (.tup [eI (r.1), eI (r.2)]) := by
 unfold synthesisref12_Index at h
 refine pcl [.one .keep, .one .keep] Try.func22 (by kernel_rfl) (by kernel_rfl) (by kernel_rfl) ?_
 refine cl 12 h (synthesisref12_wrong_ok _ _ _) (by kernel_rfl) fun v1 h => ?_
 refine cd 7 h (by kernel_rfl) (fun h => ?_) fun h => ?_
 ·cases h; exact lq 7 (by kernel_rfl)
 refine cl 7 h (synthesisref12_Is_ok _ _ _ _) (by kernel_rfl) fun v2 h => ?_
 refine cd 2 h (by kernel_rfl) (fun h => ?_) fun h => ?_
 ·cases h; exact lq 6 (by kernel_rfl)
 refine cl 4 h (synthesisref12_Rules_ok _ _) (by kernel_rfl) fun v3 h => ?_
 refine cd 9 h (by kernel_rfl) (fun h => ?_) fun h => ?_
 ·cases h; exact lq 6 (by kernel_rfl)
 refine cl 8 h (synthesisref12_Count_ok _ _ _) (by kernel_rfl) fun v4 h => ?_
 refine cd 11 h (by kernel_rfl) (fun h => ?_) fun h => ?_
 ·cases h; exact lq 7 (by kernel_rfl)
 refine cl 6 h (synthesisref12_Table_ok _ _) (by kernel_rfl) fun v5 h => ?_
 refine lp1 20 (fun v6 => ⟨108, [(3, (.ref 1 0 0)), (9, (.fz ((eL 1 eI) (v3)))), (12, (.fz ((eL 1 (eL 1 eI)) (v5)))), (13, (.fz ((eL 1 eI) (v6.1)))), (14, (fI (v6.2.1))), (52, (.fz ((eL 1 eI) (v3)))), (53, (fI ((List.length v3 : Int)))), (54, (fI (v6.2.2)))], (synthesisref12_Index_m0 a0), [1], []⟩) (.exit 0) (fun v37 => ⟨108, [(14, (fI (v37)))], [], [], []⟩) h (by kernel_rfl) (by kernel_rfl) (fun v6 r h => ?_) fun v37 h => ?_
 ·unfold synthesisref12_Index_l2 at h
  refine cd 5 h (by kernel_rfl) (fun h => ?_) fun h => ?_
  ·refine ix nI 6 h (by kernel_rfl) fun v7 h => ?_
   refine lp1 10 (fun v8 => ⟨108, [(3, (.ref 1 0 0)), (9, (.fz ((eL 1 eI) (v3)))), (12, (.fz ((eL 1 (eL 1 eI)) (v5)))), (13, (.fz ((eL 1 eI) (v6.1)))), (14, (fI (v8.1))), (15, (fI (v6.2.2))), (16, (fI (v7))), (17, (fI (v8.2))), (52, (.fz ((eL 1 eI) (v3)))), (53, (fI ((List.length v3 : Int)))), (54, (fI (v6.2.2)))], (synthesisref12_Index_m0 a0), [1], []⟩) (.exit 2) (fun v25 => ⟨108, [(3, (.ref 1 0 0)), (9, (.fz ((eL 1 eI) (v3)))), (12, (.fz ((eL 1 (eL 1 eI)) (v5)))), (13, (.fz ((eL 1 eI) (v6.1)))), (14, (fI (v25))), (16, (fI (v7))), (52, (.fz ((eL 1 eI) (v3)))), (53, (fI ((List.length v3 : Int)))), (54, (fI (v6.2.2)))], (synthesisref12_Index_m0 a0), [1], []⟩) h (by kernel_rfl) (by kernel_rfl) (fun v8 r h => ?_) fun v25 h => ?_
   ·unfold synthesisref12_Index_l1 at h
    refine cd 7 h (by kernel_rfl) (fun h => ?_) fun h => ?_
    ·refine jn1 3 .normal (fun v23 => ⟨108, [(3, (.ref 1 0 0)), (9, (.fz ((eL 1 eI) (v3)))), (12, (.fz ((eL 1 (eL 1 eI)) (v5)))), (13, (.fz ((eL 1 eI) (v6.1)))), (14, (fI (v23))), (15, (fI (v6.2.2))), (16, (fI (v7))), (17, (fI (v8.2))), (52, (.fz ((eL 1 eI) (v3)))), (53, (fI ((List.length v3 : Int)))), (54, (fI (v6.2.2)))], (synthesisref12_Index_m0 a0), [1], []⟩) h (by kernel_rfl) (fun v23 h => ?_) fun v23 h => ?_
     ·refine dw 1 9 (by kernel_rfl) ?_
      refine ix nRu 3 h (by kernel_rfl) fun v9 h => ?_
      refine ix nI 3 h (by kernel_rfl) fun v10 h => ?_
      refine cd 4 h (by kernel_rfl) (fun h => ?_) fun h => ?_
      ·refine jn1 1 .normal (fun v20 => ⟨108, [(3, (.ref 1 0 0)), (9, (.fz ((eL 1 eI) (v3)))), (12, (.fz ((eL 1 (eL 1 eI)) (v5)))), (13, (.fz ((eL 1 eI) (v6.1)))), (14, (fI (v8.1))), (15, (fI (v6.2.2))), (16, (fI (v7))), (17, (fI (v8.2))), (18, (.fz ((eL 1 eI) (v20)))), (52, (.fz ((eL 1 eI) (v3)))), (53, (fI ((List.length v3 : Int)))), (54, (fI (v6.2.2)))], (synthesisref12_Index_m0 a0), [1], []⟩) h (by kernel_rfl) (fun v20 h => ?_) fun v20 h => ?_
       ·refine dz 0 10 [7] [2] (List.range 3) (by kernel_rfl) ?_
        refine nst 0 (nstep_co (st' := ⟨108, [], [], [], []⟩) (ids := []) (ts := []) (by kernel_rfl) (nstep_ok (c := .lim 1 0 []) tt_ok (by kernel_rfl))) (by kernel_rfl) ?_
        refine ix nRu 3 h (by kernel_rfl) fun v11 h => ?_
        refine gdb 2 h (fun hE18 h => ?_) fun hE18 h => ?_
        ·refine zst 0 ((s_appLit0 (t := 22) (X := (.tmp 74)) (Y := (.tmp 80)) (d := tt22) (e := 3) (de := tt3) (enc := eI) (xs := ([] : List (Int))) (ys := v11.args) (n := List.length ([] : List (Int))) (m := List.length v11.args) hE18 tt_ok (by kernel_rfl) (by kernel_rfl) (by kernel_rfl) (by kernel_rfl) (by kernel_rfl) (.inl (by kernel_rfl))).step) (by kernel_rfl) (by kernel_rfl) (by kernel_rfl) ?_
         obtain ⟨v15, hv15, h⟩ := Option.bind_eq_some_iff.1 h
         refine nst 1 (s_cutL (t := 22) (x := (.tmp 82)) (lo := (some (.const (.int .i64 1)))) (hi := none) (d := tt22) (e := 3) (de := tt3) (size := 1) (enc := eI) (xs := v6.1) (l := (some 1)) (h := none) hv15 tt_ok (by kernel_rfl) (by kernel_rfl) (by kernel_rfl) (by kernel_rfl) (by kernel_rfl) (by kernel_rfl) (by kernel_rfl) (by kernel_rfl)) (by kernel_rfl) ?_
         refine gdb 1 h (fun hE17 h => ?_) fun hE17 h => ?_
         ·refine nst 0 (s_appLit0 (t := 22) (X := (.tmp 81)) (Y := (.tmp 83)) (d := tt22) (e := 3) (de := tt3) (enc := eI) (xs := ([] : List (Int))) (ys := v15) (n := List.length ([] : List (Int))) (m := List.length v15) hE17 tt_ok (by kernel_rfl) (by kernel_rfl) (by kernel_rfl) (by kernel_rfl) (by kernel_rfl) (.inl (by kernel_rfl))) (by kernel_rfl) ?_
          cases h; exact lj 2 (by kernel_rfl)
         obtain ⟨v16, hv16, h⟩ := Option.bind_eq_some_iff.1 h
         refine sst 0 (s_appLit (t := 22) (X := (.tmp 81)) (Y := (.tmp 83)) (d := tt22) (e := 3) (de := tt3) (enc := eI) (xs := ([] : List (Int))) (ys := v15) (n := List.length ([] : List (Int))) (m := List.length v15) (id := 2) hv16 tt_ok (by kernel_rfl) (by kernel_rfl) (by kernel_rfl) (by kernel_rfl) (by kernel_rfl) (by kernel_rfl) (by kernel_rfl) (by kernel_rfl) (.inl (by kernel_rfl)) (by kernel_rfl)) (by kernel_rfl) ?_
         obtain rfl := Option.some.inj h; exact ljx 2 (LeSt.trans (le_freezeTs (id := 2) (n := List.length (v16)) (e := 3) (size := 1) (xs := List.map eI (v16)) [18] ⟨by kernel_rfl, trivial⟩ (by kernel_rfl) (by simp)) (le_a (by kernel_rfl))) (by kernel_rfl)
        obtain ⟨v12, hv12, h⟩ := Option.bind_eq_some_iff.1 h
        refine zst 0 (s_appLit (t := 22) (X := (.tmp 74)) (Y := (.tmp 80)) (d := tt22) (e := 3) (de := tt3) (enc := eI) (xs := ([] : List (Int))) (ys := v11.args) (n := List.length ([] : List (Int))) (m := List.length v11.args) (id := 2) hv12 tt_ok (by kernel_rfl) (by kernel_rfl) (by kernel_rfl) (by kernel_rfl) (by kernel_rfl) (by kernel_rfl) (by kernel_rfl) (by kernel_rfl) (.inl (by kernel_rfl)) (by kernel_rfl)) (by kernel_rfl) (by kernel_rfl) (by kernel_rfl) ?_
        obtain ⟨v13, hv13, h⟩ := Option.bind_eq_some_iff.1 h
        refine nst 1 (s_cutL (t := 22) (x := (.tmp 82)) (lo := (some (.const (.int .i64 1)))) (hi := none) (d := tt22) (e := 3) (de := tt3) (size := 1) (enc := eI) (xs := v6.1) (l := (some 1)) (h := none) hv13 tt_ok (by kernel_rfl) (by kernel_rfl) (by kernel_rfl) (by kernel_rfl) (by kernel_rfl) (by kernel_rfl) (by kernel_rfl) (by kernel_rfl)) (by kernel_rfl) ?_
        refine ap nI 1 h (by kernel_rfl) fun v14 h => ?_
        obtain rfl := Option.some.inj h; exact ljx 2 (LeSt.trans (le_freezeTs (id := 2) (n := List.length (v14)) (e := 3) (size := 1) (xs := List.map eI (v14)) [18] ⟨by kernel_rfl, trivial⟩ (by kernel_rfl) (by simp)) (le_a (by kernel_rfl))) (by kernel_rfl)
       refine cl 9 h (synthesisref12_ways_ok _ _ _) (by kernel_rfl) fun v21 h => ?_
       cases h; exact lj 3 (by kernel_rfl)
      cases h; exact lj 1 (by kernel_rfl)
     cases h; exact lj 5 (by kernel_rfl)
    cases h; exact lo 1 (by kernel_rfl)
   refine jn1 0 .normal (fun v35 => ⟨108, [(3, (.ref 1 0 0)), (9, (.fz ((eL 1 eI) (v3)))), (12, (.fz ((eL 1 (eL 1 eI)) (v5)))), (13, (.fz ((eL 1 eI) (v35)))), (14, (fI (v25))), (52, (.fz ((eL 1 eI) (v3)))), (53, (fI ((List.length v3 : Int)))), (54, (fI (v6.2.2)))], (synthesisref12_Index_m0 a0), [1], []⟩) h (by kernel_rfl) (fun v35 h => ?_) fun v35 h => ?_
   ·refine dz 0 10 [7] [2] (List.range 3) (by kernel_rfl) ?_
    refine nst 0 (nstep_co (st' := ⟨108, [], [], [], []⟩) (ids := []) (ts := []) (by kernel_rfl) (nstep_ok (c := .lim 1 0 []) tt_ok (by kernel_rfl))) (by kernel_rfl) ?_
    refine ix nRu 3 h (by kernel_rfl) fun v26 h => ?_
    refine gdb 2 h (fun hE33 h => ?_) fun hE33 h => ?_
    ·refine zst 0 ((s_appLit0 (t := 22) (X := (.tmp 95)) (Y := (.tmp 101)) (d := tt22) (e := 3) (de := tt3) (enc := eI) (xs := ([] : List (Int))) (ys := v26.args) (n := List.length ([] : List (Int))) (m := List.length v26.args) hE33 tt_ok (by kernel_rfl) (by kernel_rfl) (by kernel_rfl) (by kernel_rfl) (by kernel_rfl) (.inl (by kernel_rfl))).step) (by kernel_rfl) (by kernel_rfl) (by kernel_rfl) ?_
     obtain ⟨v30, hv30, h⟩ := Option.bind_eq_some_iff.1 h
     refine nst 1 (s_cutL (t := 22) (x := (.tmp 103)) (lo := (some (.const (.int .i64 1)))) (hi := none) (d := tt22) (e := 3) (de := tt3) (size := 1) (enc := eI) (xs := v6.1) (l := (some 1)) (h := none) hv30 tt_ok (by kernel_rfl) (by kernel_rfl) (by kernel_rfl) (by kernel_rfl) (by kernel_rfl) (by kernel_rfl) (by kernel_rfl) (by kernel_rfl)) (by kernel_rfl) ?_
     refine gdb 1 h (fun hE32 h => ?_) fun hE32 h => ?_
     ·refine nst 0 (s_appLit0 (t := 22) (X := (.tmp 102)) (Y := (.tmp 104)) (d := tt22) (e := 3) (de := tt3) (enc := eI) (xs := ([] : List (Int))) (ys := v30) (n := List.length ([] : List (Int))) (m := List.length v30) hE32 tt_ok (by kernel_rfl) (by kernel_rfl) (by kernel_rfl) (by kernel_rfl) (by kernel_rfl) (.inl (by kernel_rfl))) (by kernel_rfl) ?_
      cases h; exact lj 2 (by kernel_rfl)
     obtain ⟨v31, hv31, h⟩ := Option.bind_eq_some_iff.1 h
     refine sst 0 (s_appLit (t := 22) (X := (.tmp 102)) (Y := (.tmp 104)) (d := tt22) (e := 3) (de := tt3) (enc := eI) (xs := ([] : List (Int))) (ys := v30) (n := List.length ([] : List (Int))) (m := List.length v30) (id := 2) hv31 tt_ok (by kernel_rfl) (by kernel_rfl) (by kernel_rfl) (by kernel_rfl) (by kernel_rfl) (by kernel_rfl) (by kernel_rfl) (by kernel_rfl) (.inl (by kernel_rfl)) (by kernel_rfl)) (by kernel_rfl) ?_
     obtain rfl := Option.some.inj h; exact ljx 2 (LeSt.trans (le_freezeTs (id := 2) (n := List.length (v31)) (e := 3) (size := 1) (xs := List.map eI (v31)) [13] ⟨by kernel_rfl, trivial⟩ (by kernel_rfl) (by simp)) (le_a (by kernel_rfl))) (by kernel_rfl)
    obtain ⟨v27, hv27, h⟩ := Option.bind_eq_some_iff.1 h
    refine zst 0 (s_appLit (t := 22) (X := (.tmp 95)) (Y := (.tmp 101)) (d := tt22) (e := 3) (de := tt3) (enc := eI) (xs := ([] : List (Int))) (ys := v26.args) (n := List.length ([] : List (Int))) (m := List.length v26.args) (id := 2) hv27 tt_ok (by kernel_rfl) (by kernel_rfl) (by kernel_rfl) (by kernel_rfl) (by kernel_rfl) (by kernel_rfl) (by kernel_rfl) (by kernel_rfl) (.inl (by kernel_rfl)) (by kernel_rfl)) (by kernel_rfl) (by kernel_rfl) (by kernel_rfl) ?_
    obtain ⟨v28, hv28, h⟩ := Option.bind_eq_some_iff.1 h
    refine nst 1 (s_cutL (t := 22) (x := (.tmp 103)) (lo := (some (.const (.int .i64 1)))) (hi := none) (d := tt22) (e := 3) (de := tt3) (size := 1) (enc := eI) (xs := v6.1) (l := (some 1)) (h := none) hv28 tt_ok (by kernel_rfl) (by kernel_rfl) (by kernel_rfl) (by kernel_rfl) (by kernel_rfl) (by kernel_rfl) (by kernel_rfl) (by kernel_rfl)) (by kernel_rfl) ?_
    refine ap nI 1 h (by kernel_rfl) fun v29 h => ?_
    obtain rfl := Option.some.inj h; exact ljx 2 (LeSt.trans (le_freezeTs (id := 2) (n := List.length (v29)) (e := 3) (size := 1) (xs := List.map eI (v29)) [13] ⟨by kernel_rfl, trivial⟩ (by kernel_rfl) (by simp)) (le_a (by kernel_rfl))) (by kernel_rfl)
   cases h; exact lj 4 (by kernel_rfl)
  cases h; exact lo 1 (by kernel_rfl)
 cases h; exact lq 7 (by kernel_rfl)

def synthesislaw12_CountingIndexes (a0 : La) (a1 : Int) (a2 : Tm) : Option (Bool) := (Option.bind (synthesislaw12_small (a0) (a2)) fun v1 => (bif (!v1) then (Option.bind (synthesislaw12_alive ) fun v2 => (some v2)) else (Option.bind (counting_Index (a0) (a1) (a2)) fun v3 => (Option.bind (synthesisref12_Index (a0) (a1) (a2)) fun v4 => (Option.bind ((bif (v3.1 == v4.1) then (bif (v3.2 == v4.2) then (Option.bind (synthesislaw12_alive ) fun v5 => (some (v5))) else (some (false))) else (some (false))) : Option ((Bool))) fun (v7 : (Bool)) => (some v7))))))
theorem synthesislaw12_CountingIndexes_ok (a0 : La) (a1 : Int) (a2 : Tm) (r : Bool) (h : synthesislaw12_CountingIndexes a0 a1 a2 = some r) : PCall Try.prog 6 [eLa a0, eI a1, eTm a2] (eB (r)) := by
 unfold synthesislaw12_CountingIndexes at h
 refine pcl [.one .keep] Try.func6 (by kernel_rfl) (by kernel_rfl) (by kernel_rfl) ?_
 refine cl 11 h (synthesislaw12_small_ok _ _) (by kernel_rfl) fun v1 h => ?_
 refine cd 2 h (by kernel_rfl) (fun h => ?_) fun h => ?_
 ·refine cl 2 h (synthesislaw12_alive_ok) (by kernel_rfl) fun v2 h => ?_
  cases h; exact lq 3 (by kernel_rfl)
 refine cl 6 h (counting_Index_ok _ _ _) (by kernel_rfl) fun v3 h => ?_
 refine cl 11 h (synthesisref12_Index_ok _ _ _) (by kernel_rfl) fun v4 h => ?_
 refine jn1 7 .normal (fun v7 => ⟨41, [(6, (fB (v7)))], [], [], []⟩) h (by kernel_rfl) (fun v7 h => ?_) fun v7 h => ?_
 ·refine gd 5 h (by kernel_rfl) (fun h => ?_) fun h => ?_
  ·refine gd 5 h (by kernel_rfl) (fun h => ?_) fun h => ?_
   ·refine cl 0 h (synthesislaw12_alive_ok) (by kernel_rfl) fun v5 h => ?_
    cases h; exact lj 3 (by kernel_rfl)
   cases h; exact lj 4 (by kernel_rfl)
  cases h; exact lj 9 (by kernel_rfl)
 cases h; exact lq 1 (by kernel_rfl)

end Go.Proofs.Ytfkddbccogakoaa
