/- Typed programs and what computes them. -/
import Derived.Test.YtaeicmnimjfbaaaZ0
set_option linter.unusedVariables false
set_option linter.unusedSimpArgs false
set_option maxRecDepth 100000
namespace Go.Proofs.Ytaeicmnimjfbaaa
open Go Go.RowKit Go.Proofs
attribute [local irreducible] NStep StepA EStep LeSt
structure S_api_Operator where
  f_Name : ByteArray
  f_Args : List Int
  f_Result : Int
def eS_api_Operator (x : S_api_Operator) : FV := .agg [eS (x.f_Name), (eL 1 eI) (x.f_Args), eI (x.f_Result)]
def nS_api_Operator : En S_api_Operator := ⟨eS_api_Operator, 3, fun x => (eS_api_Operator x).cells, fun _ => rfl, fun _ => rfl⟩
structure S_operator_entry where
  f_Operator : S_api_Operator
  f_family : ByteArray
def eS_operator_entry (x : S_operator_entry) : FV := .agg [eS (x.f_Operator.f_Name), (eL 1 eI) (x.f_Operator.f_Args), eI (x.f_Operator.f_Result), eS (x.f_family)]
def nS_operator_entry : En S_operator_entry := ⟨eS_operator_entry, 4, fun x => (eS_operator_entry x).cells, fun _ => rfl, fun _ => rfl⟩
def operator_family_l1 (v3 : (ByteArray) × (ByteArray) × (Bool)) (v4 : (Int) × (List Int)) : Option (((Int) × (List Int)) ⊕ ((List Int))) := (bif (decide (v4.1 < (w64 ((v3.2.1.size : Int) - 1)))) then (Option.bind (byt v3.2.1 v4.1) fun v5 => (Option.bind (operator_typeOf (v5)) fun v6 => (Option.bind (app 8 v4.2 ([v6] : List (Int))) fun v7 => (some (.inl ((w64 (v4.1 + 1)), v7)))))) else (some (.inr (v4.2))))
def operator_family_l2 (a0 : ByteArray) (a1 : List ByteArray) (v1 : (Int) × (List S_operator_entry)) : Option (((Int) × (List S_operator_entry)) ⊕ ((List S_operator_entry))) := (bif (decide (v1.1 < (List.length a1 : Int))) then (Option.bind (idx a1 v1.1) fun v2 => (Option.bind (strings_Cut (v2) ((⟨#[58]⟩ : ByteArray))) fun v3 => (Option.bind (loopN (operator_family_l1 v3) fuel (0, ([] : List (Int)))) fun (v9 : (List Int)) => (Option.bind (byt v3.2.1 (w64 ((v3.2.1.size : Int) - 1))) fun v10 => (Option.bind (operator_typeOf (v10)) fun v11 => (Option.bind (app 64 v1.2 ([(S_operator_entry.mk ((S_api_Operator.mk (v3.1) (v9) (v11))) (a0))] : List (S_operator_entry))) fun v12 => (some (.inl ((w64 (v1.1 + 1)), v12))))))))) else (some (.inr (v1.2))))
def operator_family (a0 : ByteArray) (a1 : List ByteArray) : Option (List S_operator_entry) := (Option.bind (loopN (operator_family_l2 a0 a1) fuel (0, ([] : List (S_operator_entry)))) fun (v14 : (List S_operator_entry)) => (some v14))
theorem operator_family_ok (a0 : ByteArray) (a1 : List ByteArray) (r : List S_operator_entry) (h : operator_family a0 a1 = some r) : PCall Try.prog 197 [eS a0, (eL 1 eS) a1] ((eL 4 eS_operator_entry) (r)) := by
 unfold operator_family at h
 refine pcl [.one (.sl 4)] Try.func197 (by kernel_rfl) (by kernel_rfl) (by kernel_rfl) ?_
 refine wle 16 (le_nilrow (e := 182) (size := 4) (t := 5) (id := 1) (by decide) (by kernel_rfl) (by kernel_rfl)) (by kernel_rfl) ?_
 refine lp1 0 (fun v1 => ⟨62, [(0, (fS (a0))), (5, (.row 1 (List.length (v1.2)))), (13, (.fz ((eL 1 eS) (a1)))), (14, (fI ((List.length a1 : Int)))), (15, (fI (v1.1)))], [(1, (.frow 182 4 (List.map eS_operator_entry (v1.2))))], [1], []⟩) (.exit 0) (fun v14 => ⟨62, [(5, (.row 1 (List.length (v14))))], [(1, (.frow 182 4 (List.map eS_operator_entry (v14))))], [1], []⟩) h (by kernel_rfl) (by kernel_rfl) (fun v1 r h => ?_) fun v14 h => ?_
 ·unfold operator_family_l2 at h
  refine cd 5 h (by kernel_rfl) (fun h => ?_) fun h => ?_
  ·refine ix nS 5 h (by kernel_rfl) fun v2 h => ?_
   refine cl 6 h (strings_Cut_ok _ _) (by kernel_rfl) fun v3 h => ?_
   refine wle 31 (le_nilcell (e2 := 182) (e := 3) (size := 1) (id2 := 2) (j := 1) (id := 3) (cells := [(fS (v3.1)), (.fz (.atom (.slice none 0 0))), (fI (0)), (fS (a0))]) (by kernel_rfl) (by kernel_rfl) (by kernel_rfl) (by kernel_rfl)) (by kernel_rfl) ?_
   refine lp1 0 (fun v4 => ⟨62, [(0, (fS (a0))), (5, (.row 1 (List.length (v1.2)))), (9, (fS (v3.2.1))), (11, (.ref 2 0 0)), (13, (.fz ((eL 1 eS) (a1)))), (14, (fI ((List.length a1 : Int)))), (15, (fI (v1.1))), (32, (fI ((w64 ((v3.2.1.size : Int) - 1))))), (33, (fI (v4.1)))], [(1, (.frow 182 4 (List.map eS_operator_entry (v1.2)))), (2, (.box 182 [(fS (v3.1)), (.row 3 (List.length (v4.2))), (fI (0)), (fS (a0))])), (3, (.frow 3 1 (List.map eI (v4.2))))], [3, 2, 1], []⟩) (.exit 2) (fun v9 => ⟨62, [(0, (fS (a0))), (5, (.row 1 (List.length (v1.2)))), (9, (fS (v3.2.1))), (11, (.ref 2 0 0)), (13, (.fz ((eL 1 eS) (a1)))), (14, (fI ((List.length a1 : Int)))), (15, (fI (v1.1)))], [(1, (.frow 182 4 (List.map eS_operator_entry (v1.2)))), (2, (.box 182 [(fS (v3.1)), (.row 3 (List.length (v9))), (fI (0)), (fS (a0))])), (3, (.frow 3 1 (List.map eI (v9))))], [3, 2, 1], []⟩) h (by kernel_rfl) (by kernel_rfl) (fun v4 r h => ?_) fun v9 h => ?_
   ·unfold operator_family_l1 at h
    refine cd 5 h (by kernel_rfl) (fun h => ?_) fun h => ?_
    ·refine dw 8 8 (by kernel_rfl) ?_
     refine byx 5 h (by kernel_rfl) fun v5 h => ?_
     refine cl 0 h (operator_typeOf_ok _) (by kernel_rfl) fun v6 h => ?_
     refine ap nI 2 h (by kernel_rfl) fun v7 h => ?_
     cases h; exact lj 8 (by kernel_rfl)
    cases h; exact lo 1 (by kernel_rfl)
   refine byx 6 h (by kernel_rfl) fun v10 h => ?_
   refine cl 0 h (operator_typeOf_ok _) (by kernel_rfl) fun v11 h => ?_
   refine wle 7 (LeSt.trans (show LeSt _ ⟨62, [(0, (fS (a0))), (13, (.fz ((eL 1 eS) (a1)))), (14, (fI ((List.length a1 : Int)))), (15, (fI (v1.1))), (56, (.row 1 (List.length (v1.2)))), (57, (.agg [(fS (v3.1)), (.row 3 (List.length (v9))), (fI (v11)), (fS (a0))]))], [(1, (.frow 182 4 (List.map eS_operator_entry (v1.2)))), (3, (.frow 3 1 (List.map eI (v9))))], [3, 1], []⟩ from le_a (by kernel_rfl)) (LeSt.trans (le_frz 3 (n := List.length (v9)) (k := 1) (e := 3) (size := 1) (xs := List.map eI (v9)) (by kernel_rfl) (by simp) (by kernel_rfl)) (show LeSt _ ⟨62, [(0, (fS (a0))), (13, (.fz ((eL 1 eS) (a1)))), (14, (fI ((List.length a1 : Int)))), (15, (fI (v1.1))), (56, (.row 1 (List.length (v1.2)))), (57, (.fz (.agg [(eS (v3.1)), ((eL 1 eI) (v9)), (eI (v11)), (eS (a0))])))], [(1, (.frow 182 4 (List.map eS_operator_entry (v1.2))))], [3, 1], []⟩ from le_a (by kernel_rfl)))) (by kernel_rfl) ?_
   refine ap nS_operator_entry 1 h (by kernel_rfl) fun v12 h => ?_
   cases h; exact lj 6 (by kernel_rfl)
  cases h; exact lo 1 (by kernel_rfl)
 refine wle 5 (le_freeze (t := 4) (id := 1) (n := List.length (v14)) (e := 182) (size := 4) (xs := List.map eS_operator_entry (v14)) (by kernel_rfl) (by kernel_rfl) (by simp)) (by kernel_rfl) ?_
 cases h; exact lq 1 (by kernel_rfl)

def operator_catalog_l1 (v1 : List S_operator_entry) (v2 : List S_operator_entry) (v3 : List S_operator_entry) (v4 : List S_operator_entry) (v5 : List S_operator_entry) (v6 : List S_operator_entry) (v7 : List S_operator_entry) (v8 : (Int) × (List S_operator_entry)) : Option (((Int) × (List S_operator_entry)) ⊕ ((List S_operator_entry))) := (bif (decide (v8.1 < (List.length ([v1, v2, v3, v4, v5, v6, v7] : List (List S_operator_entry)) : Int))) then (Option.bind (idx ([v1, v2, v3, v4, v5, v6, v7] : List (List S_operator_entry)) v8.1) fun v9 => (Option.bind (app 64 v8.2 v9) fun v10 => (some (.inl ((w64 (v8.1 + 1)), v10))))) else (some (.inr (v8.2))))
def operator_catalog  : Option (List S_operator_entry) := (Option.bind (operator_family ((⟨#[108, 111, 103, 105, 99]⟩ : ByteArray)) (([(⟨#[97, 110, 100, 58, 66, 66, 66]⟩ : ByteArray), (⟨#[111, 114, 58, 66, 66, 66]⟩ : ByteArray), (⟨#[110, 111, 116, 58, 66, 66]⟩ : ByteArray), (⟨#[105, 102, 105, 110, 116, 58, 66, 73, 73, 73]⟩ : ByteArray), (⟨#[105, 102, 116, 101, 120, 116, 58, 66, 84, 84, 84]⟩ : ByteArray), (⟨#[105, 102, 98, 105, 116, 115, 58, 66, 86, 86, 86]⟩ : ByteArray)] : List (ByteArray)))) fun v1 => (Option.bind (operator_family ((⟨#[110, 117, 109, 98, 101, 114, 115]⟩ : ByteArray)) (([(⟨#[97, 100, 100, 58, 73, 73, 73]⟩ : ByteArray), (⟨#[115, 117, 98, 58, 73, 73, 73]⟩ : ByteArray), (⟨#[109, 117, 108, 58, 73, 73, 73]⟩ : ByteArray), (⟨#[110, 101, 103, 58, 73, 73]⟩ : ByteArray), (⟨#[109, 105, 110, 58, 73, 73, 73]⟩ : ByteArray), (⟨#[109, 97, 120, 58, 73, 73, 73]⟩ : ByteArray), (⟨#[101, 113, 105, 110, 116, 58, 73, 73, 66]⟩ : ByteArray), (⟨#[108, 101, 115, 115, 58, 73, 73, 66]⟩ : ByteArray)] : List (ByteArray)))) fun v2 => (Option.bind (operator_family ((⟨#[116, 101, 120, 116, 115]⟩ : ByteArray)) (([(⟨#[99, 111, 110, 99, 97, 116, 58, 84, 84, 84]⟩ : ByteArray), (⟨#[115, 108, 105, 99, 101, 58, 84, 73, 73, 84]⟩ : ByteArray), (⟨#[108, 101, 110, 58, 84, 73]⟩ : ByteArray), (⟨#[117, 112, 112, 101, 114, 58, 84, 84]⟩ : ByteArray), (⟨#[108, 111, 119, 101, 114, 58, 84, 84]⟩ : ByteArray), (⟨#[116, 114, 105, 109, 58, 84, 84]⟩ : ByteArray), (⟨#[102, 105, 110, 100, 58, 84, 84, 73]⟩ : ByteArray), (⟨#[114, 101, 112, 108, 97, 99, 101, 58, 84, 84, 84, 84]⟩ : ByteArray), (⟨#[119, 111, 114, 100, 58, 84, 73, 84]⟩ : ByteArray), (⟨#[99, 104, 97, 114, 58, 84, 73, 84]⟩ : ByteArray), (⟨#[114, 101, 112, 101, 97, 116, 58, 84, 73, 84]⟩ : ByteArray), (⟨#[115, 104, 111, 119, 58, 73, 84]⟩ : ByteArray), (⟨#[114, 101, 97, 100, 58, 84, 73]⟩ : ByteArray), (⟨#[101, 113, 116, 101, 120, 116, 58, 84, 84, 66]⟩ : ByteArray), (⟨#[115, 112, 108, 105, 116, 58, 84, 84, 83]⟩ : ByteArray), (⟨#[106, 111, 105, 110, 58, 83, 84, 84]⟩ : ByteArray), (⟨#[105, 116, 101, 109, 58, 83, 73, 84]⟩ : ByteArray), (⟨#[115, 111, 114, 116, 116, 101, 120, 116, 115, 58, 83, 83]⟩ : ByteArray), (⟨#[114, 101, 118, 116, 101, 120, 116, 115, 58, 83, 83]⟩ : ByteArray)] : List (ByteArray)))) fun v3 => (Option.bind (operator_family ((⟨#[112, 97, 116, 116, 101, 114, 110, 115]⟩ : ByteArray)) (([(⟨#[115, 116, 97, 114, 116, 58, 84, 80, 73, 73]⟩ : ByteArray), (⟨#[101, 110, 100, 58, 84, 80, 73, 73]⟩ : ByteArray), (⟨#[101, 120, 116, 114, 97, 99, 116, 58, 84, 80, 73, 84]⟩ : ByteArray), (⟨#[101, 114, 97, 115, 101, 58, 84, 80, 84]⟩ : ByteArray), (⟨#[111, 99, 99, 117, 114, 115, 58, 84, 80, 73]⟩ : ByteArray), (⟨#[109, 97, 116, 99, 104, 101, 115, 58, 84, 80, 66]⟩ : ByteArray), (⟨#[112, 108, 105, 116, 58, 84, 80]⟩ : ByteArray), (⟨#[112, 99, 97, 116, 58, 80, 80, 80]⟩ : ByteArray), (⟨#[112, 97, 108, 116, 58, 80, 80, 80]⟩ : ByteArray), (⟨#[112, 115, 116, 97, 114, 58, 80, 80]⟩ : ByteArray)] : List (ByteArray)))) fun v4 => (Option.bind (operator_family ((⟨#[108, 105, 115, 116, 115]⟩ : ByteArray)) (([(⟨#[104, 101, 97, 100, 58, 76, 73]⟩ : ByteArray), (⟨#[108, 97, 115, 116, 58, 76, 73]⟩ : ByteArray), (⟨#[116, 97, 107, 101, 58, 76, 73, 76]⟩ : ByteArray), (⟨#[100, 114, 111, 112, 58, 76, 73, 76]⟩ : ByteArray), (⟨#[114, 101, 118, 101, 114, 115, 101, 58, 76, 76]⟩ : ByteArray), (⟨#[115, 111, 114, 116, 58, 76, 76]⟩ : ByteArray), (⟨#[117, 110, 105, 113, 117, 101, 58, 76, 76]⟩ : ByteArray), (⟨#[115, 117, 109, 58, 76, 73]⟩ : ByteArray), (⟨#[115, 104, 105, 102, 116, 58, 76, 73, 76]⟩ : ByteArray), (⟨#[115, 99, 97, 108, 101, 58, 76, 73, 76]⟩ : ByteArray), (⟨#[97, 98, 111, 118, 101, 58, 76, 73, 76]⟩ : ByteArray), (⟨#[101, 118, 101, 110, 58, 76, 76]⟩ : ByteArray), (⟨#[122, 105, 112, 58, 76, 76, 76]⟩ : ByteArray), (⟨#[97, 112, 112, 101, 110, 100, 58, 76, 76, 76]⟩ : ByteArray), (⟨#[101, 108, 101, 109, 101, 110, 116, 58, 76, 73, 73]⟩ : ByteArray), (⟨#[99, 111, 117, 110, 116, 58, 76, 73, 73]⟩ : ByteArray), (⟨#[109, 97, 120, 105, 109, 117, 109, 58, 76, 73]⟩ : ByteArray), (⟨#[109, 105, 110, 105, 109, 117, 109, 58, 76, 73]⟩ : ByteArray), (⟨#[114, 117, 110, 110, 105, 110, 103, 58, 76, 76]⟩ : ByteArray), (⟨#[108, 101, 110, 103, 116, 104, 58, 76, 73]⟩ : ByteArray)] : List (ByteArray)))) fun v5 => (Option.bind (operator_family ((⟨#[116, 97, 98, 108, 101, 115]⟩ : ByteArray)) (([(⟨#[116, 114, 97, 110, 115, 112, 111, 115, 101, 58, 77, 77]⟩ : ByteArray), (⟨#[114, 111, 119, 58, 77, 73, 83]⟩ : ByteArray), (⟨#[99, 111, 108, 117, 109, 110, 58, 77, 73, 83]⟩ : ByteArray), (⟨#[100, 114, 111, 112, 114, 111, 119, 58, 77, 73, 77]⟩ : ByteArray), (⟨#[100, 114, 111, 112, 99, 111, 108, 117, 109, 110, 58, 77, 73, 77]⟩ : ByteArray), (⟨#[115, 111, 114, 116, 116, 97, 98, 108, 101, 58, 77, 73, 77]⟩ : ByteArray), (⟨#[102, 105, 108, 108, 58, 77, 77]⟩ : ByteArray), (⟨#[117, 110, 112, 105, 118, 111, 116, 58, 77, 73, 77]⟩ : ByteArray), (⟨#[112, 105, 118, 111, 116, 58, 77, 77]⟩ : ByteArray), (⟨#[99, 101, 108, 108, 58, 77, 73, 73, 84]⟩ : ByteArray), (⟨#[115, 116, 97, 99, 107, 58, 77, 77, 77]⟩ : ByteArray), (⟨#[98, 101, 115, 105, 100, 101, 58, 77, 77, 77]⟩ : ByteArray), (⟨#[115, 112, 108, 105, 116, 99, 111, 108, 117, 109, 110, 58, 77, 73, 84, 77]⟩ : ByteArray)] : List (ByteArray)))) fun v6 => (Option.bind (operator_family ((⟨#[98, 105, 116, 115]⟩ : ByteArray)) (([(⟨#[98, 97, 110, 100, 58, 86, 86, 86]⟩ : ByteArray), (⟨#[98, 111, 114, 58, 86, 86, 86]⟩ : ByteArray), (⟨#[98, 120, 111, 114, 58, 86, 86, 86]⟩ : ByteArray), (⟨#[98, 110, 111, 116, 58, 86, 86]⟩ : ByteArray), (⟨#[98, 97, 100, 100, 58, 86, 86, 86]⟩ : ByteArray), (⟨#[98, 115, 117, 98, 58, 86, 86, 86]⟩ : ByteArray), (⟨#[98, 109, 117, 108, 58, 86, 86, 86]⟩ : ByteArray), (⟨#[98, 108, 101, 102, 116, 58, 86, 73, 86]⟩ : ByteArray), (⟨#[98, 114, 105, 103, 104, 116, 58, 86, 73, 86]⟩ : ByteArray), (⟨#[98, 97, 114, 105, 116, 104, 58, 86, 73, 86]⟩ : ByteArray), (⟨#[111, 110, 101, 115, 58, 86, 73]⟩ : ByteArray), (⟨#[101, 113, 98, 105, 116, 115, 58, 86, 86, 66]⟩ : ByteArray)] : List (ByteArray)))) fun v7 => (Option.bind (loopN (operator_catalog_l1 v1 v2 v3 v4 v5 v6 v7) fuel (0, ([] : List (S_operator_entry)))) fun (v12 : (List S_operator_entry)) => (some v12)))))))))
theorem operator_catalog_ok  (r : List S_operator_entry) (h : operator_catalog  = some r) : PCall Try.prog 193 [] ((eL 4 eS_operator_entry) (r)) := by
 unfold operator_catalog at h
 refine pcl [.one (.sl 4)] Try.func193 (by kernel_rfl) (by kernel_rfl) (by kernel_rfl) ?_
 refine cl 12 h (operator_family_ok _ _) (by kernel_rfl) fun v1 h => ?_
 refine cl 1 h (operator_family_ok _ _) (by kernel_rfl) fun v2 h => ?_
 refine cl 1 h (operator_family_ok _ _) (by kernel_rfl) fun v3 h => ?_
 refine cl 1 h (operator_family_ok _ _) (by kernel_rfl) fun v4 h => ?_
 refine cl 1 h (operator_family_ok _ _) (by kernel_rfl) fun v5 h => ?_
 refine cl 1 h (operator_family_ok _ _) (by kernel_rfl) fun v6 h => ?_
 refine cl 1 h (operator_family_ok _ _) (by kernel_rfl) fun v7 h => ?_
 refine wle 5 (le_nilrow (e := 182) (size := 4) (t := 1) (id := 1) (by decide) (by kernel_rfl) (by kernel_rfl)) (by kernel_rfl) ?_
 refine lp1 0 (fun v8 => ⟨29, [(1, (.row 1 (List.length (v8.2)))), (18, (.lim 1 (List.length (([v1, v2, v3, v4, v5, v6, v7] : List (List S_operator_entry)))) (List.map (eL 4 eS_operator_entry) (([v1, v2, v3, v4, v5, v6, v7] : List (List S_operator_entry)))))), (19, (fI ((List.length ([v1, v2, v3, v4, v5, v6, v7] : List (List S_operator_entry)) : Int)))), (20, (fI (v8.1)))], [(1, (.frow 182 4 (List.map eS_operator_entry (v8.2))))], [1], []⟩) (.exit 0) (fun v12 => ⟨29, [(1, (.row 1 (List.length (v12))))], [(1, (.frow 182 4 (List.map eS_operator_entry (v12))))], [1], []⟩) h (by kernel_rfl) (by kernel_rfl) (fun v8 r h => ?_) fun v12 h => ?_
 ·unfold operator_catalog_l1 at h
  refine cd 5 h (by kernel_rfl) (fun h => ?_) fun h => ?_
  ·refine ix (nL 4 nS_operator_entry) 5 h (by kernel_rfl) fun v9 h => ?_
   refine ap nS_operator_entry 6 h (by kernel_rfl) fun v10 h => ?_
   cases h; exact lj 6 (by kernel_rfl)
  cases h; exact lo 1 (by kernel_rfl)
 refine wle 5 (le_freeze (t := 0) (id := 1) (n := List.length (v12)) (e := 182) (size := 4) (xs := List.map eS_operator_entry (v12)) (by kernel_rfl) (by kernel_rfl) (by simp)) (by kernel_rfl) ?_
 cases h; exact lq 1 (by kernel_rfl)

def operator_find_m0 : List (Nat × AObj) := [(1, (.box 182 [(fS ((⟨#[]⟩ : ByteArray))), (.fz (.atom (.slice none 0 0))), (fI (0)), (fS ((⟨#[]⟩ : ByteArray)))]))]
def operator_find_l1 (a0 : ByteArray) (v1 : List S_operator_entry) (v2 : (Int)) : Option (((Int)) ⊕ (((Unit) ⊕ ((S_operator_entry) × (Bool))))) := (bif (decide (v2 < (List.length v1 : Int))) then (Option.bind (idx v1 v2) fun v3 => (bif (v3.f_Operator.f_Name.toList == a0.toList) then (some (.inr (.inr (v3, true)))) else (some (.inl ((w64 (v2 + 1))))))) else (some (.inr (.inl ()))))
def operator_find (a0 : ByteArray) : Option ((S_operator_entry) × (Bool)) := (Option.bind (operator_catalog ) fun v1 => (Option.bind (loopN (operator_find_l1 a0 v1) fuel (0)) fun (v4 : ((Unit) ⊕ ((S_operator_entry) × (Bool)))) => Sum.elim (fun v5 => (some ((S_operator_entry.mk ((S_api_Operator.mk ((⟨#[]⟩ : ByteArray)) (([] : List Int)) (0))) ((⟨#[]⟩ : ByteArray))), false))) (fun v6 => (some v6)) v4))
theorem operator_find_ok (a0 : ByteArray) (r : (S_operator_entry) × (Bool)) (h : operator_find a0 = some r) : PCall Try.prog 190 [eS a0] (.tup [eS_operator_entry (r.1), eB (r.2)]) := by
 unfold operator_find at h
 refine pcl [.ag [.keep, .sl 1, .keep, .keep], .one .keep] Try.func190 (by kernel_rfl) (by kernel_rfl) (by kernel_rfl) ?_
 refine cl 8 h (operator_catalog_ok) (by kernel_rfl) fun v1 h => ?_
 refine lpx 4 (fun v2 => ⟨20, [(0, (fS (a0))), (2, (.ref 1 0 0)), (6, (.fz ((eL 4 eS_operator_entry) (v1)))), (7, (fI ((List.length v1 : Int)))), (8, (fI (v2)))], (operator_find_m0), [1], []⟩) (fun v4 e st => Sum.elim (fun p => e = .exit 0 ∧ LeSt st ⟨20, [(2, (.ref 1 0 0))], (operator_find_m0), [1], []⟩) (fun p => e = .ret ∧ retX TT st Try.f190.results.toList [.ag [.keep, .sl 1, .keep, .keep], .one .keep] = some (.tup [eS_operator_entry (p.1), eB (p.2)])) v4) h (by kernel_rfl) (le_a (by kernel_rfl)) (fun v2 r h => ?_) fun v4 h e st' hq => ?_
 ·unfold operator_find_l1 at h
  refine cd 5 h (by kernel_rfl) (fun h => ?_) fun h => ?_
  ·refine ix nS_operator_entry 5 h (by kernel_rfl) fun v3 h => ?_
   refine cd 12 h (by kernel_rfl) (fun h => ?_) fun h => ?_
   ·cases h; exact lor 7 (by kernel_rfl)
   cases h; exact lj 5 (by kernel_rfl)
  cases h; exact lo 1 (by kernel_rfl)
 rcases v4 with v5 | v6
 ·try simp only [Sum.elim_inl, Sum.elim_inr] at h
  obtain ⟨rfl, hle⟩ := hq
  refine ⟨_, hle, ?_⟩
  cases h; exact lq 7 (by kernel_rfl)
 ·try simp only [Sum.elim_inl, Sum.elim_inr] at h
  obtain ⟨rfl, hret⟩ := hq
  refine ⟨_, LeSt.refl, ?_⟩
  cases h; exact lv hret

def operator_Find (a0 : ByteArray) : Option ((S_api_Operator) × (Bool)) := (Option.bind (operator_find (a0)) fun v1 => (some (v1.1.f_Operator, v1.2)))
theorem operator_Find_ok (a0 : ByteArray) (r : (S_api_Operator) × (Bool)) (h : operator_Find a0 = some r) : PCall Try.prog 177 [eS a0] (.tup [eS_api_Operator (r.1), eB (r.2)]) := by
 unfold operator_Find at h
 refine pcl [.ag [.keep, .sl 1, .keep], .one .keep] Try.func177 (by kernel_rfl) (by kernel_rfl) (by kernel_rfl) ?_
 refine cl 8 h (operator_find_ok _) (by kernel_rfl) fun v1 h => ?_
 cases h; exact lq 16 (by kernel_rfl)

def grammar_rule_m0 (a0 : La) (a1 : Ru) : List (Nat × AObj) := [(1, (.box 27 [(fS (a0.name)), (.fz ((eL 1 eI) (a0.inputs))), (.fz ((eL 2 eSy) (a0.symbols))), (.fz ((eL 9 eRu) (a0.rules)))])), (2, (.box 67 [(fI (a1.symbol)), (fI (a1.kind)), (fI (a1.input)), (fI (a1.const.type)), (fI (a1.const.num)), (fS (a1.const.text)), (.fz ((eL 4 eVaR) (a1.const.items))), (fS (a1.op)), (.fz ((eL 1 eI) (a1.args)))]))]
def grammar_rule_l1 (a0 : La) (a1 : Ru) (v14 : (S_api_Operator) × (Bool)) (v15 : (Int)) : Option (((Int)) ⊕ (((Unit) ⊕ (Int)))) := (bif (decide (v15 < (List.length a1.args : Int))) then (Option.bind (idx a1.args v15) fun v16 => (Option.bind (grammar_symbol (a0) (v16)) fun v17 => (bif (!v17) then (some (.inr (.inr 1))) else (Option.bind (idx a0.symbols v16) fun v18 => (Option.bind (idx v14.1.f_Args v15) fun v19 => (bif (v18.type != v19) then (some (.inr (.inr 3))) else (some (.inl ((w64 (v15 + 1))))))))))) else (some (.inr (.inl ()))))
def grammar_rule (a0 : La) (a1 : Ru) : Option (Int) := (Option.bind (grammar_symbol (a0) (a1.symbol)) fun v1 => (bif (!v1) then (some 1) else (Option.bind ((bif (decide (a1.kind < 1)) then (some (true)) else (some ((decide (3 < a1.kind))))) : Option ((Bool))) fun (v3 : (Bool)) => (bif v3 then (some 4) else (Option.bind ((bif (a1.kind == 1) then (some (0, a1.const.type, a1.const.num, a1.const.text, a1.const.items, a1.op, a1.args)) else (bif (a1.kind == 2) then (some (a1.input, 0, 0, (⟨#[]⟩ : ByteArray), ([] : List Va), a1.op, a1.args)) else (bif (a1.kind == 3) then (some (a1.input, a1.const.type, a1.const.num, a1.const.text, a1.const.items, (⟨#[]⟩ : ByteArray), ([] : List Int))) else (some (a1.input, a1.const.type, a1.const.num, a1.const.text, a1.const.items, a1.op, a1.args))))) : Option ((Int) × (Int) × (Int) × (ByteArray) × (List Va) × (ByteArray) × (List Int))) fun (v5 : (Int) × (Int) × (Int) × (ByteArray) × (List Va) × (ByteArray) × (List Int)) => (Option.bind (grammar_sameRule ((Ru.mk (a1.symbol) (a1.kind) (v5.1) ((Va.mk (v5.2.1) (v5.2.2.1) (v5.2.2.2.1) (v5.2.2.2.2.1))) (v5.2.2.2.2.2.1) (v5.2.2.2.2.2.2))) ((Ru.mk (a1.symbol) (a1.kind) (0) ((Va.mk (0) (0) ((⟨#[]⟩ : ByteArray)) (([] : List Va)))) ((⟨#[]⟩ : ByteArray)) (([] : List Int))))) fun v6 => (bif (!v6) then (some 4) else (Option.bind (idx a0.symbols a1.symbol) fun v7 => (bif (a1.kind == 1) then (Option.bind ((bif (decide (a1.input < 0)) then (some (true)) else (some ((decide ((List.length a0.inputs : Int) ≤ a1.input))))) : Option ((Bool))) fun (v9 : (Bool)) => (bif v9 then (some 1) else (Option.bind (idx a0.inputs a1.input) fun v10 => (Option.bind (grammar_same (v10) (v7.type)) fun v11 => (some v11))))) else (bif (a1.kind == 2) then (Option.bind (value_Check fuel (a1.const)) fun v12 => (bif (v12 != 0) then (some v12) else (Option.bind (grammar_same (a1.const.type) (v7.type)) fun v13 => (some v13)))) else (Option.bind (operator_Find (a1.op)) fun v14 => (bif (!v14.2) then (some 5) else (bif ((List.length a1.args : Int) != (List.length v14.1.f_Args : Int)) then (some 2) else (Option.bind (loopN (grammar_rule_l1 a0 a1 v14) fuel (0)) fun (v20 : ((Unit) ⊕ (Int))) => Sum.elim (fun v21 => (Option.bind (grammar_same (v14.1.f_Result) (v7.type)) fun v22 => (some v22))) (fun v23 => (some v23)) v20))))))))))))))
theorem grammar_rule_ok (a0 : La) (a1 : Ru) (r : Int) (h : grammar_rule a0 a1 = some r) : PCall Try.prog 145 [eLa a0, eRu a1] (eI (r)) := by
 unfold grammar_rule at h
 refine pcl [.one .keep] Try.func145 (by kernel_rfl) (by kernel_rfl) (by kernel_rfl) ?_
 refine cl 12 h (grammar_symbol_ok _ _) (by kernel_rfl) fun v1 h => ?_
 refine cd 2 h (by kernel_rfl) (fun h => ?_) fun h => ?_
 ·cases h; exact lq 5 (by kernel_rfl)
 refine jn1 3 .normal (fun v3 => ⟨134, [(2, (.ref 1 0 0)), (3, (.ref 2 0 0)), (24, (fB (v3)))], (grammar_rule_m0 a0 a1), [2, 1], []⟩) h (by kernel_rfl) (fun v3 h => ?_) fun v3 h => ?_
 ·refine gd 5 h (by kernel_rfl) (fun h => ?_) fun h => ?_
  ·cases h; exact lj 5 (by kernel_rfl)
  cases h; exact lj 5 (by kernel_rfl)
 refine cd 0 h (by kernel_rfl) (fun h => ?_) fun h => ?_
 ·cases h; exact lq 5 (by kernel_rfl)
 refine jn1 14 .normal (fun v5 => ⟨134, [(2, (.ref 1 0 0)), (3, (.ref 2 0 0)), (5, (.ref 3 0 0))], [(1, (.box 27 [(fS (a0.name)), (.fz ((eL 1 eI) (a0.inputs))), (.fz ((eL 2 eSy) (a0.symbols))), (.fz ((eL 9 eRu) (a0.rules)))])), (2, (.box 67 [(fI (a1.symbol)), (fI (a1.kind)), (fI (a1.input)), (fI (a1.const.type)), (fI (a1.const.num)), (fS (a1.const.text)), (.fz ((eL 4 eVaR) (a1.const.items))), (fS (a1.op)), (.fz ((eL 1 eI) (a1.args)))])), (3, (.box 67 [(fI (a1.symbol)), (fI (a1.kind)), (fI (v5.1)), (fI (v5.2.1)), (fI (v5.2.2.1)), (fS (v5.2.2.2.1)), (.fz ((eL 4 eVaR) (v5.2.2.2.2.1))), (fS (v5.2.2.2.2.2.1)), (.fz ((eL 1 eI) (v5.2.2.2.2.2.2)))]))], [3, 2, 1], []⟩) h (by kernel_rfl) (fun v5 h => ?_) fun v5 h => ?_
 ·refine cd 5 h (by kernel_rfl) (fun h => ?_) fun h => ?_
  ·cases h; exact lj 4 (by kernel_rfl)
  refine cd 5 h (by kernel_rfl) (fun h => ?_) fun h => ?_
  ·cases h; exact lj 5 (by kernel_rfl)
  refine cd 5 h (by kernel_rfl) (fun h => ?_) fun h => ?_
  ·cases h; exact lj 6 (by kernel_rfl)
  cases h; exact lj 1 (by kernel_rfl)
 refine cl 9 h (grammar_sameRule_ok _ _) (by kernel_rfl) fun v6 h => ?_
 refine cd 2 h (by kernel_rfl) (fun h => ?_) fun h => ?_
 ·cases h; exact lq 5 (by kernel_rfl)
 refine ix nSy 7 h (by kernel_rfl) fun v7 h => ?_
 refine cd 16 h (by kernel_rfl) (fun h => ?_) fun h => ?_
 ·refine jn1 2 .normal (fun v9 => ⟨134, [(2, (.ref 1 0 0)), (3, (.ref 2 0 0)), (6, (fI (v7.type))), (68, (fB (v9)))], (grammar_rule_m0 a0 a1), [2, 1], []⟩) h (by kernel_rfl) (fun v9 h => ?_) fun v9 h => ?_
  ·refine gd 5 h (by kernel_rfl) (fun h => ?_) fun h => ?_
   ·cases h; exact lj 8 (by kernel_rfl)
   cases h; exact lj 8 (by kernel_rfl)
  refine cd 0 h (by kernel_rfl) (fun h => ?_) fun h => ?_
  ·cases h; exact lq 5 (by kernel_rfl)
  refine ix nI 7 h (by kernel_rfl) fun v10 h => ?_
  refine cl 2 h (grammar_same_ok _ _) (by kernel_rfl) fun v11 h => ?_
  cases h; exact lq 3 (by kernel_rfl)
 refine cd 5 h (by kernel_rfl) (fun h => ?_) fun h => ?_
 ·refine cl 5 h (value_Check_ok _ _) (by kernel_rfl) fun v12 h => ?_
  refine cd 7 h (by kernel_rfl) (fun h => ?_) fun h => ?_
  ·cases h; exact lq 6 (by kernel_rfl)
  refine cl 7 h (grammar_same_ok _ _) (by kernel_rfl) fun v13 h => ?_
  cases h; exact lq 3 (by kernel_rfl)
 refine cl 5 h (operator_Find_ok _) (by kernel_rfl) fun v14 h => ?_
 refine cd 13 h (by kernel_rfl) (fun h => ?_) fun h => ?_
 ·cases h; exact lq 5 (by kernel_rfl)
 refine cd 12 h (by kernel_rfl) (fun h => ?_) fun h => ?_
 ·cases h; exact lq 5 (by kernel_rfl)
 refine lpx 10 (fun v15 => ⟨134, [(2, (.ref 1 0 0)), (6, (fI (v7.type))), (8, (.ref 4 0 0)), (106, (.fz ((eL 1 eI) (a1.args)))), (107, (fI ((List.length a1.args : Int)))), (108, (fI (v15)))], [(1, (.box 27 [(fS (a0.name)), (.fz ((eL 1 eI) (a0.inputs))), (.fz ((eL 2 eSy) (a0.symbols))), (.fz ((eL 9 eRu) (a0.rules)))])), (4, (.box 171 [(fS (v14.1.f_Name)), (.fz ((eL 1 eI) (v14.1.f_Args))), (fI (v14.1.f_Result))]))], [4, 1], []⟩) (fun v20 e st => Sum.elim (fun p => e = .exit 2 ∧ LeSt st ⟨134, [(6, (fI (v7.type))), (8, (.ref 4 0 0))], [(4, (.box 171 [(fS (v14.1.f_Name)), (.fz ((eL 1 eI) (v14.1.f_Args))), (fI (v14.1.f_Result))]))], [4], []⟩) (fun p => e = .ret ∧ retX TT st Try.f145.results.toList [.one .keep] = some (eI (p))) v20) h (by kernel_rfl) (le_a (by kernel_rfl)) (fun v15 r h => ?_) fun v20 h e st' hq => ?_
 ·unfold grammar_rule_l1 at h
  refine cd 5 h (by kernel_rfl) (fun h => ?_) fun h => ?_
  ·refine ix nI 6 h (by kernel_rfl) fun v16 h => ?_
   refine cl 9 h (grammar_symbol_ok _ _) (by kernel_rfl) fun v17 h => ?_
   refine cd 2 h (by kernel_rfl) (fun h => ?_) fun h => ?_
   ·cases h; exact lor 5 (by kernel_rfl)
   refine dw 2 11 (by kernel_rfl) ?_
   refine ix nSy 3 h (by kernel_rfl) fun v18 h => ?_
   refine ix nI 5 h (by kernel_rfl) fun v19 h => ?_
   refine cd 4 h (by kernel_rfl) (fun h => ?_) fun h => ?_
   ·cases h; exact lor 5 (by kernel_rfl)
   cases h; exact lj 5 (by kernel_rfl)
  cases h; exact lo 1 (by kernel_rfl)
 rcases v20 with v21 | v23
 ·try simp only [Sum.elim_inl, Sum.elim_inr] at h
  obtain ⟨rfl, hle⟩ := hq
  refine ⟨_, hle, ?_⟩
  refine cl 5 h (grammar_same_ok _ _) (by kernel_rfl) fun v22 h => ?_
  cases h; exact lq 3 (by kernel_rfl)
 ·try simp only [Sum.elim_inl, Sum.elim_inr] at h
  obtain ⟨rfl, hret⟩ := hq
  refine ⟨_, LeSt.refl, ?_⟩
  cases h; exact lv hret

def grammar_Check_1_h (a0 : Ru) (a1 : Ru) : Option ((Bool)) := (Option.bind (grammar_sameRule (a0) (a1)) fun v1 => (some (v1)))
theorem grammar_Check_1_h_ok (a0 : Ru) (a1 : Ru) (r : (Bool)) (h : grammar_Check_1_h a0 a1 = some r) : HCall Try.prog 147 ([(.fz (eRu (a0)))] ++ [(.ref 1 0 0)]) [(1, (.box 67 [(fI (a1.symbol)), (fI (a1.kind)), (fI (a1.input)), (fI (a1.const.type)), (fI (a1.const.num)), (fS (a1.const.text)), (.fz ((eL 4 eVaR) (a1.const.items))), (fS (a1.op)), (.fz ((eL 1 eI) (a1.args)))]))] [1] (.ret (fB (r))) [(1, (.box 67 [(fI (a1.symbol)), (fI (a1.kind)), (fI (a1.input)), (fI (a1.const.type)), (fI (a1.const.num)), (fS (a1.const.text)), (.fz ((eL 4 eVaR) (a1.const.items))), (fS (a1.op)), (.fz ((eL 1 eI) (a1.args)))]))] [1] := by
 unfold grammar_Check_1_h at h
 refine hcx (gi := 0) Try.func147 (by kernel_rfl) (by kernel_rfl) (by kernel_rfl) (by kernel_rfl) (by kernel_rfl) (by kernel_rfl) (by kernel_rfl) (by kernel_rfl) ?_
 intro p0 q0 w0
 refine cl 9 h (grammar_sameRule_ok _ _) (by kernel_rfl) fun v1 h => ?_
 obtain rfl := Option.some.inj h; exact lh 3 ⟨7, [(3, (fB (v1)))], [(0, (.was p0 [1] q0 w0)), (1, (.box 67 [(fI (a1.symbol)), (fI (a1.kind)), (fI (a1.input)), (fI (a1.const.type)), (fI (a1.const.num)), (fS (a1.const.text)), (.fz ((eL 4 eVaR) (a1.const.items))), (fS (a1.op)), (.fz ((eL 1 eI) (a1.args)))]))], [0, 1], []⟩ (le_a (by kernel_rfl)) rfl rfl (by kernel_rfl) (by kernel_rfl)

def slices_IndexFunc_api_Rule_api_Rule_h_m0 (p0 : Env) (q0 : Nat → Prop) (w0 : World) (a1 : Ru) : List (Nat × AObj) := [(0, (.was p0 [1] q0 w0)), (1, (.box 67 [(fI (a1.symbol)), (fI (a1.kind)), (fI (a1.input)), (fI (a1.const.type)), (fI (a1.const.num)), (fS (a1.const.text)), (.fz ((eL 4 eVaR) (a1.const.items))), (fS (a1.op)), (.fz ((eL 1 eI) (a1.args)))]))]
def slices_IndexFunc_api_Rule_api_Rule_h_l1 (a0 : List Ru) (a1 : Ru) (v1 : (Int)) : Option (((Int)) ⊕ (((Unit) ⊕ ((Int))))) := (bif (decide (v1 < (List.length a0 : Int))) then (Option.bind (idx a0 v1) fun v2 => (Option.bind (grammar_Check_1_h (v2) (a1)) fun v3 => (bif v3 then (some (.inr (.inr (v1)))) else (some (.inl ((w64 (v1 + 1)))))))) else (some (.inr (.inl ()))))
def slices_IndexFunc_api_Rule_api_Rule_h (a0 : List Ru) (a1 : Ru) : Option ((Int)) := (Option.bind (loopN (slices_IndexFunc_api_Rule_api_Rule_h_l1 a0 a1) fuel (0)) fun (v4 : ((Unit) ⊕ ((Int)))) => Sum.elim (fun v5 => (some ((-1)))) (fun v6 => (some (v6))) v4)
theorem slices_IndexFunc_api_Rule_api_Rule_h_ok (a0 : List Ru) (a1 : Ru) (r : (Int)) (h : slices_IndexFunc_api_Rule_api_Rule_h a0 a1 = some r) : HCall Try.prog 178 ([(.fz ((eL 9 eRu) (a0))), (.fn 147 [(.ref 1 0 0)])] ++ []) [(1, (.box 67 [(fI (a1.symbol)), (fI (a1.kind)), (fI (a1.input)), (fI (a1.const.type)), (fI (a1.const.num)), (fS (a1.const.text)), (.fz ((eL 4 eVaR) (a1.const.items))), (fS (a1.op)), (.fz ((eL 1 eI) (a1.args)))]))] [1] (.ret (fI (r))) [(1, (.box 67 [(fI (a1.symbol)), (fI (a1.kind)), (fI (a1.input)), (fI (a1.const.type)), (fI (a1.const.num)), (fS (a1.const.text)), (.fz ((eL 4 eVaR) (a1.const.items))), (fS (a1.op)), (.fz ((eL 1 eI) (a1.args)))]))] [1] := by
 unfold slices_IndexFunc_api_Rule_api_Rule_h at h
 refine hcx (gi := 0) Try.func178 (by kernel_rfl) (by kernel_rfl) (by kernel_rfl) (by kernel_rfl) (by kernel_rfl) (by kernel_rfl) (by kernel_rfl) (by kernel_rfl) ?_
 intro p0 q0 w0
 refine lpx 12 (fun v1 => ⟨19, [(0, (.fz ((eL 9 eRu) (a0)))), (1, (.fn 147 [(.ref 1 0 0)])), (7, (fI ((List.length a0 : Int)))), (8, (fI (v1)))], (slices_IndexFunc_api_Rule_api_Rule_h_m0 p0 q0 w0 a1), [0, 1], []⟩) (fun v4 e st => Sum.elim (fun p => e = .exit 0 ∧ LeSt st ⟨19, [], (slices_IndexFunc_api_Rule_api_Rule_h_m0 p0 q0 w0 a1), [0, 1], []⟩) (fun p => e = .ret ∧ LeSt st ⟨19, [(4, (fI (p)))], (slices_IndexFunc_api_Rule_api_Rule_h_m0 p0 q0 w0 a1), [0, 1], []⟩) v4) h (by kernel_rfl) (le_a (by kernel_rfl)) (fun v1 r h => ?_) fun v4 h e st' hq => ?_
 ·unfold slices_IndexFunc_api_Rule_api_Rule_h_l1 at h
  refine cd 5 h (by kernel_rfl) (fun h => ?_) fun h => ?_
  ·refine ix nRu 13 h (by kernel_rfl) fun v2 h => ?_
   refine hcl 1 [.one .keep] [(1, 1)] [(1, 1)] [1] h (grammar_Check_1_h_ok _ _) (fun _ => by kernel_rfl) fun v3 h => ?_
   refine cd 1 h (by kernel_rfl) (fun h => ?_) fun h => ?_
   ·cases h; exact lo 6 (by kernel_rfl)
   cases h; exact lj 5 (by kernel_rfl)
  cases h; exact lo 1 (by kernel_rfl)
 rcases v4 with v5 | v6
 ·try simp only [Sum.elim_inl, Sum.elim_inr] at h
  obtain ⟨rfl, hle⟩ := hq
  refine ⟨_, hle, ?_⟩
  obtain rfl := Option.some.inj h; exact lh 5 ⟨19, [(4, (fI ((-1))))], (slices_IndexFunc_api_Rule_api_Rule_h_m0 p0 q0 w0 a1), [0, 1], []⟩ (le_a (by kernel_rfl)) rfl rfl (by kernel_rfl) (by kernel_rfl)
 ·try simp only [Sum.elim_inl, Sum.elim_inr] at h
  obtain ⟨rfl, hle⟩ := hq
  refine ⟨_, hle, ?_⟩
  obtain rfl := Option.some.inj h; exact lh 0 ⟨19, [(4, (fI (v6)))], (slices_IndexFunc_api_Rule_api_Rule_h_m0 p0 q0 w0 a1), [0, 1], []⟩ (le_a (by kernel_rfl)) rfl rfl (by kernel_rfl) (by kernel_rfl)

def slices_ContainsFunc_api_Rule_api_Rule_h (a0 : List Ru) (a1 : Ru) : Option ((Bool)) := (Option.bind (slices_IndexFunc_api_Rule_api_Rule_h (a0) (a1)) fun v1 => (some ((decide (0 ≤ v1)))))
theorem slices_ContainsFunc_api_Rule_api_Rule_h_ok (a0 : List Ru) (a1 : Ru) (r : (Bool)) (h : slices_ContainsFunc_api_Rule_api_Rule_h a0 a1 = some r) : HCall Try.prog 146 ([(.fz ((eL 9 eRu) (a0))), (.fn 147 [(.ref 1 0 0)])] ++ []) [(1, (.box 67 [(fI (a1.symbol)), (fI (a1.kind)), (fI (a1.input)), (fI (a1.const.type)), (fI (a1.const.num)), (fS (a1.const.text)), (.fz ((eL 4 eVaR) (a1.const.items))), (fS (a1.op)), (.fz ((eL 1 eI) (a1.args)))]))] [1] (.ret (fB (r))) [(1, (.box 67 [(fI (a1.symbol)), (fI (a1.kind)), (fI (a1.input)), (fI (a1.const.type)), (fI (a1.const.num)), (fS (a1.const.text)), (.fz ((eL 4 eVaR) (a1.const.items))), (fS (a1.op)), (.fz ((eL 1 eI) (a1.args)))]))] [1] := by
 unfold slices_ContainsFunc_api_Rule_api_Rule_h at h
 refine hcx (gi := 0) Try.func146 (by kernel_rfl) (by kernel_rfl) (by kernel_rfl) (by kernel_rfl) (by kernel_rfl) (by kernel_rfl) (by kernel_rfl) (by kernel_rfl) ?_
 intro p0 q0 w0
 refine hcl 8 [.one .keep, .one .keep] [(1, 1)] [(1, 1)] [1] h (slices_IndexFunc_api_Rule_api_Rule_h_ok _ _) (fun _ => by kernel_rfl) fun v1 h => ?_
 obtain rfl := Option.some.inj h; exact lh 4 ⟨9, [(4, (fB ((decide (0 ≤ v1)))))], [(0, (.was p0 [1] q0 w0)), (1, (.box 67 [(fI (a1.symbol)), (fI (a1.kind)), (fI (a1.input)), (fI (a1.const.type)), (fI (a1.const.num)), (fS (a1.const.text)), (.fz ((eL 4 eVaR) (a1.const.items))), (fS (a1.op)), (.fz ((eL 1 eI) (a1.args)))]))], [0, 1], []⟩ (le_a (by kernel_rfl)) rfl rfl (by kernel_rfl) (by kernel_rfl)

def grammar_Check_m0 (a0 : La) : List (Nat × AObj) := [(1, (.box 27 [(fS (a0.name)), (.fz ((eL 1 eI) (a0.inputs))), (.fz ((eL 2 eSy) (a0.symbols))), (.fz ((eL 9 eRu) (a0.rules)))]))]
def grammar_Check_l1 (a0 : La) (v15 : (Int)) : Option (((Int)) ⊕ (((Unit) ⊕ (Int)))) := (bif (decide (v15 < (List.length a0.rules : Int))) then (Option.bind (idx a0.rules v15) fun v16 => (Option.bind (grammar_rule (a0) (v16)) fun v17 => (bif (v17 != 0) then (some (.inr (.inr v17))) else (Option.bind (cutL a0.rules 0 v15) fun v18 => (Option.bind (slices_ContainsFunc_api_Rule_api_Rule_h (v18) (v16)) fun v19 => (bif v19 then (some (.inr (.inr 6))) else (some (.inl ((w64 (v15 + 1))))))))))) else (some (.inr (.inl ()))))
def grammar_Check_l2 (a0 : La) (v9 : (Int) × (List (ByteArray × Bool))) : Option (((Int) × (List (ByteArray × Bool))) ⊕ (((Unit) ⊕ (Int)))) := (bif (decide (v9.1 < (List.length a0.symbols : Int))) then (Option.bind (idx a0.symbols v9.1) fun v10 => (Option.bind (grammar_named (v10.name)) fun v11 => (bif (!v11) then (some (.inr (.inr 5))) else (bif (mget v9.2 v10.name false) then (some (.inr (.inr 6))) else (Option.bind (grammar_typed (v10.type)) fun v12 => (bif (!v12) then (some (.inr (.inr 3))) else (some (.inl ((w64 (v9.1 + 1)), (mput v9.2 v10.name true)))))))))) else (some (.inr (.inl ()))))
def grammar_Check_l3 (a0 : La) (v2 : (Int)) : Option (((Int)) ⊕ (((Unit) ⊕ (Int)))) := (bif (decide (v2 < (List.length a0.inputs : Int))) then (Option.bind (idx a0.inputs v2) fun v3 => (Option.bind (grammar_typed (v3)) fun v4 => (bif (!v4) then (some (.inr (.inr 3))) else (some (.inl ((w64 (v2 + 1)))))))) else (some (.inr (.inl ()))))
def grammar_Check (a0 : La) : Option (Int) := (Option.bind (grammar_named (a0.name)) fun v1 => (bif (!v1) then (some 5) else (bif (decide (4 < (List.length a0.inputs : Int))) then (some 2) else (Option.bind (loopN (grammar_Check_l3 a0) fuel (0)) fun (v5 : ((Unit) ⊕ (Int))) => Sum.elim (fun v6 => (Option.bind ((bif (decide ((List.length a0.symbols : Int) < 1)) then (some (true)) else (some ((decide (16 < (List.length a0.symbols : Int)))))) : Option ((Bool))) fun (v8 : (Bool)) => (bif v8 then (some 2) else (Option.bind (loopN (grammar_Check_l2 a0) fuel (0, ([] : List (ByteArray × Bool)))) fun (v13 : ((Unit) ⊕ (Int))) => Sum.elim (fun v14 => (bif (decide (96 < (List.length a0.rules : Int))) then (some 2) else (Option.bind (loopN (grammar_Check_l1 a0) fuel (0)) fun (v20 : ((Unit) ⊕ (Int))) => Sum.elim (fun v21 => (some 0)) (fun v22 => (some v22)) v20))) (fun v23 => (some v23)) v13)))) (fun v24 => (some v24)) v5))))
theorem grammar_Check_ok (a0 : La) (r : Int) (h : grammar_Check a0 = some r) : PCall Try.prog 85 [eLa a0] (eI (r)) := by
 unfold grammar_Check at h
 refine pcl [.one .keep] Try.func85 (by kernel_rfl) (by kernel_rfl) (by kernel_rfl) ?_
 refine cl 10 h (grammar_named_ok _) (by kernel_rfl) fun v1 h => ?_
 refine cd 2 h (by kernel_rfl) (fun h => ?_) fun h => ?_
 ·cases h; exact lq 5 (by kernel_rfl)
 refine cd 9 h (by kernel_rfl) (fun h => ?_) fun h => ?_
 ·cases h; exact lq 5 (by kernel_rfl)
 refine lpx 10 (fun v2 => ⟨92, [(1, (.ref 1 0 0)), (20, (.fz ((eL 1 eI) (a0.inputs)))), (21, (fI ((List.length a0.inputs : Int)))), (22, (fI (v2)))], (grammar_Check_m0 a0), [1], []⟩) (fun v5 e st => Sum.elim (fun p => e = .exit 0 ∧ LeSt st ⟨92, [(1, (.ref 1 0 0))], (grammar_Check_m0 a0), [1], []⟩) (fun p => e = .ret ∧ retX TT st Try.f85.results.toList [.one .keep] = some (eI (p))) v5) h (by kernel_rfl) (le_a (by kernel_rfl)) (fun v2 r h => ?_) fun v5 h e st' hq => ?_
 ·unfold grammar_Check_l3 at h
  refine cd 5 h (by kernel_rfl) (fun h => ?_) fun h => ?_
  ·refine ix nI 5 h (by kernel_rfl) fun v3 h => ?_
   refine cl 6 h (grammar_typed_ok _) (by kernel_rfl) fun v4 h => ?_
   refine cd 2 h (by kernel_rfl) (fun h => ?_) fun h => ?_
   ·cases h; exact lor 5 (by kernel_rfl)
   cases h; exact lj 5 (by kernel_rfl)
  cases h; exact lo 1 (by kernel_rfl)
 rcases v5 with v6 | v24
 ·try simp only [Sum.elim_inl, Sum.elim_inr] at h
  obtain ⟨rfl, hle⟩ := hq
  refine ⟨_, hle, ?_⟩
  refine jn1 2 .normal (fun v8 => ⟨92, [(1, (.ref 1 0 0)), (39, (fB (v8)))], (grammar_Check_m0 a0), [1], []⟩) h (by kernel_rfl) (fun v8 h => ?_) fun v8 h => ?_
  ·refine gd 6 h (by kernel_rfl) (fun h => ?_) fun h => ?_
   ·cases h; exact lj 6 (by kernel_rfl)
   cases h; exact lj 6 (by kernel_rfl)
  refine cd 0 h (by kernel_rfl) (fun h => ?_) fun h => ?_
  ·cases h; exact lq 5 (by kernel_rfl)
  refine sst 3 (e_makeMap (t := 149) (id := 2) (by kernel_rfl) (by kernel_rfl)) (by kernel_rfl) ?_
  refine lpx 11 (fun v9 => ⟨92, [(1, (.ref 1 0 0)), (5, (.mp 2)), (42, (.fz ((eL 2 eSy) (a0.symbols)))), (43, (fI ((List.length a0.symbols : Int)))), (44, (fI (v9.1)))], [(1, (.box 27 [(fS (a0.name)), (.fz ((eL 1 eI) (a0.inputs))), (.fz ((eL 2 eSy) (a0.symbols))), (.fz ((eL 9 eRu) (a0.rules)))])), (2, (.smap (List.map (fun p => (p.1, eB p.2)) (v9.2))))], [2, 1], []⟩) (fun v13 e st => Sum.elim (fun p => e = .exit 2 ∧ LeSt st ⟨92, [(1, (.ref 1 0 0))], (grammar_Check_m0 a0), [1], []⟩) (fun p => e = .ret ∧ retX TT st Try.f85.results.toList [.one .keep] = some (eI (p))) v13) h (by kernel_rfl) (le_a (by kernel_rfl)) (fun v9 r h => ?_) fun v13 h e st' hq => ?_
  ·unfold grammar_Check_l2 at h
   refine cd 5 h (by kernel_rfl) (fun h => ?_) fun h => ?_
   ·refine ix nSy 5 h (by kernel_rfl) fun v10 h => ?_
    refine cl 10 h (grammar_named_ok _) (by kernel_rfl) fun v11 h => ?_
    refine cd 3 h (by kernel_rfl) (fun h => ?_) fun h => ?_
    ·cases h; exact lor 5 (by kernel_rfl)
    refine nst 5 (n_lookup (t := 149) (x := (.tmp 54)) (y := (.tmp 56)) (enc := eB) (m := v9.2) (s := v10.name) (z := false) (id := 2) (d := tt149) (kt := 9) (et := 4) (kd := tt9) (.bool false) (by kernel_rfl) tt_ok rfl (by kernel_rfl) rfl (by kernel_rfl) Try.t4 (by kernel_rfl) (by kernel_rfl) (by kernel_rfl) rfl (by kernel_rfl) (by kernel_rfl) (by kernel_rfl)) (by kernel_rfl) ?_
    refine cd 2 h (by kernel_rfl) (fun h => ?_) fun h => ?_
    ·cases h; exact lor 5 (by kernel_rfl)
    refine cl 4 h (grammar_typed_ok _) (by kernel_rfl) fun v12 h => ?_
    refine cd 3 h (by kernel_rfl) (fun h => ?_) fun h => ?_
    ·cases h; exact lor 5 (by kernel_rfl)
    refine sst 5 (e_mapUpdate (t := 149) (x := (.tmp 63)) (y := (.tmp 65)) (v := (.const (.bool true))) (enc := eB) (m := v9.2) (s := v10.name) (z := true) (id := 2) (d := tt149) (kt := 9) (et := 4) (kd := tt9) (by kernel_rfl) tt_ok rfl (by kernel_rfl) rfl (by kernel_rfl) (by kernel_rfl) (by kernel_rfl) (by kernel_rfl) (by kernel_rfl)) (by kernel_rfl) ?_
    cases h; exact lj 5 (by kernel_rfl)
   cases h; exact lo 1 (by kernel_rfl)
  rcases v13 with v14 | v23
  ·try simp only [Sum.elim_inl, Sum.elim_inr] at h
   obtain ⟨rfl, hle⟩ := hq
   refine ⟨_, hle, ?_⟩
   refine cd 8 h (by kernel_rfl) (fun h => ?_) fun h => ?_
   ·cases h; exact lq 5 (by kernel_rfl)
   refine lpx 10 (fun v15 => ⟨92, [(1, (.ref 1 0 0)), (72, (.fz ((eL 9 eRu) (a0.rules)))), (73, (fI ((List.length a0.rules : Int)))), (74, (fI (v15)))], (grammar_Check_m0 a0), [1], []⟩) (fun v20 e st => Sum.elim (fun p => e = .exit 5 ∧ LeSt st ⟨92, [], [], [], []⟩) (fun p => e = .ret ∧ retX TT st Try.f85.results.toList [.one .keep] = some (eI (p))) v20) h (by kernel_rfl) (le_a (by kernel_rfl)) (fun v15 r h => ?_) fun v20 h e st' hq => ?_
   ·unfold grammar_Check_l1 at h
    refine cd 5 h (by kernel_rfl) (fun h => ?_) fun h => ?_
    ·refine ix nRu 6 h (by kernel_rfl) fun v16 h => ?_
     refine cl 10 h (grammar_rule_ok _ _) (by kernel_rfl) fun v17 h => ?_
     refine cd 7 h (by kernel_rfl) (fun h => ?_) fun h => ?_
     ·cases h; exact lor 6 (by kernel_rfl)
     obtain ⟨v18, hv18, h⟩ := Option.bind_eq_some_iff.1 h
     refine nst 6 (s_cutL (t := 25) (x := (.tmp 86)) (lo := none) (hi := (some (.tmp 87))) (d := tt25) (e := 67) (de := tt67) (size := 9) (enc := eRu) (xs := a0.rules) (l := none) (h := (some v15)) hv18 tt_ok (by kernel_rfl) (by kernel_rfl) (by kernel_rfl) (by kernel_rfl) (by kernel_rfl) (by kernel_rfl) (by kernel_rfl) (by kernel_rfl)) (by kernel_rfl) ?_
     refine hcl 1 [.one .keep, .one .keep] [(2, 1)] [(1, 2)] [1] h (slices_ContainsFunc_api_Rule_api_Rule_h_ok _ _) (fun _ => by kernel_rfl) fun v19 h => ?_
     refine cd 1 h (by kernel_rfl) (fun h => ?_) fun h => ?_
     ·cases h; exact lor 5 (by kernel_rfl)
     cases h; exact lj 5 (by kernel_rfl)
    cases h; exact lo 1 (by kernel_rfl)
   rcases v20 with v21 | v22
   ·try simp only [Sum.elim_inl, Sum.elim_inr] at h
    obtain ⟨rfl, hle⟩ := hq
    refine ⟨_, hle, ?_⟩
    cases h; exact lq 5 (by kernel_rfl)
   ·try simp only [Sum.elim_inl, Sum.elim_inr] at h
    obtain ⟨rfl, hret⟩ := hq
    refine ⟨_, LeSt.refl, ?_⟩
    cases h; exact lv hret
  ·try simp only [Sum.elim_inl, Sum.elim_inr] at h
   obtain ⟨rfl, hret⟩ := hq
   refine ⟨_, LeSt.refl, ?_⟩
   cases h; exact lv hret
 ·try simp only [Sum.elim_inl, Sum.elim_inr] at h
  obtain ⟨rfl, hret⟩ := hq
  refine ⟨_, LeSt.refl, ?_⟩
  cases h; exact lv hret

def term_within_l1 (a0 : Tm) (r86 : (Tm) → (Int) → Option (Int)) (v1 : (Int) × (Int)) : Option (((Int) × (Int)) ⊕ ((((Int)) ⊕ (Int)))) := (bif (decide (v1.2 < (List.length a0.args : Int))) then (Option.bind (idx a0.args v1.2) fun v2 => (bif (decide (v1.1 < 0)) then (some (.inr (.inr v1.1))) else (Option.bind (r86 (v2) (v1.1)) fun v3 => (some (.inl (v3, (w64 (v1.2 + 1)))))))) else (some (.inr (.inl (v1.1)))))
def term_within_b (r86 : (Tm) → (Int) → Option (Int)) (a0 : Tm) (a1 : Int) : Option (Int) := (Option.bind (loopN (term_within_l1 a0 r86) fuel ((w64 (a1 - 1)), 0)) fun (v4 : (((Int)) ⊕ (Int))) => Sum.elim (fun v5 => (some v5)) (fun v6 => (some v6)) v4)
theorem term_within_b_ok (r86 : (Tm) → (Int) → Option (Int)) (ih86 : ∀ (x0 : Tm) (x1 : Int) r, r86 x0 x1 = some r → PCall Try.prog 86 [eTm x0, eI x1] (eI (r))) (a0 : Tm) (a1 : Int) (r : Int) (h : term_within_b r86 a0 a1 = some r) : PCall Try.prog 86 [eTm a0, eI a1] (eI (r)) := by
 unfold term_within_b at h
 refine pcl [.one .keep] Try.func86 (by kernel_rfl) (by kernel_rfl) (by kernel_rfl) ?_
 refine lpx 20 (fun v1 => ⟨24, [(1, (fI (v1.1))), (10, (.fz ((eL 2 eTmR) (a0.args)))), (11, (fI ((List.length a0.args : Int)))), (12, (fI (v1.2)))], [], [], []⟩) (fun v4 e st => Sum.elim (fun p => e = .exit 0 ∧ LeSt st ⟨24, [(1, (fI (p)))], [], [], []⟩) (fun p => e = .ret ∧ retX TT st Try.f86.results.toList [.one .keep] = some (eI (p))) v4) h (by kernel_rfl) (le_a (by kernel_rfl)) (fun v1 r h => ?_) fun v4 h e st' hq => ?_
 ·unfold term_within_l1 at h
  refine cd 5 h (by kernel_rfl) (fun h => ?_) fun h => ?_
  ·refine ix nTmR 5 h (by kernel_rfl) fun v2 h => ?_
   refine cd 10 h (by kernel_rfl) (fun h => ?_) fun h => ?_
   ·cases h; exact lor 6 (by kernel_rfl)
   refine cl 4 h (ih86 _ _) (by kernel_rfl) fun v3 h => ?_
   cases h; exact lj 6 (by kernel_rfl)
  cases h; exact lo 1 (by kernel_rfl)
 rcases v4 with v5 | v6
 ·try simp only [Sum.elim_inl, Sum.elim_inr] at h
  obtain ⟨rfl, hle⟩ := hq
  refine ⟨_, hle, ?_⟩
  cases h; exact lq 6 (by kernel_rfl)
 ·try simp only [Sum.elim_inl, Sum.elim_inr] at h
  obtain ⟨rfl, hret⟩ := hq
  refine ⟨_, LeSt.refl, ?_⟩
  cases h; exact lv hret
def term_within : Nat → (Tm) → (Int) → Option (Int)
  | 0 => fun _ _ => none
  | n + 1 => term_within_b (term_within n)
theorem term_within_ok : ∀ (n : Nat) (x0 : Tm) (x1 : Int) r, term_within n x0 x1 = some r → PCall Try.prog 86 [eTm x0, eI x1] (eI (r))
  | 0, _, _, _, h => by cases h
  | n + 1, x0, x1, r, h => term_within_b_ok (term_within n) (term_within_ok n) x0 x1 r h

def term_shallow_l1 (a0 : Tm) (a1 : Int) (r87 : (Tm) → (Int) → Option (Bool)) (v1 : (Int)) : Option (((Int)) ⊕ (((Unit) ⊕ (Bool)))) := (bif (decide (v1 < (List.length a0.args : Int))) then (Option.bind (idx a0.args v1) fun v2 => (Option.bind (r87 (v2) ((w64 (a1 - 1)))) fun v3 => (bif (!v3) then (some (.inr (.inr false))) else (some (.inl ((w64 (v1 + 1)))))))) else (some (.inr (.inl ()))))
def term_shallow_b (r87 : (Tm) → (Int) → Option (Bool)) (a0 : Tm) (a1 : Int) : Option (Bool) := (bif (a1 == 0) then (some false) else (Option.bind (loopN (term_shallow_l1 a0 a1 r87) fuel (0)) fun (v4 : ((Unit) ⊕ (Bool))) => Sum.elim (fun v5 => (some true)) (fun v6 => (some v6)) v4))
theorem term_shallow_b_ok (r87 : (Tm) → (Int) → Option (Bool)) (ih87 : ∀ (x0 : Tm) (x1 : Int) r, r87 x0 x1 = some r → PCall Try.prog 87 [eTm x0, eI x1] (eB (r))) (a0 : Tm) (a1 : Int) (r : Bool) (h : term_shallow_b r87 a0 a1 = some r) : PCall Try.prog 87 [eTm a0, eI a1] (eB (r)) := by
 unfold term_shallow_b at h
 refine pcl [.one .keep] Try.func87 (by kernel_rfl) (by kernel_rfl) (by kernel_rfl) ?_
 refine cd 11 h (by kernel_rfl) (fun h => ?_) fun h => ?_
 ·cases h; exact lq 5 (by kernel_rfl)
 refine lpx 10 (fun v1 => ⟨22, [(1, (fI (a1))), (10, (.fz ((eL 2 eTmR) (a0.args)))), (11, (fI ((List.length a0.args : Int)))), (12, (fI (v1)))], [], [], []⟩) (fun v4 e st => Sum.elim (fun p => e = .exit 0 ∧ LeSt st ⟨22, [], [], [], []⟩) (fun p => e = .ret ∧ retX TT st Try.f87.results.toList [.one .keep] = some (eB (p))) v4) h (by kernel_rfl) (le_a (by kernel_rfl)) (fun v1 r h => ?_) fun v4 h e st' hq => ?_
 ·unfold term_shallow_l1 at h
  refine cd 5 h (by kernel_rfl) (fun h => ?_) fun h => ?_
  ·refine ix nTmR 5 h (by kernel_rfl) fun v2 h => ?_
   refine cl 9 h (ih87 _ _) (by kernel_rfl) fun v3 h => ?_
   refine cd 2 h (by kernel_rfl) (fun h => ?_) fun h => ?_
   ·cases h; exact lor 5 (by kernel_rfl)
   cases h; exact lj 5 (by kernel_rfl)
  cases h; exact lo 1 (by kernel_rfl)
 rcases v4 with v5 | v6
 ·try simp only [Sum.elim_inl, Sum.elim_inr] at h
  obtain ⟨rfl, hle⟩ := hq
  refine ⟨_, hle, ?_⟩
  cases h; exact lq 5 (by kernel_rfl)
 ·try simp only [Sum.elim_inl, Sum.elim_inr] at h
  obtain ⟨rfl, hret⟩ := hq
  refine ⟨_, LeSt.refl, ?_⟩
  cases h; exact lv hret
def term_shallow : Nat → (Tm) → (Int) → Option (Bool)
  | 0 => fun _ _ => none
  | n + 1 => term_shallow_b (term_shallow n)
theorem term_shallow_ok : ∀ (n : Nat) (x0 : Tm) (x1 : Int) r, term_shallow n x0 x1 = some r → PCall Try.prog 87 [eTm x0, eI x1] (eB (r))
  | 0, _, _, _, h => by cases h
  | n + 1, x0, x1, r, h => term_shallow_b_ok (term_shallow n) (term_shallow_ok n) x0 x1 r h

def term_derived_l1 (a0 : La) (a2 : Tm) (r88 : (La) → (Int) → (Tm) → Option (Int)) (v3 : Ru) (v4 : (Int)) : Option (((Int)) ⊕ (((Unit) ⊕ (Int)))) := (bif (decide (v4 < (List.length a2.args : Int))) then (Option.bind (idx a2.args v4) fun v5 => (Option.bind (idx v3.args v4) fun v6 => (Option.bind (r88 (a0) (v6) (v5)) fun v7 => (bif (v7 != 0) then (some (.inr (.inr v7))) else (some (.inl ((w64 (v4 + 1))))))))) else (some (.inr (.inl ()))))
def term_derived_b (r88 : (La) → (Int) → (Tm) → Option (Int)) (a0 : La) (a1 : Int) (a2 : Tm) : Option (Int) := (Option.bind ((bif (decide (a2.rule < 0)) then (some (true)) else (some ((decide ((List.length a0.rules : Int) ≤ a2.rule))))) : Option ((Bool))) fun (v2 : (Bool)) => (bif v2 then (some 1) else (Option.bind (idx a0.rules a2.rule) fun v3 => (bif (v3.symbol != a1) then (some 3) else (bif ((List.length a2.args : Int) != (List.length v3.args : Int)) then (some 4) else (Option.bind (loopN (term_derived_l1 a0 a2 r88 v3) fuel (0)) fun (v8 : ((Unit) ⊕ (Int))) => Sum.elim (fun v9 => (some 0)) (fun v10 => (some v10)) v8))))))
theorem term_derived_b_ok (r88 : (La) → (Int) → (Tm) → Option (Int)) (ih88 : ∀ (x0 : La) (x1 : Int) (x2 : Tm) r, r88 x0 x1 x2 = some r → PCall Try.prog 88 [eLa x0, eI x1, eTm x2] (eI (r))) (a0 : La) (a1 : Int) (a2 : Tm) (r : Int) (h : term_derived_b r88 a0 a1 a2 = some r) : PCall Try.prog 88 [eLa a0, eI a1, eTm a2] (eI (r)) := by
 unfold term_derived_b at h
 refine pcl [.one .keep] Try.func88 (by kernel_rfl) (by kernel_rfl) (by kernel_rfl) ?_
 refine jn1 8 .normal (fun v2 => ⟨59, [(1, (fI (a1))), (3, (.ref 1 0 0)), (5, (.ref 2 0 0)), (21, (fB (v2)))], [(1, (.box 27 [(fS (a0.name)), (.fz ((eL 1 eI) (a0.inputs))), (.fz ((eL 2 eSy) (a0.symbols))), (.fz ((eL 9 eRu) (a0.rules)))])), (2, (.box 42 [(fI (a2.rule)), (.fz ((eL 2 eTmR) (a2.args)))]))], [2, 1], []⟩) h (by kernel_rfl) (fun v2 h => ?_) fun v2 h => ?_
 ·refine gd 5 h (by kernel_rfl) (fun h => ?_) fun h => ?_
  ·cases h; exact lj 8 (by kernel_rfl)
  cases h; exact lj 8 (by kernel_rfl)
 refine cd 0 h (by kernel_rfl) (fun h => ?_) fun h => ?_
 ·cases h; exact lq 5 (by kernel_rfl)
 refine ix nRu 7 h (by kernel_rfl) fun v3 h => ?_
 refine cd 12 h (by kernel_rfl) (fun h => ?_) fun h => ?_
 ·cases h; exact lq 5 (by kernel_rfl)
 refine cd 12 h (by kernel_rfl) (fun h => ?_) fun h => ?_
 ·cases h; exact lq 5 (by kernel_rfl)
 refine lpx 10 (fun v4 => ⟨59, [(3, (.ref 1 0 0)), (7, (.ref 3 0 0)), (40, (.fz ((eL 2 eTmR) (a2.args)))), (41, (fI ((List.length a2.args : Int)))), (42, (fI (v4)))], [(1, (.box 27 [(fS (a0.name)), (.fz ((eL 1 eI) (a0.inputs))), (.fz ((eL 2 eSy) (a0.symbols))), (.fz ((eL 9 eRu) (a0.rules)))])), (3, (.box 67 [(fI (v3.symbol)), (fI (v3.kind)), (fI (v3.input)), (fI (v3.const.type)), (fI (v3.const.num)), (fS (v3.const.text)), (.fz ((eL 4 eVaR) (v3.const.items))), (fS (v3.op)), (.fz ((eL 1 eI) (v3.args)))]))], [3, 1], []⟩) (fun v8 e st => Sum.elim (fun p => e = .exit 0 ∧ LeSt st ⟨59, [], [], [], []⟩) (fun p => e = .ret ∧ retX TT st Try.f88.results.toList [.one .keep] = some (eI (p))) v8) h (by kernel_rfl) (le_a (by kernel_rfl)) (fun v4 r h => ?_) fun v8 h e st' hq => ?_
 ·unfold term_derived_l1 at h
  refine cd 5 h (by kernel_rfl) (fun h => ?_) fun h => ?_
  ·refine ix nTmR 6 h (by kernel_rfl) fun v5 h => ?_
   refine dw 6 7 (by kernel_rfl) ?_
   refine ix nI 4 h (by kernel_rfl) fun v6 h => ?_
   refine cl 3 h (ih88 _ _ _) (by kernel_rfl) fun v7 h => ?_
   refine cd 7 h (by kernel_rfl) (fun h => ?_) fun h => ?_
   ·cases h; exact lor 6 (by kernel_rfl)
   cases h; exact lj 5 (by kernel_rfl)
  cases h; exact lo 1 (by kernel_rfl)
 rcases v8 with v9 | v10
 ·try simp only [Sum.elim_inl, Sum.elim_inr] at h
  obtain ⟨rfl, hle⟩ := hq
  refine ⟨_, hle, ?_⟩
  cases h; exact lq 5 (by kernel_rfl)
 ·try simp only [Sum.elim_inl, Sum.elim_inr] at h
  obtain ⟨rfl, hret⟩ := hq
  refine ⟨_, LeSt.refl, ?_⟩
  cases h; exact lv hret
def term_derived : Nat → (La) → (Int) → (Tm) → Option (Int)
  | 0 => fun _ _ _ => none
  | n + 1 => term_derived_b (term_derived n)
theorem term_derived_ok : ∀ (n : Nat) (x0 : La) (x1 : Int) (x2 : Tm) r, term_derived n x0 x1 x2 = some r → PCall Try.prog 88 [eLa x0, eI x1, eTm x2] (eI (r))
  | 0, _, _, _, _, h => by cases h
  | n + 1, x0, x1, x2, r, h => term_derived_b_ok (term_derived n) (term_derived_ok n) x0 x1 x2 r h

def term_Check_m0 (a0 : La) (a2 : Tm) : List (Nat × AObj) := [(1, (.box 27 [(fS (a0.name)), (.fz ((eL 1 eI) (a0.inputs))), (.fz ((eL 2 eSy) (a0.symbols))), (.fz ((eL 9 eRu) (a0.rules)))])), (2, (.box 42 [(fI (a2.rule)), (.fz ((eL 2 eTmR) (a2.args)))]))]
def term_Check (a0 : La) (a1 : Int) (a2 : Tm) : Option (Int) := (Option.bind (grammar_Check (a0)) fun v1 => (bif (v1 != 0) then (some v1) else (Option.bind ((bif (decide (a1 < 0)) then (some (true)) else (some ((decide ((List.length a0.symbols : Int) ≤ a1))))) : Option ((Bool))) fun (v3 : (Bool)) => (bif v3 then (some 1) else (Option.bind ((Option.bind (term_within fuel (a2) (4096)) fun v4 => (bif (decide (v4 < 0)) then (some (true)) else (Option.bind (term_shallow fuel (a2) (32)) fun v5 => (some ((!v5)))))) : Option ((Bool))) fun (v7 : (Bool)) => (bif v7 then (some 2) else (Option.bind (term_derived fuel (a0) (a1) (a2)) fun v8 => (some v8))))))))
theorem term_Check_ok (a0 : La) (a1 : Int) (a2 : Tm) (r : Int) (h : term_Check a0 a1 a2 = some r) : PCall Try.prog 36 [eLa a0, eI a1, eTm a2] (eI (r)) := by
 unfold term_Check at h
 refine pcl [.one .keep] Try.func36 (by kernel_rfl) (by kernel_rfl) (by kernel_rfl) ?_
 refine cl 10 h (grammar_Check_ok _) (by kernel_rfl) fun v1 h => ?_
 refine cd 7 h (by kernel_rfl) (fun h => ?_) fun h => ?_
 ·cases h; exact lq 6 (by kernel_rfl)
 refine jn1 3 .normal (fun v3 => ⟨34, [(1, (fI (a1))), (3, (.ref 1 0 0)), (5, (.ref 2 0 0)), (21, (fB (v3)))], (term_Check_m0 a0 a2), [2, 1], []⟩) h (by kernel_rfl) (fun v3 h => ?_) fun v3 h => ?_
 ·refine gd 4 h (by kernel_rfl) (fun h => ?_) fun h => ?_
  ·cases h; exact lj 7 (by kernel_rfl)
  cases h; exact lj 7 (by kernel_rfl)
 refine cd 0 h (by kernel_rfl) (fun h => ?_) fun h => ?_
 ·cases h; exact lq 5 (by kernel_rfl)
 refine jn1 3 .normal (fun v7 => ⟨34, [(1, (fI (a1))), (3, (.ref 1 0 0)), (5, (.ref 2 0 0)), (29, (fB (v7)))], (term_Check_m0 a0 a2), [2, 1], []⟩) h (by kernel_rfl) (fun v7 h => ?_) fun v7 h => ?_
 ·refine cl 2 h (term_within_ok _ _ _) (by kernel_rfl) fun v4 h => ?_
  refine gd 2 h (by kernel_rfl) (fun h => ?_) fun h => ?_
  ·cases h; exact lj 5 (by kernel_rfl)
  refine cl 1 h (term_shallow_ok _ _ _) (by kernel_rfl) fun v5 h => ?_
  cases h; exact lj 3 (by kernel_rfl)
 refine cd 0 h (by kernel_rfl) (fun h => ?_) fun h => ?_
 ·cases h; exact lq 5 (by kernel_rfl)
 refine cl 6 h (term_derived_ok _ _ _ _) (by kernel_rfl) fun v8 h => ?_
 cases h; exact lq 3 (by kernel_rfl)

def synthesisref11_Name_l1 (a0 : ByteArray) (v1 : (Int)) : Option (((Int)) ⊕ (((Unit) ⊕ (Bool)))) := (bif (decide (v1 < (a0.size : Int))) then (Option.bind ((Option.bind (byt a0 v1) fun v2 => (bif (decide (97 ≤ v2)) then (Option.bind (byt a0 v1) fun v3 => (bif (decide (v3 ≤ 122)) then (some (true)) else (Option.bind (byt a0 v1) fun v4 => (bif (decide (65 ≤ v4)) then (Option.bind (byt a0 v1) fun v5 => (some ((decide (v5 ≤ 90))))) else (some (false)))))) else (Option.bind (byt a0 v1) fun v6 => (bif (decide (65 ≤ v6)) then (Option.bind (byt a0 v1) fun v7 => (some ((decide (v7 ≤ 90))))) else (some (false)))))) : Option ((Bool))) fun (v9 : (Bool)) => (Option.bind ((bif (!v9) then (bif (v1 == 0) then (some (true)) else (Option.bind (byt a0 v1) fun v10 => (bif (v10 != 45) then (Option.bind (byt a0 v1) fun v11 => (bif (decide (v11 < 48)) then (some (true)) else (Option.bind (byt a0 v1) fun v12 => (some ((decide (57 < v12))))))) else (some (false))))) else (some (false))) : Option ((Bool))) fun (v14 : (Bool)) => (bif v14 then (some (.inr (.inr false))) else (some (.inl ((w64 (v1 + 1)))))))) else (some (.inr (.inl ()))))
def synthesisref11_Name (a0 : ByteArray) : Option (Bool) := (Option.bind (loopN (synthesisref11_Name_l1 a0) fuel (0)) fun (v15 : ((Unit) ⊕ (Bool))) => Sum.elim (fun v16 => (Option.bind ((bif (decide (1 ≤ (a0.size : Int))) then (some ((decide ((a0.size : Int) ≤ 24)))) else (some (false))) : Option ((Bool))) fun (v18 : (Bool)) => (some v18))) (fun v19 => (some v19)) v15)
theorem synthesisref11_Name_ok (a0 : ByteArray) (r : Bool) (h : synthesisref11_Name a0 = some r) : PCall Try.prog 149 [eS a0] (eB (r)) := by
 unfold synthesisref11_Name at h
 refine pcl [.one .keep] Try.func149 (by kernel_rfl) (by kernel_rfl) (by kernel_rfl) ?_
 refine lpx 10 (fun v1 => ⟨65, [(0, (fS (a0))), (3, (fI (v1)))], [], [], []⟩) (fun v15 e st => Sum.elim (fun p => e = .exit 0 ∧ LeSt st ⟨65, [(0, (fS (a0)))], [], [], []⟩) (fun p => e = .ret ∧ retX TT st Try.f149.results.toList [.one .keep] = some (eB (p))) v15) h (by kernel_rfl) (le_a (by kernel_rfl)) (fun v1 r h => ?_) fun v15 h e st' hq => ?_
 ·unfold synthesisref11_Name_l1 at h
  refine cd 8 h (by kernel_rfl) (fun h => ?_) fun h => ?_
  ·refine jn1 4 .normal (fun v9 => ⟨65, [(0, (fS (a0))), (3, (fI (v1))), (4, (fB (v9)))], [], [], []⟩) h (by kernel_rfl) (fun v9 h => ?_) fun v9 h => ?_
   ·refine byx 3 h (by kernel_rfl) fun v2 h => ?_
    refine gd 2 h (by kernel_rfl) (fun h => ?_) fun h => ?_
    ·refine byx 2 h (by kernel_rfl) fun v3 h => ?_
     refine gd 3 h (by kernel_rfl) (fun h => ?_) fun h => ?_
     ·cases h; exact lj 13 (by kernel_rfl)
     refine byx 2 h (by kernel_rfl) fun v4 h => ?_
     refine gd 2 h (by kernel_rfl) (fun h => ?_) fun h => ?_
     ·refine byx 2 h (by kernel_rfl) fun v5 h => ?_
      cases h; exact lj 5 (by kernel_rfl)
     cases h; exact lj 8 (by kernel_rfl)
    refine byx 8 h (by kernel_rfl) fun v6 h => ?_
    refine gd 2 h (by kernel_rfl) (fun h => ?_) fun h => ?_
    ·refine byx 2 h (by kernel_rfl) fun v7 h => ?_
     cases h; exact lj 5 (by kernel_rfl)
    cases h; exact lj 8 (by kernel_rfl)
   refine jn1 1 .normal (fun v14 => ⟨65, [(0, (fS (a0))), (3, (fI (v1))), (56, (fB (v14)))], [], [], []⟩) h (by kernel_rfl) (fun v14 h => ?_) fun v14 h => ?_
   ·refine gd 4 h (by kernel_rfl) (fun h => ?_) fun h => ?_
    ·refine gd 3 h (by kernel_rfl) (fun h => ?_) fun h => ?_
     ·cases h; exact lj 19 (by kernel_rfl)
     refine byx 2 h (by kernel_rfl) fun v10 h => ?_
     refine gd 2 h (by kernel_rfl) (fun h => ?_) fun h => ?_
     ·refine byx 2 h (by kernel_rfl) fun v11 h => ?_
      refine gd 2 h (by kernel_rfl) (fun h => ?_) fun h => ?_
      ·cases h; exact lj 9 (by kernel_rfl)
      refine byx 2 h (by kernel_rfl) fun v12 h => ?_
      cases h; exact lj 6 (by kernel_rfl)
     cases h; exact lj 14 (by kernel_rfl)
    cases h; exact lj 22 (by kernel_rfl)
   refine cd 0 h (by kernel_rfl) (fun h => ?_) fun h => ?_
   ·cases h; exact lor 5 (by kernel_rfl)
   cases h; exact lj 6 (by kernel_rfl)
  cases h; exact lo 1 (by kernel_rfl)
 rcases v15 with v16 | v19
 ·try simp only [Sum.elim_inl, Sum.elim_inr] at h
  obtain ⟨rfl, hle⟩ := hq
  refine ⟨_, hle, ?_⟩
  refine jn1 1 .normal (fun v18 => ⟨65, [(2, (fB (v18)))], [], [], []⟩) h (by kernel_rfl) (fun v18 h => ?_) fun v18 h => ?_
  ·refine gd 5 h (by kernel_rfl) (fun h => ?_) fun h => ?_
   ·cases h; exact lj 6 (by kernel_rfl)
   cases h; exact lj 6 (by kernel_rfl)
  cases h; exact lq 1 (by kernel_rfl)
 ·try simp only [Sum.elim_inl, Sum.elim_inr] at h
  obtain ⟨rfl, hret⟩ := hq
  refine ⟨_, LeSt.refl, ?_⟩
  cases h; exact lv hret

def synthesisref11_typed (a0 : Int) : Option (Bool) := (Option.bind ((bif (decide (1 ≤ a0)) then (some ((decide (a0 ≤ 8)))) else (some (false))) : Option ((Bool))) fun (v2 : (Bool)) => (some v2))
theorem synthesisref11_typed_ok (a0 : Int) (r : Bool) (h : synthesisref11_typed a0 = some r) : PCall Try.prog 150 [eI a0] (eB (r)) := by
 unfold synthesisref11_typed at h
 refine pcl [.one .keep] Try.func150 (by kernel_rfl) (by kernel_rfl) (by kernel_rfl) ?_
 refine jn1 5 .normal (fun v2 => ⟨9, [(2, (fB (v2)))], [], [], []⟩) h (by kernel_rfl) (fun v2 h => ?_) fun v2 h => ?_
 ·refine gd 4 h (by kernel_rfl) (fun h => ?_) fun h => ?_
  ·cases h; exact lj 5 (by kernel_rfl)
  cases h; exact lj 5 (by kernel_rfl)
 cases h; exact lq 1 (by kernel_rfl)

def synthesisref11_zero (a0 : Ru) : Option (Bool) := (Option.bind (synthesisref01_Equal (a0.const) ((Va.mk (0) (0) ((⟨#[]⟩ : ByteArray)) (([] : List Va))))) fun v1 => (bif (a0.kind == 1) then (Option.bind ((bif v1 then (bif (a0.op.toList == (⟨#[]⟩ : ByteArray).toList) then (some (((List.length a0.args : Int) == 0))) else (some (false))) else (some (false))) : Option ((Bool))) fun (v3 : (Bool)) => (some v3)) else (bif (a0.kind == 2) then (Option.bind ((bif (a0.input == 0) then (bif (a0.op.toList == (⟨#[]⟩ : ByteArray).toList) then (some (((List.length a0.args : Int) == 0))) else (some (false))) else (some (false))) : Option ((Bool))) fun (v5 : (Bool)) => (some v5)) else (Option.bind ((bif (a0.input == 0) then (some (v1)) else (some (false))) : Option ((Bool))) fun (v7 : (Bool)) => (some v7)))))
theorem synthesisref11_zero_ok (a0 : Ru) (r : Bool) (h : synthesisref11_zero a0 = some r) : PCall Try.prog 180 [eRu a0] (eB (r)) := by
 unfold synthesisref11_zero at h
 refine pcl [.one .keep] Try.func180 (by kernel_rfl) (by kernel_rfl) (by kernel_rfl) ?_
 refine cl 10 h (synthesisref01_Equal_ok _ _) (by kernel_rfl) fun v1 h => ?_
 refine cd 14 h (by kernel_rfl) (fun h => ?_) fun h => ?_
 ·refine jn1 1 .normal (fun v3 => ⟨46, [(2, (fB (v3)))], [], [], []⟩) h (by kernel_rfl) (fun v3 h => ?_) fun v3 h => ?_
  ·refine gd 3 h (by kernel_rfl) (fun h => ?_) fun h => ?_
   ·refine gd 5 h (by kernel_rfl) (fun h => ?_) fun h => ?_
    ·cases h; exact lj 7 (by kernel_rfl)
    cases h; exact lj 7 (by kernel_rfl)
   cases h; exact lj 12 (by kernel_rfl)
  cases h; exact lq 1 (by kernel_rfl)
 refine cd 5 h (by kernel_rfl) (fun h => ?_) fun h => ?_
 ·refine jn1 1 .normal (fun v5 => ⟨46, [(2, (fB (v5)))], [], [], []⟩) h (by kernel_rfl) (fun v5 h => ?_) fun v5 h => ?_
  ·refine gd 5 h (by kernel_rfl) (fun h => ?_) fun h => ?_
   ·refine gd 5 h (by kernel_rfl) (fun h => ?_) fun h => ?_
    ·cases h; exact lj 7 (by kernel_rfl)
    cases h; exact lj 7 (by kernel_rfl)
   cases h; exact lj 12 (by kernel_rfl)
  cases h; exact lq 1 (by kernel_rfl)
 refine jn1 2 .normal (fun v7 => ⟨46, [(2, (fB (v7)))], [], [], []⟩) h (by kernel_rfl) (fun v7 h => ?_) fun v7 h => ?_
 ·refine gd 5 h (by kernel_rfl) (fun h => ?_) fun h => ?_
  ·cases h; exact lj 4 (by kernel_rfl)
  cases h; exact lj 4 (by kernel_rfl)
 cases h; exact lq 1 (by kernel_rfl)

structure S_a189 where
  f_0 : ByteArray
  f_1 : ByteArray
  f_2 : ByteArray
def eS_a189 (x : S_a189) : FV := .agg [eS (x.f_0), eS (x.f_1), eS (x.f_2)]
def nS_a189 : En S_a189 := ⟨eS_a189, 3, fun x => (eS_a189 x).cells, fun _ => rfl, fun _ => rfl⟩
def synthesisref09_catalog (a0 : ByteArray) : Option (List S_a189) := (bif (a0.toList == (⟨#[108, 111, 103, 105, 99]⟩ : ByteArray).toList) then (some ([(S_a189.mk ((⟨#[97, 110, 100]⟩ : ByteArray)) ((⟨#[66, 66]⟩ : ByteArray)) ((⟨#[66]⟩ : ByteArray))), (S_a189.mk ((⟨#[111, 114]⟩ : ByteArray)) ((⟨#[66, 66]⟩ : ByteArray)) ((⟨#[66]⟩ : ByteArray))), (S_a189.mk ((⟨#[110, 111, 116]⟩ : ByteArray)) ((⟨#[66]⟩ : ByteArray)) ((⟨#[66]⟩ : ByteArray))), (S_a189.mk ((⟨#[105, 102, 105, 110, 116]⟩ : ByteArray)) ((⟨#[66, 73, 73]⟩ : ByteArray)) ((⟨#[73]⟩ : ByteArray))), (S_a189.mk ((⟨#[105, 102, 116, 101, 120, 116]⟩ : ByteArray)) ((⟨#[66, 84, 84]⟩ : ByteArray)) ((⟨#[84]⟩ : ByteArray))), (S_a189.mk ((⟨#[105, 102, 98, 105, 116, 115]⟩ : ByteArray)) ((⟨#[66, 86, 86]⟩ : ByteArray)) ((⟨#[86]⟩ : ByteArray)))] : List (S_a189))) else (bif (a0.toList == (⟨#[110, 117, 109, 98, 101, 114, 115]⟩ : ByteArray).toList) then (some ([(S_a189.mk ((⟨#[97, 100, 100]⟩ : ByteArray)) ((⟨#[73, 73]⟩ : ByteArray)) ((⟨#[73]⟩ : ByteArray))), (S_a189.mk ((⟨#[115, 117, 98]⟩ : ByteArray)) ((⟨#[73, 73]⟩ : ByteArray)) ((⟨#[73]⟩ : ByteArray))), (S_a189.mk ((⟨#[109, 117, 108]⟩ : ByteArray)) ((⟨#[73, 73]⟩ : ByteArray)) ((⟨#[73]⟩ : ByteArray))), (S_a189.mk ((⟨#[110, 101, 103]⟩ : ByteArray)) ((⟨#[73]⟩ : ByteArray)) ((⟨#[73]⟩ : ByteArray))), (S_a189.mk ((⟨#[109, 105, 110]⟩ : ByteArray)) ((⟨#[73, 73]⟩ : ByteArray)) ((⟨#[73]⟩ : ByteArray))), (S_a189.mk ((⟨#[109, 97, 120]⟩ : ByteArray)) ((⟨#[73, 73]⟩ : ByteArray)) ((⟨#[73]⟩ : ByteArray))), (S_a189.mk ((⟨#[101, 113, 105, 110, 116]⟩ : ByteArray)) ((⟨#[73, 73]⟩ : ByteArray)) ((⟨#[66]⟩ : ByteArray))), (S_a189.mk ((⟨#[108, 101, 115, 115]⟩ : ByteArray)) ((⟨#[73, 73]⟩ : ByteArray)) ((⟨#[66]⟩ : ByteArray)))] : List (S_a189))) else (bif (a0.toList == (⟨#[116, 101, 120, 116, 115]⟩ : ByteArray).toList) then (some ([(S_a189.mk ((⟨#[99, 111, 110, 99, 97, 116]⟩ : ByteArray)) ((⟨#[84, 84]⟩ : ByteArray)) ((⟨#[84]⟩ : ByteArray))), (S_a189.mk ((⟨#[115, 108, 105, 99, 101]⟩ : ByteArray)) ((⟨#[84, 73, 73]⟩ : ByteArray)) ((⟨#[84]⟩ : ByteArray))), (S_a189.mk ((⟨#[108, 101, 110]⟩ : ByteArray)) ((⟨#[84]⟩ : ByteArray)) ((⟨#[73]⟩ : ByteArray))), (S_a189.mk ((⟨#[117, 112, 112, 101, 114]⟩ : ByteArray)) ((⟨#[84]⟩ : ByteArray)) ((⟨#[84]⟩ : ByteArray))), (S_a189.mk ((⟨#[108, 111, 119, 101, 114]⟩ : ByteArray)) ((⟨#[84]⟩ : ByteArray)) ((⟨#[84]⟩ : ByteArray))), (S_a189.mk ((⟨#[116, 114, 105, 109]⟩ : ByteArray)) ((⟨#[84]⟩ : ByteArray)) ((⟨#[84]⟩ : ByteArray))), (S_a189.mk ((⟨#[102, 105, 110, 100]⟩ : ByteArray)) ((⟨#[84, 84]⟩ : ByteArray)) ((⟨#[73]⟩ : ByteArray))), (S_a189.mk ((⟨#[114, 101, 112, 108, 97, 99, 101]⟩ : ByteArray)) ((⟨#[84, 84, 84]⟩ : ByteArray)) ((⟨#[84]⟩ : ByteArray))), (S_a189.mk ((⟨#[119, 111, 114, 100]⟩ : ByteArray)) ((⟨#[84, 73]⟩ : ByteArray)) ((⟨#[84]⟩ : ByteArray))), (S_a189.mk ((⟨#[99, 104, 97, 114]⟩ : ByteArray)) ((⟨#[84, 73]⟩ : ByteArray)) ((⟨#[84]⟩ : ByteArray))), (S_a189.mk ((⟨#[114, 101, 112, 101, 97, 116]⟩ : ByteArray)) ((⟨#[84, 73]⟩ : ByteArray)) ((⟨#[84]⟩ : ByteArray))), (S_a189.mk ((⟨#[115, 104, 111, 119]⟩ : ByteArray)) ((⟨#[73]⟩ : ByteArray)) ((⟨#[84]⟩ : ByteArray))), (S_a189.mk ((⟨#[114, 101, 97, 100]⟩ : ByteArray)) ((⟨#[84]⟩ : ByteArray)) ((⟨#[73]⟩ : ByteArray))), (S_a189.mk ((⟨#[101, 113, 116, 101, 120, 116]⟩ : ByteArray)) ((⟨#[84, 84]⟩ : ByteArray)) ((⟨#[66]⟩ : ByteArray))), (S_a189.mk ((⟨#[115, 112, 108, 105, 116]⟩ : ByteArray)) ((⟨#[84, 84]⟩ : ByteArray)) ((⟨#[83]⟩ : ByteArray))), (S_a189.mk ((⟨#[106, 111, 105, 110]⟩ : ByteArray)) ((⟨#[83, 84]⟩ : ByteArray)) ((⟨#[84]⟩ : ByteArray))), (S_a189.mk ((⟨#[105, 116, 101, 109]⟩ : ByteArray)) ((⟨#[83, 73]⟩ : ByteArray)) ((⟨#[84]⟩ : ByteArray))), (S_a189.mk ((⟨#[115, 111, 114, 116, 116, 101, 120, 116, 115]⟩ : ByteArray)) ((⟨#[83]⟩ : ByteArray)) ((⟨#[83]⟩ : ByteArray))), (S_a189.mk ((⟨#[114, 101, 118, 116, 101, 120, 116, 115]⟩ : ByteArray)) ((⟨#[83]⟩ : ByteArray)) ((⟨#[83]⟩ : ByteArray)))] : List (S_a189))) else (bif (a0.toList == (⟨#[112, 97, 116, 116, 101, 114, 110, 115]⟩ : ByteArray).toList) then (some ([(S_a189.mk ((⟨#[115, 116, 97, 114, 116]⟩ : ByteArray)) ((⟨#[84, 80, 73]⟩ : ByteArray)) ((⟨#[73]⟩ : ByteArray))), (S_a189.mk ((⟨#[101, 110, 100]⟩ : ByteArray)) ((⟨#[84, 80, 73]⟩ : ByteArray)) ((⟨#[73]⟩ : ByteArray))), (S_a189.mk ((⟨#[101, 120, 116, 114, 97, 99, 116]⟩ : ByteArray)) ((⟨#[84, 80, 73]⟩ : ByteArray)) ((⟨#[84]⟩ : ByteArray))), (S_a189.mk ((⟨#[101, 114, 97, 115, 101]⟩ : ByteArray)) ((⟨#[84, 80]⟩ : ByteArray)) ((⟨#[84]⟩ : ByteArray))), (S_a189.mk ((⟨#[111, 99, 99, 117, 114, 115]⟩ : ByteArray)) ((⟨#[84, 80]⟩ : ByteArray)) ((⟨#[73]⟩ : ByteArray))), (S_a189.mk ((⟨#[109, 97, 116, 99, 104, 101, 115]⟩ : ByteArray)) ((⟨#[84, 80]⟩ : ByteArray)) ((⟨#[66]⟩ : ByteArray))), (S_a189.mk ((⟨#[112, 108, 105, 116]⟩ : ByteArray)) ((⟨#[84]⟩ : ByteArray)) ((⟨#[80]⟩ : ByteArray))), (S_a189.mk ((⟨#[112, 99, 97, 116]⟩ : ByteArray)) ((⟨#[80, 80]⟩ : ByteArray)) ((⟨#[80]⟩ : ByteArray))), (S_a189.mk ((⟨#[112, 97, 108, 116]⟩ : ByteArray)) ((⟨#[80, 80]⟩ : ByteArray)) ((⟨#[80]⟩ : ByteArray))), (S_a189.mk ((⟨#[112, 115, 116, 97, 114]⟩ : ByteArray)) ((⟨#[80]⟩ : ByteArray)) ((⟨#[80]⟩ : ByteArray)))] : List (S_a189))) else (bif (a0.toList == (⟨#[108, 105, 115, 116, 115]⟩ : ByteArray).toList) then (some ([(S_a189.mk ((⟨#[104, 101, 97, 100]⟩ : ByteArray)) ((⟨#[76]⟩ : ByteArray)) ((⟨#[73]⟩ : ByteArray))), (S_a189.mk ((⟨#[108, 97, 115, 116]⟩ : ByteArray)) ((⟨#[76]⟩ : ByteArray)) ((⟨#[73]⟩ : ByteArray))), (S_a189.mk ((⟨#[116, 97, 107, 101]⟩ : ByteArray)) ((⟨#[76, 73]⟩ : ByteArray)) ((⟨#[76]⟩ : ByteArray))), (S_a189.mk ((⟨#[100, 114, 111, 112]⟩ : ByteArray)) ((⟨#[76, 73]⟩ : ByteArray)) ((⟨#[76]⟩ : ByteArray))), (S_a189.mk ((⟨#[114, 101, 118, 101, 114, 115, 101]⟩ : ByteArray)) ((⟨#[76]⟩ : ByteArray)) ((⟨#[76]⟩ : ByteArray))), (S_a189.mk ((⟨#[115, 111, 114, 116]⟩ : ByteArray)) ((⟨#[76]⟩ : ByteArray)) ((⟨#[76]⟩ : ByteArray))), (S_a189.mk ((⟨#[117, 110, 105, 113, 117, 101]⟩ : ByteArray)) ((⟨#[76]⟩ : ByteArray)) ((⟨#[76]⟩ : ByteArray))), (S_a189.mk ((⟨#[115, 117, 109]⟩ : ByteArray)) ((⟨#[76]⟩ : ByteArray)) ((⟨#[73]⟩ : ByteArray))), (S_a189.mk ((⟨#[115, 104, 105, 102, 116]⟩ : ByteArray)) ((⟨#[76, 73]⟩ : ByteArray)) ((⟨#[76]⟩ : ByteArray))), (S_a189.mk ((⟨#[115, 99, 97, 108, 101]⟩ : ByteArray)) ((⟨#[76, 73]⟩ : ByteArray)) ((⟨#[76]⟩ : ByteArray))), (S_a189.mk ((⟨#[97, 98, 111, 118, 101]⟩ : ByteArray)) ((⟨#[76, 73]⟩ : ByteArray)) ((⟨#[76]⟩ : ByteArray))), (S_a189.mk ((⟨#[101, 118, 101, 110]⟩ : ByteArray)) ((⟨#[76]⟩ : ByteArray)) ((⟨#[76]⟩ : ByteArray))), (S_a189.mk ((⟨#[122, 105, 112]⟩ : ByteArray)) ((⟨#[76, 76]⟩ : ByteArray)) ((⟨#[76]⟩ : ByteArray))), (S_a189.mk ((⟨#[97, 112, 112, 101, 110, 100]⟩ : ByteArray)) ((⟨#[76, 76]⟩ : ByteArray)) ((⟨#[76]⟩ : ByteArray))), (S_a189.mk ((⟨#[101, 108, 101, 109, 101, 110, 116]⟩ : ByteArray)) ((⟨#[76, 73]⟩ : ByteArray)) ((⟨#[73]⟩ : ByteArray))), (S_a189.mk ((⟨#[99, 111, 117, 110, 116]⟩ : ByteArray)) ((⟨#[76, 73]⟩ : ByteArray)) ((⟨#[73]⟩ : ByteArray))), (S_a189.mk ((⟨#[109, 97, 120, 105, 109, 117, 109]⟩ : ByteArray)) ((⟨#[76]⟩ : ByteArray)) ((⟨#[73]⟩ : ByteArray))), (S_a189.mk ((⟨#[109, 105, 110, 105, 109, 117, 109]⟩ : ByteArray)) ((⟨#[76]⟩ : ByteArray)) ((⟨#[73]⟩ : ByteArray))), (S_a189.mk ((⟨#[114, 117, 110, 110, 105, 110, 103]⟩ : ByteArray)) ((⟨#[76]⟩ : ByteArray)) ((⟨#[76]⟩ : ByteArray))), (S_a189.mk ((⟨#[108, 101, 110, 103, 116, 104]⟩ : ByteArray)) ((⟨#[76]⟩ : ByteArray)) ((⟨#[73]⟩ : ByteArray)))] : List (S_a189))) else (bif (a0.toList == (⟨#[116, 97, 98, 108, 101, 115]⟩ : ByteArray).toList) then (some ([(S_a189.mk ((⟨#[116, 114, 97, 110, 115, 112, 111, 115, 101]⟩ : ByteArray)) ((⟨#[77]⟩ : ByteArray)) ((⟨#[77]⟩ : ByteArray))), (S_a189.mk ((⟨#[114, 111, 119]⟩ : ByteArray)) ((⟨#[77, 73]⟩ : ByteArray)) ((⟨#[83]⟩ : ByteArray))), (S_a189.mk ((⟨#[99, 111, 108, 117, 109, 110]⟩ : ByteArray)) ((⟨#[77, 73]⟩ : ByteArray)) ((⟨#[83]⟩ : ByteArray))), (S_a189.mk ((⟨#[100, 114, 111, 112, 114, 111, 119]⟩ : ByteArray)) ((⟨#[77, 73]⟩ : ByteArray)) ((⟨#[77]⟩ : ByteArray))), (S_a189.mk ((⟨#[100, 114, 111, 112, 99, 111, 108, 117, 109, 110]⟩ : ByteArray)) ((⟨#[77, 73]⟩ : ByteArray)) ((⟨#[77]⟩ : ByteArray))), (S_a189.mk ((⟨#[115, 111, 114, 116, 116, 97, 98, 108, 101]⟩ : ByteArray)) ((⟨#[77, 73]⟩ : ByteArray)) ((⟨#[77]⟩ : ByteArray))), (S_a189.mk ((⟨#[102, 105, 108, 108]⟩ : ByteArray)) ((⟨#[77]⟩ : ByteArray)) ((⟨#[77]⟩ : ByteArray))), (S_a189.mk ((⟨#[117, 110, 112, 105, 118, 111, 116]⟩ : ByteArray)) ((⟨#[77, 73]⟩ : ByteArray)) ((⟨#[77]⟩ : ByteArray))), (S_a189.mk ((⟨#[112, 105, 118, 111, 116]⟩ : ByteArray)) ((⟨#[77]⟩ : ByteArray)) ((⟨#[77]⟩ : ByteArray))), (S_a189.mk ((⟨#[99, 101, 108, 108]⟩ : ByteArray)) ((⟨#[77, 73, 73]⟩ : ByteArray)) ((⟨#[84]⟩ : ByteArray))), (S_a189.mk ((⟨#[115, 116, 97, 99, 107]⟩ : ByteArray)) ((⟨#[77, 77]⟩ : ByteArray)) ((⟨#[77]⟩ : ByteArray))), (S_a189.mk ((⟨#[98, 101, 115, 105, 100, 101]⟩ : ByteArray)) ((⟨#[77, 77]⟩ : ByteArray)) ((⟨#[77]⟩ : ByteArray))), (S_a189.mk ((⟨#[115, 112, 108, 105, 116, 99, 111, 108, 117, 109, 110]⟩ : ByteArray)) ((⟨#[77, 73, 84]⟩ : ByteArray)) ((⟨#[77]⟩ : ByteArray)))] : List (S_a189))) else (some ([(S_a189.mk ((⟨#[98, 97, 110, 100]⟩ : ByteArray)) ((⟨#[86, 86]⟩ : ByteArray)) ((⟨#[86]⟩ : ByteArray))), (S_a189.mk ((⟨#[98, 111, 114]⟩ : ByteArray)) ((⟨#[86, 86]⟩ : ByteArray)) ((⟨#[86]⟩ : ByteArray))), (S_a189.mk ((⟨#[98, 120, 111, 114]⟩ : ByteArray)) ((⟨#[86, 86]⟩ : ByteArray)) ((⟨#[86]⟩ : ByteArray))), (S_a189.mk ((⟨#[98, 110, 111, 116]⟩ : ByteArray)) ((⟨#[86]⟩ : ByteArray)) ((⟨#[86]⟩ : ByteArray))), (S_a189.mk ((⟨#[98, 97, 100, 100]⟩ : ByteArray)) ((⟨#[86, 86]⟩ : ByteArray)) ((⟨#[86]⟩ : ByteArray))), (S_a189.mk ((⟨#[98, 115, 117, 98]⟩ : ByteArray)) ((⟨#[86, 86]⟩ : ByteArray)) ((⟨#[86]⟩ : ByteArray))), (S_a189.mk ((⟨#[98, 109, 117, 108]⟩ : ByteArray)) ((⟨#[86, 86]⟩ : ByteArray)) ((⟨#[86]⟩ : ByteArray))), (S_a189.mk ((⟨#[98, 108, 101, 102, 116]⟩ : ByteArray)) ((⟨#[86, 73]⟩ : ByteArray)) ((⟨#[86]⟩ : ByteArray))), (S_a189.mk ((⟨#[98, 114, 105, 103, 104, 116]⟩ : ByteArray)) ((⟨#[86, 73]⟩ : ByteArray)) ((⟨#[86]⟩ : ByteArray))), (S_a189.mk ((⟨#[98, 97, 114, 105, 116, 104]⟩ : ByteArray)) ((⟨#[86, 73]⟩ : ByteArray)) ((⟨#[86]⟩ : ByteArray))), (S_a189.mk ((⟨#[111, 110, 101, 115]⟩ : ByteArray)) ((⟨#[86]⟩ : ByteArray)) ((⟨#[73]⟩ : ByteArray))), (S_a189.mk ((⟨#[101, 113, 98, 105, 116, 115]⟩ : ByteArray)) ((⟨#[86, 86]⟩ : ByteArray)) ((⟨#[66]⟩ : ByteArray)))] : List (S_a189)))))))))
theorem synthesisref09_catalog_ok (a0 : ByteArray) (r : List S_a189) (h : synthesisref09_catalog a0 = some r) : PCall Try.prog 195 [eS a0] ((eL 3 eS_a189) (r)) := by
 unfold synthesisref09_catalog at h
 refine pcl [.one (.sl 3)] Try.func195 (by kernel_rfl) (by kernel_rfl) (by kernel_rfl) ?_
 refine cd 15 h (by kernel_rfl) (fun h => ?_) fun h => ?_
 ·cases h; exact lq 12 (by kernel_rfl)
 refine cd 5 h (by kernel_rfl) (fun h => ?_) fun h => ?_
 ·cases h; exact lq 14 (by kernel_rfl)
 refine cd 5 h (by kernel_rfl) (fun h => ?_) fun h => ?_
 ·cases h; exact lq 25 (by kernel_rfl)
 refine cd 5 h (by kernel_rfl) (fun h => ?_) fun h => ?_
 ·cases h; exact lq 16 (by kernel_rfl)
 refine cd 5 h (by kernel_rfl) (fun h => ?_) fun h => ?_
 ·cases h; exact lq 26 (by kernel_rfl)
 refine cd 5 h (by kernel_rfl) (fun h => ?_) fun h => ?_
 ·cases h; exact lq 19 (by kernel_rfl)
 cases h; exact lq 19 (by kernel_rfl)

def synthesisref09_families  : Option (List ByteArray) := (some ([(⟨#[108, 111, 103, 105, 99]⟩ : ByteArray), (⟨#[110, 117, 109, 98, 101, 114, 115]⟩ : ByteArray), (⟨#[116, 101, 120, 116, 115]⟩ : ByteArray), (⟨#[112, 97, 116, 116, 101, 114, 110, 115]⟩ : ByteArray), (⟨#[108, 105, 115, 116, 115]⟩ : ByteArray), (⟨#[116, 97, 98, 108, 101, 115]⟩ : ByteArray), (⟨#[98, 105, 116, 115]⟩ : ByteArray)] : List (ByteArray)))
theorem synthesisref09_families_ok  (r : List ByteArray) (h : synthesisref09_families  = some r) : PCall Try.prog 198 [] ((eL 1 eS) (r)) := by
 unfold synthesisref09_families at h
 refine pcl [.one (.sl 1)] Try.func198 (by kernel_rfl) (by kernel_rfl) (by kernel_rfl) ?_
 cases h; exact lq 10 (by kernel_rfl)

def synthesisref09_Family_l1 (a0 : ByteArray) (v3 : ByteArray) (v4 : List S_a189) (v5 : (Int)) : Option (((Int)) ⊕ (((Unit) ⊕ (ByteArray)))) := (bif (decide (v5 < (List.length v4 : Int))) then (Option.bind (idx v4 v5) fun v6 => (bif (v6.f_0.toList == a0.toList) then (some (.inr (.inr v3))) else (some (.inl ((w64 (v5 + 1))))))) else (some (.inr (.inl ()))))
def synthesisref09_Family_l2 (a0 : ByteArray) (v1 : List ByteArray) (v2 : (Int)) : Option (((Int)) ⊕ (((Unit) ⊕ (ByteArray)))) := (bif (decide (v2 < (List.length v1 : Int))) then (Option.bind (idx v1 v2) fun v3 => (Option.bind (synthesisref09_catalog (v3)) fun v4 => (Option.bind (loopN (synthesisref09_Family_l1 a0 v3 v4) fuel (0)) fun (v7 : ((Unit) ⊕ (ByteArray))) => Sum.elim (fun v8 => (some (.inl ((w64 (v2 + 1)))))) (fun v9 => (some (.inr (.inr v9)))) v7))) else (some (.inr (.inl ()))))
def synthesisref09_Family (a0 : ByteArray) : Option (ByteArray) := (Option.bind (synthesisref09_families ) fun v1 => (Option.bind (loopN (synthesisref09_Family_l2 a0 v1) fuel (0)) fun (v10 : ((Unit) ⊕ (ByteArray))) => Sum.elim (fun v11 => (some (⟨#[]⟩ : ByteArray))) (fun v12 => (some v12)) v10))
theorem synthesisref09_Family_ok (a0 : ByteArray) (r : ByteArray) (h : synthesisref09_Family a0 = some r) : PCall Try.prog 194 [eS a0] (eS (r)) := by
 unfold synthesisref09_Family at h
 refine pcl [.one .keep] Try.func194 (by kernel_rfl) (by kernel_rfl) (by kernel_rfl) ?_
 refine cl 7 h (synthesisref09_families_ok) (by kernel_rfl) fun v1 h => ?_
 refine lpx 4 (fun v2 => ⟨27, [(0, (fS (a0))), (7, (.fz ((eL 1 eS) (v1)))), (8, (fI ((List.length v1 : Int)))), (9, (fI (v2)))], [], [], []⟩) (fun v10 e st => Sum.elim (fun p => e = .exit 0 ∧ LeSt st ⟨27, [], [], [], []⟩) (fun p => e = .ret ∧ retX TT st Try.f194.results.toList [.one .keep] = some (eS (p))) v10) h (by kernel_rfl) (le_a (by kernel_rfl)) (fun v2 r h => ?_) fun v10 h e st' hq => ?_
 ·unfold synthesisref09_Family_l2 at h
  refine cd 5 h (by kernel_rfl) (fun h => ?_) fun h => ?_
  ·refine ix nS 5 h (by kernel_rfl) fun v3 h => ?_
   refine cl 6 h (synthesisref09_catalog_ok _) (by kernel_rfl) fun v4 h => ?_
   refine lpx 4 (fun v5 => ⟨27, [(0, (fS (a0))), (4, (fS (v3))), (7, (.fz ((eL 1 eS) (v1)))), (8, (fI ((List.length v1 : Int)))), (9, (fI (v2))), (14, (.fz ((eL 3 eS_a189) (v4)))), (15, (fI ((List.length v4 : Int)))), (16, (fI (v5)))], [], [], []⟩) (fun v7 e st => Sum.elim (fun p => e = .exit 2 ∧ LeSt st ⟨27, [(0, (fS (a0))), (7, (.fz ((eL 1 eS) (v1)))), (8, (fI ((List.length v1 : Int)))), (9, (fI (v2)))], [], [], []⟩) (fun p => e = .ret ∧ retX TT st Try.f194.results.toList [.one .keep] = some (eS (p))) v7) h (by kernel_rfl) (le_a (by kernel_rfl)) (fun v5 r h => ?_) fun v7 h e st' hq => ?_
   ·unfold synthesisref09_Family_l1 at h
    refine cd 5 h (by kernel_rfl) (fun h => ?_) fun h => ?_
    ·refine ix nS_a189 5 h (by kernel_rfl) fun v6 h => ?_
     refine cd 11 h (by kernel_rfl) (fun h => ?_) fun h => ?_
     ·cases h; exact lor 6 (by kernel_rfl)
     cases h; exact lj 5 (by kernel_rfl)
    cases h; exact lo 1 (by kernel_rfl)
   rcases v7 with v8 | v9
   ·try simp only [Sum.elim_inl, Sum.elim_inr] at h
    obtain ⟨rfl, hle⟩ := hq
    refine ⟨_, hle, ?_⟩
    cases h; exact lj 4 (by kernel_rfl)
   ·try simp only [Sum.elim_inl, Sum.elim_inr] at h
    obtain ⟨rfl, hret⟩ := hq
    refine ⟨_, LeSt.refl, ?_⟩
    cases h; exact lvo hret
  cases h; exact lo 1 (by kernel_rfl)
 rcases v10 with v11 | v12
 ·try simp only [Sum.elim_inl, Sum.elim_inr] at h
  obtain ⟨rfl, hle⟩ := hq
  refine ⟨_, hle, ?_⟩
  cases h; exact lq 5 (by kernel_rfl)
 ·try simp only [Sum.elim_inl, Sum.elim_inr] at h
  obtain ⟨rfl, hret⟩ := hq
  refine ⟨_, LeSt.refl, ?_⟩
  cases h; exact lv hret

def synthesisref09_letter_l1 (a0 : Int) (v1 : (Int)) : Option (((Int)) ⊕ (((Unit) ⊕ (Int)))) := (bif (decide (v1 < ((⟨#[66, 73, 84, 86, 76, 83, 77, 80]⟩ : ByteArray).size : Int))) then (Option.bind (byt (⟨#[66, 73, 84, 86, 76, 83, 77, 80]⟩ : ByteArray) v1) fun v2 => (bif (v2 == a0) then (some (.inr (.inr (w64 (v1 + 1))))) else (some (.inl ((w64 (v1 + 1))))))) else (some (.inr (.inl ()))))
def synthesisref09_letter (a0 : Int) : Option (Int) := (Option.bind (loopN (synthesisref09_letter_l1 a0) fuel (0)) fun (v3 : ((Unit) ⊕ (Int))) => Sum.elim (fun v4 => (some 0)) (fun v5 => (some v5)) v3)
theorem synthesisref09_letter_ok (a0 : Int) (r : Int) (h : synthesisref09_letter a0 = some r) : PCall Try.prog 196 [eU8 a0] (eI (r)) := by
 unfold synthesisref09_letter at h
 refine pcl [.one .keep] Try.func196 (by kernel_rfl) (by kernel_rfl) (by kernel_rfl) ?_
 refine lpx 14 (fun v1 => ⟨18, [(0, (.fz (eU8 (a0)))), (3, (fS ((⟨#[66, 73, 84, 86, 76, 83, 77, 80]⟩ : ByteArray)))), (4, (fI (v1)))], [], [], []⟩) (fun v3 e st => Sum.elim (fun p => e = .exit 0 ∧ LeSt st ⟨18, [], [], [], []⟩) (fun p => e = .ret ∧ retX TT st Try.f196.results.toList [.one .keep] = some (eI (p))) v3) h (by kernel_rfl) (le_a (by kernel_rfl)) (fun v1 r h => ?_) fun v3 h e st' hq => ?_
 ·unfold synthesisref09_letter_l1 at h
  refine cd 8 h (by kernel_rfl) (fun h => ?_) fun h => ?_
  ·refine byx 7 h (by kernel_rfl) fun v2 h => ?_
   refine cd 3 h (by kernel_rfl) (fun h => ?_) fun h => ?_
   ·cases h; exact lor 7 (by kernel_rfl)
   cases h; exact lj 6 (by kernel_rfl)
  cases h; exact lo 1 (by kernel_rfl)
 rcases v3 with v4 | v5
 ·try simp only [Sum.elim_inl, Sum.elim_inr] at h
  obtain ⟨rfl, hle⟩ := hq
  refine ⟨_, hle, ?_⟩
  cases h; exact lq 5 (by kernel_rfl)
 ·try simp only [Sum.elim_inl, Sum.elim_inr] at h
  obtain ⟨rfl, hret⟩ := hq
  refine ⟨_, LeSt.refl, ?_⟩
  cases h; exact lv hret

def synthesisref09_Find_l1 (v4 : S_a189) (v7 : (Int) × (List Int)) : Option (((Int) × (List Int)) ⊕ ((List Int))) := (bif (decide (v7.1 < (v4.f_1.size : Int))) then (Option.bind (byt v4.f_1 v7.1) fun v8 => (Option.bind (synthesisref09_letter (v8)) fun v9 => (Option.bind (app 8 v7.2 ([v9] : List (Int))) fun v10 => (some (.inl ((w64 (v7.1 + 1)), v10)))))) else (some (.inr (v7.2))))
def synthesisref09_Find_l2 (a0 : ByteArray) (v2 : List S_a189) (v3 : (Int)) : Option (((Int)) ⊕ (((Unit) ⊕ ((S_api_Operator) × (Bool))))) := (bif (decide (v3 < (List.length v2 : Int))) then (Option.bind (idx v2 v3) fun v4 => (bif (v4.f_0.toList == a0.toList) then (Option.bind (byt v4.f_2 0) fun v5 => (Option.bind (synthesisref09_letter (v5)) fun v6 => (Option.bind (loopN (synthesisref09_Find_l1 v4) fuel (0, ([] : List (Int)))) fun (v12 : (List Int)) => (some (.inr (.inr ((S_api_Operator.mk (a0) (v12) (v6)), true))))))) else (some (.inl ((w64 (v3 + 1))))))) else (some (.inr (.inl ()))))
def synthesisref09_Find (a0 : ByteArray) : Option ((S_api_Operator) × (Bool)) := (Option.bind (synthesisref09_Family (a0)) fun v1 => (bif (v1.toList == (⟨#[]⟩ : ByteArray).toList) then (some ((S_api_Operator.mk ((⟨#[]⟩ : ByteArray)) (([] : List Int)) (0)), false)) else (Option.bind (synthesisref09_catalog (v1)) fun v2 => (Option.bind (loopN (synthesisref09_Find_l2 a0 v2) fuel (0)) fun (v13 : ((Unit) ⊕ ((S_api_Operator) × (Bool)))) => Sum.elim (fun v14 => (some ((S_api_Operator.mk ((⟨#[]⟩ : ByteArray)) (([] : List Int)) (0)), false))) (fun v15 => (some v15)) v13))))
theorem synthesisref09_Find_ok (a0 : ByteArray) (r : (S_api_Operator) × (Bool)) (h : synthesisref09_Find a0 = some r) : PCall Try.prog 191 [eS a0] (.tup [eS_api_Operator (r.1), eB (r.2)]) := by
 unfold synthesisref09_Find at h
 refine pcl [.ag [.keep, .sl 1, .keep], .one .keep] Try.func191 (by kernel_rfl) (by kernel_rfl) (by kernel_rfl) ?_
 refine cl 8 h (synthesisref09_Family_ok _) (by kernel_rfl) fun v1 h => ?_
 refine cd 8 h (by kernel_rfl) (fun h => ?_) fun h => ?_
 ·cases h; exact lq 7 (by kernel_rfl)
 refine cl 5 h (synthesisref09_catalog_ok _) (by kernel_rfl) fun v2 h => ?_
 refine lpx 4 (fun v3 => ⟨51, [(0, (fS (a0))), (2, (.ref 1 0 0)), (15, (.fz ((eL 3 eS_a189) (v2)))), (16, (fI ((List.length v2 : Int)))), (17, (fI (v3)))], [(1, (.box 171 [(fS ((⟨#[]⟩ : ByteArray))), (.fz (.atom (.slice none 0 0))), (fI (0))]))], [1], []⟩) (fun v13 e st => Sum.elim (fun p => e = .exit 0 ∧ LeSt st ⟨51, [(2, (.ref 1 0 0))], [(1, (.box 171 [(fS ((⟨#[]⟩ : ByteArray))), (.fz (.atom (.slice none 0 0))), (fI (0))]))], [1], []⟩) (fun p => e = .ret ∧ retX TT st Try.f191.results.toList [.ag [.keep, .sl 1, .keep], .one .keep] = some (.tup [eS_api_Operator (p.1), eB (p.2)])) v13) h (by kernel_rfl) (le_a (by kernel_rfl)) (fun v3 r h => ?_) fun v13 h e st' hq => ?_
 ·unfold synthesisref09_Find_l2 at h
  refine cd 5 h (by kernel_rfl) (fun h => ?_) fun h => ?_
  ·refine ix nS_a189 5 h (by kernel_rfl) fun v4 h => ?_
   refine cd 11 h (by kernel_rfl) (fun h => ?_) fun h => ?_
   ·refine byx 5 h (by kernel_rfl) fun v5 h => ?_
    refine cl 0 h (synthesisref09_letter_ok _) (by kernel_rfl) fun v6 h => ?_
    refine wle 10 (le_nilcell (e2 := 171) (e := 3) (size := 1) (id2 := 3) (j := 1) (id := 4) (cells := [(fS (a0)), (.fz (.atom (.slice none 0 0))), (fI (v6))]) (by kernel_rfl) (by kernel_rfl) (by kernel_rfl) (by kernel_rfl)) (by kernel_rfl) ?_
    refine lp1 0 (fun v7 => ⟨51, [(2, (.ref 1 0 0)), (6, (.ref 2 0 0)), (7, (.ref 3 0 0)), (8, (fI (v7.1)))], [(1, (.box 171 [(fS ((⟨#[]⟩ : ByteArray))), (.fz (.atom (.slice none 0 0))), (fI (0))])), (2, (.box 189 [(fS (v4.f_0)), (fS (v4.f_1)), (fS (v4.f_2))])), (3, (.box 171 [(fS (a0)), (.row 4 (List.length (v7.2))), (fI (v6))])), (4, (.frow 3 1 (List.map eI (v7.2))))], [4, 3, 2, 1], []⟩) (.exit 2) (fun v12 => ⟨51, [(2, (.ref 1 0 0)), (7, (.ref 3 0 0))], [(1, (.box 171 [(fS ((⟨#[]⟩ : ByteArray))), (.fz (.atom (.slice none 0 0))), (fI (0))])), (3, (.box 171 [(fS (a0)), (.row 4 (List.length (v12))), (fI (v6))])), (4, (.frow 3 1 (List.map eI (v12))))], [4, 3, 1], []⟩) h (by kernel_rfl) (by kernel_rfl) (fun v7 r h => ?_) fun v12 h => ?_
    ·unfold synthesisref09_Find_l1 at h
     refine cd 9 h (by kernel_rfl) (fun h => ?_) fun h => ?_
     ·refine dw 3 8 (by kernel_rfl) ?_
      refine byx 5 h (by kernel_rfl) fun v8 h => ?_
      refine cl 0 h (synthesisref09_letter_ok _) (by kernel_rfl) fun v9 h => ?_
      refine ap nI 2 h (by kernel_rfl) fun v10 h => ?_
      cases h; exact lj 8 (by kernel_rfl)
     cases h; exact lo 1 (by kernel_rfl)
    refine wle 6 (le_freezeCell (e2 := 171) (id2 := 1) (j := 1) (id := 4) (n := List.length (v12)) (e := 3) (size := 1) (xs := List.map eI (v12)) (cells := [(fS (a0)), (.row 4 (List.length (v12))), (fI (v6))]) (by kernel_rfl) (by kernel_rfl) (by kernel_rfl) (by simp)) (by kernel_rfl) ?_
    cases h; exact lor 1 (by kernel_rfl)
   cases h; exact lj 5 (by kernel_rfl)
  cases h; exact lo 1 (by kernel_rfl)
 rcases v13 with v14 | v15
 ·try simp only [Sum.elim_inl, Sum.elim_inr] at h
  obtain ⟨rfl, hle⟩ := hq
  refine ⟨_, hle, ?_⟩
  cases h; exact lq 7 (by kernel_rfl)
 ·try simp only [Sum.elim_inl, Sum.elim_inr] at h
  obtain ⟨rfl, hret⟩ := hq
  refine ⟨_, LeSt.refl, ?_⟩
  cases h; exact lv hret

def synthesisref11_operation_m0 (a0 : La) (a1 : Ru) (v1 : (S_api_Operator) × (Bool)) : List (Nat × AObj) := [(1, (.box 27 [(fS (a0.name)), (.fz ((eL 1 eI) (a0.inputs))), (.fz ((eL 2 eSy) (a0.symbols))), (.fz ((eL 9 eRu) (a0.rules)))])), (2, (.box 67 [(fI (a1.symbol)), (fI (a1.kind)), (fI (a1.input)), (fI (a1.const.type)), (fI (a1.const.num)), (fS (a1.const.text)), (.fz ((eL 4 eVaR) (a1.const.items))), (fS (a1.op)), (.fz ((eL 1 eI) (a1.args)))])), (3, (.box 171 [(fS (v1.1.f_Name)), (.fz ((eL 1 eI) (v1.1.f_Args))), (fI (v1.1.f_Result))]))]
def synthesisref11_operation_l1 (a0 : La) (a1 : Ru) (v1 : (S_api_Operator) × (Bool)) (v2 : (Int)) : Option (((Int)) ⊕ (((Unit) ⊕ (Int)))) := (bif (decide (v2 < (List.length a1.args : Int))) then (Option.bind ((Option.bind (idx a1.args v2) fun v3 => (bif (decide (v3 < 0)) then (some (true)) else (Option.bind (idx a1.args v2) fun v4 => (some ((decide ((List.length a0.symbols : Int) ≤ v4))))))) : Option ((Bool))) fun (v6 : (Bool)) => (bif v6 then (some (.inr (.inr 1))) else (Option.bind (idx a1.args v2) fun v7 => (Option.bind (idx a0.symbols v7) fun v8 => (Option.bind (idx v1.1.f_Args v2) fun v9 => (bif (v8.type != v9) then (some (.inr (.inr 3))) else (some (.inl ((w64 (v2 + 1))))))))))) else (some (.inr (.inl ()))))
def synthesisref11_operation (a0 : La) (a1 : Ru) : Option (Int) := (Option.bind (synthesisref09_Find (a1.op)) fun v1 => (bif (!v1.2) then (some 5) else (bif ((List.length a1.args : Int) != (List.length v1.1.f_Args : Int)) then (some 2) else (Option.bind (loopN (synthesisref11_operation_l1 a0 a1 v1) fuel (0)) fun (v10 : ((Unit) ⊕ (Int))) => Sum.elim (fun v11 => (Option.bind (idx a0.symbols a1.symbol) fun v12 => (bif (v12.type != v1.1.f_Result) then (some 3) else (some 0)))) (fun v13 => (some v13)) v10))))
theorem synthesisref11_operation_ok (a0 : La) (a1 : Ru) (r : Int) (h : synthesisref11_operation a0 a1 = some r) : PCall Try.prog 181 [eLa a0, eRu a1] (eI (r)) := by
 unfold synthesisref11_operation at h
 refine pcl [.one .keep] Try.func181 (by kernel_rfl) (by kernel_rfl) (by kernel_rfl) ?_
 refine cl 10 h (synthesisref09_Find_ok _) (by kernel_rfl) fun v1 h => ?_
 refine cd 13 h (by kernel_rfl) (fun h => ?_) fun h => ?_
 ·cases h; exact lq 5 (by kernel_rfl)
 refine cd 12 h (by kernel_rfl) (fun h => ?_) fun h => ?_
 ·cases h; exact lq 5 (by kernel_rfl)
 refine lpx 7 (fun v2 => ⟨73, [(2, (.ref 1 0 0)), (3, (.ref 2 0 0)), (5, (.ref 3 0 0)), (7, (fI (v2)))], (synthesisref11_operation_m0 a0 a1 v1), [3, 2, 1], []⟩) (fun v10 e st => Sum.elim (fun p => e = .exit 0 ∧ LeSt st ⟨73, [(2, (.ref 1 0 0)), (3, (.ref 2 0 0)), (5, (.ref 3 0 0))], (synthesisref11_operation_m0 a0 a1 v1), [3, 2, 1], []⟩) (fun p => e = .ret ∧ retX TT st Try.f181.results.toList [.one .keep] = some (eI (p))) v10) h (by kernel_rfl) (le_a (by kernel_rfl)) (fun v2 r h => ?_) fun v10 h e st' hq => ?_
 ·unfold synthesisref11_operation_l1 at h
  refine cd 9 h (by kernel_rfl) (fun h => ?_) fun h => ?_
  ·refine jn1 5 .normal (fun v6 => ⟨73, [(2, (.ref 1 0 0)), (3, (.ref 2 0 0)), (5, (.ref 3 0 0)), (7, (fI (v2))), (46, (fB (v6)))], (synthesisref11_operation_m0 a0 a1 v1), [3, 2, 1], []⟩) h (by kernel_rfl) (fun v6 h => ?_) fun v6 h => ?_
   ·refine dw 0 15 (by kernel_rfl) ?_
    refine ix nI 3 h (by kernel_rfl) fun v3 h => ?_
    refine gd 3 h (by kernel_rfl) (fun h => ?_) fun h => ?_
    ·cases h; exact lj 12 (by kernel_rfl)
    refine ix nI 3 h (by kernel_rfl) fun v4 h => ?_
    cases h; exact lj 8 (by kernel_rfl)
   refine cd 0 h (by kernel_rfl) (fun h => ?_) fun h => ?_
   ·cases h; exact lor 5 (by kernel_rfl)
   refine dw 2 15 (by kernel_rfl) ?_
   refine ix nI 5 h (by kernel_rfl) fun v7 h => ?_
   refine ix nSy 1 h (by kernel_rfl) fun v8 h => ?_
   refine ix nI 5 h (by kernel_rfl) fun v9 h => ?_
   refine cd 4 h (by kernel_rfl) (fun h => ?_) fun h => ?_
   ·cases h; exact lor 5 (by kernel_rfl)
   cases h; exact lj 6 (by kernel_rfl)
  cases h; exact lo 1 (by kernel_rfl)
 rcases v10 with v11 | v13
 ·try simp only [Sum.elim_inl, Sum.elim_inr] at h
  obtain ⟨rfl, hle⟩ := hq
  refine ⟨_, hle, ?_⟩
  refine dw 2 9 (by kernel_rfl) ?_
  refine ix nSy 4 h (by kernel_rfl) fun v12 h => ?_
  refine cd 7 h (by kernel_rfl) (fun h => ?_) fun h => ?_
  ·cases h; exact lq 5 (by kernel_rfl)
  cases h; exact lq 6 (by kernel_rfl)
 ·try simp only [Sum.elim_inl, Sum.elim_inr] at h
  obtain ⟨rfl, hret⟩ := hq
  refine ⟨_, LeSt.refl, ?_⟩
  cases h; exact lv hret

def synthesisref11_rule_m0 (a0 : La) (a1 : Ru) : List (Nat × AObj) := [(1, (.box 27 [(fS (a0.name)), (.fz ((eL 1 eI) (a0.inputs))), (.fz ((eL 2 eSy) (a0.symbols))), (.fz ((eL 9 eRu) (a0.rules)))])), (2, (.box 67 [(fI (a1.symbol)), (fI (a1.kind)), (fI (a1.input)), (fI (a1.const.type)), (fI (a1.const.num)), (fS (a1.const.text)), (.fz ((eL 4 eVaR) (a1.const.items))), (fS (a1.op)), (.fz ((eL 1 eI) (a1.args)))]))]
def synthesisref11_rule (a0 : La) (a1 : Ru) : Option (Int) := (Option.bind ((bif (decide (a1.symbol < 0)) then (some (true)) else (some ((decide ((List.length a0.symbols : Int) ≤ a1.symbol))))) : Option ((Bool))) fun (v2 : (Bool)) => (bif v2 then (some 1) else (Option.bind ((bif (decide (a1.kind < 1)) then (some (true)) else (bif (decide (3 < a1.kind)) then (some (true)) else (Option.bind (synthesisref11_zero (a1)) fun v3 => (some ((!v3)))))) : Option ((Bool))) fun (v5 : (Bool)) => (bif v5 then (some 4) else (Option.bind (idx a0.symbols a1.symbol) fun v6 => (bif (a1.kind == 1) then (Option.bind ((bif (decide (a1.input < 0)) then (some (true)) else (some ((decide ((List.length a0.inputs : Int) ≤ a1.input))))) : Option ((Bool))) fun (v8 : (Bool)) => (bif v8 then (some 1) else (Option.bind (idx a0.inputs a1.input) fun v9 => (bif (v9 != v6.type) then (some 3) else (some 0))))) else (bif (a1.kind == 2) then (Option.bind (synthesisref01_Check fuel (a1.const)) fun v10 => (bif (v10 != 0) then (some v10) else (bif (a1.const.type != v6.type) then (some 3) else (some 0)))) else (Option.bind (synthesisref11_operation (a0) (a1)) fun v11 => (some v11)))))))))
theorem synthesisref11_rule_ok (a0 : La) (a1 : Ru) (r : Int) (h : synthesisref11_rule a0 a1 = some r) : PCall Try.prog 151 [eLa a0, eRu a1] (eI (r)) := by
 unfold synthesisref11_rule at h
 refine pcl [.one .keep] Try.func151 (by kernel_rfl) (by kernel_rfl) (by kernel_rfl) ?_
 refine jn1 8 .normal (fun v2 => ⟨77, [(2, (.ref 1 0 0)), (3, (.ref 2 0 0)), (17, (fB (v2)))], (synthesisref11_rule_m0 a0 a1), [2, 1], []⟩) h (by kernel_rfl) (fun v2 h => ?_) fun v2 h => ?_
 ·refine gd 5 h (by kernel_rfl) (fun h => ?_) fun h => ?_
  ·cases h; exact lj 8 (by kernel_rfl)
  cases h; exact lj 8 (by kernel_rfl)
 refine cd 0 h (by kernel_rfl) (fun h => ?_) fun h => ?_
 ·cases h; exact lq 5 (by kernel_rfl)
 refine jn1 3 .normal (fun v5 => ⟨77, [(2, (.ref 1 0 0)), (3, (.ref 2 0 0)), (30, (fB (v5)))], (synthesisref11_rule_m0 a0 a1), [2, 1], []⟩) h (by kernel_rfl) (fun v5 h => ?_) fun v5 h => ?_
 ·refine gd 5 h (by kernel_rfl) (fun h => ?_) fun h => ?_
  ·cases h; exact lj 10 (by kernel_rfl)
  refine gd 5 h (by kernel_rfl) (fun h => ?_) fun h => ?_
  ·cases h; exact lj 5 (by kernel_rfl)
  refine cl 1 h (synthesisref11_zero_ok _) (by kernel_rfl) fun v3 h => ?_
  cases h; exact lj 3 (by kernel_rfl)
 refine cd 0 h (by kernel_rfl) (fun h => ?_) fun h => ?_
 ·cases h; exact lq 5 (by kernel_rfl)
 refine ix nSy 7 h (by kernel_rfl) fun v6 h => ?_
 refine cd 16 h (by kernel_rfl) (fun h => ?_) fun h => ?_
 ·refine jn1 2 .normal (fun v8 => ⟨77, [(2, (.ref 1 0 0)), (3, (.ref 2 0 0)), (5, (fI (v6.type))), (52, (fB (v8)))], (synthesisref11_rule_m0 a0 a1), [2, 1], []⟩) h (by kernel_rfl) (fun v8 h => ?_) fun v8 h => ?_
  ·refine gd 5 h (by kernel_rfl) (fun h => ?_) fun h => ?_
   ·cases h; exact lj 8 (by kernel_rfl)
   cases h; exact lj 8 (by kernel_rfl)
  refine cd 0 h (by kernel_rfl) (fun h => ?_) fun h => ?_
  ·cases h; exact lq 5 (by kernel_rfl)
  refine ix nI 8 h (by kernel_rfl) fun v9 h => ?_
  refine cd 4 h (by kernel_rfl) (fun h => ?_) fun h => ?_
  ·cases h; exact lq 5 (by kernel_rfl)
  cases h; exact lq 6 (by kernel_rfl)
 refine cd 5 h (by kernel_rfl) (fun h => ?_) fun h => ?_
 ·refine cl 5 h (synthesisref01_Check_ok _ _) (by kernel_rfl) fun v10 h => ?_
  refine cd 7 h (by kernel_rfl) (fun h => ?_) fun h => ?_
  ·cases h; exact lq 6 (by kernel_rfl)
  refine cd 10 h (by kernel_rfl) (fun h => ?_) fun h => ?_
  ·cases h; exact lq 5 (by kernel_rfl)
  cases h; exact lq 6 (by kernel_rfl)
 refine cl 5 h (synthesisref11_operation_ok _ _) (by kernel_rfl) fun v11 h => ?_
 cases h; exact lq 3 (by kernel_rfl)
end Go.Proofs.Ytaeicmnimjfbaaa
