/- Typed programs and what computes them. -/
import Derived.Test.YtaeicmnimjfbaaaZ0
set_option linter.unusedVariables false
set_option linter.unusedSimpArgs false
set_option maxRecDepth 100000
namespace Go.Proofs.Ytaeicmnimjfbaaa
open Go Go.RowKit Go.Proofs
attribute [local irreducible] NStep StepA EStep LeSt
def languages_Vectors_l1 (a0 : List Int) (v1 : (Int) × (List Va)) : Option (((Int) × (List Va)) ⊕ ((List Va))) := (bif (decide (v1.1 < (List.length a0 : Int))) then (Option.bind (idx a0 v1.1) fun v2 => (Option.bind (value_OfBits (v2)) fun v3 => (Option.bind (app 56 v1.2 ([v3] : List (Va))) fun v4 => (some (.inl ((w64 (v1.1 + 1)), v4)))))) else (some (.inr (v1.2))))
def languages_Vectors (a0 : List Int) : Option ((La) × (Int)) := (Option.bind (loopN (languages_Vectors_l1 a0) fuel (0, ([] : List (Va)))) fun (v6 : (List Va)) => (Option.bind (languages_checked (v6)) fun v7 => (bif (v7 != 0) then (some ((La.mk ((⟨#[]⟩ : ByteArray)) (([] : List Int)) (([] : List Sy)) (([] : List Ru))), v7)) else (Option.bind (languages_begin_h ((⟨#[118, 101, 99, 116, 111, 114, 115]⟩ : ByteArray)) (4) (([(Sy.mk ((⟨#[98, 105, 116, 115]⟩ : ByteArray)) (4)), (Sy.mk ((⟨#[110, 117, 109, 98, 101, 114]⟩ : ByteArray)) (2))] : List (Sy)))) fun v8 => (Option.bind (languages_writer_input_h (((⟨#[118, 101, 99, 116, 111, 114, 115]⟩ : ByteArray))) (([(4)] : List (Int))) ((([(Sy.mk ((⟨#[98, 105, 116, 115]⟩ : ByteArray)) (4)), (Sy.mk ((⟨#[110, 117, 109, 98, 101, 114]⟩ : ByteArray)) (2))] : List (Sy)))) (([] : List (Ru))) (0)) fun v9 => (Option.bind (languages_writer_constants_h ((((⟨#[118, 101, 99, 116, 111, 114, 115]⟩ : ByteArray)))) ((([(4)] : List (Int)))) (((([(Sy.mk ((⟨#[98, 105, 116, 115]⟩ : ByteArray)) (4)), (Sy.mk ((⟨#[110, 117, 109, 98, 101, 114]⟩ : ByteArray)) (2))] : List (Sy))))) (v9) (0) (v6)) fun v10 => (Option.bind (languages_writer_ops_h (((((⟨#[118, 101, 99, 116, 111, 114, 115]⟩ : ByteArray))))) (((([(4)] : List (Int))))) ((((([(Sy.mk ((⟨#[98, 105, 116, 115]⟩ : ByteArray)) (4)), (Sy.mk ((⟨#[110, 117, 109, 98, 101, 114]⟩ : ByteArray)) (2))] : List (Sy)))))) (v10) (0) (([0, 0] : List (Int))) (([(⟨#[98, 97, 110, 100]⟩ : ByteArray), (⟨#[98, 111, 114]⟩ : ByteArray), (⟨#[98, 120, 111, 114]⟩ : ByteArray), (⟨#[98, 97, 100, 100]⟩ : ByteArray), (⟨#[98, 115, 117, 98]⟩ : ByteArray), (⟨#[98, 109, 117, 108]⟩ : ByteArray)] : List (ByteArray)))) fun v11 => (Option.bind (languages_writer_ops_h ((((((⟨#[118, 101, 99, 116, 111, 114, 115]⟩ : ByteArray)))))) ((((([(4)] : List (Int)))))) (((((([(Sy.mk ((⟨#[98, 105, 116, 115]⟩ : ByteArray)) (4)), (Sy.mk ((⟨#[110, 117, 109, 98, 101, 114]⟩ : ByteArray)) (2))] : List (Sy))))))) (v11) (0) (([0] : List (Int))) (([(⟨#[98, 110, 111, 116]⟩ : ByteArray)] : List (ByteArray)))) fun v12 => (Option.bind (languages_writer_ops_h (((((((⟨#[118, 101, 99, 116, 111, 114, 115]⟩ : ByteArray))))))) (((((([(4)] : List (Int))))))) ((((((([(Sy.mk ((⟨#[98, 105, 116, 115]⟩ : ByteArray)) (4)), (Sy.mk ((⟨#[110, 117, 109, 98, 101, 114]⟩ : ByteArray)) (2))] : List (Sy)))))))) (v12) (0) (([0, 1] : List (Int))) (([(⟨#[98, 108, 101, 102, 116]⟩ : ByteArray), (⟨#[98, 114, 105, 103, 104, 116]⟩ : ByteArray), (⟨#[98, 97, 114, 105, 116, 104]⟩ : ByteArray)] : List (ByteArray)))) fun v13 => (Option.bind (languages_integers (([1, 2, 4] : List (Int)))) fun v14 => (Option.bind (languages_writer_constants_h ((((((((⟨#[118, 101, 99, 116, 111, 114, 115]⟩ : ByteArray)))))))) ((((((([(4)] : List (Int)))))))) (((((((([(Sy.mk ((⟨#[98, 105, 116, 115]⟩ : ByteArray)) (4)), (Sy.mk ((⟨#[110, 117, 109, 98, 101, 114]⟩ : ByteArray)) (2))] : List (Sy))))))))) (v13) (1) (v14)) fun v15 => (Option.bind (languages_writer_ops_h (((((((((⟨#[118, 101, 99, 116, 111, 114, 115]⟩ : ByteArray))))))))) (((((((([(4)] : List (Int))))))))) ((((((((([(Sy.mk ((⟨#[98, 105, 116, 115]⟩ : ByteArray)) (4)), (Sy.mk ((⟨#[110, 117, 109, 98, 101, 114]⟩ : ByteArray)) (2))] : List (Sy)))))))))) (v15) (1) (([0] : List (Int))) (([(⟨#[111, 110, 101, 115]⟩ : ByteArray)] : List (ByteArray)))) fun v16 => (some ((La.mk ((((((((((⟨#[118, 101, 99, 116, 111, 114, 115]⟩ : ByteArray)))))))))) ((((((((([(4)] : List (Int)))))))))) (((((((((([(Sy.mk ((⟨#[98, 105, 116, 115]⟩ : ByteArray)) (4)), (Sy.mk ((⟨#[110, 117, 109, 98, 101, 114]⟩ : ByteArray)) (2))] : List (Sy))))))))))) (v16)), 0))))))))))))))
theorem languages_Vectors_ok (a0 : List Int) (r : (La) × (Int)) (h : languages_Vectors a0 = some r) : PCall Try.prog 30 [(eL 1 eI) a0] (.tup [eLa (r.1), eI (r.2)]) := by
 unfold languages_Vectors at h
 refine pcl [.ag [.keep, .sl 1, .sl 2, .sl 9], .one .keep] Try.func30 (by kernel_rfl) (by kernel_rfl) (by kernel_rfl) ?_
 refine wle 17 (le_nilrow (e := 65) (size := 4) (t := 4) (id := 2) (by decide) (by kernel_rfl) (by kernel_rfl)) (by kernel_rfl) ?_
 refine lp1 0 (fun v1 => ⟨60, [(2, (.ref 1 0 0)), (4, (.row 2 (List.length (v1.2)))), (9, (.fz ((eL 1 eI) (a0)))), (10, (fI ((List.length a0 : Int)))), (11, (fI (v1.1)))], [(1, (.box 27 [(fS ((⟨#[]⟩ : ByteArray))), (.fz (.atom (.slice none 0 0))), (.fz (.atom (.slice none 0 0))), (.fz (.atom (.slice none 0 0)))])), (2, (.frow 65 4 (List.map eVaR (v1.2))))], [2, 1], []⟩) (.exit 0) (fun v6 => ⟨60, [(2, (.ref 1 0 0)), (4, (.row 2 (List.length (v6))))], [(1, (.box 27 [(fS ((⟨#[]⟩ : ByteArray))), (.fz (.atom (.slice none 0 0))), (.fz (.atom (.slice none 0 0))), (.fz (.atom (.slice none 0 0)))])), (2, (.frow 65 4 (List.map eVaR (v6))))], [2, 1], []⟩) h (by kernel_rfl) (by kernel_rfl) (fun v1 r h => ?_) fun v6 h => ?_
 ·unfold languages_Vectors_l1 at h
  refine cd 5 h (by kernel_rfl) (fun h => ?_) fun h => ?_
  ·refine ix nI 5 h (by kernel_rfl) fun v2 h => ?_
   refine cl 6 h (value_OfBits_ok _) (by kernel_rfl) fun v3 h => ?_
   refine wle 1 (le_eq (t := 18) (x := .lim 4 1 [eVa (v3)]) (y := .lim 4 1 (List.map eVaR ([v3] : List (Va)))) (by kernel_rfl) (by simp only [List.map, eVaR_eq])) (by kernel_rfl) ?_
   refine ap nVaR 0 h (by kernel_rfl) fun v4 h => ?_
   cases h; exact lj 6 (by kernel_rfl)
  cases h; exact lo 1 (by kernel_rfl)
 refine wle 4 (le_freezeTs (id := 2) (n := List.length (v6)) (e := 65) (size := 4) (xs := List.map eVaR (v6)) [4, 21] ⟨by kernel_rfl, by kernel_rfl, trivial⟩ (by kernel_rfl) (by simp)) (by kernel_rfl) ?_
 refine cl 0 h (languages_checked_ok _) (by kernel_rfl) fun v7 h => ?_
 refine cd 7 h (by kernel_rfl) (fun h => ?_) fun h => ?_
 ·cases h; exact lq 8 (by kernel_rfl)
 refine hcl 6 [.one .keep, .one .keep, (.one (.sl 2))] [] [(1, 3), (2, 4)] [] h (languages_begin_h_ok _ _ _) (fun _ => by kernel_rfl) fun v8 h => ?_
 refine wle 5 ((le_a (by kernel_rfl) : LeSt _ ⟨60, [(2, (.ref 1 0 0)), (4, (.fz ((eL 4 eVaR) (v6)))), (8, (.ref 3 0 0)), (31, (.ref 3 0 0))], [(1, (.box 27 [(fS ((⟨#[]⟩ : ByteArray))), (.fz (.atom (.slice none 0 0))), (.fz (.atom (.slice none 0 0))), (.fz (.atom (.slice none 0 0)))])), (3, (.box 83 [(fS (((⟨#[118, 101, 99, 116, 111, 114, 115]⟩ : ByteArray)))), (.fz ((eL 1 eI) (([(4)] : List (Int))))), (.fz ((eL 2 eSy) ((([(Sy.mk ((⟨#[98, 105, 116, 115]⟩ : ByteArray)) (4)), (Sy.mk ((⟨#[110, 117, 109, 98, 101, 114]⟩ : ByteArray)) (2))] : List (Sy)))))), (.row 4 (List.length (([] : List (Ru)))))])), (4, (.frow 67 9 (List.map eRu (([] : List (Ru))))))], [3, 4, 1], []⟩)) (by kernel_rfl) ?_
 refine hcl 0 [.one .keep, .one .keep] [(3, 1), (4, 2)] [(1, 3), (2, 4)] [1, 2] h (languages_writer_input_h_ok _ _ _ _ _) (fun _ => by kernel_rfl) fun v9 h => ?_
 refine hcl 5 [.one .keep, .one .keep, .one .keep] [(3, 1), (4, 2)] [(1, 3), (2, 4)] [1, 2] h (languages_writer_constants_h_ok _ _ _ _ _ _) (fun _ => by kernel_rfl) fun v10 h => ?_
 refine hcl 6 [.one .keep, .one .keep, (.one (.sl 1)), (.one (.sl 1))] [(3, 1), (4, 2)] [(1, 3), (2, 4)] [1, 2] h (languages_writer_ops_h_ok _ _ _ _ _ _ _) (fun _ => by kernel_rfl) fun v11 h => ?_
 refine hcl 6 [.one .keep, .one .keep, (.one (.sl 1)), (.one (.sl 1))] [(3, 1), (4, 2)] [(1, 3), (2, 4)] [1, 2] h (languages_writer_ops_h_ok _ _ _ _ _ _ _) (fun _ => by kernel_rfl) fun v12 h => ?_
 refine hcl 6 [.one .keep, .one .keep, (.one (.sl 1)), (.one (.sl 1))] [(3, 1), (4, 2)] [(1, 3), (2, 4)] [1, 2] h (languages_writer_ops_h_ok _ _ _ _ _ _ _) (fun _ => by kernel_rfl) fun v13 h => ?_
 refine cl 5 h (languages_integers_ok _) (by kernel_rfl) fun v14 h => ?_
 refine hcl 0 [.one .keep, .one .keep, .one .keep] [(3, 1), (4, 2)] [(1, 3), (2, 4)] [1, 2] h (languages_writer_constants_h_ok _ _ _ _ _ _) (fun _ => by kernel_rfl) fun v15 h => ?_
 refine hcl 6 [.one .keep, .one .keep, (.one (.sl 1)), (.one (.sl 1))] [(3, 1), (4, 2)] [(1, 3), (2, 4)] [1, 2] h (languages_writer_ops_h_ok _ _ _ _ _ _ _) (fun _ => by kernel_rfl) fun v16 h => ?_
 refine wle 10 (le_freezeCell (e2 := 27) (id2 := 1) (j := 3) (id := 4) (n := List.length (v16)) (e := 67) (size := 9) (xs := List.map eRu (v16)) (cells := [(fS ((((((((((⟨#[118, 101, 99, 116, 111, 114, 115]⟩ : ByteArray))))))))))), (.fz ((eL 1 eI) ((((((((([(4)] : List (Int)))))))))))), (.fz ((eL 2 eSy) (((((((((([(Sy.mk ((⟨#[98, 105, 116, 115]⟩ : ByteArray)) (4)), (Sy.mk ((⟨#[110, 117, 109, 98, 101, 114]⟩ : ByteArray)) (2))] : List (Sy))))))))))))), (.row 4 (List.length (v16)))]) (by kernel_rfl) (by kernel_rfl) (by kernel_rfl) (by simp)) (by kernel_rfl) ?_
 cases h; exact lq 1 (by kernel_rfl)

def languages_Reshaping (a0 : List Int) : Option ((La) × (Int)) := (Option.bind (languages_integers (a0)) fun v1 => (Option.bind (languages_checked (v1)) fun v2 => (bif (v2 != 0) then (some ((La.mk ((⟨#[]⟩ : ByteArray)) (([] : List Int)) (([] : List Sy)) (([] : List Ru))), v2)) else (Option.bind (languages_begin_h ((⟨#[116, 97, 98, 108, 101, 115]⟩ : ByteArray)) (7) (([(Sy.mk ((⟨#[116, 97, 98, 108, 101]⟩ : ByteArray)) (7)), (Sy.mk ((⟨#[110, 117, 109, 98, 101, 114]⟩ : ByteArray)) (2))] : List (Sy)))) fun v3 => (Option.bind (languages_writer_input_h (((⟨#[116, 97, 98, 108, 101, 115]⟩ : ByteArray))) (([(7)] : List (Int))) ((([(Sy.mk ((⟨#[116, 97, 98, 108, 101]⟩ : ByteArray)) (7)), (Sy.mk ((⟨#[110, 117, 109, 98, 101, 114]⟩ : ByteArray)) (2))] : List (Sy)))) (([] : List (Ru))) (0)) fun v4 => (Option.bind (languages_writer_ops_h ((((⟨#[116, 97, 98, 108, 101, 115]⟩ : ByteArray)))) ((([(7)] : List (Int)))) (((([(Sy.mk ((⟨#[116, 97, 98, 108, 101]⟩ : ByteArray)) (7)), (Sy.mk ((⟨#[110, 117, 109, 98, 101, 114]⟩ : ByteArray)) (2))] : List (Sy))))) (v4) (0) (([0] : List (Int))) (([(⟨#[116, 114, 97, 110, 115, 112, 111, 115, 101]⟩ : ByteArray), (⟨#[102, 105, 108, 108]⟩ : ByteArray), (⟨#[112, 105, 118, 111, 116]⟩ : ByteArray)] : List (ByteArray)))) fun v5 => (Option.bind (languages_writer_ops_h (((((⟨#[116, 97, 98, 108, 101, 115]⟩ : ByteArray))))) (((([(7)] : List (Int))))) ((((([(Sy.mk ((⟨#[116, 97, 98, 108, 101]⟩ : ByteArray)) (7)), (Sy.mk ((⟨#[110, 117, 109, 98, 101, 114]⟩ : ByteArray)) (2))] : List (Sy)))))) (v5) (0) (([0, 1] : List (Int))) (([(⟨#[100, 114, 111, 112, 114, 111, 119]⟩ : ByteArray), (⟨#[100, 114, 111, 112, 99, 111, 108, 117, 109, 110]⟩ : ByteArray), (⟨#[115, 111, 114, 116, 116, 97, 98, 108, 101]⟩ : ByteArray), (⟨#[117, 110, 112, 105, 118, 111, 116]⟩ : ByteArray)] : List (ByteArray)))) fun v6 => (Option.bind (languages_writer_ops_h ((((((⟨#[116, 97, 98, 108, 101, 115]⟩ : ByteArray)))))) ((((([(7)] : List (Int)))))) (((((([(Sy.mk ((⟨#[116, 97, 98, 108, 101]⟩ : ByteArray)) (7)), (Sy.mk ((⟨#[110, 117, 109, 98, 101, 114]⟩ : ByteArray)) (2))] : List (Sy))))))) (v6) (0) (([0, 0] : List (Int))) (([(⟨#[115, 116, 97, 99, 107]⟩ : ByteArray), (⟨#[98, 101, 115, 105, 100, 101]⟩ : ByteArray)] : List (ByteArray)))) fun v7 => (Option.bind (languages_integers (a0)) fun v8 => (Option.bind (languages_writer_constants_h (((((((⟨#[116, 97, 98, 108, 101, 115]⟩ : ByteArray))))))) (((((([(7)] : List (Int))))))) ((((((([(Sy.mk ((⟨#[116, 97, 98, 108, 101]⟩ : ByteArray)) (7)), (Sy.mk ((⟨#[110, 117, 109, 98, 101, 114]⟩ : ByteArray)) (2))] : List (Sy)))))))) (v7) (1) (v8)) fun v9 => (some ((La.mk ((((((((⟨#[116, 97, 98, 108, 101, 115]⟩ : ByteArray)))))))) ((((((([(7)] : List (Int)))))))) (((((((([(Sy.mk ((⟨#[116, 97, 98, 108, 101]⟩ : ByteArray)) (7)), (Sy.mk ((⟨#[110, 117, 109, 98, 101, 114]⟩ : ByteArray)) (2))] : List (Sy))))))))) (v9)), 0))))))))))))
theorem languages_Reshaping_ok (a0 : List Int) (r : (La) × (Int)) (h : languages_Reshaping a0 = some r) : PCall Try.prog 32 [(eL 1 eI) a0] (.tup [eLa (r.1), eI (r.2)]) := by
 unfold languages_Reshaping at h
 refine pcl [.ag [.keep, .sl 1, .sl 2, .sl 9], .one .keep] Try.func32 (by kernel_rfl) (by kernel_rfl) (by kernel_rfl) ?_
 refine cl 9 h (languages_integers_ok _) (by kernel_rfl) fun v1 h => ?_
 refine cl 0 h (languages_checked_ok _) (by kernel_rfl) fun v2 h => ?_
 refine cd 7 h (by kernel_rfl) (fun h => ?_) fun h => ?_
 ·cases h; exact lq 8 (by kernel_rfl)
 refine hcl 6 [.one .keep, .one .keep, (.one (.sl 2))] [] [(1, 2), (2, 3)] [] h (languages_begin_h_ok _ _ _) (fun _ => by kernel_rfl) fun v3 h => ?_
 refine wle 5 ((le_a (by kernel_rfl) : LeSt _ ⟨39, [(0, (.fz ((eL 1 eI) (a0)))), (2, (.ref 1 0 0)), (5, (.ref 2 0 0)), (17, (.ref 2 0 0))], [(1, (.box 27 [(fS ((⟨#[]⟩ : ByteArray))), (.fz (.atom (.slice none 0 0))), (.fz (.atom (.slice none 0 0))), (.fz (.atom (.slice none 0 0)))])), (2, (.box 83 [(fS (((⟨#[116, 97, 98, 108, 101, 115]⟩ : ByteArray)))), (.fz ((eL 1 eI) (([(7)] : List (Int))))), (.fz ((eL 2 eSy) ((([(Sy.mk ((⟨#[116, 97, 98, 108, 101]⟩ : ByteArray)) (7)), (Sy.mk ((⟨#[110, 117, 109, 98, 101, 114]⟩ : ByteArray)) (2))] : List (Sy)))))), (.row 3 (List.length (([] : List (Ru)))))])), (3, (.frow 67 9 (List.map eRu (([] : List (Ru))))))], [2, 3, 1], []⟩)) (by kernel_rfl) ?_
 refine hcl 0 [.one .keep, .one .keep] [(2, 1), (3, 2)] [(1, 2), (2, 3)] [1, 2] h (languages_writer_input_h_ok _ _ _ _ _) (fun _ => by kernel_rfl) fun v4 h => ?_
 refine hcl 6 [.one .keep, .one .keep, (.one (.sl 1)), (.one (.sl 1))] [(2, 1), (3, 2)] [(1, 2), (2, 3)] [1, 2] h (languages_writer_ops_h_ok _ _ _ _ _ _ _) (fun _ => by kernel_rfl) fun v5 h => ?_
 refine hcl 6 [.one .keep, .one .keep, (.one (.sl 1)), (.one (.sl 1))] [(2, 1), (3, 2)] [(1, 2), (2, 3)] [1, 2] h (languages_writer_ops_h_ok _ _ _ _ _ _ _) (fun _ => by kernel_rfl) fun v6 h => ?_
 refine hcl 6 [.one .keep, .one .keep, (.one (.sl 1)), (.one (.sl 1))] [(2, 1), (3, 2)] [(1, 2), (2, 3)] [1, 2] h (languages_writer_ops_h_ok _ _ _ _ _ _ _) (fun _ => by kernel_rfl) fun v7 h => ?_
 refine cl 5 h (languages_integers_ok _) (by kernel_rfl) fun v8 h => ?_
 refine hcl 0 [.one .keep, .one .keep, .one .keep] [(2, 1), (3, 2)] [(1, 2), (2, 3)] [1, 2] h (languages_writer_constants_h_ok _ _ _ _ _ _) (fun _ => by kernel_rfl) fun v9 h => ?_
 refine wle 10 (le_freezeCell (e2 := 27) (id2 := 1) (j := 3) (id := 3) (n := List.length (v9)) (e := 67) (size := 9) (xs := List.map eRu (v9)) (cells := [(fS ((((((((⟨#[116, 97, 98, 108, 101, 115]⟩ : ByteArray))))))))), (.fz ((eL 1 eI) ((((((([(7)] : List (Int)))))))))), (.fz ((eL 2 eSy) (((((((([(Sy.mk ((⟨#[116, 97, 98, 108, 101]⟩ : ByteArray)) (7)), (Sy.mk ((⟨#[110, 117, 109, 98, 101, 114]⟩ : ByteArray)) (2))] : List (Sy))))))))))), (.row 3 (List.length (v9)))]) (by kernel_rfl) (by kernel_rfl) (by kernel_rfl) (by simp)) (by kernel_rfl) ?_
 cases h; exact lq 1 (by kernel_rfl)

def languages_Get (a0 : ByteArray) : Option ((La) × (Int)) := (bif (a0.toList == (⟨#[115, 116, 114, 105, 110, 103, 115]⟩ : ByteArray).toList) then (Option.bind (languages_Strings (([(⟨#[32]⟩ : ByteArray), (⟨#[45]⟩ : ByteArray), (⟨#[46]⟩ : ByteArray)] : List (ByteArray))) (([0, 1, (-1)] : List (Int)))) fun v1 => (some (v1.1, v1.2))) else (bif (a0.toList == (⟨#[112, 97, 116, 116, 101, 114, 110, 115]⟩ : ByteArray).toList) then (Option.bind (languages_Patterns ((⟨#[97, 98]⟩ : ByteArray))) fun v2 => (some (v2.1, v2.2))) else (bif (a0.toList == (⟨#[108, 105, 115, 116, 115]⟩ : ByteArray).toList) then (Option.bind (languages_Lists (([0, 1, 2] : List (Int)))) fun v3 => (some (v3.1, v3.2))) else (bif (a0.toList == (⟨#[118, 101, 99, 116, 111, 114, 115]⟩ : ByteArray).toList) then (Option.bind (languages_Vectors (([1, 15, 128] : List (Int)))) fun v4 => (some (v4.1, v4.2))) else (bif (a0.toList == (⟨#[116, 97, 98, 108, 101, 115]⟩ : ByteArray).toList) then (Option.bind (languages_Reshaping (([0, 1] : List (Int)))) fun v5 => (some (v5.1, v5.2))) else (some ((La.mk ((⟨#[]⟩ : ByteArray)) (([] : List Int)) (([] : List Sy)) (([] : List Ru))), 5)))))))
theorem languages_Get_ok (a0 : ByteArray) (r : (La) × (Int)) (h : languages_Get a0 = some r) : PCall Try.prog 19 [eS a0] (.tup [eLa (r.1), eI (r.2)]) := by
 unfold languages_Get at h
 refine pcl [.ag [.keep, .sl 1, .sl 2, .sl 9], .one .keep] Try.func19 (by kernel_rfl) (by kernel_rfl) (by kernel_rfl) ?_
 refine cd 16 h (by kernel_rfl) (fun h => ?_) fun h => ?_
 ·refine cl 4 h (languages_Strings_ok _ _) (by kernel_rfl) fun v1 h => ?_
  cases h; exact lq 6 (by kernel_rfl)
 refine cd 5 h (by kernel_rfl) (fun h => ?_) fun h => ?_
 ·refine cl 2 h (languages_Patterns_ok _) (by kernel_rfl) fun v2 h => ?_
  cases h; exact lq 6 (by kernel_rfl)
 refine cd 5 h (by kernel_rfl) (fun h => ?_) fun h => ?_
 ·refine cl 3 h (languages_Lists_ok _) (by kernel_rfl) fun v3 h => ?_
  cases h; exact lq 6 (by kernel_rfl)
 refine cd 5 h (by kernel_rfl) (fun h => ?_) fun h => ?_
 ·refine cl 3 h (languages_Vectors_ok _) (by kernel_rfl) fun v4 h => ?_
  cases h; exact lq 6 (by kernel_rfl)
 refine cd 5 h (by kernel_rfl) (fun h => ?_) fun h => ?_
 ·refine cl 3 h (languages_Reshaping_ok _) (by kernel_rfl) fun v5 h => ?_
  cases h; exact lq 6 (by kernel_rfl)
 cases h; exact lq 8 (by kernel_rfl)

def languages_Names  : Option (List ByteArray) := (some ([(⟨#[115, 116, 114, 105, 110, 103, 115]⟩ : ByteArray), (⟨#[112, 97, 116, 116, 101, 114, 110, 115]⟩ : ByteArray), (⟨#[108, 105, 115, 116, 115]⟩ : ByteArray), (⟨#[118, 101, 99, 116, 111, 114, 115]⟩ : ByteArray), (⟨#[116, 97, 98, 108, 101, 115]⟩ : ByteArray)] : List (ByteArray)))
theorem languages_Names_ok  (r : List ByteArray) (h : languages_Names  = some r) : PCall Try.prog 22 [] ((eL 1 eS) (r)) := by
 unfold languages_Names at h
 refine pcl [.one (.sl 1)] Try.func22 (by kernel_rfl) (by kernel_rfl) (by kernel_rfl) ?_
 cases h; exact lq 10 (by kernel_rfl)

def synthesislaw16_alive  : Option (Bool) := (Option.bind (languages_Names ) fun v1 => (Option.bind (languages_Get ((⟨#[108, 105, 115, 116, 115]⟩ : ByteArray))) fun v2 => (Option.bind ((bif ((List.length v1 : Int) == 5) then (Option.bind (idx v1 0) fun v3 => (bif (v3.toList == (⟨#[115, 116, 114, 105, 110, 103, 115]⟩ : ByteArray).toList) then (bif (v2.2 == 0) then (bif (v2.1.name.toList == (⟨#[108, 105, 115, 116, 115]⟩ : ByteArray).toList) then (some (((List.length v2.1.rules : Int) == 24))) else (some (false))) else (some (false))) else (some (false)))) else (some (false))) : Option ((Bool))) fun (v5 : (Bool)) => (some v5))))
theorem synthesislaw16_alive_ok  (r : Bool) (h : synthesislaw16_alive  = some r) : PCall Try.prog 18 [] (eB (r)) := by
 unfold synthesislaw16_alive at h
 refine pcl [.one .keep] Try.func18 (by kernel_rfl) (by kernel_rfl) (by kernel_rfl) ?_
 refine cl 6 h (languages_Names_ok) (by kernel_rfl) fun v1 h => ?_
 refine cl 4 h (languages_Get_ok _) (by kernel_rfl) fun v2 h => ?_
 refine jn1 8 .normal (fun v5 => ⟨33, [(0, (fB (v5)))], [], [], []⟩) h (by kernel_rfl) (fun v5 h => ?_) fun v5 h => ?_
 ·refine gd 5 h (by kernel_rfl) (fun h => ?_) fun h => ?_
  ·refine ix nS 1 h (by kernel_rfl) fun v3 h => ?_
   refine gd 4 h (by kernel_rfl) (fun h => ?_) fun h => ?_
   ·refine gd 4 h (by kernel_rfl) (fun h => ?_) fun h => ?_
    ·refine gd 5 h (by kernel_rfl) (fun h => ?_) fun h => ?_
     ·cases h; exact lj 7 (by kernel_rfl)
     cases h; exact lj 7 (by kernel_rfl)
    cases h; exact lj 12 (by kernel_rfl)
   cases h; exact lj 16 (by kernel_rfl)
  cases h; exact lj 22 (by kernel_rfl)
 cases h; exact lq 1 (by kernel_rfl)

def synthesisref01_OfText (a0 : ByteArray) : Option (Va) := (some (Va.mk (3) (0) (a0) (([] : List Va))))
theorem synthesisref01_OfText_ok (a0 : ByteArray) (r : Va) (h : synthesisref01_OfText a0 = some r) : PCall Try.prog 69 [eS a0] (eVa (r)) := by
 unfold synthesisref01_OfText at h
 refine pcl [.ag [.keep, .keep, .keep, .sl 4]] Try.func69 (by kernel_rfl) (by kernel_rfl) (by kernel_rfl) ?_
 cases h; exact lq 11 (by kernel_rfl)

def synthesisref01_sign (a0 : Bool) : Option (Int) := (bif a0 then (some (-1)) else (some 1))
theorem synthesisref01_sign_ok (a0 : Bool) (r : Int) (h : synthesisref01_sign a0 = some r) : PCall Try.prog 185 [eB a0] (eI (r)) := by
 unfold synthesisref01_sign at h
 refine pcl [.one .keep] Try.func185 (by kernel_rfl) (by kernel_rfl) (by kernel_rfl) ?_
 refine cd 9 h (by kernel_rfl) (fun h => ?_) fun h => ?_
 ·cases h; exact lq 5 (by kernel_rfl)
 cases h; exact lq 6 (by kernel_rfl)

def synthesisref01_Compare_b (r162 : (Va) → (Va) → Option (Int)) (r186 : (List Va) → (List Va) → Option (Int)) (a0 : Va) (a1 : Va) : Option (Int) := (bif (a0.type != a1.type) then (Option.bind (synthesisref01_sign ((decide (a0.type < a1.type)))) fun v1 => (some v1)) else (bif (a0.num != a1.num) then (Option.bind (synthesisref01_sign ((decide (a0.num < a1.num)))) fun v2 => (some v2)) else (bif (!(a0.text.toList == a1.text.toList)) then (Option.bind (synthesisref01_sign ((Op.bytesLess a0.text.toList a1.text.toList))) fun v3 => (some v3)) else (Option.bind (r186 (a0.items) (a1.items)) fun v4 => (some v4)))))
theorem synthesisref01_Compare_b_ok (r162 : (Va) → (Va) → Option (Int)) (r186 : (List Va) → (List Va) → Option (Int)) (ih162 : ∀ (x0 : Va) (x1 : Va) r, r162 x0 x1 = some r → PCall Try.prog 162 [eVa x0, eVa x1] (eI (r))) (ih186 : ∀ (x0 : List Va) (x1 : List Va) r, r186 x0 x1 = some r → PCall Try.prog 186 [(eL 4 eVaR) x0, (eL 4 eVaR) x1] (eI (r))) (a0 : Va) (a1 : Va) (r : Int) (h : synthesisref01_Compare_b r162 r186 a0 a1 = some r) : PCall Try.prog 162 [eVa a0, eVa a1] (eI (r)) := by
 unfold synthesisref01_Compare_b at h
 refine pcl [.one .keep] Try.func162 (by kernel_rfl) (by kernel_rfl) (by kernel_rfl) ?_
 refine cd 17 h (by kernel_rfl) (fun h => ?_) fun h => ?_
 ·refine cl 7 h (synthesisref01_sign_ok _) (by kernel_rfl) fun v1 h => ?_
  cases h; exact lq 3 (by kernel_rfl)
 refine cd 9 h (by kernel_rfl) (fun h => ?_) fun h => ?_
 ·refine cl 7 h (synthesisref01_sign_ok _) (by kernel_rfl) fun v2 h => ?_
  cases h; exact lq 3 (by kernel_rfl)
 refine cd 9 h (by kernel_rfl) (fun h => ?_) fun h => ?_
 ·refine cl 7 h (synthesisref01_sign_ok _) (by kernel_rfl) fun v3 h => ?_
  cases h; exact lq 3 (by kernel_rfl)
 refine cl 7 h (ih186 _ _) (by kernel_rfl) fun v4 h => ?_
 cases h; exact lq 3 (by kernel_rfl)
def synthesisref01_CompareAll_l1 (a0 : List Va) (a1 : List Va) (r162 : (Va) → (Va) → Option (Int)) (v1 : (Int)) : Option (((Int)) ⊕ (((Unit) ⊕ (Int)))) := (Option.bind ((bif (decide (v1 < (List.length a0 : Int))) then (some ((decide (v1 < (List.length a1 : Int))))) else (some (false))) : Option ((Bool))) fun (v3 : (Bool)) => (bif v3 then (Option.bind (idx a0 v1) fun v4 => (Option.bind (idx a1 v1) fun v5 => (Option.bind (r162 (v4) (v5)) fun v6 => (bif (v6 != 0) then (some (.inr (.inr v6))) else (some (.inl ((w64 (v1 + 1))))))))) else (some (.inr (.inl ())))))
def synthesisref01_CompareAll_b (r162 : (Va) → (Va) → Option (Int)) (r186 : (List Va) → (List Va) → Option (Int)) (a0 : List Va) (a1 : List Va) : Option (Int) := (Option.bind (loopN (synthesisref01_CompareAll_l1 a0 a1 r162) fuel (0)) fun (v7 : ((Unit) ⊕ (Int))) => Sum.elim (fun v8 => (bif ((List.length a0 : Int) == (List.length a1 : Int)) then (some 0) else (Option.bind (synthesisref01_sign ((decide ((List.length a0 : Int) < (List.length a1 : Int))))) fun v9 => (some v9)))) (fun v10 => (some v10)) v7)
theorem synthesisref01_CompareAll_b_ok (r162 : (Va) → (Va) → Option (Int)) (r186 : (List Va) → (List Va) → Option (Int)) (ih162 : ∀ (x0 : Va) (x1 : Va) r, r162 x0 x1 = some r → PCall Try.prog 162 [eVa x0, eVa x1] (eI (r))) (ih186 : ∀ (x0 : List Va) (x1 : List Va) r, r186 x0 x1 = some r → PCall Try.prog 186 [(eL 4 eVaR) x0, (eL 4 eVaR) x1] (eI (r))) (a0 : List Va) (a1 : List Va) (r : Int) (h : synthesisref01_CompareAll_b r162 r186 a0 a1 = some r) : PCall Try.prog 186 [(eL 4 eVaR) a0, (eL 4 eVaR) a1] (eI (r)) := by
 unfold synthesisref01_CompareAll_b at h
 refine pcl [.one .keep] Try.func186 (by kernel_rfl) (by kernel_rfl) (by kernel_rfl) ?_
 refine lpx 10 (fun v1 => ⟨42, [(0, (.fz ((eL 4 eVaR) (a0)))), (1, (.fz ((eL 4 eVaR) (a1)))), (5, (fI (v1)))], [], [], []⟩) (fun v7 e st => Sum.elim (fun p => e = .exit 0 ∧ LeSt st ⟨42, [(0, (.fz ((eL 4 eVaR) (a0)))), (1, (.fz ((eL 4 eVaR) (a1))))], [], [], []⟩) (fun p => e = .ret ∧ retX TT st Try.f186.results.toList [.one .keep] = some (eI (p))) v7) h (by kernel_rfl) (le_a (by kernel_rfl)) (fun v1 r h => ?_) fun v7 h e st' hq => ?_
 ·unfold synthesisref01_CompareAll_l1 at h
  refine jn1 2 .normal (fun v3 => ⟨42, [(0, (.fz ((eL 4 eVaR) (a0)))), (1, (.fz ((eL 4 eVaR) (a1)))), (5, (fI (v1))), (16, (fB (v3)))], [], [], []⟩) h (by kernel_rfl) (fun v3 h => ?_) fun v3 h => ?_
  ·refine gd 6 h (by kernel_rfl) (fun h => ?_) fun h => ?_
   ·cases h; exact lj 6 (by kernel_rfl)
   cases h; exact lj 6 (by kernel_rfl)
  refine cd 0 h (by kernel_rfl) (fun h => ?_) fun h => ?_
  ·refine dw 4 8 (by kernel_rfl) ?_
   refine ix nVaR 2 h (by kernel_rfl) fun v4 h => ?_
   refine ix nVaR 3 h (by kernel_rfl) fun v5 h => ?_
   refine cl 2 h (ih162 _ _) (by kernel_rfl) fun v6 h => ?_
   refine cd 7 h (by kernel_rfl) (fun h => ?_) fun h => ?_
   ·cases h; exact lor 6 (by kernel_rfl)
   cases h; exact lj 6 (by kernel_rfl)
  cases h; exact lo 1 (by kernel_rfl)
 rcases v7 with v8 | v10
 ·try simp only [Sum.elim_inl, Sum.elim_inr] at h
  obtain ⟨rfl, hle⟩ := hq
  refine ⟨_, hle, ?_⟩
  refine cd 9 h (by kernel_rfl) (fun h => ?_) fun h => ?_
  ·cases h; exact lq 5 (by kernel_rfl)
  refine cl 8 h (synthesisref01_sign_ok _) (by kernel_rfl) fun v9 h => ?_
  cases h; exact lq 3 (by kernel_rfl)
 ·try simp only [Sum.elim_inl, Sum.elim_inr] at h
  obtain ⟨rfl, hret⟩ := hq
  refine ⟨_, LeSt.refl, ?_⟩
  cases h; exact lv hret
def synthesisref01_Compare_all : Nat → ((Va) → (Va) → Option (Int)) × ((List Va) → (List Va) → Option (Int))
  | 0 => (fun _ _ => none, fun _ _ => none)
  | n + 1 => (synthesisref01_Compare_b ((synthesisref01_Compare_all n).1) ((synthesisref01_Compare_all n).2), synthesisref01_CompareAll_b ((synthesisref01_Compare_all n).1) ((synthesisref01_Compare_all n).2))
def synthesisref01_Compare (n : Nat) : (Va) → (Va) → Option (Int) := (synthesisref01_Compare_all n).1
def synthesisref01_CompareAll (n : Nat) : (List Va) → (List Va) → Option (Int) := (synthesisref01_Compare_all n).2
theorem synthesisref01_Compare_all_ok : ∀ n : Nat, (∀ (x0 : Va) (x1 : Va) r, synthesisref01_Compare n x0 x1 = some r → PCall Try.prog 162 [eVa x0, eVa x1] (eI (r))) ∧ (∀ (x0 : List Va) (x1 : List Va) r, synthesisref01_CompareAll n x0 x1 = some r → PCall Try.prog 186 [(eL 4 eVaR) x0, (eL 4 eVaR) x1] (eI (r)))
  | 0 => ⟨(fun _ _ _ h => nomatch h), (fun _ _ _ h => nomatch h)⟩
  | n + 1 => ⟨(synthesisref01_Compare_b_ok _ _ ((synthesisref01_Compare_all_ok n).1) ((synthesisref01_Compare_all_ok n).2)), (synthesisref01_CompareAll_b_ok _ _ ((synthesisref01_Compare_all_ok n).1) ((synthesisref01_Compare_all_ok n).2))⟩
theorem synthesisref01_Compare_ok (n : Nat) : ∀ (x0 : Va) (x1 : Va) r, synthesisref01_Compare n x0 x1 = some r → PCall Try.prog 162 [eVa x0, eVa x1] (eI (r)) := (synthesisref01_Compare_all_ok n).1
theorem synthesisref01_CompareAll_ok (n : Nat) : ∀ (x0 : List Va) (x1 : List Va) r, synthesisref01_CompareAll n x0 x1 = some r → PCall Try.prog 186 [(eL 4 eVaR) x0, (eL 4 eVaR) x1] (eI (r)) := (synthesisref01_Compare_all_ok n).2

def synthesisref01_Equal (a0 : Va) (a1 : Va) : Option (Bool) := (Option.bind (synthesisref01_Compare fuel (a0) (a1)) fun v1 => (some (v1 == 0)))
theorem synthesisref01_Equal_ok (a0 : Va) (a1 : Va) (r : Bool) (h : synthesisref01_Equal a0 a1 = some r) : PCall Try.prog 127 [eVa a0, eVa a1] (eB (r)) := by
 unfold synthesisref01_Equal at h
 refine pcl [.one .keep] Try.func127 (by kernel_rfl) (by kernel_rfl) (by kernel_rfl) ?_
 refine cl 10 h (synthesisref01_Compare_ok _ _ _) (by kernel_rfl) fun v1 h => ?_
 cases h; exact lq 4 (by kernel_rfl)

def synthesisref01_within (a0 : Int) (a1 : Int) (a2 : Int) : Option (Int) := (Option.bind ((bif (decide (a0 < a1)) then (some (true)) else (some ((decide (a2 < a0))))) : Option ((Bool))) fun (v2 : (Bool)) => (bif v2 then (some 1) else (some 0)))
theorem synthesisref01_within_ok (a0 : Int) (a1 : Int) (a2 : Int) (r : Int) (h : synthesisref01_within a0 a1 a2 = some r) : PCall Try.prog 169 [eI a0, eI a1, eI a2] (eI (r)) := by
 unfold synthesisref01_within at h
 refine pcl [.one .keep] Try.func169 (by kernel_rfl) (by kernel_rfl) (by kernel_rfl) ?_
 refine jn1 6 .normal (fun v2 => ⟨15, [(14, (fB (v2)))], [], [], []⟩) h (by kernel_rfl) (fun v2 h => ?_) fun v2 h => ?_
 ·refine gd 5 h (by kernel_rfl) (fun h => ?_) fun h => ?_
  ·cases h; exact lj 5 (by kernel_rfl)
  cases h; exact lj 5 (by kernel_rfl)
 refine cd 0 h (by kernel_rfl) (fun h => ?_) fun h => ?_
 ·cases h; exact lq 5 (by kernel_rfl)
 cases h; exact lq 6 (by kernel_rfl)

def synthesisref01_plain_l1 (a0 : ByteArray) (v3 : (Int)) : Option (((Int)) ⊕ (((Unit) ⊕ (Int)))) := (bif (decide (v3 < (a0.size : Int))) then (Option.bind ((Option.bind (byt a0 v3) fun v4 => (bif (decide (v4 < 32)) then (some (true)) else (Option.bind (byt a0 v3) fun v5 => (some ((decide (126 < v5))))))) : Option ((Bool))) fun (v7 : (Bool)) => (bif v7 then (some (.inr (.inr 1))) else (some (.inl ((w64 (v3 + 1))))))) else (some (.inr (.inl ()))))
def synthesisref01_plain (a0 : ByteArray) (a1 : Int) (a2 : Int) : Option (Int) := (Option.bind ((bif (decide ((a0.size : Int) < a1)) then (some (true)) else (some ((decide (a2 < (a0.size : Int)))))) : Option ((Bool))) fun (v2 : (Bool)) => (bif v2 then (some 2) else (Option.bind (loopN (synthesisref01_plain_l1 a0) fuel (0)) fun (v8 : ((Unit) ⊕ (Int))) => Sum.elim (fun v9 => (some 0)) (fun v10 => (some v10)) v8)))
theorem synthesisref01_plain_ok (a0 : ByteArray) (a1 : Int) (a2 : Int) (r : Int) (h : synthesisref01_plain a0 a1 a2 = some r) : PCall Try.prog 170 [eS a0, eI a1, eI a2] (eI (r)) := by
 unfold synthesisref01_plain at h
 refine pcl [.one .keep] Try.func170 (by kernel_rfl) (by kernel_rfl) (by kernel_rfl) ?_
 refine jn1 6 .normal (fun v2 => ⟨34, [(0, (fS (a0))), (17, (fB (v2)))], [], [], []⟩) h (by kernel_rfl) (fun v2 h => ?_) fun v2 h => ?_
 ·refine gd 6 h (by kernel_rfl) (fun h => ?_) fun h => ?_
  ·cases h; exact lj 6 (by kernel_rfl)
  cases h; exact lj 6 (by kernel_rfl)
 refine cd 0 h (by kernel_rfl) (fun h => ?_) fun h => ?_
 ·cases h; exact lq 5 (by kernel_rfl)
 refine lpx 7 (fun v3 => ⟨34, [(0, (fS (a0))), (7, (fI (v3)))], [], [], []⟩) (fun v8 e st => Sum.elim (fun p => e = .exit 0 ∧ LeSt st ⟨34, [], [], [], []⟩) (fun p => e = .ret ∧ retX TT st Try.f170.results.toList [.one .keep] = some (eI (p))) v8) h (by kernel_rfl) (le_a (by kernel_rfl)) (fun v3 r h => ?_) fun v8 h e st' hq => ?_
 ·unfold synthesisref01_plain_l1 at h
  refine cd 8 h (by kernel_rfl) (fun h => ?_) fun h => ?_
  ·refine jn1 4 .normal (fun v7 => ⟨34, [(0, (fS (a0))), (7, (fI (v3))), (33, (fB (v7)))], [], [], []⟩) h (by kernel_rfl) (fun v7 h => ?_) fun v7 h => ?_
   ·refine byx 3 h (by kernel_rfl) fun v4 h => ?_
    refine gd 2 h (by kernel_rfl) (fun h => ?_) fun h => ?_
    ·cases h; exact lj 6 (by kernel_rfl)
    refine byx 2 h (by kernel_rfl) fun v5 h => ?_
    cases h; exact lj 3 (by kernel_rfl)
   refine cd 0 h (by kernel_rfl) (fun h => ?_) fun h => ?_
   ·cases h; exact lor 5 (by kernel_rfl)
   cases h; exact lj 6 (by kernel_rfl)
  cases h; exact lo 1 (by kernel_rfl)
 rcases v8 with v9 | v10
 ·try simp only [Sum.elim_inl, Sum.elim_inr] at h
  obtain ⟨rfl, hle⟩ := hq
  refine ⟨_, hle, ?_⟩
  cases h; exact lq 5 (by kernel_rfl)
 ·try simp only [Sum.elim_inl, Sum.elim_inr] at h
  obtain ⟨rfl, hret⟩ := hq
  refine ⟨_, LeSt.refl, ?_⟩
  cases h; exact lv hret

def synthesisref01_Check_m0 (a0 : Va) : List (Nat × AObj) := [(1, (.box 65 [(fI (a0.type)), (fI (a0.num)), (fS (a0.text)), (.fz ((eL 4 eVaR) (a0.items)))]))]
def synthesisref01_Check_b (r131 : (Va) → Option (Int)) (r171 : (List Va) → (Int) → Option (Int)) (r172 : (List Va) → Option (Int)) (a0 : Va) : Option (Int) := (Option.bind ((bif (decide (a0.type < 1)) then (some (true)) else (some ((decide (8 < a0.type))))) : Option ((Bool))) fun (v2 : (Bool)) => (bif v2 then (some 3) else (Option.bind ((bif (a0.type == 1) then (some (true)) else (bif (a0.type == 2) then (some (true)) else (some ((a0.type == 4))))) : Option ((Bool))) fun (v4 : (Bool)) => (Option.bind ((bif (a0.type == 3) then (some (true)) else (some ((a0.type == 8)))) : Option ((Bool))) fun (v6 : (Bool)) => (Option.bind ((bif (!v4) then (bif (a0.num != 0) then (some (true)) else (bif (!v6) then (bif (!(a0.text.toList == (⟨#[]⟩ : ByteArray).toList)) then (some (true)) else (bif v4 then (some ((decide (0 < (List.length a0.items : Int))))) else (bif v6 then (some ((decide (0 < (List.length a0.items : Int))))) else (some (false))))) else (bif v4 then (some ((decide (0 < (List.length a0.items : Int))))) else (bif v6 then (some ((decide (0 < (List.length a0.items : Int))))) else (some (false)))))) else (bif (!v6) then (bif (!(a0.text.toList == (⟨#[]⟩ : ByteArray).toList)) then (some (true)) else (bif v4 then (some ((decide (0 < (List.length a0.items : Int))))) else (bif v6 then (some ((decide (0 < (List.length a0.items : Int))))) else (some (false))))) else (bif v4 then (some ((decide (0 < (List.length a0.items : Int))))) else (bif v6 then (some ((decide (0 < (List.length a0.items : Int))))) else (some (false)))))) : Option ((Bool))) fun (v8 : (Bool)) => (bif v8 then (some 4) else (bif (a0.type == 1) then (Option.bind (synthesisref01_within (a0.num) (0) (1)) fun v9 => (some v9)) else (bif (a0.type == 2) then (Option.bind (synthesisref01_within (a0.num) ((-1000000)) (1000000)) fun v10 => (some v10)) else (bif (a0.type == 4) then (Option.bind (synthesisref01_within (a0.num) (0) (255)) fun v11 => (some v11)) else (bif (a0.type == 3) then (Option.bind (synthesisref01_plain (a0.text) (0) (64)) fun v12 => (some v12)) else (bif (a0.type == 8) then (Option.bind (synthesisref01_plain (a0.text) (1) (40)) fun v13 => (some v13)) else (bif (a0.type == 5) then (Option.bind (r171 (a0.items) (2)) fun v14 => (some v14)) else (bif (a0.type == 6) then (Option.bind (r171 (a0.items) (3)) fun v15 => (some v15)) else (Option.bind (r172 (a0.items)) fun v16 => (some v16)))))))))))))))
theorem synthesisref01_Check_b_ok (r131 : (Va) → Option (Int)) (r171 : (List Va) → (Int) → Option (Int)) (r172 : (List Va) → Option (Int)) (ih131 : ∀ (x0 : Va) r, r131 x0 = some r → PCall Try.prog 131 [eVa x0] (eI (r))) (ih171 : ∀ (x0 : List Va) (x1 : Int) r, r171 x0 x1 = some r → PCall Try.prog 171 [(eL 4 eVaR) x0, eI x1] (eI (r))) (ih172 : ∀ (x0 : List Va) r, r172 x0 = some r → PCall Try.prog 172 [(eL 4 eVaR) x0] (eI (r))) (a0 : Va) (r : Int) (h : synthesisref01_Check_b r131 r171 r172 a0 = some r) : PCall Try.prog 131 [eVa a0] (eI (r)) := by
 unfold synthesisref01_Check_b at h
 refine pcl [.one .keep] Try.func131 (by kernel_rfl) (by kernel_rfl) (by kernel_rfl) ?_
 refine jn1 7 .normal (fun v2 => ⟨102, [(1, (.ref 1 0 0)), (12, (fB (v2)))], (synthesisref01_Check_m0 a0), [1], []⟩) h (by kernel_rfl) (fun v2 h => ?_) fun v2 h => ?_
 ·refine gd 5 h (by kernel_rfl) (fun h => ?_) fun h => ?_
  ·cases h; exact lj 5 (by kernel_rfl)
  cases h; exact lj 5 (by kernel_rfl)
 refine cd 0 h (by kernel_rfl) (fun h => ?_) fun h => ?_
 ·cases h; exact lq 5 (by kernel_rfl)
 refine jn1 2 .normal (fun v4 => ⟨102, [(1, (.ref 1 0 0)), (3, (fB (v4)))], (synthesisref01_Check_m0 a0), [1], []⟩) h (by kernel_rfl) (fun v4 h => ?_) fun v4 h => ?_
 ·refine gd 5 h (by kernel_rfl) (fun h => ?_) fun h => ?_
  ·cases h; exact lj 11 (by kernel_rfl)
  refine gd 5 h (by kernel_rfl) (fun h => ?_) fun h => ?_
  ·cases h; exact lj 6 (by kernel_rfl)
  cases h; exact lj 6 (by kernel_rfl)
 refine jn1 1 .normal (fun v6 => ⟨102, [(1, (.ref 1 0 0)), (3, (fB (v4))), (4, (fB (v6)))], (synthesisref01_Check_m0 a0), [1], []⟩) h (by kernel_rfl) (fun v6 h => ?_) fun v6 h => ?_
 ·refine gd 5 h (by kernel_rfl) (fun h => ?_) fun h => ?_
  ·cases h; exact lj 6 (by kernel_rfl)
  cases h; exact lj 6 (by kernel_rfl)
 refine jn1 2 .normal (fun v8 => ⟨102, [(1, (.ref 1 0 0)), (61, (fB (v8)))], (synthesisref01_Check_m0 a0), [1], []⟩) h (by kernel_rfl) (fun v8 h => ?_) fun v8 h => ?_
 ·refine gd 4 h (by kernel_rfl) (fun h => ?_) fun h => ?_
  ·refine gd 5 h (by kernel_rfl) (fun h => ?_) fun h => ?_
   ·cases h; exact lj 21 (by kernel_rfl)
   refine gd 3 h (by kernel_rfl) (fun h => ?_) fun h => ?_
   ·refine gd 6 h (by kernel_rfl) (fun h => ?_) fun h => ?_
    ·cases h; exact lj 12 (by kernel_rfl)
    refine gd 2 h (by kernel_rfl) (fun h => ?_) fun h => ?_
    ·cases h; exact lj 10 (by kernel_rfl)
    refine gd 3 h (by kernel_rfl) (fun h => ?_) fun h => ?_
    ·cases h; exact lj 7 (by kernel_rfl)
    cases h; exact lj 7 (by kernel_rfl)
   refine gd 8 h (by kernel_rfl) (fun h => ?_) fun h => ?_
   ·cases h; exact lj 10 (by kernel_rfl)
   refine gd 3 h (by kernel_rfl) (fun h => ?_) fun h => ?_
   ·cases h; exact lj 7 (by kernel_rfl)
   cases h; exact lj 7 (by kernel_rfl)
  refine gd 8 h (by kernel_rfl) (fun h => ?_) fun h => ?_
  ·refine gd 6 h (by kernel_rfl) (fun h => ?_) fun h => ?_
   ·cases h; exact lj 12 (by kernel_rfl)
   refine gd 2 h (by kernel_rfl) (fun h => ?_) fun h => ?_
   ·cases h; exact lj 10 (by kernel_rfl)
   refine gd 3 h (by kernel_rfl) (fun h => ?_) fun h => ?_
   ·cases h; exact lj 7 (by kernel_rfl)
   cases h; exact lj 7 (by kernel_rfl)
  refine gd 8 h (by kernel_rfl) (fun h => ?_) fun h => ?_
  ·cases h; exact lj 10 (by kernel_rfl)
  refine gd 3 h (by kernel_rfl) (fun h => ?_) fun h => ?_
  ·cases h; exact lj 7 (by kernel_rfl)
  cases h; exact lj 7 (by kernel_rfl)
 refine cd 0 h (by kernel_rfl) (fun h => ?_) fun h => ?_
 ·cases h; exact lq 5 (by kernel_rfl)
 refine cd 13 h (by kernel_rfl) (fun h => ?_) fun h => ?_
 ·refine cl 4 h (synthesisref01_within_ok _ _ _) (by kernel_rfl) fun v9 h => ?_
  cases h; exact lq 3 (by kernel_rfl)
 refine cd 5 h (by kernel_rfl) (fun h => ?_) fun h => ?_
 ·refine cl 4 h (synthesisref01_within_ok _ _ _) (by kernel_rfl) fun v10 h => ?_
  cases h; exact lq 3 (by kernel_rfl)
 refine cd 5 h (by kernel_rfl) (fun h => ?_) fun h => ?_
 ·refine cl 4 h (synthesisref01_within_ok _ _ _) (by kernel_rfl) fun v11 h => ?_
  cases h; exact lq 3 (by kernel_rfl)
 refine cd 5 h (by kernel_rfl) (fun h => ?_) fun h => ?_
 ·refine cl 4 h (synthesisref01_plain_ok _ _ _) (by kernel_rfl) fun v12 h => ?_
  cases h; exact lq 3 (by kernel_rfl)
 refine cd 5 h (by kernel_rfl) (fun h => ?_) fun h => ?_
 ·refine cl 4 h (synthesisref01_plain_ok _ _ _) (by kernel_rfl) fun v13 h => ?_
  cases h; exact lq 3 (by kernel_rfl)
 refine cd 5 h (by kernel_rfl) (fun h => ?_) fun h => ?_
 ·refine cl 4 h (ih171 _ _) (by kernel_rfl) fun v14 h => ?_
  cases h; exact lq 3 (by kernel_rfl)
 refine cd 5 h (by kernel_rfl) (fun h => ?_) fun h => ?_
 ·refine cl 4 h (ih171 _ _) (by kernel_rfl) fun v15 h => ?_
  cases h; exact lq 3 (by kernel_rfl)
 refine cl 5 h (ih172 _) (by kernel_rfl) fun v16 h => ?_
 cases h; exact lq 3 (by kernel_rfl)
def synthesisref01_elements_l1 (a0 : List Va) (a1 : Int) (r131 : (Va) → Option (Int)) (v1 : (Int)) : Option (((Int)) ⊕ (((Unit) ⊕ (Int)))) := (bif (decide (v1 < (List.length a0 : Int))) then (Option.bind (idx a0 v1) fun v2 => (bif (v2.type != a1) then (some (.inr (.inr 3))) else (Option.bind (idx a0 v1) fun v3 => (Option.bind (r131 (v3)) fun v4 => (bif (v4 != 0) then (some (.inr (.inr v4))) else (some (.inl ((w64 (v1 + 1)))))))))) else (some (.inr (.inl ()))))
def synthesisref01_elements_b (r131 : (Va) → Option (Int)) (r171 : (List Va) → (Int) → Option (Int)) (r172 : (List Va) → Option (Int)) (a0 : List Va) (a1 : Int) : Option (Int) := (bif (decide (16 < (List.length a0 : Int))) then (some 2) else (Option.bind (loopN (synthesisref01_elements_l1 a0 a1 r131) fuel (0)) fun (v5 : ((Unit) ⊕ (Int))) => Sum.elim (fun v6 => (some 0)) (fun v7 => (some v7)) v5))
theorem synthesisref01_elements_b_ok (r131 : (Va) → Option (Int)) (r171 : (List Va) → (Int) → Option (Int)) (r172 : (List Va) → Option (Int)) (ih131 : ∀ (x0 : Va) r, r131 x0 = some r → PCall Try.prog 131 [eVa x0] (eI (r))) (ih171 : ∀ (x0 : List Va) (x1 : Int) r, r171 x0 x1 = some r → PCall Try.prog 171 [(eL 4 eVaR) x0, eI x1] (eI (r))) (ih172 : ∀ (x0 : List Va) r, r172 x0 = some r → PCall Try.prog 172 [(eL 4 eVaR) x0] (eI (r))) (a0 : List Va) (a1 : Int) (r : Int) (h : synthesisref01_elements_b r131 r171 r172 a0 a1 = some r) : PCall Try.prog 171 [(eL 4 eVaR) a0, eI a1] (eI (r)) := by
 unfold synthesisref01_elements_b at h
 refine pcl [.one .keep] Try.func171 (by kernel_rfl) (by kernel_rfl) (by kernel_rfl) ?_
 refine cd 11 h (by kernel_rfl) (fun h => ?_) fun h => ?_
 ·cases h; exact lq 5 (by kernel_rfl)
 refine lpx 7 (fun v1 => ⟨31, [(0, (.fz ((eL 4 eVaR) (a0)))), (1, (fI (a1))), (5, (fI (v1)))], [], [], []⟩) (fun v5 e st => Sum.elim (fun p => e = .exit 0 ∧ LeSt st ⟨31, [], [], [], []⟩) (fun p => e = .ret ∧ retX TT st Try.f171.results.toList [.one .keep] = some (eI (p))) v5) h (by kernel_rfl) (le_a (by kernel_rfl)) (fun v1 r h => ?_) fun v5 h e st' hq => ?_
 ·unfold synthesisref01_elements_l1 at h
  refine cd 8 h (by kernel_rfl) (fun h => ?_) fun h => ?_
  ·refine ix nVaR 8 h (by kernel_rfl) fun v2 h => ?_
   refine cd 5 h (by kernel_rfl) (fun h => ?_) fun h => ?_
   ·cases h; exact lor 5 (by kernel_rfl)
   refine ix nVaR 5 h (by kernel_rfl) fun v3 h => ?_
   refine cl 1 h (ih131 _) (by kernel_rfl) fun v4 h => ?_
   refine cd 7 h (by kernel_rfl) (fun h => ?_) fun h => ?_
   ·cases h; exact lor 6 (by kernel_rfl)
   cases h; exact lj 6 (by kernel_rfl)
  cases h; exact lo 1 (by kernel_rfl)
 rcases v5 with v6 | v7
 ·try simp only [Sum.elim_inl, Sum.elim_inr] at h
  obtain ⟨rfl, hle⟩ := hq
  refine ⟨_, hle, ?_⟩
  cases h; exact lq 5 (by kernel_rfl)
 ·try simp only [Sum.elim_inl, Sum.elim_inr] at h
  obtain ⟨rfl, hret⟩ := hq
  refine ⟨_, LeSt.refl, ?_⟩
  cases h; exact lv hret
def synthesisref01_rows_l1 (a0 : List Va) (r131 : (Va) → Option (Int)) (v1 : (Int)) : Option (((Int)) ⊕ (((Unit) ⊕ (Int)))) := (bif (decide (v1 < (List.length a0 : Int))) then (Option.bind (idx a0 v1) fun v2 => (bif (v2.type != 6) then (some (.inr (.inr 3))) else (Option.bind (idx a0 v1) fun v3 => (Option.bind ((bif (decide ((List.length v3.items : Int) < 1)) then (some (true)) else (bif (decide (8 < (List.length v3.items : Int))) then (some (true)) else (Option.bind (idx a0 0) fun v4 => (some (((List.length v3.items : Int) != (List.length v4.items : Int))))))) : Option ((Bool))) fun (v6 : (Bool)) => (bif v6 then (some (.inr (.inr 2))) else (Option.bind (idx a0 v1) fun v7 => (Option.bind (r131 (v7)) fun v8 => (bif (v8 != 0) then (some (.inr (.inr v8))) else (some (.inl ((w64 (v1 + 1))))))))))))) else (some (.inr (.inl ()))))
def synthesisref01_rows_b (r131 : (Va) → Option (Int)) (r171 : (List Va) → (Int) → Option (Int)) (r172 : (List Va) → Option (Int)) (a0 : List Va) : Option (Int) := (bif (decide (8 < (List.length a0 : Int))) then (some 2) else (Option.bind (loopN (synthesisref01_rows_l1 a0 r131) fuel (0)) fun (v9 : ((Unit) ⊕ (Int))) => Sum.elim (fun v10 => (some 0)) (fun v11 => (some v11)) v9))
theorem synthesisref01_rows_b_ok (r131 : (Va) → Option (Int)) (r171 : (List Va) → (Int) → Option (Int)) (r172 : (List Va) → Option (Int)) (ih131 : ∀ (x0 : Va) r, r131 x0 = some r → PCall Try.prog 131 [eVa x0] (eI (r))) (ih171 : ∀ (x0 : List Va) (x1 : Int) r, r171 x0 x1 = some r → PCall Try.prog 171 [(eL 4 eVaR) x0, eI x1] (eI (r))) (ih172 : ∀ (x0 : List Va) r, r172 x0 = some r → PCall Try.prog 172 [(eL 4 eVaR) x0] (eI (r))) (a0 : List Va) (r : Int) (h : synthesisref01_rows_b r131 r171 r172 a0 = some r) : PCall Try.prog 172 [(eL 4 eVaR) a0] (eI (r)) := by
 unfold synthesisref01_rows_b at h
 refine pcl [.one .keep] Try.func172 (by kernel_rfl) (by kernel_rfl) (by kernel_rfl) ?_
 refine cd 11 h (by kernel_rfl) (fun h => ?_) fun h => ?_
 ·cases h; exact lq 5 (by kernel_rfl)
 refine lpx 7 (fun v1 => ⟨50, [(0, (.fz ((eL 4 eVaR) (a0)))), (3, (fI (v1)))], [], [], []⟩) (fun v9 e st => Sum.elim (fun p => e = .exit 0 ∧ LeSt st ⟨50, [], [], [], []⟩) (fun p => e = .ret ∧ retX TT st Try.f172.results.toList [.one .keep] = some (eI (p))) v9) h (by kernel_rfl) (le_a (by kernel_rfl)) (fun v1 r h => ?_) fun v9 h e st' hq => ?_
 ·unfold synthesisref01_rows_l1 at h
  refine cd 8 h (by kernel_rfl) (fun h => ?_) fun h => ?_
  ·refine ix nVaR 8 h (by kernel_rfl) fun v2 h => ?_
   refine cd 4 h (by kernel_rfl) (fun h => ?_) fun h => ?_
   ·cases h; exact lor 5 (by kernel_rfl)
   refine ix nVaR 6 h (by kernel_rfl) fun v3 h => ?_
   refine jn1 6 .normal (fun v6 => ⟨50, [(0, (.fz ((eL 4 eVaR) (a0)))), (3, (fI (v1))), (41, (fB (v6)))], [], [], []⟩) h (by kernel_rfl) (fun v6 h => ?_) fun v6 h => ?_
   ·refine gd 4 h (by kernel_rfl) (fun h => ?_) fun h => ?_
    ·cases h; exact lj 13 (by kernel_rfl)
    refine gd 4 h (by kernel_rfl) (fun h => ?_) fun h => ?_
    ·cases h; exact lj 9 (by kernel_rfl)
    refine ix nVaR 2 h (by kernel_rfl) fun v4 h => ?_
    cases h; exact lj 6 (by kernel_rfl)
   refine cd 0 h (by kernel_rfl) (fun h => ?_) fun h => ?_
   ·cases h; exact lor 5 (by kernel_rfl)
   refine ix nVaR 5 h (by kernel_rfl) fun v7 h => ?_
   refine cl 1 h (ih131 _) (by kernel_rfl) fun v8 h => ?_
   refine cd 7 h (by kernel_rfl) (fun h => ?_) fun h => ?_
   ·cases h; exact lor 6 (by kernel_rfl)
   cases h; exact lj 6 (by kernel_rfl)
  cases h; exact lo 1 (by kernel_rfl)
 rcases v9 with v10 | v11
 ·try simp only [Sum.elim_inl, Sum.elim_inr] at h
  obtain ⟨rfl, hle⟩ := hq
  refine ⟨_, hle, ?_⟩
  cases h; exact lq 5 (by kernel_rfl)
 ·try simp only [Sum.elim_inl, Sum.elim_inr] at h
  obtain ⟨rfl, hret⟩ := hq
  refine ⟨_, LeSt.refl, ?_⟩
  cases h; exact lv hret
def synthesisref01_Check_all : Nat → ((Va) → Option (Int)) × ((List Va) → (Int) → Option (Int)) × ((List Va) → Option (Int))
  | 0 => (fun _ => none, fun _ _ => none, fun _ => none)
  | n + 1 => (synthesisref01_Check_b ((synthesisref01_Check_all n).1) ((synthesisref01_Check_all n).2.1) ((synthesisref01_Check_all n).2.2), synthesisref01_elements_b ((synthesisref01_Check_all n).1) ((synthesisref01_Check_all n).2.1) ((synthesisref01_Check_all n).2.2), synthesisref01_rows_b ((synthesisref01_Check_all n).1) ((synthesisref01_Check_all n).2.1) ((synthesisref01_Check_all n).2.2))
def synthesisref01_Check (n : Nat) : (Va) → Option (Int) := (synthesisref01_Check_all n).1
def synthesisref01_elements (n : Nat) : (List Va) → (Int) → Option (Int) := (synthesisref01_Check_all n).2.1
def synthesisref01_rows (n : Nat) : (List Va) → Option (Int) := (synthesisref01_Check_all n).2.2
theorem synthesisref01_Check_all_ok : ∀ n : Nat, (∀ (x0 : Va) r, synthesisref01_Check n x0 = some r → PCall Try.prog 131 [eVa x0] (eI (r))) ∧ (∀ (x0 : List Va) (x1 : Int) r, synthesisref01_elements n x0 x1 = some r → PCall Try.prog 171 [(eL 4 eVaR) x0, eI x1] (eI (r))) ∧ (∀ (x0 : List Va) r, synthesisref01_rows n x0 = some r → PCall Try.prog 172 [(eL 4 eVaR) x0] (eI (r)))
  | 0 => ⟨(fun _ _ h => nomatch h), (fun _ _ _ h => nomatch h), (fun _ _ h => nomatch h)⟩
  | n + 1 => ⟨(synthesisref01_Check_b_ok _ _ _ ((synthesisref01_Check_all_ok n).1) ((synthesisref01_Check_all_ok n).2.1) ((synthesisref01_Check_all_ok n).2.2)), (synthesisref01_elements_b_ok _ _ _ ((synthesisref01_Check_all_ok n).1) ((synthesisref01_Check_all_ok n).2.1) ((synthesisref01_Check_all_ok n).2.2)), (synthesisref01_rows_b_ok _ _ _ ((synthesisref01_Check_all_ok n).1) ((synthesisref01_Check_all_ok n).2.1) ((synthesisref01_Check_all_ok n).2.2))⟩
theorem synthesisref01_Check_ok (n : Nat) : ∀ (x0 : Va) r, synthesisref01_Check n x0 = some r → PCall Try.prog 131 [eVa x0] (eI (r)) := (synthesisref01_Check_all_ok n).1
theorem synthesisref01_elements_ok (n : Nat) : ∀ (x0 : List Va) (x1 : Int) r, synthesisref01_elements n x0 x1 = some r → PCall Try.prog 171 [(eL 4 eVaR) x0, eI x1] (eI (r)) := (synthesisref01_Check_all_ok n).2.1
theorem synthesisref01_rows_ok (n : Nat) : ∀ (x0 : List Va) r, synthesisref01_rows n x0 = some r → PCall Try.prog 172 [(eL 4 eVaR) x0] (eI (r)) := (synthesisref01_Check_all_ok n).2.2

def synthesisref16_check_l1 (a0 : List Va) (v1 : (Int)) (v4 : (Int)) : Option (((Int)) ⊕ (((Unit) ⊕ (Int)))) := (bif (decide (v4 < v1)) then (Option.bind (idx a0 v4) fun v5 => (Option.bind (idx a0 v1) fun v6 => (Option.bind (synthesisref01_Equal (v5) (v6)) fun v7 => (bif v7 then (some (.inr (.inr 6))) else (some (.inl ((w64 (v4 + 1))))))))) else (some (.inr (.inl ()))))
def synthesisref16_check_l2 (a0 : List Va) (v1 : (Int)) : Option (((Int)) ⊕ (((Unit) ⊕ (Int)))) := (bif (decide (v1 < (List.length a0 : Int))) then (Option.bind (idx a0 v1) fun v2 => (Option.bind (synthesisref01_Check fuel (v2)) fun v3 => (bif (v3 != 0) then (some (.inr (.inr v3))) else (Option.bind (loopN (synthesisref16_check_l1 a0 v1) fuel (0)) fun (v8 : ((Unit) ⊕ (Int))) => Sum.elim (fun v9 => (some (.inl ((w64 (v1 + 1)))))) (fun v10 => (some (.inr (.inr v10)))) v8)))) else (some (.inr (.inl ()))))
def synthesisref16_check (a0 : List Va) : Option (Int) := (bif (decide (16 < (List.length a0 : Int))) then (some 2) else (Option.bind (loopN (synthesisref16_check_l2 a0) fuel (0)) fun (v11 : ((Unit) ⊕ (Int))) => Sum.elim (fun v12 => (some 0)) (fun v13 => (some v13)) v11))
theorem synthesisref16_check_ok (a0 : List Va) (r : Int) (h : synthesisref16_check a0 = some r) : PCall Try.prog 70 [(eL 4 eVaR) a0] (eI (r)) := by
 unfold synthesisref16_check at h
 refine pcl [.one .keep] Try.func70 (by kernel_rfl) (by kernel_rfl) (by kernel_rfl) ?_
 refine cd 11 h (by kernel_rfl) (fun h => ?_) fun h => ?_
 ·cases h; exact lq 5 (by kernel_rfl)
 refine lpx 7 (fun v1 => ⟨37, [(0, (.fz ((eL 4 eVaR) (a0)))), (3, (fI (v1)))], [], [], []⟩) (fun v11 e st => Sum.elim (fun p => e = .exit 0 ∧ LeSt st ⟨37, [], [], [], []⟩) (fun p => e = .ret ∧ retX TT st Try.f70.results.toList [.one .keep] = some (eI (p))) v11) h (by kernel_rfl) (le_a (by kernel_rfl)) (fun v1 r h => ?_) fun v11 h e st' hq => ?_
 ·unfold synthesisref16_check_l2 at h
  refine cd 8 h (by kernel_rfl) (fun h => ?_) fun h => ?_
  ·refine ix nVaR 8 h (by kernel_rfl) fun v2 h => ?_
   refine cl 1 h (synthesisref01_Check_ok _ _) (by kernel_rfl) fun v3 h => ?_
   refine cd 7 h (by kernel_rfl) (fun h => ?_) fun h => ?_
   ·cases h; exact lor 6 (by kernel_rfl)
   refine lpx 6 (fun v4 => ⟨37, [(0, (.fz ((eL 4 eVaR) (a0)))), (3, (fI (v1))), (5, (fI (v4)))], [], [], []⟩) (fun v8 e st => Sum.elim (fun p => e = .exit 2 ∧ LeSt st ⟨37, [(0, (.fz ((eL 4 eVaR) (a0)))), (3, (fI (v1)))], [], [], []⟩) (fun p => e = .ret ∧ retX TT st Try.f70.results.toList [.one .keep] = some (eI (p))) v8) h (by kernel_rfl) (le_a (by kernel_rfl)) (fun v4 r h => ?_) fun v8 h e st' hq => ?_
   ·unfold synthesisref16_check_l1 at h
    refine cd 7 h (by kernel_rfl) (fun h => ?_) fun h => ?_
    ·refine dw 4 8 (by kernel_rfl) ?_
     refine ix nVaR 2 h (by kernel_rfl) fun v5 h => ?_
     refine ix nVaR 3 h (by kernel_rfl) fun v6 h => ?_
     refine cl 2 h (synthesisref01_Equal_ok _ _) (by kernel_rfl) fun v7 h => ?_
     refine cd 1 h (by kernel_rfl) (fun h => ?_) fun h => ?_
     ·cases h; exact lor 5 (by kernel_rfl)
     cases h; exact lj 6 (by kernel_rfl)
    cases h; exact lo 1 (by kernel_rfl)
   rcases v8 with v9 | v10
   ·try simp only [Sum.elim_inl, Sum.elim_inr] at h
    obtain ⟨rfl, hle⟩ := hq
    refine ⟨_, hle, ?_⟩
    cases h; exact lj 5 (by kernel_rfl)
   ·try simp only [Sum.elim_inl, Sum.elim_inr] at h
    obtain ⟨rfl, hret⟩ := hq
    refine ⟨_, LeSt.refl, ?_⟩
    cases h; exact lvo hret
  cases h; exact lo 1 (by kernel_rfl)
 rcases v11 with v12 | v13
 ·try simp only [Sum.elim_inl, Sum.elim_inr] at h
  obtain ⟨rfl, hle⟩ := hq
  refine ⟨_, hle, ?_⟩
  cases h; exact lq 5 (by kernel_rfl)
 ·try simp only [Sum.elim_inl, Sum.elim_inr] at h
  obtain ⟨rfl, hret⟩ := hq
  refine ⟨_, LeSt.refl, ?_⟩
  cases h; exact lv hret

def synthesisref16_values_l1 (a0 : List Int) (a1 : Int) (v1 : (Int) × (List Va)) : Option (((Int) × (List Va)) ⊕ ((List Va))) := (Option.bind ((bif (decide (v1.1 < (List.length a0 : Int))) then (some ((decide (v1.1 < 17)))) else (some (false))) : Option ((Bool))) fun (v3 : (Bool)) => (bif v3 then (Option.bind (idx a0 v1.1) fun v4 => (Option.bind (app 56 v1.2 ([(Va.mk (a1) (v4) ((⟨#[]⟩ : ByteArray)) (([] : List Va)))] : List (Va))) fun v5 => (some (.inl ((w64 (v1.1 + 1)), v5))))) else (some (.inr (v1.2)))))
def synthesisref16_values (a0 : List Int) (a1 : Int) : Option (List Va) := (Option.bind (loopN (synthesisref16_values_l1 a0 a1) fuel (0, ([] : List (Va)))) fun (v7 : (List Va)) => (some v7))
theorem synthesisref16_values_ok (a0 : List Int) (a1 : Int) (r : List Va) (h : synthesisref16_values a0 a1 = some r) : PCall Try.prog 71 [(eL 1 eI) a0, eI a1] ((eL 4 eVaR) (r)) := by
 unfold synthesisref16_values at h
 refine pcl [.one (.sl 4)] Try.func71 (by kernel_rfl) (by kernel_rfl) (by kernel_rfl) ?_
 refine wle 14 (le_nilrow (e := 65) (size := 4) (t := 5) (id := 1) (by decide) (by kernel_rfl) (by kernel_rfl)) (by kernel_rfl) ?_
 refine lp1 0 (fun v1 => ⟨27, [(0, (.fz ((eL 1 eI) (a0)))), (1, (fI (a1))), (5, (.row 1 (List.length (v1.2)))), (6, (fI (v1.1)))], [(1, (.frow 65 4 (List.map eVaR (v1.2))))], [1], []⟩) (.exit 0) (fun v7 => ⟨27, [(5, (.row 1 (List.length (v7))))], [(1, (.frow 65 4 (List.map eVaR (v7))))], [1], []⟩) h (by kernel_rfl) (by kernel_rfl) (fun v1 r h => ?_) fun v7 h => ?_
 ·unfold synthesisref16_values_l1 at h
  refine jn1 2 .normal (fun v3 => ⟨27, [(0, (.fz ((eL 1 eI) (a0)))), (1, (fI (a1))), (5, (.row 1 (List.length (v1.2)))), (6, (fI (v1.1))), (14, (fB (v3)))], [(1, (.frow 65 4 (List.map eVaR (v1.2))))], [1], []⟩) h (by kernel_rfl) (fun v3 h => ?_) fun v3 h => ?_
  ·refine gd 6 h (by kernel_rfl) (fun h => ?_) fun h => ?_
   ·cases h; exact lj 4 (by kernel_rfl)
   cases h; exact lj 4 (by kernel_rfl)
  refine cd 0 h (by kernel_rfl) (fun h => ?_) fun h => ?_
  ·refine ix nI 8 h (by kernel_rfl) fun v4 h => ?_
   refine wle 2 ((le_a (by kernel_rfl) : LeSt _ ⟨27, [(0, (.fz ((eL 1 eI) (a0)))), (1, (fI (a1))), (6, (fI (v1.1))), (17, (.row 1 (List.length (v1.2)))), (23, (.fz (eVa ((Va.mk (a1) (v4) ((⟨#[]⟩ : ByteArray)) (([] : List Va)))))))], [(1, (.frow 65 4 (List.map eVaR (v1.2))))], [1], []⟩)) (by kernel_rfl) ?_
   refine wle 1 (le_eq (t := 24) (x := .lim 4 1 [eVa ((Va.mk (a1) (v4) ((⟨#[]⟩ : ByteArray)) (([] : List Va))))]) (y := .lim 4 1 (List.map eVaR ([(Va.mk (a1) (v4) ((⟨#[]⟩ : ByteArray)) (([] : List Va)))] : List (Va)))) (by kernel_rfl) (by simp only [List.map, eVaR_eq])) (by kernel_rfl) ?_
   refine ap nVaR 0 h (by kernel_rfl) fun v5 h => ?_
   cases h; exact lj 7 (by kernel_rfl)
  cases h; exact lo 1 (by kernel_rfl)
 refine wle 5 (le_freeze (t := 4) (id := 1) (n := List.length (v7)) (e := 65) (size := 4) (xs := List.map eVaR (v7)) (by kernel_rfl) (by kernel_rfl) (by simp)) (by kernel_rfl) ?_
 cases h; exact lq 1 (by kernel_rfl)

structure S_synthesisref16_writer where
  f_l : La
def eS_synthesisref16_writer (x : S_synthesisref16_writer) : FV := .agg [eS (x.f_l.name), (eL 1 eI) (x.f_l.inputs), (eL 2 eSy) (x.f_l.symbols), (eL 9 eRu) (x.f_l.rules)]
def nS_synthesisref16_writer : En S_synthesisref16_writer := ⟨eS_synthesisref16_writer, 4, fun x => (eS_synthesisref16_writer x).cells, fun _ => rfl, fun _ => rfl⟩
def synthesisref01_OfInt (a0 : Int) : Option (Va) := (some (Va.mk (2) (a0) ((⟨#[]⟩ : ByteArray)) (([] : List Va))))
theorem synthesisref01_OfInt_ok (a0 : Int) (r : Va) (h : synthesisref01_OfInt a0 = some r) : PCall Try.prog 76 [eI a0] (eVa (r)) := by
 unfold synthesisref01_OfInt at h
 refine pcl [.ag [.keep, .keep, .keep, .sl 4]] Try.func76 (by kernel_rfl) (by kernel_rfl) (by kernel_rfl) ?_
 cases h; exact lq 11 (by kernel_rfl)

def synthesisref16_begin_h (a0 : ByteArray) (a1 : Int) (a2 : ByteArray) (a3 : Int) (a4 : ByteArray) (a5 : Int) : Option (Unit) := (some ())
theorem synthesisref16_begin_h_ok (a0 : ByteArray) (a1 : Int) (a2 : ByteArray) (a3 : Int) (a4 : ByteArray) (a5 : Int) (r : Unit) (h : synthesisref16_begin_h a0 a1 a2 a3 a4 a5 = some r) : HCall Try.prog 72 ([(fS (a0)), (fI (a1)), (fS (a2)), (fI (a3)), (fS (a4)), (fI (a5))] ++ []) [] [] (.ret (.ref 1 0 0)) [(1, (.box 91 [(fS (a0)), (.lim 1 (List.length (([a1] : List (Int)))) (List.map eI (([a1] : List (Int))))), (.lim 2 (List.length (([(Sy.mk (a2) (a3)), (Sy.mk (a4) (a5))] : List (Sy)))) (List.map eSy (([(Sy.mk (a2) (a3)), (Sy.mk (a4) (a5))] : List (Sy))))), (.row 2 (List.length (([] : List (Ru)))))])), (2, (.frow 67 9 (List.map eRu (([] : List (Ru))))))] [1, 2] := by
 unfold synthesisref16_begin_h at h
 refine hcx (gi := 0) Try.func72 (by kernel_rfl) (by kernel_rfl) (by kernel_rfl) (by kernel_rfl) (by kernel_rfl) (by kernel_rfl) (by kernel_rfl) (by kernel_rfl) ?_
 intro p0 q0 w0
 refine wle 19 (le_nilcell (e := 67) (size := 9) (id2 := 1) (j := 3) (id := 2) (e2 := 91) (cells := [(fS (a0)), (.lim 1 (List.length (([a1] : List (Int)))) (List.map eI (([a1] : List (Int))))), (.lim 2 (List.length (([(Sy.mk (a2) (a3)), (Sy.mk (a4) (a5))] : List (Sy)))) (List.map eSy (([(Sy.mk (a2) (a3)), (Sy.mk (a4) (a5))] : List (Sy))))), (.fz (.atom (.slice none 0 0)))]) (by kernel_rfl) (by kernel_rfl) (by kernel_rfl) (by kernel_rfl)) (by kernel_rfl) ?_
 obtain rfl := Option.some.inj h; exact lh 3 ⟨26, [(12, (.ref 1 0 0))], [(0, (.was p0 [] q0 w0)), (1, (.box 91 [(fS (a0)), (.lim 1 (List.length (([a1] : List (Int)))) (List.map eI (([a1] : List (Int))))), (.lim 2 (List.length (([(Sy.mk (a2) (a3)), (Sy.mk (a4) (a5))] : List (Sy)))) (List.map eSy (([(Sy.mk (a2) (a3)), (Sy.mk (a4) (a5))] : List (Sy))))), (.row 2 (List.length (([] : List (Ru)))))])), (2, (.frow 67 9 (List.map eRu (([] : List (Ru))))))], [0, 1, 2], []⟩ (le_a (by kernel_rfl)) rfl rfl (by kernel_rfl) (by kernel_rfl)

def synthesisref16_writer_input_h (a0 : ByteArray) (a1 : List Int) (a2 : List Sy) (a3 : List Ru) (a4 : Int) : Option ((List Ru)) := (Option.bind (app 120 a3 ([(Ru.mk (a4) (1) (0) ((Va.mk (0) (0) ((⟨#[]⟩ : ByteArray)) (([] : List Va)))) ((⟨#[]⟩ : ByteArray)) (([] : List Int)))] : List (Ru))) fun v1 => (some (v1)))
theorem synthesisref16_writer_input_h_ok (a0 : ByteArray) (a1 : List Int) (a2 : List Sy) (a3 : List Ru) (a4 : Int) (r : (List Ru)) (h : synthesisref16_writer_input_h a0 a1 a2 a3 a4 = some r) : HCall Try.prog 73 ([(.ref 1 0 0), (fI (a4))] ++ []) [(1, (.box 91 [(fS (a0)), (.fz ((eL 1 eI) (a1))), (.fz ((eL 2 eSy) (a2))), (.row 2 (List.length (a3)))])), (2, (.frow 67 9 (List.map eRu (a3))))] [1, 2] (.ret (.fz (.tup []))) [(1, (.box 91 [(fS (a0)), (.fz ((eL 1 eI) (a1))), (.fz ((eL 2 eSy) (a2))), (.row 2 (List.length (r)))])), (2, (.frow 67 9 (List.map eRu (r))))] [1, 2] := by
 unfold synthesisref16_writer_input_h at h
 refine hcx (gi := 0) Try.func73 (by kernel_rfl) (by kernel_rfl) (by kernel_rfl) (by kernel_rfl) (by kernel_rfl) (by kernel_rfl) (by kernel_rfl) (by kernel_rfl) ?_
 intro p0 q0 w0
 refine wle 9 ((le_a (by kernel_rfl) : LeSt _ ⟨17, [(4, (.ref 1 0 0)), (9, (.row 2 (List.length (a3)))), (11, (.fz (eRu ((Ru.mk (a4) (1) (0) ((Va.mk (0) (0) ((⟨#[]⟩ : ByteArray)) (([] : List Va)))) ((⟨#[]⟩ : ByteArray)) (([] : List Int)))))))], [(0, (.was p0 [1, 2] q0 w0)), (1, (.box 91 [(fS (a0)), (.fz ((eL 1 eI) (a1))), (.fz ((eL 2 eSy) (a2))), (.row 2 (List.length (a3)))])), (2, (.frow 67 9 (List.map eRu (a3))))], [0, 1, 2], []⟩)) (by kernel_rfl) ?_
 refine ap nRu 1 h (by kernel_rfl) fun v1 h => ?_
 obtain rfl := Option.some.inj h; exact lh 5 ⟨17, [], [(0, (.was p0 [1, 2] q0 w0)), (1, (.box 91 [(fS (a0)), (.fz ((eL 1 eI) (a1))), (.fz ((eL 2 eSy) (a2))), (.row 2 (List.length (v1)))])), (2, (.frow 67 9 (List.map eRu (v1))))], [0, 1, 2], []⟩ (le_a (by kernel_rfl)) rfl rfl (by kernel_rfl) (by kernel_rfl)

def synthesisref16_writer_constant_h (a0 : ByteArray) (a1 : List Int) (a2 : List Sy) (a3 : List Ru) (a4 : Int) (a5 : Va) : Option ((List Ru)) := (Option.bind (app 120 a3 ([(Ru.mk (a4) (2) (0) (a5) ((⟨#[]⟩ : ByteArray)) (([] : List Int)))] : List (Ru))) fun v1 => (some (v1)))
theorem synthesisref16_writer_constant_h_ok (a0 : ByteArray) (a1 : List Int) (a2 : List Sy) (a3 : List Ru) (a4 : Int) (a5 : Va) (r : (List Ru)) (h : synthesisref16_writer_constant_h a0 a1 a2 a3 a4 a5 = some r) : HCall Try.prog 74 ([(.ref 1 0 0), (fI (a4)), (.fz (eVa (a5)))] ++ []) [(1, (.box 91 [(fS (a0)), (.fz ((eL 1 eI) (a1))), (.fz ((eL 2 eSy) (a2))), (.row 2 (List.length (a3)))])), (2, (.frow 67 9 (List.map eRu (a3))))] [1, 2] (.ret (.fz (.tup []))) [(1, (.box 91 [(fS (a0)), (.fz ((eL 1 eI) (a1))), (.fz ((eL 2 eSy) (a2))), (.row 2 (List.length (r)))])), (2, (.frow 67 9 (List.map eRu (r))))] [1, 2] := by
 unfold synthesisref16_writer_constant_h at h
 refine hcx (gi := 0) Try.func74 (by kernel_rfl) (by kernel_rfl) (by kernel_rfl) (by kernel_rfl) (by kernel_rfl) (by kernel_rfl) (by kernel_rfl) (by kernel_rfl) ?_
 intro p0 q0 w0
 refine dz 4 11 [10] [2] (List.range 4) (by kernel_rfl) ?_
 refine nst 9 (nstep_co (st' := ⟨20, [(14, (.fz (eRu ((Ru.mk (a4) (2) (0) (a5) ((⟨#[]⟩ : ByteArray)) (([] : List Int)))))))], [], [], []⟩) (ids := []) (ts := [(14, (.ag [.keep, .keep, .keep, .keep, .keep, .keep, .sl 4, .keep, .sl 1]))]) (by kernel_rfl) (nstep_ok (c := .lim 9 1 [eRu ((Ru.mk (a4) (2) (0) (a5) ((⟨#[]⟩ : ByteArray)) (([] : List Int))))]) tt_ok (by kernel_rfl))) (by kernel_rfl) ?_
 refine apZ nRu 0 h (by kernel_rfl) (by kernel_rfl) (fun _ => by kernel_rfl) fun v1 h => ?_
 obtain rfl := Option.some.inj h; exact lh 6 ⟨20, [], [(0, (.was p0 [1, 2] q0 w0)), (1, (.box 91 [(fS (a0)), (.fz ((eL 1 eI) (a1))), (.fz ((eL 2 eSy) (a2))), (.row 2 (List.length (v1)))])), (2, (.frow 67 9 (List.map eRu (v1))))], [0, 1, 2], []⟩ (le_a (by kernel_rfl)) rfl rfl (by kernel_rfl) (by kernel_rfl)

def synthesisref16_writer_op_h_l1 (a4 : Int) (a5 : List ByteArray) (a6 : List Int) (v1 : (Int) × (List Ru)) : Option (((Int) × (List Ru)) ⊕ ((List Ru))) := (bif (decide (v1.1 < (List.length a5 : Int))) then (Option.bind (idx a5 v1.1) fun v2 => (Option.bind (app 120 v1.2 ([(Ru.mk (a4) (3) (0) ((Va.mk (0) (0) ((⟨#[]⟩ : ByteArray)) (([] : List Va)))) (v2) (a6))] : List (Ru))) fun v3 => (some (.inl ((w64 (v1.1 + 1)), v3))))) else (some (.inr (v1.2))))
def synthesisref16_writer_op_h (a0 : ByteArray) (a1 : List Int) (a2 : List Sy) (a3 : List Ru) (a4 : Int) (a5 : List ByteArray) (a6 : List Int) : Option ((List Ru)) := (Option.bind (loopN (synthesisref16_writer_op_h_l1 a4 a5 a6) fuel (0, a3)) fun (v5 : (List Ru)) => (some (v5)))
theorem synthesisref16_writer_op_h_ok (a0 : ByteArray) (a1 : List Int) (a2 : List Sy) (a3 : List Ru) (a4 : Int) (a5 : List ByteArray) (a6 : List Int) (r : (List Ru)) (h : synthesisref16_writer_op_h a0 a1 a2 a3 a4 a5 a6 = some r) : HCall Try.prog 75 ([(.ref 1 0 0), (fI (a4)), (.fz ((eL 1 eS) (a5))), (.fz ((eL 1 eI) (a6)))] ++ []) [(1, (.box 91 [(fS (a0)), (.fz ((eL 1 eI) (a1))), (.fz ((eL 2 eSy) (a2))), (.row 2 (List.length (a3)))])), (2, (.frow 67 9 (List.map eRu (a3))))] [1, 2] (.ret (.fz (.tup []))) [(1, (.box 91 [(fS (a0)), (.fz ((eL 1 eI) (a1))), (.fz ((eL 2 eSy) (a2))), (.row 2 (List.length (r)))])), (2, (.frow 67 9 (List.map eRu (r))))] [1, 2] := by
 unfold synthesisref16_writer_op_h at h
 refine hcx (gi := 0) Try.func75 (by kernel_rfl) (by kernel_rfl) (by kernel_rfl) (by kernel_rfl) (by kernel_rfl) (by kernel_rfl) (by kernel_rfl) (by kernel_rfl) ?_
 intro p0 q0 w0
 refine lp1 5 (fun v1 => ⟨33, [(0, (.ref 1 0 0)), (1, (fI (a4))), (2, (.fz ((eL 1 eS) (a5)))), (3, (.fz ((eL 1 eI) (a6)))), (8, (fI (v1.1)))], [(0, (.was p0 [1, 2] q0 w0)), (1, (.box 91 [(fS (a0)), (.fz ((eL 1 eI) (a1))), (.fz ((eL 2 eSy) (a2))), (.row 2 (List.length (v1.2)))])), (2, (.frow 67 9 (List.map eRu (v1.2))))], [0, 1, 2], []⟩) (.exit 0) (fun v5 => ⟨33, [], [(0, (.was p0 [1, 2] q0 w0)), (1, (.box 91 [(fS (a0)), (.fz ((eL 1 eI) (a1))), (.fz ((eL 2 eSy) (a2))), (.row 2 (List.length (v5)))])), (2, (.frow 67 9 (List.map eRu (v5))))], [0, 1, 2], []⟩) h (by kernel_rfl) (by kernel_rfl) (fun v1 r h => ?_) fun v5 h => ?_
 ·unfold synthesisref16_writer_op_h_l1 at h
  refine cd 8 h (by kernel_rfl) (fun h => ?_) fun h => ?_
  ·refine dz 3 15 [14] [2] (List.range 3) (by kernel_rfl) ?_
   refine ix nS 9 h (by kernel_rfl) fun v2 h => ?_
   refine nst 3 (nstep_co (st' := ⟨33, [(27, (.fz (eRu ((Ru.mk (a4) (3) (0) ((Va.mk (0) (0) ((⟨#[]⟩ : ByteArray)) (([] : List Va)))) (v2) (a6))))))], [], [], []⟩) (ids := []) (ts := [(27, (.ag [.keep, .keep, .keep, .keep, .keep, .keep, .sl 4, .keep, .sl 1]))]) (by kernel_rfl) (nstep_ok (c := .lim 9 1 [eRu ((Ru.mk (a4) (3) (0) ((Va.mk (0) (0) ((⟨#[]⟩ : ByteArray)) (([] : List Va)))) (v2) (a6)))]) tt_ok (by kernel_rfl))) (by kernel_rfl) ?_
   refine apZ nRu 0 h (by kernel_rfl) (by kernel_rfl) (fun _ => by kernel_rfl) fun v3 h => ?_
   cases h; exact lj 11 (by kernel_rfl)
  cases h; exact lo 1 (by kernel_rfl)
 obtain rfl := Option.some.inj h; exact lh 0 ⟨33, [], [(0, (.was p0 [1, 2] q0 w0)), (1, (.box 91 [(fS (a0)), (.fz ((eL 1 eI) (a1))), (.fz ((eL 2 eSy) (a2))), (.row 2 (List.length (v5)))])), (2, (.frow 67 9 (List.map eRu (v5))))], [0, 1, 2], []⟩ (le_a (by kernel_rfl)) rfl rfl (by kernel_rfl) (by kernel_rfl)

def synthesisref16_Strings_m0 (v1 : (Int) × (List Va)) : List (Nat × AObj) := [(1, (.box 27 [(fS ((⟨#[]⟩ : ByteArray))), (.fz (.atom (.slice none 0 0))), (.fz (.atom (.slice none 0 0))), (.fz (.atom (.slice none 0 0)))])), (2, (.frow 65 4 (List.map eVaR (v1.2))))]
def synthesisref16_Strings_l1 (a1 : List Int) (v18 : (ByteArray) × (List Int) × (List Sy) × (List Ru)) (v24 : (Int) × (List Ru)) : Option (((Int) × (List Ru)) ⊕ ((List Ru))) := (bif (decide (v24.1 < (List.length a1 : Int))) then (Option.bind (idx a1 v24.1) fun v25 => (Option.bind (synthesisref01_OfInt (v25)) fun v26 => (Option.bind (synthesisref16_writer_constant_h (v18.1) (v18.2.1) (v18.2.2.1) (v24.2) (1) (v26)) fun v27 => (some (.inl ((w64 (v24.1 + 1)), v27)))))) else (some (.inr (v24.2))))
def synthesisref16_Strings_l2 (v8 : (List Va)) (v14 : (Int) × (ByteArray) × (List Int) × (List Sy) × (List Ru)) : Option (((Int) × (ByteArray) × (List Int) × (List Sy) × (List Ru)) ⊕ ((ByteArray) × (List Int) × (List Sy) × (List Ru))) := (bif (decide (v14.1 < (List.length v8 : Int))) then (Option.bind (idx v8 v14.1) fun v15 => (Option.bind (synthesisref16_writer_constant_h (v14.2.1) (v14.2.2.1) (v14.2.2.2.1) (v14.2.2.2.2) (0) (v15)) fun v16 => (some (.inl ((w64 (v14.1 + 1)), v14.2.1, v14.2.2.1, v14.2.2.2.1, v16))))) else (some (.inr (v14.2.1, v14.2.2.1, v14.2.2.2.1, v14.2.2.2.2))))
def synthesisref16_Strings_l3 (a0 : List ByteArray) (v1 : (Int) × (List Va)) : Option (((Int) × (List Va)) ⊕ ((List Va))) := (Option.bind ((bif (decide (v1.1 < (List.length a0 : Int))) then (some ((decide (v1.1 < 17)))) else (some (false))) : Option ((Bool))) fun (v3 : (Bool)) => (bif v3 then (Option.bind (idx a0 v1.1) fun v4 => (Option.bind (synthesisref01_OfText (v4)) fun v5 => (Option.bind (app 56 v1.2 ([v5] : List (Va))) fun v6 => (some (.inl ((w64 (v1.1 + 1)), v6)))))) else (some (.inr (v1.2)))))
def synthesisref16_Strings (a0 : List ByteArray) (a1 : List Int) : Option ((La) × (Int)) := (Option.bind (loopN (synthesisref16_Strings_l3 a0) fuel (0, ([] : List (Va)))) fun (v8 : (List Va)) => (Option.bind (synthesisref16_check (v8)) fun v9 => (bif (v9 != 0) then (some ((La.mk ((⟨#[]⟩ : ByteArray)) (([] : List Int)) (([] : List Sy)) (([] : List Ru))), v9)) else (Option.bind (synthesisref16_values (a1) (2)) fun v10 => (Option.bind (synthesisref16_check (v10)) fun v11 => (bif (v11 != 0) then (some ((La.mk ((⟨#[]⟩ : ByteArray)) (([] : List Int)) (([] : List Sy)) (([] : List Ru))), v11)) else (Option.bind (synthesisref16_begin_h ((⟨#[115, 116, 114, 105, 110, 103, 115]⟩ : ByteArray)) (3) ((⟨#[116, 101, 120, 116]⟩ : ByteArray)) (3) ((⟨#[110, 117, 109, 98, 101, 114]⟩ : ByteArray)) (2)) fun v12 => (Option.bind (synthesisref16_writer_input_h (((⟨#[115, 116, 114, 105, 110, 103, 115]⟩ : ByteArray))) (([(3)] : List (Int))) (([(Sy.mk (((⟨#[116, 101, 120, 116]⟩ : ByteArray))) ((3))), (Sy.mk (((⟨#[110, 117, 109, 98, 101, 114]⟩ : ByteArray))) ((2)))] : List (Sy))) (([] : List (Ru))) (0)) fun v13 => (Option.bind (loopN (synthesisref16_Strings_l2 v8) fuel (0, (((⟨#[115, 116, 114, 105, 110, 103, 115]⟩ : ByteArray))), (([(3)] : List (Int))), (([(Sy.mk (((⟨#[116, 101, 120, 116]⟩ : ByteArray))) ((3))), (Sy.mk (((⟨#[110, 117, 109, 98, 101, 114]⟩ : ByteArray))) ((2)))] : List (Sy))), v13)) fun (v18 : (ByteArray) × (List Int) × (List Sy) × (List Ru)) => (Option.bind (synthesisref16_writer_op_h (v18.1) (v18.2.1) (v18.2.2.1) (v18.2.2.2) (0) (([(⟨#[99, 111, 110, 99, 97, 116]⟩ : ByteArray)] : List (ByteArray))) (([0, 0] : List (Int)))) fun v19 => (Option.bind (synthesisref16_writer_op_h (v18.1) (v18.2.1) (v18.2.2.1) (v19) (0) (([(⟨#[117, 112, 112, 101, 114]⟩ : ByteArray), (⟨#[108, 111, 119, 101, 114]⟩ : ByteArray), (⟨#[116, 114, 105, 109]⟩ : ByteArray)] : List (ByteArray))) (([0] : List (Int)))) fun v20 => (Option.bind (synthesisref16_writer_op_h (v18.1) (v18.2.1) (v18.2.2.1) (v20) (0) (([(⟨#[119, 111, 114, 100]⟩ : ByteArray), (⟨#[99, 104, 97, 114]⟩ : ByteArray), (⟨#[114, 101, 112, 101, 97, 116]⟩ : ByteArray)] : List (ByteArray))) (([0, 1] : List (Int)))) fun v21 => (Option.bind (synthesisref16_writer_op_h (v18.1) (v18.2.1) (v18.2.2.1) (v21) (0) (([(⟨#[115, 108, 105, 99, 101]⟩ : ByteArray)] : List (ByteArray))) (([0, 1, 1] : List (Int)))) fun v22 => (Option.bind (synthesisref16_writer_op_h (v18.1) (v18.2.1) (v18.2.2.1) (v22) (0) (([(⟨#[114, 101, 112, 108, 97, 99, 101]⟩ : ByteArray)] : List (ByteArray))) (([0, 0, 0] : List (Int)))) fun v23 => (Option.bind (loopN (synthesisref16_Strings_l1 a1 v18) fuel (0, v23)) fun (v29 : (List Ru)) => (Option.bind (synthesisref16_writer_op_h (v18.1) (v18.2.1) (v18.2.2.1) (v29) (1) (([(⟨#[108, 101, 110]⟩ : ByteArray)] : List (ByteArray))) (([0] : List (Int)))) fun v30 => (Option.bind (synthesisref16_writer_op_h (v18.1) (v18.2.1) (v18.2.2.1) (v30) (1) (([(⟨#[102, 105, 110, 100]⟩ : ByteArray)] : List (ByteArray))) (([0, 0] : List (Int)))) fun v31 => (some ((La.mk (v18.1) (v18.2.1) (v18.2.2.1) (v31)), 0)))))))))))))))))))
theorem synthesisref16_Strings_ok (a0 : List ByteArray) (a1 : List Int) (r : (La) × (Int)) (h : synthesisref16_Strings a0 a1 = some r) : PCall Try.prog 25 [(eL 1 eS) a0, (eL 1 eI) a1] (.tup [eLa (r.1), eI (r.2)]) := by
 unfold synthesisref16_Strings at h
 refine pcl [.ag [.keep, .sl 1, .sl 2, .sl 9], .one .keep] Try.func25 (by kernel_rfl) (by kernel_rfl) (by kernel_rfl) ?_
 refine wle 15 (le_nilrow (e := 65) (size := 4) (t := 6) (id := 2) (by decide) (by kernel_rfl) (by kernel_rfl)) (by kernel_rfl) ?_
 refine lp1 0 (fun v1 => ⟨104, [(0, (.fz ((eL 1 eS) (a0)))), (1, (.fz ((eL 1 eI) (a1)))), (4, (.ref 1 0 0)), (6, (.row 2 (List.length (v1.2)))), (7, (fI (v1.1)))], (synthesisref16_Strings_m0 v1), [2, 1], []⟩) (.exit 0) (fun v8 => ⟨104, [(1, (.fz ((eL 1 eI) (a1)))), (4, (.ref 1 0 0)), (6, (.row 2 (List.length (v8))))], [(1, (.box 27 [(fS ((⟨#[]⟩ : ByteArray))), (.fz (.atom (.slice none 0 0))), (.fz (.atom (.slice none 0 0))), (.fz (.atom (.slice none 0 0)))])), (2, (.frow 65 4 (List.map eVaR (v8))))], [2, 1], []⟩) h (by kernel_rfl) (by kernel_rfl) (fun v1 r h => ?_) fun v8 h => ?_
 ·unfold synthesisref16_Strings_l3 at h
  refine jn1 2 .normal (fun v3 => ⟨104, [(0, (.fz ((eL 1 eS) (a0)))), (1, (.fz ((eL 1 eI) (a1)))), (4, (.ref 1 0 0)), (6, (.row 2 (List.length (v1.2)))), (7, (fI (v1.1))), (20, (fB (v3)))], (synthesisref16_Strings_m0 v1), [2, 1], []⟩) h (by kernel_rfl) (fun v3 h => ?_) fun v3 h => ?_
  ·refine gd 6 h (by kernel_rfl) (fun h => ?_) fun h => ?_
   ·cases h; exact lj 4 (by kernel_rfl)
   cases h; exact lj 4 (by kernel_rfl)
  refine cd 0 h (by kernel_rfl) (fun h => ?_) fun h => ?_
  ·refine ix nS 7 h (by kernel_rfl) fun v4 h => ?_
   refine cl 1 h (synthesisref01_OfText_ok _) (by kernel_rfl) fun v5 h => ?_
   refine wle 1 (le_eq (t := 29) (x := .lim 4 1 [eVa (v5)]) (y := .lim 4 1 (List.map eVaR ([v5] : List (Va)))) (by kernel_rfl) (by simp only [List.map, eVaR_eq])) (by kernel_rfl) ?_
   refine ap nVaR 0 h (by kernel_rfl) fun v6 h => ?_
   cases h; exact lj 7 (by kernel_rfl)
  cases h; exact lo 1 (by kernel_rfl)
 refine wle 4 (le_freezeTs (id := 2) (n := List.length (v8)) (e := 65) (size := 4) (xs := List.map eVaR (v8)) [6, 31] ⟨by kernel_rfl, by kernel_rfl, trivial⟩ (by kernel_rfl) (by simp)) (by kernel_rfl) ?_
 refine cl 0 h (synthesisref16_check_ok _) (by kernel_rfl) fun v9 h => ?_
 refine cd 7 h (by kernel_rfl) (fun h => ?_) fun h => ?_
 ·cases h; exact lq 8 (by kernel_rfl)
 refine cl 5 h (synthesisref16_values_ok _ _) (by kernel_rfl) fun v10 h => ?_
 refine cl 0 h (synthesisref16_check_ok _) (by kernel_rfl) fun v11 h => ?_
 refine cd 7 h (by kernel_rfl) (fun h => ?_) fun h => ?_
 ·cases h; exact lq 8 (by kernel_rfl)
 refine hcl 3 [.one .keep, .one .keep, .one .keep, .one .keep, .one .keep, .one .keep] [] [(1, 3), (2, 4)] [] h (synthesisref16_begin_h_ok _ _ _ _ _ _) (fun _ => by kernel_rfl) fun v12 h => ?_
 refine wle 5 ((le_a (by kernel_rfl) : LeSt _ ⟨104, [(1, (.fz ((eL 1 eI) (a1)))), (4, (.ref 1 0 0)), (6, (.fz ((eL 4 eVaR) (v8)))), (10, (.ref 3 0 0)), (45, (.ref 3 0 0))], [(1, (.box 27 [(fS ((⟨#[]⟩ : ByteArray))), (.fz (.atom (.slice none 0 0))), (.fz (.atom (.slice none 0 0))), (.fz (.atom (.slice none 0 0)))])), (3, (.box 91 [(fS (((⟨#[115, 116, 114, 105, 110, 103, 115]⟩ : ByteArray)))), (.fz ((eL 1 eI) (([(3)] : List (Int))))), (.fz ((eL 2 eSy) (([(Sy.mk (((⟨#[116, 101, 120, 116]⟩ : ByteArray))) ((3))), (Sy.mk (((⟨#[110, 117, 109, 98, 101, 114]⟩ : ByteArray))) ((2)))] : List (Sy))))), (.row 4 (List.length (([] : List (Ru)))))])), (4, (.frow 67 9 (List.map eRu (([] : List (Ru))))))], [3, 4, 1], []⟩)) (by kernel_rfl) ?_
 refine hcl 0 [.one .keep, .one .keep] [(3, 1), (4, 2)] [(1, 3), (2, 4)] [1, 2] h (synthesisref16_writer_input_h_ok _ _ _ _ _) (fun _ => by kernel_rfl) fun v13 h => ?_
 refine lp1 7 (fun v14 => ⟨104, [(1, (.fz ((eL 1 eI) (a1)))), (4, (.ref 1 0 0)), (6, (.fz ((eL 4 eVaR) (v8)))), (10, (.ref 3 0 0)), (11, (fI (v14.1)))], [(1, (.box 27 [(fS ((⟨#[]⟩ : ByteArray))), (.fz (.atom (.slice none 0 0))), (.fz (.atom (.slice none 0 0))), (.fz (.atom (.slice none 0 0)))])), (3, (.box 91 [(fS (v14.2.1)), (.fz ((eL 1 eI) (v14.2.2.1))), (.fz ((eL 2 eSy) (v14.2.2.2.1))), (.row 4 (List.length (v14.2.2.2.2)))])), (4, (.frow 67 9 (List.map eRu (v14.2.2.2.2))))], [3, 4, 1], []⟩) (.exit 2) (fun v18 => ⟨104, [(1, (.fz ((eL 1 eI) (a1)))), (4, (.ref 1 0 0)), (10, (.ref 3 0 0))], [(1, (.box 27 [(fS ((⟨#[]⟩ : ByteArray))), (.fz (.atom (.slice none 0 0))), (.fz (.atom (.slice none 0 0))), (.fz (.atom (.slice none 0 0)))])), (3, (.box 91 [(fS (v18.1)), (.fz ((eL 1 eI) (v18.2.1))), (.fz ((eL 2 eSy) (v18.2.2.1))), (.row 4 (List.length (v18.2.2.2)))])), (4, (.frow 67 9 (List.map eRu (v18.2.2.2))))], [3, 4, 1], []⟩) h (by kernel_rfl) (by kernel_rfl) (fun v14 r h => ?_) fun v18 h => ?_
 ·unfold synthesisref16_Strings_l2 at h
  refine cd 8 h (by kernel_rfl) (fun h => ?_) fun h => ?_
  ·refine ix nVaR 7 h (by kernel_rfl) fun v15 h => ?_
   refine hcl 1 [.one .keep, .one .keep, .one .keep] [(3, 1), (4, 2)] [(1, 3), (2, 4)] [1, 2] h (synthesisref16_writer_constant_h_ok _ _ _ _ _ _) (fun _ => by kernel_rfl) fun v16 h => ?_
   cases h; exact lj 6 (by kernel_rfl)
  cases h; exact lo 1 (by kernel_rfl)
 refine hcl 5 [.one .keep, .one .keep, (.one (.sl 1)), (.one (.sl 1))] [(3, 1), (4, 2)] [(1, 3), (2, 4)] [1, 2] h (synthesisref16_writer_op_h_ok _ _ _ _ _ _ _) (fun _ => by kernel_rfl) fun v19 h => ?_
 refine hcl 6 [.one .keep, .one .keep, (.one (.sl 1)), (.one (.sl 1))] [(3, 1), (4, 2)] [(1, 3), (2, 4)] [1, 2] h (synthesisref16_writer_op_h_ok _ _ _ _ _ _ _) (fun _ => by kernel_rfl) fun v20 h => ?_
 refine hcl 6 [.one .keep, .one .keep, (.one (.sl 1)), (.one (.sl 1))] [(3, 1), (4, 2)] [(1, 3), (2, 4)] [1, 2] h (synthesisref16_writer_op_h_ok _ _ _ _ _ _ _) (fun _ => by kernel_rfl) fun v21 h => ?_
 refine hcl 6 [.one .keep, .one .keep, (.one (.sl 1)), (.one (.sl 1))] [(3, 1), (4, 2)] [(1, 3), (2, 4)] [1, 2] h (synthesisref16_writer_op_h_ok _ _ _ _ _ _ _) (fun _ => by kernel_rfl) fun v22 h => ?_
 refine hcl 6 [.one .keep, .one .keep, (.one (.sl 1)), (.one (.sl 1))] [(3, 1), (4, 2)] [(1, 3), (2, 4)] [1, 2] h (synthesisref16_writer_op_h_ok _ _ _ _ _ _ _) (fun _ => by kernel_rfl) fun v23 h => ?_
 refine lp1 7 (fun v24 => ⟨104, [(1, (.fz ((eL 1 eI) (a1)))), (4, (.ref 1 0 0)), (10, (.ref 3 0 0)), (12, (fI (v24.1)))], [(1, (.box 27 [(fS ((⟨#[]⟩ : ByteArray))), (.fz (.atom (.slice none 0 0))), (.fz (.atom (.slice none 0 0))), (.fz (.atom (.slice none 0 0)))])), (3, (.box 91 [(fS (v18.1)), (.fz ((eL 1 eI) (v18.2.1))), (.fz ((eL 2 eSy) (v18.2.2.1))), (.row 4 (List.length (v24.2)))])), (4, (.frow 67 9 (List.map eRu (v24.2))))], [3, 4, 1], []⟩) (.exit 4) (fun v29 => ⟨104, [(4, (.ref 1 0 0)), (10, (.ref 3 0 0))], [(1, (.box 27 [(fS ((⟨#[]⟩ : ByteArray))), (.fz (.atom (.slice none 0 0))), (.fz (.atom (.slice none 0 0))), (.fz (.atom (.slice none 0 0)))])), (3, (.box 91 [(fS (v18.1)), (.fz ((eL 1 eI) (v18.2.1))), (.fz ((eL 2 eSy) (v18.2.2.1))), (.row 4 (List.length (v29)))])), (4, (.frow 67 9 (List.map eRu (v29))))], [3, 4, 1], []⟩) h (by kernel_rfl) (by kernel_rfl) (fun v24 r h => ?_) fun v29 h => ?_
 ·unfold synthesisref16_Strings_l1 at h
  refine cd 8 h (by kernel_rfl) (fun h => ?_) fun h => ?_
  ·refine ix nI 7 h (by kernel_rfl) fun v25 h => ?_
   refine cl 1 h (synthesisref01_OfInt_ok _) (by kernel_rfl) fun v26 h => ?_
   refine hcl 0 [.one .keep, .one .keep, .one .keep] [(3, 1), (4, 2)] [(1, 3), (2, 4)] [1, 2] h (synthesisref16_writer_constant_h_ok _ _ _ _ _ _) (fun _ => by kernel_rfl) fun v27 h => ?_
   cases h; exact lj 6 (by kernel_rfl)
  cases h; exact lo 1 (by kernel_rfl)
 refine hcl 5 [.one .keep, .one .keep, (.one (.sl 1)), (.one (.sl 1))] [(3, 1), (4, 2)] [(1, 3), (2, 4)] [1, 2] h (synthesisref16_writer_op_h_ok _ _ _ _ _ _ _) (fun _ => by kernel_rfl) fun v30 h => ?_
 refine hcl 6 [.one .keep, .one .keep, (.one (.sl 1)), (.one (.sl 1))] [(3, 1), (4, 2)] [(1, 3), (2, 4)] [1, 2] h (synthesisref16_writer_op_h_ok _ _ _ _ _ _ _) (fun _ => by kernel_rfl) fun v31 h => ?_
 refine wle 10 (le_freezeCell (e2 := 27) (id2 := 1) (j := 3) (id := 4) (n := List.length (v31)) (e := 67) (size := 9) (xs := List.map eRu (v31)) (cells := [(fS (v18.1)), (.fz ((eL 1 eI) (v18.2.1))), (.fz ((eL 2 eSy) (v18.2.2.1))), (.row 4 (List.length (v31)))]) (by kernel_rfl) (by kernel_rfl) (by kernel_rfl) (by simp)) (by kernel_rfl) ?_
 cases h; exact lq 1 (by kernel_rfl)

def synthesisref01_OfPattern (a0 : ByteArray) : Option (Va) := (some (Va.mk (8) (0) (a0) (([] : List Va))))
theorem synthesisref01_OfPattern_ok (a0 : ByteArray) (r : Va) (h : synthesisref01_OfPattern a0 = some r) : PCall Try.prog 79 [eS a0] (eVa (r)) := by
 unfold synthesisref01_OfPattern at h
 refine pcl [.ag [.keep, .keep, .keep, .sl 4]] Try.func79 (by kernel_rfl) (by kernel_rfl) (by kernel_rfl) ?_
 cases h; exact lq 11 (by kernel_rfl)

def synthesisref05_in (a0 : Int) : Option (Bool) := (Option.bind ((bif (decide (32 ≤ a0)) then (some ((decide (a0 ≤ 126)))) else (some (false))) : Option ((Bool))) fun (v2 : (Bool)) => (some v2))
theorem synthesisref05_in_ok (a0 : Int) (r : Bool) (h : synthesisref05_in a0 = some r) : PCall Try.prog 137 [eU8 a0] (eB (r)) := by
 unfold synthesisref05_in at h
 refine pcl [.one .keep] Try.func137 (by kernel_rfl) (by kernel_rfl) (by kernel_rfl) ?_
 refine jn1 5 .normal (fun v2 => ⟨9, [(2, (fB (v2)))], [], [], []⟩) h (by kernel_rfl) (fun v2 h => ?_) fun v2 h => ?_
 ·refine gd 4 h (by kernel_rfl) (fun h => ?_) fun h => ?_
  ·cases h; exact lj 5 (by kernel_rfl)
  cases h; exact lj 5 (by kernel_rfl)
 cases h; exact lq 1 (by kernel_rfl)

def synthesisref05_shown (a0 : Int) (a1 : Bool) : Option (ByteArray) := (bif a1 then (Option.bind (cat (⟨#[92]⟩ : ByteArray) (toBA ([(wu8 a0)] : List (Int)))) fun v1 => (some v1)) else (some (toBA ([(wu8 a0)] : List (Int)))))
theorem synthesisref05_shown_ok (a0 : Int) (a1 : Bool) (r : ByteArray) (h : synthesisref05_shown a0 a1 = some r) : PCall Try.prog 138 [eI a0, eB a1] (eS (r)) := by
 unfold synthesisref05_shown at h
 refine pcl [.one .keep] Try.func138 (by kernel_rfl) (by kernel_rfl) (by kernel_rfl) ?_
 refine cd 9 h (by kernel_rfl) (fun h => ?_) fun h => ?_
 ·refine nst 5 (s_b2s (sr := 136) (t := 9) (x := (.tmp 8)) (e := 5) (de := tt5) (ds := tt136) (d := tt9) (xs := ([(wu8 a0)] : List (Int))) tt_ok (by kernel_rfl) (by kernel_rfl) rfl (by kernel_rfl) rfl (by kernel_rfl) rfl (by kernel_rfl)) (by kernel_rfl) ?_
  obtain ⟨v1, hv1, h⟩ := Option.bind_eq_some_iff.1 h
  refine nst 0 (s_cat (t := 9) (X := (.const (.string ⟨#[92]⟩))) (Y := (.tmp 9)) (yt := 9) (s := (⟨#[92]⟩ : ByteArray)) (u := (toBA ([(wu8 a0)] : List (Int)))) hv1 (by kernel_rfl) (by kernel_rfl) (by kernel_rfl)) (by kernel_rfl) ?_
  cases h; exact lq 3 (by kernel_rfl)
 refine nst 6 (s_b2s (sr := 136) (t := 9) (x := (.tmp 13)) (e := 5) (de := tt5) (ds := tt136) (d := tt9) (xs := ([(wu8 a0)] : List (Int))) tt_ok (by kernel_rfl) (by kernel_rfl) rfl (by kernel_rfl) rfl (by kernel_rfl) rfl (by kernel_rfl)) (by kernel_rfl) ?_
 cases h; exact lq 3 (by kernel_rfl)

def synthesisref05_special (a0 : Int) : Option (Bool) := (Option.bind ((bif (a0 == 40) then (some (true)) else (bif (a0 == 41) then (some (true)) else (bif (a0 == 91) then (some (true)) else (bif (a0 == 93) then (some (true)) else (bif (a0 == 46) then (some (true)) else (bif (a0 == 42) then (some (true)) else (bif (a0 == 124) then (some (true)) else (some ((a0 == 92)))))))))) : Option ((Bool))) fun (v2 : (Bool)) => (some v2))
theorem synthesisref05_special_ok (a0 : Int) (r : Bool) (h : synthesisref05_special a0 = some r) : PCall Try.prog 139 [eU8 a0] (eB (r)) := by
 unfold synthesisref05_special at h
 refine pcl [.one .keep] Try.func139 (by kernel_rfl) (by kernel_rfl) (by kernel_rfl) ?_
 refine jn1 5 .normal (fun v2 => ⟨33, [(2, (fB (v2)))], [], [], []⟩) h (by kernel_rfl) (fun v2 h => ?_) fun v2 h => ?_
 ·refine gd 4 h (by kernel_rfl) (fun h => ?_) fun h => ?_
  ·cases h; exact lj 29 (by kernel_rfl)
  refine gd 4 h (by kernel_rfl) (fun h => ?_) fun h => ?_
  ·cases h; exact lj 25 (by kernel_rfl)
  refine gd 4 h (by kernel_rfl) (fun h => ?_) fun h => ?_
  ·cases h; exact lj 21 (by kernel_rfl)
  refine gd 4 h (by kernel_rfl) (fun h => ?_) fun h => ?_
  ·cases h; exact lj 17 (by kernel_rfl)
  refine gd 4 h (by kernel_rfl) (fun h => ?_) fun h => ?_
  ·cases h; exact lj 13 (by kernel_rfl)
  refine gd 4 h (by kernel_rfl) (fun h => ?_) fun h => ?_
  ·cases h; exact lj 9 (by kernel_rfl)
  refine gd 4 h (by kernel_rfl) (fun h => ?_) fun h => ?_
  ·cases h; exact lj 5 (by kernel_rfl)
  cases h; exact lj 5 (by kernel_rfl)
 cases h; exact lq 1 (by kernel_rfl)

def synthesisref05_Literal_l1 (a0 : ByteArray) (v1 : (ByteArray) × (Int)) : Option (((ByteArray) × (Int)) ⊕ ((((ByteArray)) ⊕ (ByteArray)))) := (Option.bind ((bif (decide (v1.2 < (a0.size : Int))) then (some ((decide (v1.2 ≤ 40)))) else (some (false))) : Option ((Bool))) fun (v3 : (Bool)) => (bif v3 then (Option.bind (byt a0 v1.2) fun v4 => (Option.bind (synthesisref05_in (v4)) fun v5 => (bif (!v5) then (some (.inr (.inr (⟨#[]⟩ : ByteArray)))) else (Option.bind (byt a0 v1.2) fun v6 => (Option.bind (byt a0 v1.2) fun v7 => (Option.bind (synthesisref05_special (v7)) fun v8 => (Option.bind (synthesisref05_shown ((w64 v6)) (v8)) fun v9 => (Option.bind (cat v1.1 v9) fun v10 => (some (.inl (v10, (w64 (v1.2 + 1))))))))))))) else (some (.inr (.inl (v1.1))))))
def synthesisref05_Literal (a0 : ByteArray) : Option (ByteArray) := (Option.bind (loopN (synthesisref05_Literal_l1 a0) fuel ((⟨#[]⟩ : ByteArray), 0)) fun (v11 : (((ByteArray)) ⊕ (ByteArray))) => Sum.elim (fun v12 => (bif (a0.toList == (⟨#[]⟩ : ByteArray).toList) then (some (⟨#[40, 41]⟩ : ByteArray)) else (bif (decide (40 < (v12.size : Int))) then (some (⟨#[]⟩ : ByteArray)) else (some v12)))) (fun v13 => (some v13)) v11)
theorem synthesisref05_Literal_ok (a0 : ByteArray) (r : ByteArray) (h : synthesisref05_Literal a0 = some r) : PCall Try.prog 80 [eS a0] (eS (r)) := by
 unfold synthesisref05_Literal at h
 refine pcl [.one .keep] Try.func80 (by kernel_rfl) (by kernel_rfl) (by kernel_rfl) ?_
 refine lpx 14 (fun v1 => ⟨37, [(0, (fS (a0))), (3, (fS (v1.1))), (4, (fI (v1.2)))], [], [], []⟩) (fun v11 e st => Sum.elim (fun p => e = .exit 0 ∧ LeSt st ⟨37, [(0, (fS (a0))), (3, (fS (p)))], [], [], []⟩) (fun p => e = .ret ∧ retX TT st Try.f80.results.toList [.one .keep] = some (eS (p))) v11) h (by kernel_rfl) (le_a (by kernel_rfl)) (fun v1 r h => ?_) fun v11 h e st' hq => ?_
 ·unfold synthesisref05_Literal_l1 at h
  refine jn1 2 .normal (fun v3 => ⟨37, [(0, (fS (a0))), (3, (fS (v1.1))), (4, (fI (v1.2))), (12, (fB (v3)))], [], [], []⟩) h (by kernel_rfl) (fun v3 h => ?_) fun v3 h => ?_
  ·refine gd 6 h (by kernel_rfl) (fun h => ?_) fun h => ?_
   ·cases h; exact lj 4 (by kernel_rfl)
   cases h; exact lj 4 (by kernel_rfl)
  refine cd 0 h (by kernel_rfl) (fun h => ?_) fun h => ?_
  ·refine byx 8 h (by kernel_rfl) fun v4 h => ?_
   refine cl 0 h (synthesisref05_in_ok _) (by kernel_rfl) fun v5 h => ?_
   refine cd 2 h (by kernel_rfl) (fun h => ?_) fun h => ?_
   ·cases h; exact lor 5 (by kernel_rfl)
   refine dw 1 10 (by kernel_rfl) ?_
   refine byx 3 h (by kernel_rfl) fun v6 h => ?_
   refine byx 3 h (by kernel_rfl) fun v7 h => ?_
   refine cl 0 h (synthesisref05_special_ok _) (by kernel_rfl) fun v8 h => ?_
   refine cl 0 h (synthesisref05_shown_ok _ _) (by kernel_rfl) fun v9 h => ?_
   obtain ⟨v10, hv10, h⟩ := Option.bind_eq_some_iff.1 h
   refine nst 1 (s_cat (t := 9) (X := (.tmp 20)) (Y := (.tmp 29)) (yt := 9) (s := v1.1) (u := v9) hv10 (by kernel_rfl) (by kernel_rfl) (by kernel_rfl)) (by kernel_rfl) ?_
   cases h; exact lj 7 (by kernel_rfl)
  cases h; exact lo 1 (by kernel_rfl)
 rcases v11 with v12 | v13
 ·try simp only [Sum.elim_inl, Sum.elim_inr] at h
  obtain ⟨rfl, hle⟩ := hq
  refine ⟨_, hle, ?_⟩
  refine cd 6 h (by kernel_rfl) (fun h => ?_) fun h => ?_
  ·cases h; exact lq 5 (by kernel_rfl)
  refine cd 8 h (by kernel_rfl) (fun h => ?_) fun h => ?_
  ·cases h; exact lq 5 (by kernel_rfl)
  cases h; exact lq 7 (by kernel_rfl)
 ·try simp only [Sum.elim_inl, Sum.elim_inr] at h
  obtain ⟨rfl, hret⟩ := hq
  refine ⟨_, LeSt.refl, ?_⟩
  cases h; exact lv hret
end Go.Proofs.Ytaeicmnimjfbaaa
