/- Typed programs and what computes them. -/
import Derived.Test.YtaeicmnimjfbaaaZ6
set_option linter.unusedVariables false
set_option linter.unusedSimpArgs false
set_option maxRecDepth 100000
namespace Go.Proofs.Ytaeicmnimjfbaaa
open Go Go.RowKit Go.Proofs
def synthesisref16_Vectors_m0 : List (Nat × AObj) := [(1, (.box 27 [(fS ((⟨#[]⟩ : ByteArray))), (.fz (.atom (.slice none 0 0))), (.fz (.atom (.slice none 0 0))), (.fz (.atom (.slice none 0 0)))])), (2, (.box 91 [(fS (((⟨#[118, 101, 99, 116, 111, 114, 115]⟩ : ByteArray)))), (.lim 1 (List.length (([(4)] : List (Int)))) (List.map eI (([(4)] : List (Int))))), (.lim 2 (List.length (([(Sy.mk (((⟨#[98, 105, 116, 115]⟩ : ByteArray))) ((4))), (Sy.mk (((⟨#[110, 117, 109, 98, 101, 114]⟩ : ByteArray))) ((2)))] : List (Sy)))) (List.map eSy (([(Sy.mk (((⟨#[98, 105, 116, 115]⟩ : ByteArray))) ((4))), (Sy.mk (((⟨#[110, 117, 109, 98, 101, 114]⟩ : ByteArray))) ((2)))] : List (Sy))))), (.row 3 (List.length (([] : List (Ru)))))])), (3, (.frow 67 9 (List.map eRu (([] : List (Ru))))))]
def synthesisref16_Vectors_m1 (v5 : (Int) × (ByteArray) × (List Int) × (List Sy) × (List Ru)) : List (Nat × AObj) := [(1, (.box 27 [(fS ((⟨#[]⟩ : ByteArray))), (.fz (.atom (.slice none 0 0))), (.fz (.atom (.slice none 0 0))), (.fz (.atom (.slice none 0 0)))])), (2, (.box 91 [(fS (v5.2.1)), (.fz ((eL 1 eI) (v5.2.2.1))), (.fz ((eL 2 eSy) (v5.2.2.2.1))), (.row 3 (List.length (v5.2.2.2.2)))])), (3, (.frow 67 9 (List.map eRu (v5.2.2.2.2))))]
def synthesisref16_Vectors_m2 (v14 : (Int) × (ByteArray) × (List Int) × (List Sy) × (List Ru)) : List (Nat × AObj) := [(1, (.box 27 [(fS ((⟨#[]⟩ : ByteArray))), (.fz (.atom (.slice none 0 0))), (.fz (.atom (.slice none 0 0))), (.fz (.atom (.slice none 0 0)))])), (2, (.box 91 [(fS (v14.2.1)), (.fz ((eL 1 eI) (v14.2.2.1))), (.fz ((eL 2 eSy) (v14.2.2.2.1))), (.row 3 (List.length (v14.2.2.2.2)))])), (3, (.frow 67 9 (List.map eRu (v14.2.2.2.2))))]
def synthesisref16_Vectors_m3 : List (Nat × AObj) := [(1, (.box 27 [(fS ((⟨#[]⟩ : ByteArray))), (.fz (.atom (.slice none 0 0))), (.fz (.atom (.slice none 0 0))), (.fz (.atom (.slice none 0 0)))]))]
def synthesisref16_Vectors_m4 (v10 : (ByteArray) × (List Int) × (List Sy) × (List Ru)) : List (Nat × AObj) := [(1, (.box 27 [(fS ((⟨#[]⟩ : ByteArray))), (.fz (.atom (.slice none 0 0))), (.fz (.atom (.slice none 0 0))), (.fz (.atom (.slice none 0 0)))])), (2, (.box 91 [(fS (v10.1)), (.fz ((eL 1 eI) (v10.2.1))), (.fz ((eL 2 eSy) (v10.2.2.1))), (.row 3 (List.length (v10.2.2.2)))])), (3, (.frow 67 9 (List.map eRu (v10.2.2.2))))]
def synthesisref16_Vectors_m5 (v18 : (ByteArray) × (List Int) × (List Sy) × (List Ru)) : List (Nat × AObj) := [(1, (.box 27 [(fS ((⟨#[]⟩ : ByteArray))), (.fz (.atom (.slice none 0 0))), (.fz (.atom (.slice none 0 0))), (.fz (.atom (.slice none 0 0)))])), (2, (.box 91 [(fS (v18.1)), (.fz ((eL 1 eI) (v18.2.1))), (.fz ((eL 2 eSy) (v18.2.2.1))), (.row 3 (List.length (v18.2.2.2)))])), (3, (.frow 67 9 (List.map eRu (v18.2.2.2))))]
def synthesisref16_Vectors_l1 (v14 : (Int) × (ByteArray) × (List Int) × (List Sy) × (List Ru)) : Option (((Int) × (ByteArray) × (List Int) × (List Sy) × (List Ru)) ⊕ ((ByteArray) × (List Int) × (List Sy) × (List Ru))) := (bif (decide (v14.1 ≤ 4)) then (Option.bind (synthesisref01_OfInt (v14.1)) fun v15 => (Option.bind (synthesisref16_writer_constant_h (v14.2.1) (v14.2.2.1) (v14.2.2.2.1) (v14.2.2.2.2) (1) (v15)) fun v16 => (some (.inl ((w64 (2 * v14.1)), (v14.2.1), (v14.2.2.1), (v14.2.2.2.1), v16))))) else (some (.inr (v14.2.1, v14.2.2.1, v14.2.2.2.1, v14.2.2.2.2))))
def synthesisref16_Vectors_l2 (a0 : List Int) (v5 : (Int) × (ByteArray) × (List Int) × (List Sy) × (List Ru)) : Option (((Int) × (ByteArray) × (List Int) × (List Sy) × (List Ru)) ⊕ ((ByteArray) × (List Int) × (List Sy) × (List Ru))) := (bif (decide (v5.1 < (List.length a0 : Int))) then (Option.bind (idx a0 v5.1) fun v6 => (Option.bind (synthesisref01_OfBits (v6)) fun v7 => (Option.bind (synthesisref16_writer_constant_h (v5.2.1) (v5.2.2.1) (v5.2.2.2.1) (v5.2.2.2.2) (0) (v7)) fun v8 => (some (.inl ((w64 (v5.1 + 1)), (v5.2.1), (v5.2.2.1), (v5.2.2.2.1), v8)))))) else (some (.inr (v5.2.1, v5.2.2.1, v5.2.2.2.1, v5.2.2.2.2))))
def synthesisref16_Vectors (a0 : List Int) : Option ((La) × (Int)) := (Option.bind (synthesisref16_values (a0) (4)) fun v1 => (Option.bind (synthesisref16_check (v1)) fun v2 => (bif (v2 != 0) then (some ((La.mk ((⟨#[]⟩ : ByteArray)) (([] : List Int)) (([] : List Sy)) (([] : List Ru))), v2)) else (Option.bind (synthesisref16_begin_h ((⟨#[118, 101, 99, 116, 111, 114, 115]⟩ : ByteArray)) (4) ((⟨#[98, 105, 116, 115]⟩ : ByteArray)) (4) ((⟨#[110, 117, 109, 98, 101, 114]⟩ : ByteArray)) (2)) fun v3 => (Option.bind (synthesisref16_writer_input_h (((⟨#[118, 101, 99, 116, 111, 114, 115]⟩ : ByteArray))) (([(4)] : List (Int))) (([(Sy.mk (((⟨#[98, 105, 116, 115]⟩ : ByteArray))) ((4))), (Sy.mk (((⟨#[110, 117, 109, 98, 101, 114]⟩ : ByteArray))) ((2)))] : List (Sy))) (([] : List (Ru))) (0)) fun v4 => (Option.bind (loopN (synthesisref16_Vectors_l2 a0) fuel (0, (((⟨#[118, 101, 99, 116, 111, 114, 115]⟩ : ByteArray))), (([(4)] : List (Int))), (([(Sy.mk (((⟨#[98, 105, 116, 115]⟩ : ByteArray))) ((4))), (Sy.mk (((⟨#[110, 117, 109, 98, 101, 114]⟩ : ByteArray))) ((2)))] : List (Sy))), v4)) fun (v10 : (ByteArray) × (List Int) × (List Sy) × (List Ru)) => (Option.bind (synthesisref16_writer_op_h (v10.1) (v10.2.1) (v10.2.2.1) (v10.2.2.2) (0) (([(⟨#[98, 97, 110, 100]⟩ : ByteArray), (⟨#[98, 111, 114]⟩ : ByteArray), (⟨#[98, 120, 111, 114]⟩ : ByteArray), (⟨#[98, 97, 100, 100]⟩ : ByteArray), (⟨#[98, 115, 117, 98]⟩ : ByteArray), (⟨#[98, 109, 117, 108]⟩ : ByteArray)] : List (ByteArray))) (([0, 0] : List (Int)))) fun v11 => (Option.bind (synthesisref16_writer_op_h ((v10.1)) ((v10.2.1)) ((v10.2.2.1)) (v11) (0) (([(⟨#[98, 110, 111, 116]⟩ : ByteArray)] : List (ByteArray))) (([0] : List (Int)))) fun v12 => (Option.bind (synthesisref16_writer_op_h (((v10.1))) (((v10.2.1))) (((v10.2.2.1))) (v12) (0) (([(⟨#[98, 108, 101, 102, 116]⟩ : ByteArray), (⟨#[98, 114, 105, 103, 104, 116]⟩ : ByteArray), (⟨#[98, 97, 114, 105, 116, 104]⟩ : ByteArray)] : List (ByteArray))) (([0, 1] : List (Int)))) fun v13 => (Option.bind (loopN (synthesisref16_Vectors_l1) fuel (1, (((v10.1))), (((v10.2.1))), (((v10.2.2.1))), v13)) fun (v18 : (ByteArray) × (List Int) × (List Sy) × (List Ru)) => (Option.bind (synthesisref16_writer_op_h (v18.1) (v18.2.1) (v18.2.2.1) (v18.2.2.2) (1) (([(⟨#[111, 110, 101, 115]⟩ : ByteArray)] : List (ByteArray))) (([0] : List (Int)))) fun v19 => (some ((La.mk ((v18.1)) ((v18.2.1)) ((v18.2.2.1)) (v19)), 0)))))))))))))
theorem synthesisref16_Vectors_ok (a0 : List Int) (r : (La) × (Int)) (h : synthesisref16_Vectors a0 = some r) : PCall Try.prog 31 [(eL 1 eI) a0] (.tup [eLa (r.1), eI (r.2)]) := by
 unfold synthesisref16_Vectors at h
 refine pcall_intro (T := TT) tt_ok [.ag [.keep, .sl 1, .sl 2, .sl 9], .one .keep] Try.func31 rfl (by kernel_rfl) (by kernel_rfl) ?_
 refine awp_le (st' := ⟨59, [(0, (.fz ((eL 1 eI) (a0))))], [], []⟩) (le_ck (by kernel_rfl)) ?_
 refine awp_seq ?_
 refine awp_region ?_
 refine l_rk 2 tt_ok ⟨59, [(0, (.fz ((eL 1 eI) (a0)))), (2, (.ref 1 0 0))], (synthesisref16_Vectors_m3), [1]⟩ (by kernel_rfl) ?_
 refine l_nil ?_
 refine awp_seq ?_
 refine awp_seq ?_
 refine awp_region ?_
 refine l_rk 1 tt_ok ⟨59, [(0, (.fz ((eL 1 eI) (a0)))), (2, (.ref 1 0 0)), (8, (.fz ((eL 1 eI) (a0))))], (synthesisref16_Vectors_m3), [1]⟩ (by kernel_rfl) ?_
 obtain ⟨v1, hv1, h⟩ := Option.bind_eq_some_iff.1 h
 refine l_step ((n_call (ys := [(eL 1 eI) (a0), eI (4)]) (cs := [(.one (.sl 1)), (.one (.keep))]) rfl (by kernel_rfl) (synthesisref16_values_ok (a0) (4) _ hv1)).step) (by kernel_rfl) (dst_of (by kernel_rfl)) ?_
 obtain ⟨v2, hv2, h⟩ := Option.bind_eq_some_iff.1 h
 refine l_step ((n_call (ys := [(eL 4 eVaR) (v1)]) (cs := [(.one (.sl 4))]) rfl (by kernel_rfl) (synthesisref16_check_ok (v1) _ hv2)).step) (by kernel_rfl) (dst_of (by kernel_rfl)) ?_
 refine l_rk 1 tt_ok ⟨59, [(0, (.fz ((eL 1 eI) (a0)))), (2, (.ref 1 0 0)), (4, (fI (v2)))], (synthesisref16_Vectors_m3), [1]⟩ (by kernel_rfl) ?_
 refine l_nil ?_
 refine awp_seq ?_
 refine awp_region ?_
 refine l_rk 2 tt_ok ⟨59, [(0, (.fz ((eL 1 eI) (a0)))), (2, (.ref 1 0 0)), (4, (fI (v2))), (12, (fB ((v2 != 0))))], (synthesisref16_Vectors_m3), [1]⟩ (by kernel_rfl) ?_
 refine l_nil ?_
 rcases cond_some h with ⟨hb, h⟩ | ⟨hb, h⟩
 ·refine awp_cond_t (b := (v2 != 0)) (by kernel_rfl) hb ?_
  refine awp_seq ?_
  refine awp_region ?_
  refine l_rk 4 tt_ok ⟨59, [(2, (.ref 1 0 0)), (3, (fI (v2)))], (synthesisref16_Vectors_m3), [1]⟩ (by kernel_rfl) ?_
  refine l_nil ?_
  refine awp_ret ?_
  obtain rfl := Option.some.inj h
  exact (show retX _ _ _ _ = some _ from by kernel_rfl)
 ·refine awp_cond_f (b := (v2 != 0)) (by kernel_rfl) hb ?_
  refine awp_skip ?_
  refine awp_seq ?_
  refine awp_region ?_
  obtain ⟨v3, hv3, h⟩ := Option.bind_eq_some_iff.1 h
  refine l_step (h_step (f := 72) (cap := []) (cs := [.one .keep, .one .keep, .one .keep, .one .keep, .one .keep, .one .keep]) (keys := []) [] [(1, 2), (2, 3)] rfl (by kernel_rfl) (synthesisref16_begin_h_ok ((⟨#[118, 101, 99, 116, 111, 114, 115]⟩ : ByteArray)) (4) ((⟨#[98, 105, 116, 115]⟩ : ByteArray)) (4) ((⟨#[110, 117, 109, 98, 101, 114]⟩ : ByteArray)) (2) _ hv3) (by kernel_rfl) (by kernel_rfl) (by kernel_rfl) (by kernel_rfl)) (by kernel_rfl) (dst_of (by kernel_rfl)) ?_
  refine l_rk 1 tt_ok ⟨59, [(0, (.fz ((eL 1 eI) (a0)))), (2, (.ref 1 0 0)), (5, (.ref 2 0 0))], (synthesisref16_Vectors_m0), [2, 3, 1]⟩ (by kernel_rfl) ?_
  refine l_nil ?_
  refine awp_seq ?_
  refine awp_region ?_
  refine l_rk 1 tt_ok ⟨59, [(0, (.fz ((eL 1 eI) (a0)))), (2, (.ref 1 0 0)), (5, (.ref 2 0 0)), (16, (.ref 2 0 0))], (synthesisref16_Vectors_m0), [2, 3, 1]⟩ (by kernel_rfl) ?_
  obtain ⟨v4, hv4, h⟩ := Option.bind_eq_some_iff.1 h
  refine l_le (le_co (ids := [2, 3, 1]) (ts := [(0, .one .keep), (2, .one .keep), (5, .one .keep), (16, .one .keep)]) (os := [(1, []), (2, [.keep, .sl 1, .sl 2]), (3, [])]) (by kernel_rfl) : LeSt _ ⟨59, [(0, (.fz ((eL 1 eI) (a0)))), (2, (.ref 1 0 0)), (5, (.ref 2 0 0)), (16, (.ref 2 0 0))], [(1, (.box 27 [(fS ((⟨#[]⟩ : ByteArray))), (.fz (.atom (.slice none 0 0))), (.fz (.atom (.slice none 0 0))), (.fz (.atom (.slice none 0 0)))])), (2, (.box 91 [(fS (((⟨#[118, 101, 99, 116, 111, 114, 115]⟩ : ByteArray)))), (.fz ((eL 1 eI) (([(4)] : List (Int))))), (.fz ((eL 2 eSy) (([(Sy.mk (((⟨#[98, 105, 116, 115]⟩ : ByteArray))) ((4))), (Sy.mk (((⟨#[110, 117, 109, 98, 101, 114]⟩ : ByteArray))) ((2)))] : List (Sy))))), (.row 3 (List.length (([] : List (Ru)))))])), (3, (.frow 67 9 (List.map eRu (([] : List (Ru))))))], [2, 3, 1]⟩) ?_
  refine l_step (h_step (f := 73) (cap := []) (cs := [.one .keep, .one .keep]) (keys := [1, 2]) [(2, 1), (3, 2)] [(1, 2), (2, 3)] rfl (by kernel_rfl) (synthesisref16_writer_input_h_ok (((⟨#[118, 101, 99, 116, 111, 114, 115]⟩ : ByteArray))) (([(4)] : List (Int))) (([(Sy.mk (((⟨#[98, 105, 116, 115]⟩ : ByteArray))) ((4))), (Sy.mk (((⟨#[110, 117, 109, 98, 101, 114]⟩ : ByteArray))) ((2)))] : List (Sy))) (([] : List (Ru))) (0) _ hv4) (by kernel_rfl) (by kernel_rfl) (by kernel_rfl) (by kernel_rfl)) (by kernel_rfl) (dst_of (by kernel_rfl)) ?_
  refine l_nil ?_
  refine awp_seq ?_
  refine awp_seq ?_
  refine awp_region ?_
  refine l_rk 1 tt_ok ⟨59, [(0, (.fz ((eL 1 eI) (a0)))), (2, (.ref 1 0 0)), (5, (.ref 2 0 0)), (6, (fI (0)))], [(1, (.box 27 [(fS ((⟨#[]⟩ : ByteArray))), (.fz (.atom (.slice none 0 0))), (.fz (.atom (.slice none 0 0))), (.fz (.atom (.slice none 0 0)))])), (2, (.box 91 [(fS ((((⟨#[118, 101, 99, 116, 111, 114, 115]⟩ : ByteArray))))), (.fz ((eL 1 eI) ((([(4)] : List (Int)))))), (.fz ((eL 2 eSy) ((([(Sy.mk (((⟨#[98, 105, 116, 115]⟩ : ByteArray))) ((4))), (Sy.mk (((⟨#[110, 117, 109, 98, 101, 114]⟩ : ByteArray))) ((2)))] : List (Sy)))))), (.row 3 (List.length (v4)))])), (3, (.frow 67 9 (List.map eRu (v4))))], [2, 3, 1]⟩ (by kernel_rfl) ?_
  refine l_nil ?_
  refine awp_block ?_
  obtain ⟨v10, hj, h⟩ := Option.bind_eq_some_iff.1 h
  refine awp_join (Qa := fun e st => e = .exit 0 ∧ LeSt st ⟨59, [(2, (.ref 1 0 0)), (5, (.ref 2 0 0))], (synthesisref16_Vectors_m4 v10), [2, 3, 1]⟩) ?_ ?_
  ·refine awp_loopS (stOf := fun v5 => ⟨59, [(0, (.fz ((eL 1 eI) (a0)))), (2, (.ref 1 0 0)), (5, (.ref 2 0 0)), (6, (fI (v5.1)))], (synthesisref16_Vectors_m1 v5), [2, 3, 1]⟩) (Qb := fun j e st => e = .exit 0 ∧ LeSt st ⟨59, [(2, (.ref 1 0 0)), (5, (.ref 2 0 0))], [(1, (.box 27 [(fS ((⟨#[]⟩ : ByteArray))), (.fz (.atom (.slice none 0 0))), (.fz (.atom (.slice none 0 0))), (.fz (.atom (.slice none 0 0)))])), (2, (.box 91 [(fS (j.1)), (.fz ((eL 1 eI) (j.2.1))), (.fz ((eL 2 eSy) (j.2.2.1))), (.row 3 (List.length (j.2.2.2)))])), (3, (.frow 67 9 (List.map eRu (j.2.2.2))))], [2, 3, 1]⟩) hj (le_co (ids := [2, 3, 1]) (ts := [(0, .one .keep), (2, .one .keep), (5, .one .keep), (6, (.one (.keep)))]) (os := [(1, []), (2, [.keep, .sl 1, .sl 2]), (3, [])]) (by kernel_rfl)) ?_
   clear hj h
   intro v5 r h
   unfold synthesisref16_Vectors_l2 at h
   refine awp_seq ?_
   refine awp_seq ?_
   refine awp_region ?_
   refine l_rk 4 tt_ok ⟨59, [(0, (.fz ((eL 1 eI) (a0)))), (2, (.ref 1 0 0)), (5, (.ref 2 0 0)), (6, (fI (v5.1))), (21, (fB ((decide (v5.1 < (List.length a0 : Int))))))], (synthesisref16_Vectors_m1 v5), [2, 3, 1]⟩ (by kernel_rfl) ?_
   refine l_nil ?_
   rcases cond_some h with ⟨hb, h⟩ | ⟨hb, h⟩
   ·refine awp_cond_t (b := (decide (v5.1 < (List.length a0 : Int)))) (by kernel_rfl) hb ?_
    refine awp_skip ?_
    refine awp_seq ?_
    refine awp_block ?_
    refine awp_region ?_
    refine l_rk 3 tt_ok ⟨59, [(0, (.fz ((eL 1 eI) (a0)))), (2, (.ref 1 0 0)), (5, (.ref 2 0 0)), (6, (fI (v5.1))), (24, (.ref 2 0 0)), (25, (.fz ((eL 1 eI) (a0)))), (26, (fI (v5.1)))], (synthesisref16_Vectors_m1 v5), [2, 3, 1]⟩ (by kernel_rfl) ?_
    obtain ⟨v6, hv6, h⟩ := Option.bind_eq_some_iff.1 h
    refine l_step ((s_index (k := .i64) (d := tt35) (e := 2) (de := tt2) (enc := eI) hv6 tt_ok rfl (by kernel_rfl) (by kernel_rfl) (by kernel_rfl) (by kernel_rfl) len_eI (by kernel_rfl) rfl).step) (by kernel_rfl) (dst_of (by kernel_rfl)) ?_
    refine l_rk 1 tt_ok ⟨59, [(0, (.fz ((eL 1 eI) (a0)))), (2, (.ref 1 0 0)), (5, (.ref 2 0 0)), (6, (fI (v5.1))), (24, (.ref 2 0 0)), (28, (fI (v6)))], (synthesisref16_Vectors_m1 v5), [2, 3, 1]⟩ (by kernel_rfl) ?_
    obtain ⟨v7, hv7, h⟩ := Option.bind_eq_some_iff.1 h
    refine l_step ((n_call (ys := [eI (v6)]) (cs := [(.one (.keep))]) rfl (by kernel_rfl) (synthesisref01_OfBits_ok (v6) _ hv7)).step) (by kernel_rfl) (dst_of (by kernel_rfl)) ?_
    obtain ⟨v8, hv8, h⟩ := Option.bind_eq_some_iff.1 h
    refine l_step (h_step (f := 74) (cap := []) (cs := [.one .keep, .one .keep, .one .keep]) (keys := [1, 2]) [(2, 1), (3, 2)] [(1, 2), (2, 3)] rfl (by kernel_rfl) (synthesisref16_writer_constant_h_ok (v5.2.1) (v5.2.2.1) (v5.2.2.2.1) (v5.2.2.2.2) (0) (v7) _ hv8) (by kernel_rfl) (by kernel_rfl) (by kernel_rfl) (by kernel_rfl)) (by kernel_rfl) (dst_of (by kernel_rfl)) ?_
    refine l_nil ?_
    refine awp_region ?_
    refine l_rk 3 tt_ok ⟨59, [(0, (.fz ((eL 1 eI) (a0)))), (2, (.ref 1 0 0)), (5, (.ref 2 0 0)), (6, (fI ((w64 (v5.1 + 1)))))], [(1, (.box 27 [(fS ((⟨#[]⟩ : ByteArray))), (.fz (.atom (.slice none 0 0))), (.fz (.atom (.slice none 0 0))), (.fz (.atom (.slice none 0 0)))])), (2, (.box 91 [(fS ((v5.2.1))), (.fz ((eL 1 eI) ((v5.2.2.1)))), (.fz ((eL 2 eSy) ((v5.2.2.2.1)))), (.row 3 (List.length (v8)))])), (3, (.frow 67 9 (List.map eRu (v8))))], [2, 3, 1]⟩ (by kernel_rfl) ?_
    refine l_nil ?_
    obtain rfl := Option.some.inj h
    exact And.intro rfl (le_co (ids := [2, 3, 1]) (ts := [(0, .one .keep), (2, .one .keep), (5, .one .keep), (6, (.one (.keep)))]) (os := [(1, []), (2, [.keep, .sl 1, .sl 2]), (3, [])]) (by kernel_rfl))
   ·refine awp_cond_f (b := (decide (v5.1 < (List.length a0 : Int)))) (by kernel_rfl) hb ?_
    refine awp_exit ?_
    obtain rfl := Option.some.inj h
    exact And.intro (And.intro (fun h => nomatch h) (fun h => nomatch h)) (And.intro rfl (le_co (ids := [2, 3, 1]) (ts := [(2, .one .keep), (5, .one .keep)]) (os := [(1, []), (2, [.keep, .sl 1, .sl 2]), (3, [])]) (by kernel_rfl)))
  ·clear hj
   intro e st' hq
   obtain ⟨rfl, hle⟩ := hq
   refine ⟨_, hle, ?_⟩
   refine awp_seq ?_
   refine awp_region ?_
   refine l_rk 3 tt_ok ⟨59, [(2, (.ref 1 0 0)), (5, (.ref 2 0 0)), (31, (.ref 2 0 0)), (32, (.lim 1 (List.length (([(⟨#[98, 97, 110, 100]⟩ : ByteArray), (⟨#[98, 111, 114]⟩ : ByteArray), (⟨#[98, 120, 111, 114]⟩ : ByteArray), (⟨#[98, 97, 100, 100]⟩ : ByteArray), (⟨#[98, 115, 117, 98]⟩ : ByteArray), (⟨#[98, 109, 117, 108]⟩ : ByteArray)] : List (ByteArray)))) (List.map eS (([(⟨#[98, 97, 110, 100]⟩ : ByteArray), (⟨#[98, 111, 114]⟩ : ByteArray), (⟨#[98, 120, 111, 114]⟩ : ByteArray), (⟨#[98, 97, 100, 100]⟩ : ByteArray), (⟨#[98, 115, 117, 98]⟩ : ByteArray), (⟨#[98, 109, 117, 108]⟩ : ByteArray)] : List (ByteArray)))))), (33, (.lim 1 (List.length (([0, 0] : List (Int)))) (List.map eI (([0, 0] : List (Int))))))], (synthesisref16_Vectors_m4 v10), [2, 3, 1]⟩ (by kernel_rfl) ?_
   obtain ⟨v11, hv11, h⟩ := Option.bind_eq_some_iff.1 h
   refine l_step (h_step (f := 75) (cap := []) (cs := [.one .keep, .one .keep, (.one (.sl 1)), (.one (.sl 1))]) (keys := [1, 2]) [(2, 1), (3, 2)] [(1, 2), (2, 3)] rfl (by kernel_rfl) (synthesisref16_writer_op_h_ok (v10.1) (v10.2.1) (v10.2.2.1) (v10.2.2.2) (0) (([(⟨#[98, 97, 110, 100]⟩ : ByteArray), (⟨#[98, 111, 114]⟩ : ByteArray), (⟨#[98, 120, 111, 114]⟩ : ByteArray), (⟨#[98, 97, 100, 100]⟩ : ByteArray), (⟨#[98, 115, 117, 98]⟩ : ByteArray), (⟨#[98, 109, 117, 108]⟩ : ByteArray)] : List (ByteArray))) (([0, 0] : List (Int))) _ hv11) (by kernel_rfl) (by kernel_rfl) (by kernel_rfl) (by kernel_rfl)) (by kernel_rfl) (dst_of (by kernel_rfl)) ?_
   refine l_nil ?_
   refine awp_seq ?_
   refine awp_region ?_
   refine l_rk 3 tt_ok ⟨59, [(2, (.ref 1 0 0)), (5, (.ref 2 0 0)), (35, (.ref 2 0 0)), (36, (.lim 1 (List.length (([(⟨#[98, 110, 111, 116]⟩ : ByteArray)] : List (ByteArray)))) (List.map eS (([(⟨#[98, 110, 111, 116]⟩ : ByteArray)] : List (ByteArray)))))), (37, (.lim 1 (List.length (([0] : List (Int)))) (List.map eI (([0] : List (Int))))))], [(1, (.box 27 [(fS ((⟨#[]⟩ : ByteArray))), (.fz (.atom (.slice none 0 0))), (.fz (.atom (.slice none 0 0))), (.fz (.atom (.slice none 0 0)))])), (2, (.box 91 [(fS ((v10.1))), (.fz ((eL 1 eI) ((v10.2.1)))), (.fz ((eL 2 eSy) ((v10.2.2.1)))), (.row 3 (List.length (v11)))])), (3, (.frow 67 9 (List.map eRu (v11))))], [2, 3, 1]⟩ (by kernel_rfl) ?_
   obtain ⟨v12, hv12, h⟩ := Option.bind_eq_some_iff.1 h
   refine l_step (h_step (f := 75) (cap := []) (cs := [.one .keep, .one .keep, (.one (.sl 1)), (.one (.sl 1))]) (keys := [1, 2]) [(2, 1), (3, 2)] [(1, 2), (2, 3)] rfl (by kernel_rfl) (synthesisref16_writer_op_h_ok ((v10.1)) ((v10.2.1)) ((v10.2.2.1)) (v11) (0) (([(⟨#[98, 110, 111, 116]⟩ : ByteArray)] : List (ByteArray))) (([0] : List (Int))) _ hv12) (by kernel_rfl) (by kernel_rfl) (by kernel_rfl) (by kernel_rfl)) (by kernel_rfl) (dst_of (by kernel_rfl)) ?_
   refine l_nil ?_
   refine awp_seq ?_
   refine awp_region ?_
   refine l_rk 3 tt_ok ⟨59, [(2, (.ref 1 0 0)), (5, (.ref 2 0 0)), (39, (.ref 2 0 0)), (40, (.lim 1 (List.length (([(⟨#[98, 108, 101, 102, 116]⟩ : ByteArray), (⟨#[98, 114, 105, 103, 104, 116]⟩ : ByteArray), (⟨#[98, 97, 114, 105, 116, 104]⟩ : ByteArray)] : List (ByteArray)))) (List.map eS (([(⟨#[98, 108, 101, 102, 116]⟩ : ByteArray), (⟨#[98, 114, 105, 103, 104, 116]⟩ : ByteArray), (⟨#[98, 97, 114, 105, 116, 104]⟩ : ByteArray)] : List (ByteArray)))))), (41, (.lim 1 (List.length (([0, 1] : List (Int)))) (List.map eI (([0, 1] : List (Int))))))], [(1, (.box 27 [(fS ((⟨#[]⟩ : ByteArray))), (.fz (.atom (.slice none 0 0))), (.fz (.atom (.slice none 0 0))), (.fz (.atom (.slice none 0 0)))])), (2, (.box 91 [(fS (((v10.1)))), (.fz ((eL 1 eI) (((v10.2.1))))), (.fz ((eL 2 eSy) (((v10.2.2.1))))), (.row 3 (List.length (v12)))])), (3, (.frow 67 9 (List.map eRu (v12))))], [2, 3, 1]⟩ (by kernel_rfl) ?_
   obtain ⟨v13, hv13, h⟩ := Option.bind_eq_some_iff.1 h
   refine l_step (h_step (f := 75) (cap := []) (cs := [.one .keep, .one .keep, (.one (.sl 1)), (.one (.sl 1))]) (keys := [1, 2]) [(2, 1), (3, 2)] [(1, 2), (2, 3)] rfl (by kernel_rfl) (synthesisref16_writer_op_h_ok (((v10.1))) (((v10.2.1))) (((v10.2.2.1))) (v12) (0) (([(⟨#[98, 108, 101, 102, 116]⟩ : ByteArray), (⟨#[98, 114, 105, 103, 104, 116]⟩ : ByteArray), (⟨#[98, 97, 114, 105, 116, 104]⟩ : ByteArray)] : List (ByteArray))) (([0, 1] : List (Int))) _ hv13) (by kernel_rfl) (by kernel_rfl) (by kernel_rfl) (by kernel_rfl)) (by kernel_rfl) (dst_of (by kernel_rfl)) ?_
   refine l_nil ?_
   refine awp_seq ?_
   refine awp_seq ?_
   refine awp_region ?_
   refine l_rk 1 tt_ok ⟨59, [(2, (.ref 1 0 0)), (5, (.ref 2 0 0)), (7, (fI (1)))], [(1, (.box 27 [(fS ((⟨#[]⟩ : ByteArray))), (.fz (.atom (.slice none 0 0))), (.fz (.atom (.slice none 0 0))), (.fz (.atom (.slice none 0 0)))])), (2, (.box 91 [(fS ((((v10.1))))), (.fz ((eL 1 eI) ((((v10.2.1)))))), (.fz ((eL 2 eSy) ((((v10.2.2.1)))))), (.row 3 (List.length (v13)))])), (3, (.frow 67 9 (List.map eRu (v13))))], [2, 3, 1]⟩ (by kernel_rfl) ?_
   refine l_nil ?_
   refine awp_block ?_
   obtain ⟨v18, hj, h⟩ := Option.bind_eq_some_iff.1 h
   refine awp_join (Qa := fun e st => e = .exit 2 ∧ LeSt st ⟨59, [(2, (.ref 1 0 0)), (5, (.ref 2 0 0))], (synthesisref16_Vectors_m5 v18), [2, 3, 1]⟩) ?_ ?_
   ·refine awp_loopS (stOf := fun v14 => ⟨59, [(2, (.ref 1 0 0)), (5, (.ref 2 0 0)), (7, (fI (v14.1)))], (synthesisref16_Vectors_m2 v14), [2, 3, 1]⟩) (Qb := fun j e st => e = .exit 2 ∧ LeSt st ⟨59, [(2, (.ref 1 0 0)), (5, (.ref 2 0 0))], [(1, (.box 27 [(fS ((⟨#[]⟩ : ByteArray))), (.fz (.atom (.slice none 0 0))), (.fz (.atom (.slice none 0 0))), (.fz (.atom (.slice none 0 0)))])), (2, (.box 91 [(fS (j.1)), (.fz ((eL 1 eI) (j.2.1))), (.fz ((eL 2 eSy) (j.2.2.1))), (.row 3 (List.length (j.2.2.2)))])), (3, (.frow 67 9 (List.map eRu (j.2.2.2))))], [2, 3, 1]⟩) hj (le_co (ids := [2, 3, 1]) (ts := [(2, .one .keep), (5, .one .keep), (7, (.one (.keep)))]) (os := [(1, []), (2, [.keep, .sl 1, .sl 2]), (3, [])]) (by kernel_rfl)) ?_
    clear hj h
    intro v14 r h
    unfold synthesisref16_Vectors_l1 at h
    refine awp_seq ?_
    refine awp_seq ?_
    refine awp_region ?_
    refine l_rk 2 tt_ok ⟨59, [(2, (.ref 1 0 0)), (5, (.ref 2 0 0)), (7, (fI (v14.1))), (44, (fB ((decide (v14.1 ≤ 4)))))], (synthesisref16_Vectors_m2 v14), [2, 3, 1]⟩ (by kernel_rfl) ?_
    refine l_nil ?_
    rcases cond_some h with ⟨hb, h⟩ | ⟨hb, h⟩
    ·refine awp_cond_t (b := (decide (v14.1 ≤ 4))) (by kernel_rfl) hb ?_
     refine awp_skip ?_
     refine awp_seq ?_
     refine awp_block ?_
     refine awp_region ?_
     refine l_rk 2 tt_ok ⟨59, [(2, (.ref 1 0 0)), (5, (.ref 2 0 0)), (7, (fI (v14.1))), (47, (.ref 2 0 0)), (48, (fI (v14.1)))], (synthesisref16_Vectors_m2 v14), [2, 3, 1]⟩ (by kernel_rfl) ?_
     obtain ⟨v15, hv15, h⟩ := Option.bind_eq_some_iff.1 h
     refine l_step ((n_call (ys := [eI (v14.1)]) (cs := [(.one (.keep))]) rfl (by kernel_rfl) (synthesisref01_OfInt_ok (v14.1) _ hv15)).step) (by kernel_rfl) (dst_of (by kernel_rfl)) ?_
     obtain ⟨v16, hv16, h⟩ := Option.bind_eq_some_iff.1 h
     refine l_step (h_step (f := 74) (cap := []) (cs := [.one .keep, .one .keep, .one .keep]) (keys := [1, 2]) [(2, 1), (3, 2)] [(1, 2), (2, 3)] rfl (by kernel_rfl) (synthesisref16_writer_constant_h_ok (v14.2.1) (v14.2.2.1) (v14.2.2.2.1) (v14.2.2.2.2) (1) (v15) _ hv16) (by kernel_rfl) (by kernel_rfl) (by kernel_rfl) (by kernel_rfl)) (by kernel_rfl) (dst_of (by kernel_rfl)) ?_
     refine l_nil ?_
     refine awp_region ?_
     refine l_rk 3 tt_ok ⟨59, [(2, (.ref 1 0 0)), (5, (.ref 2 0 0)), (7, (fI ((w64 (2 * v14.1)))))], [(1, (.box 27 [(fS ((⟨#[]⟩ : ByteArray))), (.fz (.atom (.slice none 0 0))), (.fz (.atom (.slice none 0 0))), (.fz (.atom (.slice none 0 0)))])), (2, (.box 91 [(fS ((v14.2.1))), (.fz ((eL 1 eI) ((v14.2.2.1)))), (.fz ((eL 2 eSy) ((v14.2.2.2.1)))), (.row 3 (List.length (v16)))])), (3, (.frow 67 9 (List.map eRu (v16))))], [2, 3, 1]⟩ (by kernel_rfl) ?_
     refine l_nil ?_
     obtain rfl := Option.some.inj h
     exact And.intro rfl (le_co (ids := [2, 3, 1]) (ts := [(2, .one .keep), (5, .one .keep), (7, (.one (.keep)))]) (os := [(1, []), (2, [.keep, .sl 1, .sl 2]), (3, [])]) (by kernel_rfl))
    ·refine awp_cond_f (b := (decide (v14.1 ≤ 4))) (by kernel_rfl) hb ?_
     refine awp_exit ?_
     obtain rfl := Option.some.inj h
     exact And.intro (And.intro (fun h => nomatch h) (fun h => nomatch h)) (And.intro rfl (le_co (ids := [2, 3, 1]) (ts := [(2, .one .keep), (5, .one .keep)]) (os := [(1, []), (2, [.keep, .sl 1, .sl 2]), (3, [])]) (by kernel_rfl)))
   ·clear hj
    intro e st' hq
    obtain ⟨rfl, hle⟩ := hq
    refine ⟨_, hle, ?_⟩
    refine awp_seq ?_
    refine awp_region ?_
    refine l_rk 3 tt_ok ⟨59, [(2, (.ref 1 0 0)), (5, (.ref 2 0 0)), (51, (.ref 2 0 0)), (52, (.lim 1 (List.length (([(⟨#[111, 110, 101, 115]⟩ : ByteArray)] : List (ByteArray)))) (List.map eS (([(⟨#[111, 110, 101, 115]⟩ : ByteArray)] : List (ByteArray)))))), (53, (.lim 1 (List.length (([0] : List (Int)))) (List.map eI (([0] : List (Int))))))], (synthesisref16_Vectors_m5 v18), [2, 3, 1]⟩ (by kernel_rfl) ?_
    obtain ⟨v19, hv19, h⟩ := Option.bind_eq_some_iff.1 h
    refine l_step (h_step (f := 75) (cap := []) (cs := [.one .keep, .one .keep, (.one (.sl 1)), (.one (.sl 1))]) (keys := [1, 2]) [(2, 1), (3, 2)] [(1, 2), (2, 3)] rfl (by kernel_rfl) (synthesisref16_writer_op_h_ok (v18.1) (v18.2.1) (v18.2.2.1) (v18.2.2.2) (1) (([(⟨#[111, 110, 101, 115]⟩ : ByteArray)] : List (ByteArray))) (([0] : List (Int))) _ hv19) (by kernel_rfl) (by kernel_rfl) (by kernel_rfl) (by kernel_rfl)) (by kernel_rfl) (dst_of (by kernel_rfl)) ?_
    refine l_nil ?_
    refine awp_seq ?_
    refine awp_region ?_
    refine l_rk 6 tt_ok ⟨59, [(2, (.ref 1 0 0)), (3, (fI (0)))], [(1, (.box 27 [(fS ((v18.1))), (.fz ((eL 1 eI) ((v18.2.1)))), (.fz ((eL 2 eSy) ((v18.2.2.1)))), (.row 3 (List.length (v19)))])), (3, (.frow 67 9 (List.map eRu (v19))))], [3, 1]⟩ (by kernel_rfl) ?_
    refine l_nil ?_
    refine awp_le (le_freezeCell (e2 := 27) (id2 := 1) (j := 3) (id := 3) (n := List.length (v19)) (e := 67) (size := 9) (xs := List.map eRu (v19)) (cells := [(fS ((v18.1))), (.fz ((eL 1 eI) ((v18.2.1)))), (.fz ((eL 2 eSy) ((v18.2.2.1)))), (.row 3 (List.length (v19)))]) (by kernel_rfl) (by kernel_rfl) (by kernel_rfl) (by simp)) ?_
    refine awp_ret ?_
    obtain rfl := Option.some.inj h
    exact (show retX _ _ _ _ = some _ from by kernel_rfl)

def synthesisref16_Reshaping_m0 : List (Nat × AObj) := [(1, (.box 27 [(fS ((⟨#[]⟩ : ByteArray))), (.fz (.atom (.slice none 0 0))), (.fz (.atom (.slice none 0 0))), (.fz (.atom (.slice none 0 0)))])), (2, (.box 91 [(fS (((⟨#[116, 97, 98, 108, 101, 115]⟩ : ByteArray)))), (.lim 1 (List.length (([(7)] : List (Int)))) (List.map eI (([(7)] : List (Int))))), (.lim 2 (List.length (([(Sy.mk (((⟨#[116, 97, 98, 108, 101]⟩ : ByteArray))) ((7))), (Sy.mk (((⟨#[110, 117, 109, 98, 101, 114]⟩ : ByteArray))) ((2)))] : List (Sy)))) (List.map eSy (([(Sy.mk (((⟨#[116, 97, 98, 108, 101]⟩ : ByteArray))) ((7))), (Sy.mk (((⟨#[110, 117, 109, 98, 101, 114]⟩ : ByteArray))) ((2)))] : List (Sy))))), (.row 3 (List.length (([] : List (Ru)))))])), (3, (.frow 67 9 (List.map eRu (([] : List (Ru))))))]
def synthesisref16_Reshaping_m1 (v8 : (Int) × (ByteArray) × (List Int) × (List Sy) × (List Ru)) : List (Nat × AObj) := [(1, (.box 27 [(fS ((⟨#[]⟩ : ByteArray))), (.fz (.atom (.slice none 0 0))), (.fz (.atom (.slice none 0 0))), (.fz (.atom (.slice none 0 0)))])), (2, (.box 91 [(fS (v8.2.1)), (.fz ((eL 1 eI) (v8.2.2.1))), (.fz ((eL 2 eSy) (v8.2.2.2.1))), (.row 3 (List.length (v8.2.2.2.2)))])), (3, (.frow 67 9 (List.map eRu (v8.2.2.2.2))))]
def synthesisref16_Reshaping_m2 : List (Nat × AObj) := [(1, (.box 27 [(fS ((⟨#[]⟩ : ByteArray))), (.fz (.atom (.slice none 0 0))), (.fz (.atom (.slice none 0 0))), (.fz (.atom (.slice none 0 0)))]))]
def synthesisref16_Reshaping_l1 (a0 : List Int) (v8 : (Int) × (ByteArray) × (List Int) × (List Sy) × (List Ru)) : Option (((Int) × (ByteArray) × (List Int) × (List Sy) × (List Ru)) ⊕ ((ByteArray) × (List Int) × (List Sy) × (List Ru))) := (bif (decide (v8.1 < (List.length a0 : Int))) then (Option.bind (idx a0 v8.1) fun v9 => (Option.bind (synthesisref01_OfInt (v9)) fun v10 => (Option.bind (synthesisref16_writer_constant_h (v8.2.1) (v8.2.2.1) (v8.2.2.2.1) (v8.2.2.2.2) (1) (v10)) fun v11 => (some (.inl ((w64 (v8.1 + 1)), (v8.2.1), (v8.2.2.1), (v8.2.2.2.1), v11)))))) else (some (.inr (v8.2.1, v8.2.2.1, v8.2.2.2.1, v8.2.2.2.2))))
def synthesisref16_Reshaping (a0 : List Int) : Option ((La) × (Int)) := (Option.bind (synthesisref16_values (a0) (2)) fun v1 => (Option.bind (synthesisref16_check (v1)) fun v2 => (bif (v2 != 0) then (some ((La.mk ((⟨#[]⟩ : ByteArray)) (([] : List Int)) (([] : List Sy)) (([] : List Ru))), v2)) else (Option.bind (synthesisref16_begin_h ((⟨#[116, 97, 98, 108, 101, 115]⟩ : ByteArray)) (7) ((⟨#[116, 97, 98, 108, 101]⟩ : ByteArray)) (7) ((⟨#[110, 117, 109, 98, 101, 114]⟩ : ByteArray)) (2)) fun v3 => (Option.bind (synthesisref16_writer_input_h (((⟨#[116, 97, 98, 108, 101, 115]⟩ : ByteArray))) (([(7)] : List (Int))) (([(Sy.mk (((⟨#[116, 97, 98, 108, 101]⟩ : ByteArray))) ((7))), (Sy.mk (((⟨#[110, 117, 109, 98, 101, 114]⟩ : ByteArray))) ((2)))] : List (Sy))) (([] : List (Ru))) (0)) fun v4 => (Option.bind (synthesisref16_writer_op_h ((((⟨#[116, 97, 98, 108, 101, 115]⟩ : ByteArray)))) ((([(7)] : List (Int)))) ((([(Sy.mk (((⟨#[116, 97, 98, 108, 101]⟩ : ByteArray))) ((7))), (Sy.mk (((⟨#[110, 117, 109, 98, 101, 114]⟩ : ByteArray))) ((2)))] : List (Sy)))) (v4) (0) (([(⟨#[116, 114, 97, 110, 115, 112, 111, 115, 101]⟩ : ByteArray), (⟨#[102, 105, 108, 108]⟩ : ByteArray), (⟨#[112, 105, 118, 111, 116]⟩ : ByteArray)] : List (ByteArray))) (([0] : List (Int)))) fun v5 => (Option.bind (synthesisref16_writer_op_h (((((⟨#[116, 97, 98, 108, 101, 115]⟩ : ByteArray))))) (((([(7)] : List (Int))))) (((([(Sy.mk (((⟨#[116, 97, 98, 108, 101]⟩ : ByteArray))) ((7))), (Sy.mk (((⟨#[110, 117, 109, 98, 101, 114]⟩ : ByteArray))) ((2)))] : List (Sy))))) (v5) (0) (([(⟨#[100, 114, 111, 112, 114, 111, 119]⟩ : ByteArray), (⟨#[100, 114, 111, 112, 99, 111, 108, 117, 109, 110]⟩ : ByteArray), (⟨#[115, 111, 114, 116, 116, 97, 98, 108, 101]⟩ : ByteArray), (⟨#[117, 110, 112, 105, 118, 111, 116]⟩ : ByteArray)] : List (ByteArray))) (([0, 1] : List (Int)))) fun v6 => (Option.bind (synthesisref16_writer_op_h ((((((⟨#[116, 97, 98, 108, 101, 115]⟩ : ByteArray)))))) ((((([(7)] : List (Int)))))) ((((([(Sy.mk (((⟨#[116, 97, 98, 108, 101]⟩ : ByteArray))) ((7))), (Sy.mk (((⟨#[110, 117, 109, 98, 101, 114]⟩ : ByteArray))) ((2)))] : List (Sy)))))) (v6) (0) (([(⟨#[115, 116, 97, 99, 107]⟩ : ByteArray), (⟨#[98, 101, 115, 105, 100, 101]⟩ : ByteArray)] : List (ByteArray))) (([0, 0] : List (Int)))) fun v7 => (Option.bind (loopN (synthesisref16_Reshaping_l1 a0) fuel (0, ((((((⟨#[116, 97, 98, 108, 101, 115]⟩ : ByteArray)))))), ((((([(7)] : List (Int)))))), ((((([(Sy.mk (((⟨#[116, 97, 98, 108, 101]⟩ : ByteArray))) ((7))), (Sy.mk (((⟨#[110, 117, 109, 98, 101, 114]⟩ : ByteArray))) ((2)))] : List (Sy)))))), v7)) fun (v13 : (ByteArray) × (List Int) × (List Sy) × (List Ru)) => (some ((La.mk (v13.1) (v13.2.1) (v13.2.2.1) (v13.2.2.2)), 0)))))))))))
theorem synthesisref16_Reshaping_ok (a0 : List Int) (r : (La) × (Int)) (h : synthesisref16_Reshaping a0 = some r) : PCall Try.prog 33 [(eL 1 eI) a0] (.tup [eLa (r.1), eI (r.2)]) := by
 unfold synthesisref16_Reshaping at h
 refine pcall_intro (T := TT) tt_ok [.ag [.keep, .sl 1, .sl 2, .sl 9], .one .keep] Try.func33 rfl (by kernel_rfl) (by kernel_rfl) ?_
 refine awp_le (st' := ⟨46, [(0, (.fz ((eL 1 eI) (a0))))], [], []⟩) (le_ck (by kernel_rfl)) ?_
 refine awp_seq ?_
 refine awp_region ?_
 refine l_rk 2 tt_ok ⟨46, [(0, (.fz ((eL 1 eI) (a0)))), (2, (.ref 1 0 0))], (synthesisref16_Reshaping_m2), [1]⟩ (by kernel_rfl) ?_
 refine l_nil ?_
 refine awp_seq ?_
 refine awp_seq ?_
 refine awp_region ?_
 refine l_rk 1 tt_ok ⟨46, [(0, (.fz ((eL 1 eI) (a0)))), (2, (.ref 1 0 0)), (7, (.fz ((eL 1 eI) (a0))))], (synthesisref16_Reshaping_m2), [1]⟩ (by kernel_rfl) ?_
 obtain ⟨v1, hv1, h⟩ := Option.bind_eq_some_iff.1 h
 refine l_step ((n_call (ys := [(eL 1 eI) (a0), eI (2)]) (cs := [(.one (.sl 1)), (.one (.keep))]) rfl (by kernel_rfl) (synthesisref16_values_ok (a0) (2) _ hv1)).step) (by kernel_rfl) (dst_of (by kernel_rfl)) ?_
 obtain ⟨v2, hv2, h⟩ := Option.bind_eq_some_iff.1 h
 refine l_step ((n_call (ys := [(eL 4 eVaR) (v1)]) (cs := [(.one (.sl 4))]) rfl (by kernel_rfl) (synthesisref16_check_ok (v1) _ hv2)).step) (by kernel_rfl) (dst_of (by kernel_rfl)) ?_
 refine l_rk 1 tt_ok ⟨46, [(0, (.fz ((eL 1 eI) (a0)))), (2, (.ref 1 0 0)), (4, (fI (v2)))], (synthesisref16_Reshaping_m2), [1]⟩ (by kernel_rfl) ?_
 refine l_nil ?_
 refine awp_seq ?_
 refine awp_region ?_
 refine l_rk 2 tt_ok ⟨46, [(0, (.fz ((eL 1 eI) (a0)))), (2, (.ref 1 0 0)), (4, (fI (v2))), (11, (fB ((v2 != 0))))], (synthesisref16_Reshaping_m2), [1]⟩ (by kernel_rfl) ?_
 refine l_nil ?_
 rcases cond_some h with ⟨hb, h⟩ | ⟨hb, h⟩
 ·refine awp_cond_t (b := (v2 != 0)) (by kernel_rfl) hb ?_
  refine awp_seq ?_
  refine awp_region ?_
  refine l_rk 4 tt_ok ⟨46, [(2, (.ref 1 0 0)), (3, (fI (v2)))], (synthesisref16_Reshaping_m2), [1]⟩ (by kernel_rfl) ?_
  refine l_nil ?_
  refine awp_ret ?_
  obtain rfl := Option.some.inj h
  exact (show retX _ _ _ _ = some _ from by kernel_rfl)
 ·refine awp_cond_f (b := (v2 != 0)) (by kernel_rfl) hb ?_
  refine awp_skip ?_
  refine awp_seq ?_
  refine awp_region ?_
  obtain ⟨v3, hv3, h⟩ := Option.bind_eq_some_iff.1 h
  refine l_step (h_step (f := 72) (cap := []) (cs := [.one .keep, .one .keep, .one .keep, .one .keep, .one .keep, .one .keep]) (keys := []) [] [(1, 2), (2, 3)] rfl (by kernel_rfl) (synthesisref16_begin_h_ok ((⟨#[116, 97, 98, 108, 101, 115]⟩ : ByteArray)) (7) ((⟨#[116, 97, 98, 108, 101]⟩ : ByteArray)) (7) ((⟨#[110, 117, 109, 98, 101, 114]⟩ : ByteArray)) (2) _ hv3) (by kernel_rfl) (by kernel_rfl) (by kernel_rfl) (by kernel_rfl)) (by kernel_rfl) (dst_of (by kernel_rfl)) ?_
  refine l_rk 1 tt_ok ⟨46, [(0, (.fz ((eL 1 eI) (a0)))), (2, (.ref 1 0 0)), (5, (.ref 2 0 0))], (synthesisref16_Reshaping_m0), [2, 3, 1]⟩ (by kernel_rfl) ?_
  refine l_nil ?_
  refine awp_seq ?_
  refine awp_region ?_
  refine l_rk 1 tt_ok ⟨46, [(0, (.fz ((eL 1 eI) (a0)))), (2, (.ref 1 0 0)), (5, (.ref 2 0 0)), (15, (.ref 2 0 0))], (synthesisref16_Reshaping_m0), [2, 3, 1]⟩ (by kernel_rfl) ?_
  obtain ⟨v4, hv4, h⟩ := Option.bind_eq_some_iff.1 h
  refine l_le (le_co (ids := [2, 3, 1]) (ts := [(0, .one .keep), (2, .one .keep), (5, .one .keep), (15, .one .keep)]) (os := [(1, []), (2, [.keep, .sl 1, .sl 2]), (3, [])]) (by kernel_rfl) : LeSt _ ⟨46, [(0, (.fz ((eL 1 eI) (a0)))), (2, (.ref 1 0 0)), (5, (.ref 2 0 0)), (15, (.ref 2 0 0))], [(1, (.box 27 [(fS ((⟨#[]⟩ : ByteArray))), (.fz (.atom (.slice none 0 0))), (.fz (.atom (.slice none 0 0))), (.fz (.atom (.slice none 0 0)))])), (2, (.box 91 [(fS (((⟨#[116, 97, 98, 108, 101, 115]⟩ : ByteArray)))), (.fz ((eL 1 eI) (([(7)] : List (Int))))), (.fz ((eL 2 eSy) (([(Sy.mk (((⟨#[116, 97, 98, 108, 101]⟩ : ByteArray))) ((7))), (Sy.mk (((⟨#[110, 117, 109, 98, 101, 114]⟩ : ByteArray))) ((2)))] : List (Sy))))), (.row 3 (List.length (([] : List (Ru)))))])), (3, (.frow 67 9 (List.map eRu (([] : List (Ru))))))], [2, 3, 1]⟩) ?_
  refine l_step (h_step (f := 73) (cap := []) (cs := [.one .keep, .one .keep]) (keys := [1, 2]) [(2, 1), (3, 2)] [(1, 2), (2, 3)] rfl (by kernel_rfl) (synthesisref16_writer_input_h_ok (((⟨#[116, 97, 98, 108, 101, 115]⟩ : ByteArray))) (([(7)] : List (Int))) (([(Sy.mk (((⟨#[116, 97, 98, 108, 101]⟩ : ByteArray))) ((7))), (Sy.mk (((⟨#[110, 117, 109, 98, 101, 114]⟩ : ByteArray))) ((2)))] : List (Sy))) (([] : List (Ru))) (0) _ hv4) (by kernel_rfl) (by kernel_rfl) (by kernel_rfl) (by kernel_rfl)) (by kernel_rfl) (dst_of (by kernel_rfl)) ?_
  refine l_nil ?_
  refine awp_seq ?_
  refine awp_region ?_
  refine l_rk 3 tt_ok ⟨46, [(0, (.fz ((eL 1 eI) (a0)))), (2, (.ref 1 0 0)), (5, (.ref 2 0 0)), (17, (.ref 2 0 0)), (18, (.lim 1 (List.length (([(⟨#[116, 114, 97, 110, 115, 112, 111, 115, 101]⟩ : ByteArray), (⟨#[102, 105, 108, 108]⟩ : ByteArray), (⟨#[112, 105, 118, 111, 116]⟩ : ByteArray)] : List (ByteArray)))) (List.map eS (([(⟨#[116, 114, 97, 110, 115, 112, 111, 115, 101]⟩ : ByteArray), (⟨#[102, 105, 108, 108]⟩ : ByteArray), (⟨#[112, 105, 118, 111, 116]⟩ : ByteArray)] : List (ByteArray)))))), (19, (.lim 1 (List.length (([0] : List (Int)))) (List.map eI (([0] : List (Int))))))], [(1, (.box 27 [(fS ((⟨#[]⟩ : ByteArray))), (.fz (.atom (.slice none 0 0))), (.fz (.atom (.slice none 0 0))), (.fz (.atom (.slice none 0 0)))])), (2, (.box 91 [(fS ((((⟨#[116, 97, 98, 108, 101, 115]⟩ : ByteArray))))), (.fz ((eL 1 eI) ((([(7)] : List (Int)))))), (.fz ((eL 2 eSy) ((([(Sy.mk (((⟨#[116, 97, 98, 108, 101]⟩ : ByteArray))) ((7))), (Sy.mk (((⟨#[110, 117, 109, 98, 101, 114]⟩ : ByteArray))) ((2)))] : List (Sy)))))), (.row 3 (List.length (v4)))])), (3, (.frow 67 9 (List.map eRu (v4))))], [2, 3, 1]⟩ (by kernel_rfl) ?_
  obtain ⟨v5, hv5, h⟩ := Option.bind_eq_some_iff.1 h
  refine l_step (h_step (f := 75) (cap := []) (cs := [.one .keep, .one .keep, (.one (.sl 1)), (.one (.sl 1))]) (keys := [1, 2]) [(2, 1), (3, 2)] [(1, 2), (2, 3)] rfl (by kernel_rfl) (synthesisref16_writer_op_h_ok ((((⟨#[116, 97, 98, 108, 101, 115]⟩ : ByteArray)))) ((([(7)] : List (Int)))) ((([(Sy.mk (((⟨#[116, 97, 98, 108, 101]⟩ : ByteArray))) ((7))), (Sy.mk (((⟨#[110, 117, 109, 98, 101, 114]⟩ : ByteArray))) ((2)))] : List (Sy)))) (v4) (0) (([(⟨#[116, 114, 97, 110, 115, 112, 111, 115, 101]⟩ : ByteArray), (⟨#[102, 105, 108, 108]⟩ : ByteArray), (⟨#[112, 105, 118, 111, 116]⟩ : ByteArray)] : List (ByteArray))) (([0] : List (Int))) _ hv5) (by kernel_rfl) (by kernel_rfl) (by kernel_rfl) (by kernel_rfl)) (by kernel_rfl) (dst_of (by kernel_rfl)) ?_
  refine l_nil ?_
  refine awp_seq ?_
  refine awp_region ?_
  refine l_rk 3 tt_ok ⟨46, [(0, (.fz ((eL 1 eI) (a0)))), (2, (.ref 1 0 0)), (5, (.ref 2 0 0)), (21, (.ref 2 0 0)), (22, (.lim 1 (List.length (([(⟨#[100, 114, 111, 112, 114, 111, 119]⟩ : ByteArray), (⟨#[100, 114, 111, 112, 99, 111, 108, 117, 109, 110]⟩ : ByteArray), (⟨#[115, 111, 114, 116, 116, 97, 98, 108, 101]⟩ : ByteArray), (⟨#[117, 110, 112, 105, 118, 111, 116]⟩ : ByteArray)] : List (ByteArray)))) (List.map eS (([(⟨#[100, 114, 111, 112, 114, 111, 119]⟩ : ByteArray), (⟨#[100, 114, 111, 112, 99, 111, 108, 117, 109, 110]⟩ : ByteArray), (⟨#[115, 111, 114, 116, 116, 97, 98, 108, 101]⟩ : ByteArray), (⟨#[117, 110, 112, 105, 118, 111, 116]⟩ : ByteArray)] : List (ByteArray)))))), (23, (.lim 1 (List.length (([0, 1] : List (Int)))) (List.map eI (([0, 1] : List (Int))))))], [(1, (.box 27 [(fS ((⟨#[]⟩ : ByteArray))), (.fz (.atom (.slice none 0 0))), (.fz (.atom (.slice none 0 0))), (.fz (.atom (.slice none 0 0)))])), (2, (.box 91 [(fS (((((⟨#[116, 97, 98, 108, 101, 115]⟩ : ByteArray)))))), (.fz ((eL 1 eI) (((([(7)] : List (Int))))))), (.fz ((eL 2 eSy) (((([(Sy.mk (((⟨#[116, 97, 98, 108, 101]⟩ : ByteArray))) ((7))), (Sy.mk (((⟨#[110, 117, 109, 98, 101, 114]⟩ : ByteArray))) ((2)))] : List (Sy))))))), (.row 3 (List.length (v5)))])), (3, (.frow 67 9 (List.map eRu (v5))))], [2, 3, 1]⟩ (by kernel_rfl) ?_
  obtain ⟨v6, hv6, h⟩ := Option.bind_eq_some_iff.1 h
  refine l_step (h_step (f := 75) (cap := []) (cs := [.one .keep, .one .keep, (.one (.sl 1)), (.one (.sl 1))]) (keys := [1, 2]) [(2, 1), (3, 2)] [(1, 2), (2, 3)] rfl (by kernel_rfl) (synthesisref16_writer_op_h_ok (((((⟨#[116, 97, 98, 108, 101, 115]⟩ : ByteArray))))) (((([(7)] : List (Int))))) (((([(Sy.mk (((⟨#[116, 97, 98, 108, 101]⟩ : ByteArray))) ((7))), (Sy.mk (((⟨#[110, 117, 109, 98, 101, 114]⟩ : ByteArray))) ((2)))] : List (Sy))))) (v5) (0) (([(⟨#[100, 114, 111, 112, 114, 111, 119]⟩ : ByteArray), (⟨#[100, 114, 111, 112, 99, 111, 108, 117, 109, 110]⟩ : ByteArray), (⟨#[115, 111, 114, 116, 116, 97, 98, 108, 101]⟩ : ByteArray), (⟨#[117, 110, 112, 105, 118, 111, 116]⟩ : ByteArray)] : List (ByteArray))) (([0, 1] : List (Int))) _ hv6) (by kernel_rfl) (by kernel_rfl) (by kernel_rfl) (by kernel_rfl)) (by kernel_rfl) (dst_of (by kernel_rfl)) ?_
  refine l_nil ?_
  refine awp_seq ?_
  refine awp_region ?_
  refine l_rk 3 tt_ok ⟨46, [(0, (.fz ((eL 1 eI) (a0)))), (2, (.ref 1 0 0)), (5, (.ref 2 0 0)), (25, (.ref 2 0 0)), (26, (.lim 1 (List.length (([(⟨#[115, 116, 97, 99, 107]⟩ : ByteArray), (⟨#[98, 101, 115, 105, 100, 101]⟩ : ByteArray)] : List (ByteArray)))) (List.map eS (([(⟨#[115, 116, 97, 99, 107]⟩ : ByteArray), (⟨#[98, 101, 115, 105, 100, 101]⟩ : ByteArray)] : List (ByteArray)))))), (27, (.lim 1 (List.length (([0, 0] : List (Int)))) (List.map eI (([0, 0] : List (Int))))))], [(1, (.box 27 [(fS ((⟨#[]⟩ : ByteArray))), (.fz (.atom (.slice none 0 0))), (.fz (.atom (.slice none 0 0))), (.fz (.atom (.slice none 0 0)))])), (2, (.box 91 [(fS ((((((⟨#[116, 97, 98, 108, 101, 115]⟩ : ByteArray))))))), (.fz ((eL 1 eI) ((((([(7)] : List (Int)))))))), (.fz ((eL 2 eSy) ((((([(Sy.mk (((⟨#[116, 97, 98, 108, 101]⟩ : ByteArray))) ((7))), (Sy.mk (((⟨#[110, 117, 109, 98, 101, 114]⟩ : ByteArray))) ((2)))] : List (Sy)))))))), (.row 3 (List.length (v6)))])), (3, (.frow 67 9 (List.map eRu (v6))))], [2, 3, 1]⟩ (by kernel_rfl) ?_
  obtain ⟨v7, hv7, h⟩ := Option.bind_eq_some_iff.1 h
  refine l_step (h_step (f := 75) (cap := []) (cs := [.one .keep, .one .keep, (.one (.sl 1)), (.one (.sl 1))]) (keys := [1, 2]) [(2, 1), (3, 2)] [(1, 2), (2, 3)] rfl (by kernel_rfl) (synthesisref16_writer_op_h_ok ((((((⟨#[116, 97, 98, 108, 101, 115]⟩ : ByteArray)))))) ((((([(7)] : List (Int)))))) ((((([(Sy.mk (((⟨#[116, 97, 98, 108, 101]⟩ : ByteArray))) ((7))), (Sy.mk (((⟨#[110, 117, 109, 98, 101, 114]⟩ : ByteArray))) ((2)))] : List (Sy)))))) (v6) (0) (([(⟨#[115, 116, 97, 99, 107]⟩ : ByteArray), (⟨#[98, 101, 115, 105, 100, 101]⟩ : ByteArray)] : List (ByteArray))) (([0, 0] : List (Int))) _ hv7) (by kernel_rfl) (by kernel_rfl) (by kernel_rfl) (by kernel_rfl)) (by kernel_rfl) (dst_of (by kernel_rfl)) ?_
  refine l_nil ?_
  refine awp_seq ?_
  refine awp_seq ?_
  refine awp_region ?_
  refine l_rk 1 tt_ok ⟨46, [(0, (.fz ((eL 1 eI) (a0)))), (2, (.ref 1 0 0)), (5, (.ref 2 0 0)), (6, (fI (0)))], [(1, (.box 27 [(fS ((⟨#[]⟩ : ByteArray))), (.fz (.atom (.slice none 0 0))), (.fz (.atom (.slice none 0 0))), (.fz (.atom (.slice none 0 0)))])), (2, (.box 91 [(fS (((((((⟨#[116, 97, 98, 108, 101, 115]⟩ : ByteArray)))))))), (.fz ((eL 1 eI) (((((([(7)] : List (Int))))))))), (.fz ((eL 2 eSy) (((((([(Sy.mk (((⟨#[116, 97, 98, 108, 101]⟩ : ByteArray))) ((7))), (Sy.mk (((⟨#[110, 117, 109, 98, 101, 114]⟩ : ByteArray))) ((2)))] : List (Sy))))))))), (.row 3 (List.length (v7)))])), (3, (.frow 67 9 (List.map eRu (v7))))], [2, 3, 1]⟩ (by kernel_rfl) ?_
  refine l_nil ?_
  refine awp_block ?_
  obtain ⟨v13, hj, h⟩ := Option.bind_eq_some_iff.1 h
  refine awp_join (Qa := fun e st => e = .exit 0 ∧ LeSt st ⟨46, [(2, (.ref 1 0 0)), (5, (.ref 2 0 0))], [(1, (.box 27 [(fS ((⟨#[]⟩ : ByteArray))), (.fz (.atom (.slice none 0 0))), (.fz (.atom (.slice none 0 0))), (.fz (.atom (.slice none 0 0)))])), (2, (.box 91 [(fS (v13.1)), (.fz ((eL 1 eI) (v13.2.1))), (.fz ((eL 2 eSy) (v13.2.2.1))), (.row 3 (List.length (v13.2.2.2)))])), (3, (.frow 67 9 (List.map eRu (v13.2.2.2))))], [2, 3, 1]⟩) ?_ ?_
  ·refine awp_loopS (stOf := fun v8 => ⟨46, [(0, (.fz ((eL 1 eI) (a0)))), (2, (.ref 1 0 0)), (5, (.ref 2 0 0)), (6, (fI (v8.1)))], (synthesisref16_Reshaping_m1 v8), [2, 3, 1]⟩) (Qb := fun j e st => e = .exit 0 ∧ LeSt st ⟨46, [(2, (.ref 1 0 0)), (5, (.ref 2 0 0))], [(1, (.box 27 [(fS ((⟨#[]⟩ : ByteArray))), (.fz (.atom (.slice none 0 0))), (.fz (.atom (.slice none 0 0))), (.fz (.atom (.slice none 0 0)))])), (2, (.box 91 [(fS (j.1)), (.fz ((eL 1 eI) (j.2.1))), (.fz ((eL 2 eSy) (j.2.2.1))), (.row 3 (List.length (j.2.2.2)))])), (3, (.frow 67 9 (List.map eRu (j.2.2.2))))], [2, 3, 1]⟩) hj (le_co (ids := [2, 3, 1]) (ts := [(0, .one .keep), (2, .one .keep), (5, .one .keep), (6, (.one (.keep)))]) (os := [(1, []), (2, [.keep, .sl 1, .sl 2]), (3, [])]) (by kernel_rfl)) ?_
   clear hj h
   intro v8 r h
   unfold synthesisref16_Reshaping_l1 at h
   refine awp_seq ?_
   refine awp_seq ?_
   refine awp_region ?_
   refine l_rk 4 tt_ok ⟨46, [(0, (.fz ((eL 1 eI) (a0)))), (2, (.ref 1 0 0)), (5, (.ref 2 0 0)), (6, (fI (v8.1))), (32, (fB ((decide (v8.1 < (List.length a0 : Int))))))], (synthesisref16_Reshaping_m1 v8), [2, 3, 1]⟩ (by kernel_rfl) ?_
   refine l_nil ?_
   rcases cond_some h with ⟨hb, h⟩ | ⟨hb, h⟩
   ·refine awp_cond_t (b := (decide (v8.1 < (List.length a0 : Int)))) (by kernel_rfl) hb ?_
    refine awp_skip ?_
    refine awp_seq ?_
    refine awp_block ?_
    refine awp_region ?_
    refine l_rk 3 tt_ok ⟨46, [(0, (.fz ((eL 1 eI) (a0)))), (2, (.ref 1 0 0)), (5, (.ref 2 0 0)), (6, (fI (v8.1))), (35, (.ref 2 0 0)), (36, (.fz ((eL 1 eI) (a0)))), (37, (fI (v8.1)))], (synthesisref16_Reshaping_m1 v8), [2, 3, 1]⟩ (by kernel_rfl) ?_
    obtain ⟨v9, hv9, h⟩ := Option.bind_eq_some_iff.1 h
    refine l_step ((s_index (k := .i64) (d := tt35) (e := 2) (de := tt2) (enc := eI) hv9 tt_ok rfl (by kernel_rfl) (by kernel_rfl) (by kernel_rfl) (by kernel_rfl) len_eI (by kernel_rfl) rfl).step) (by kernel_rfl) (dst_of (by kernel_rfl)) ?_
    refine l_rk 1 tt_ok ⟨46, [(0, (.fz ((eL 1 eI) (a0)))), (2, (.ref 1 0 0)), (5, (.ref 2 0 0)), (6, (fI (v8.1))), (35, (.ref 2 0 0)), (39, (fI (v9)))], (synthesisref16_Reshaping_m1 v8), [2, 3, 1]⟩ (by kernel_rfl) ?_
    obtain ⟨v10, hv10, h⟩ := Option.bind_eq_some_iff.1 h
    refine l_step ((n_call (ys := [eI (v9)]) (cs := [(.one (.keep))]) rfl (by kernel_rfl) (synthesisref01_OfInt_ok (v9) _ hv10)).step) (by kernel_rfl) (dst_of (by kernel_rfl)) ?_
    obtain ⟨v11, hv11, h⟩ := Option.bind_eq_some_iff.1 h
    refine l_step (h_step (f := 74) (cap := []) (cs := [.one .keep, .one .keep, .one .keep]) (keys := [1, 2]) [(2, 1), (3, 2)] [(1, 2), (2, 3)] rfl (by kernel_rfl) (synthesisref16_writer_constant_h_ok (v8.2.1) (v8.2.2.1) (v8.2.2.2.1) (v8.2.2.2.2) (1) (v10) _ hv11) (by kernel_rfl) (by kernel_rfl) (by kernel_rfl) (by kernel_rfl)) (by kernel_rfl) (dst_of (by kernel_rfl)) ?_
    refine l_nil ?_
    refine awp_region ?_
    refine l_rk 3 tt_ok ⟨46, [(0, (.fz ((eL 1 eI) (a0)))), (2, (.ref 1 0 0)), (5, (.ref 2 0 0)), (6, (fI ((w64 (v8.1 + 1)))))], [(1, (.box 27 [(fS ((⟨#[]⟩ : ByteArray))), (.fz (.atom (.slice none 0 0))), (.fz (.atom (.slice none 0 0))), (.fz (.atom (.slice none 0 0)))])), (2, (.box 91 [(fS ((v8.2.1))), (.fz ((eL 1 eI) ((v8.2.2.1)))), (.fz ((eL 2 eSy) ((v8.2.2.2.1)))), (.row 3 (List.length (v11)))])), (3, (.frow 67 9 (List.map eRu (v11))))], [2, 3, 1]⟩ (by kernel_rfl) ?_
    refine l_nil ?_
    obtain rfl := Option.some.inj h
    exact And.intro rfl (le_co (ids := [2, 3, 1]) (ts := [(0, .one .keep), (2, .one .keep), (5, .one .keep), (6, (.one (.keep)))]) (os := [(1, []), (2, [.keep, .sl 1, .sl 2]), (3, [])]) (by kernel_rfl))
   ·refine awp_cond_f (b := (decide (v8.1 < (List.length a0 : Int)))) (by kernel_rfl) hb ?_
    refine awp_exit ?_
    obtain rfl := Option.some.inj h
    exact And.intro (And.intro (fun h => nomatch h) (fun h => nomatch h)) (And.intro rfl (le_co (ids := [2, 3, 1]) (ts := [(2, .one .keep), (5, .one .keep)]) (os := [(1, []), (2, [.keep, .sl 1, .sl 2]), (3, [])]) (by kernel_rfl)))
  ·clear hj
   intro e st' hq
   obtain ⟨rfl, hle⟩ := hq
   refine ⟨_, hle, ?_⟩
   refine awp_seq ?_
   refine awp_region ?_
   refine l_rk 6 tt_ok ⟨46, [(2, (.ref 1 0 0)), (3, (fI (0)))], [(1, (.box 27 [(fS (v13.1)), (.fz ((eL 1 eI) (v13.2.1))), (.fz ((eL 2 eSy) (v13.2.2.1))), (.row 3 (List.length (v13.2.2.2)))])), (3, (.frow 67 9 (List.map eRu (v13.2.2.2))))], [3, 1]⟩ (by kernel_rfl) ?_
   refine l_nil ?_
   refine awp_le (le_freezeCell (e2 := 27) (id2 := 1) (j := 3) (id := 3) (n := List.length (v13.2.2.2)) (e := 67) (size := 9) (xs := List.map eRu (v13.2.2.2)) (cells := [(fS (v13.1)), (.fz ((eL 1 eI) (v13.2.1))), (.fz ((eL 2 eSy) (v13.2.2.1))), (.row 3 (List.length (v13.2.2.2)))]) (by kernel_rfl) (by kernel_rfl) (by kernel_rfl) (by simp)) ?_
   refine awp_ret ?_
   obtain rfl := Option.some.inj h
   exact (show retX _ _ _ _ = some _ from by kernel_rfl)

def synthesisref16_Get_m0 : List (Nat × AObj) := [(1, (.box 27 [(fS ((⟨#[]⟩ : ByteArray))), (.fz (.atom (.slice none 0 0))), (.fz (.atom (.slice none 0 0))), (.fz (.atom (.slice none 0 0)))]))]
def synthesisref16_Get (a0 : ByteArray) : Option ((La) × (Int)) := (bif (a0.toList == (⟨#[115, 116, 114, 105, 110, 103, 115]⟩ : ByteArray).toList) then (Option.bind (synthesisref16_Strings (([(⟨#[32]⟩ : ByteArray), (⟨#[45]⟩ : ByteArray), (⟨#[46]⟩ : ByteArray)] : List (ByteArray))) (([0, 1, (-1)] : List (Int)))) fun v1 => (some (v1.1, v1.2))) else (bif (a0.toList == (⟨#[112, 97, 116, 116, 101, 114, 110, 115]⟩ : ByteArray).toList) then (Option.bind (synthesisref16_Patterns ((⟨#[97, 98]⟩ : ByteArray))) fun v2 => (some (v2.1, v2.2))) else (bif (a0.toList == (⟨#[108, 105, 115, 116, 115]⟩ : ByteArray).toList) then (Option.bind (synthesisref16_Lists (([0, 1, 2] : List (Int)))) fun v3 => (some (v3.1, v3.2))) else (bif (a0.toList == (⟨#[118, 101, 99, 116, 111, 114, 115]⟩ : ByteArray).toList) then (Option.bind (synthesisref16_Vectors (([1, 15, 128] : List (Int)))) fun v4 => (some (v4.1, v4.2))) else (bif (a0.toList == (⟨#[116, 97, 98, 108, 101, 115]⟩ : ByteArray).toList) then (Option.bind (synthesisref16_Reshaping (([0, 1] : List (Int)))) fun v5 => (some (v5.1, v5.2))) else (some ((La.mk ((⟨#[]⟩ : ByteArray)) (([] : List Int)) (([] : List Sy)) (([] : List Ru))), 5)))))))
theorem synthesisref16_Get_ok (a0 : ByteArray) (r : (La) × (Int)) (h : synthesisref16_Get a0 = some r) : PCall Try.prog 20 [eS a0] (.tup [eLa (r.1), eI (r.2)]) := by
 unfold synthesisref16_Get at h
 refine pcall_intro (T := TT) tt_ok [.ag [.keep, .sl 1, .sl 2, .sl 9], .one .keep] Try.func20 rfl (by kernel_rfl) (by kernel_rfl) ?_
 refine awp_le (st' := ⟨36, [(0, (fS (a0)))], [], []⟩) (le_ck (by kernel_rfl)) ?_
 refine awp_seq ?_
 refine awp_region ?_
 refine l_rk 2 tt_ok ⟨36, [(0, (fS (a0))), (2, (.ref 1 0 0))], (synthesisref16_Get_m0), [1]⟩ (by kernel_rfl) ?_
 refine l_nil ?_
 refine awp_seq ?_
 refine awp_seq ?_
 refine awp_region ?_
 refine l_rk 1 tt_ok ⟨36, [(2, (.ref 1 0 0)), (4, (fS (a0)))], (synthesisref16_Get_m0), [1]⟩ (by kernel_rfl) ?_
 refine l_nil ?_
 refine awp_block ?_
 refine awp_seq ?_
 refine awp_region ?_
 refine l_rk 2 tt_ok ⟨36, [(2, (.ref 1 0 0)), (4, (fS (a0))), (5, (fB ((a0.toList == (⟨#[115, 116, 114, 105, 110, 103, 115]⟩ : ByteArray).toList))))], (synthesisref16_Get_m0), [1]⟩ (by kernel_rfl) ?_
 refine l_nil ?_
 rcases cond_some h with ⟨hb, h⟩ | ⟨hb, h⟩
 ·refine awp_cond_t (b := (a0.toList == (⟨#[115, 116, 114, 105, 110, 103, 115]⟩ : ByteArray).toList)) (by kernel_rfl) hb ?_
  refine awp_seq ?_
  refine awp_region ?_
  refine l_rk 2 tt_ok ⟨36, [(2, (.ref 1 0 0)), (7, (.lim 1 (List.length (([(⟨#[32]⟩ : ByteArray), (⟨#[45]⟩ : ByteArray), (⟨#[46]⟩ : ByteArray)] : List (ByteArray)))) (List.map eS (([(⟨#[32]⟩ : ByteArray), (⟨#[45]⟩ : ByteArray), (⟨#[46]⟩ : ByteArray)] : List (ByteArray)))))), (8, (.lim 1 (List.length (([0, 1, (-1)] : List (Int)))) (List.map eI (([0, 1, (-1)] : List (Int))))))], (synthesisref16_Get_m0), [1]⟩ (by kernel_rfl) ?_
  obtain ⟨v1, hv1, h⟩ := Option.bind_eq_some_iff.1 h
  refine l_step ((n_call (ys := [(eL 1 eS) (([(⟨#[32]⟩ : ByteArray), (⟨#[45]⟩ : ByteArray), (⟨#[46]⟩ : ByteArray)] : List (ByteArray))), (eL 1 eI) (([0, 1, (-1)] : List (Int)))]) (cs := [(.one (.sl 1)), (.one (.sl 1))]) rfl (by kernel_rfl) (synthesisref16_Strings_ok (([(⟨#[32]⟩ : ByteArray), (⟨#[45]⟩ : ByteArray), (⟨#[46]⟩ : ByteArray)] : List (ByteArray))) (([0, 1, (-1)] : List (Int))) _ hv1)).step) (by kernel_rfl) (dst_of (by kernel_rfl)) ?_
  refine l_rk 4 tt_ok ⟨36, [(2, (.ref 1 0 0)), (3, (fI (v1.2)))], [(1, (.box 27 [(fS (v1.1.name)), (.fz ((eL 1 eI) (v1.1.inputs))), (.fz ((eL 2 eSy) (v1.1.symbols))), (.fz ((eL 9 eRu) (v1.1.rules)))]))], [1]⟩ (by kernel_rfl) ?_
  refine l_nil ?_
  refine awp_ret ?_
  obtain rfl := Option.some.inj h
  exact (show retX _ _ _ _ = some _ from by kernel_rfl)
 ·refine awp_cond_f (b := (a0.toList == (⟨#[115, 116, 114, 105, 110, 103, 115]⟩ : ByteArray).toList)) (by kernel_rfl) hb ?_
  refine awp_seq ?_
  refine awp_region ?_
  refine l_rk 2 tt_ok ⟨36, [(2, (.ref 1 0 0)), (4, (fS (a0))), (12, (fB ((a0.toList == (⟨#[112, 97, 116, 116, 101, 114, 110, 115]⟩ : ByteArray).toList))))], (synthesisref16_Get_m0), [1]⟩ (by kernel_rfl) ?_
  refine l_nil ?_
  rcases cond_some h with ⟨hb, h⟩ | ⟨hb, h⟩
  ·refine awp_cond_t (b := (a0.toList == (⟨#[112, 97, 116, 116, 101, 114, 110, 115]⟩ : ByteArray).toList)) (by kernel_rfl) hb ?_
   refine awp_seq ?_
   refine awp_region ?_
   obtain ⟨v2, hv2, h⟩ := Option.bind_eq_some_iff.1 h
   refine l_step ((n_call (ys := [eS ((⟨#[97, 98]⟩ : ByteArray))]) (cs := [(.one (.keep))]) rfl (by kernel_rfl) (synthesisref16_Patterns_ok ((⟨#[97, 98]⟩ : ByteArray)) _ hv2)).step) (by kernel_rfl) (dst_of (by kernel_rfl)) ?_
   refine l_rk 4 tt_ok ⟨36, [(2, (.ref 1 0 0)), (3, (fI (v2.2)))], [(1, (.box 27 [(fS (v2.1.name)), (.fz ((eL 1 eI) (v2.1.inputs))), (.fz ((eL 2 eSy) (v2.1.symbols))), (.fz ((eL 9 eRu) (v2.1.rules)))]))], [1]⟩ (by kernel_rfl) ?_
   refine l_nil ?_
   refine awp_ret ?_
   obtain rfl := Option.some.inj h
   exact (show retX _ _ _ _ = some _ from by kernel_rfl)
  ·refine awp_cond_f (b := (a0.toList == (⟨#[112, 97, 116, 116, 101, 114, 110, 115]⟩ : ByteArray).toList)) (by kernel_rfl) hb ?_
   refine awp_seq ?_
   refine awp_region ?_
   refine l_rk 2 tt_ok ⟨36, [(2, (.ref 1 0 0)), (4, (fS (a0))), (17, (fB ((a0.toList == (⟨#[108, 105, 115, 116, 115]⟩ : ByteArray).toList))))], (synthesisref16_Get_m0), [1]⟩ (by kernel_rfl) ?_
   refine l_nil ?_
   rcases cond_some h with ⟨hb, h⟩ | ⟨hb, h⟩
   ·refine awp_cond_t (b := (a0.toList == (⟨#[108, 105, 115, 116, 115]⟩ : ByteArray).toList)) (by kernel_rfl) hb ?_
    refine awp_seq ?_
    refine awp_region ?_
    refine l_rk 1 tt_ok ⟨36, [(2, (.ref 1 0 0)), (19, (.lim 1 (List.length (([0, 1, 2] : List (Int)))) (List.map eI (([0, 1, 2] : List (Int))))))], (synthesisref16_Get_m0), [1]⟩ (by kernel_rfl) ?_
    obtain ⟨v3, hv3, h⟩ := Option.bind_eq_some_iff.1 h
    refine l_step ((n_call (ys := [(eL 1 eI) (([0, 1, 2] : List (Int)))]) (cs := [(.one (.sl 1))]) rfl (by kernel_rfl) (synthesisref16_Lists_ok (([0, 1, 2] : List (Int))) _ hv3)).step) (by kernel_rfl) (dst_of (by kernel_rfl)) ?_
    refine l_rk 4 tt_ok ⟨36, [(2, (.ref 1 0 0)), (3, (fI (v3.2)))], [(1, (.box 27 [(fS (v3.1.name)), (.fz ((eL 1 eI) (v3.1.inputs))), (.fz ((eL 2 eSy) (v3.1.symbols))), (.fz ((eL 9 eRu) (v3.1.rules)))]))], [1]⟩ (by kernel_rfl) ?_
    refine l_nil ?_
    refine awp_ret ?_
    obtain rfl := Option.some.inj h
    exact (show retX _ _ _ _ = some _ from by kernel_rfl)
   ·refine awp_cond_f (b := (a0.toList == (⟨#[108, 105, 115, 116, 115]⟩ : ByteArray).toList)) (by kernel_rfl) hb ?_
    refine awp_seq ?_
    refine awp_region ?_
    refine l_rk 2 tt_ok ⟨36, [(2, (.ref 1 0 0)), (4, (fS (a0))), (23, (fB ((a0.toList == (⟨#[118, 101, 99, 116, 111, 114, 115]⟩ : ByteArray).toList))))], (synthesisref16_Get_m0), [1]⟩ (by kernel_rfl) ?_
    refine l_nil ?_
    rcases cond_some h with ⟨hb, h⟩ | ⟨hb, h⟩
    ·refine awp_cond_t (b := (a0.toList == (⟨#[118, 101, 99, 116, 111, 114, 115]⟩ : ByteArray).toList)) (by kernel_rfl) hb ?_
     refine awp_seq ?_
     refine awp_region ?_
     refine l_rk 1 tt_ok ⟨36, [(2, (.ref 1 0 0)), (25, (.lim 1 (List.length (([1, 15, 128] : List (Int)))) (List.map eI (([1, 15, 128] : List (Int))))))], (synthesisref16_Get_m0), [1]⟩ (by kernel_rfl) ?_
     obtain ⟨v4, hv4, h⟩ := Option.bind_eq_some_iff.1 h
     refine l_step ((n_call (ys := [(eL 1 eI) (([1, 15, 128] : List (Int)))]) (cs := [(.one (.sl 1))]) rfl (by kernel_rfl) (synthesisref16_Vectors_ok (([1, 15, 128] : List (Int))) _ hv4)).step) (by kernel_rfl) (dst_of (by kernel_rfl)) ?_
     refine l_rk 4 tt_ok ⟨36, [(2, (.ref 1 0 0)), (3, (fI (v4.2)))], [(1, (.box 27 [(fS (v4.1.name)), (.fz ((eL 1 eI) (v4.1.inputs))), (.fz ((eL 2 eSy) (v4.1.symbols))), (.fz ((eL 9 eRu) (v4.1.rules)))]))], [1]⟩ (by kernel_rfl) ?_
     refine l_nil ?_
     refine awp_ret ?_
     obtain rfl := Option.some.inj h
     exact (show retX _ _ _ _ = some _ from by kernel_rfl)
    ·refine awp_cond_f (b := (a0.toList == (⟨#[118, 101, 99, 116, 111, 114, 115]⟩ : ByteArray).toList)) (by kernel_rfl) hb ?_
     refine awp_seq ?_
     refine awp_region ?_
     refine l_rk 2 tt_ok ⟨36, [(2, (.ref 1 0 0)), (29, (fB ((a0.toList == (⟨#[116, 97, 98, 108, 101, 115]⟩ : ByteArray).toList))))], (synthesisref16_Get_m0), [1]⟩ (by kernel_rfl) ?_
     refine l_nil ?_
     rcases cond_some h with ⟨hb, h⟩ | ⟨hb, h⟩
     ·refine awp_cond_t (b := (a0.toList == (⟨#[116, 97, 98, 108, 101, 115]⟩ : ByteArray).toList)) (by kernel_rfl) hb ?_
      refine awp_seq ?_
      refine awp_region ?_
      refine l_rk 1 tt_ok ⟨36, [(2, (.ref 1 0 0)), (31, (.lim 1 (List.length (([0, 1] : List (Int)))) (List.map eI (([0, 1] : List (Int))))))], (synthesisref16_Get_m0), [1]⟩ (by kernel_rfl) ?_
      obtain ⟨v5, hv5, h⟩ := Option.bind_eq_some_iff.1 h
      refine l_step ((n_call (ys := [(eL 1 eI) (([0, 1] : List (Int)))]) (cs := [(.one (.sl 1))]) rfl (by kernel_rfl) (synthesisref16_Reshaping_ok (([0, 1] : List (Int))) _ hv5)).step) (by kernel_rfl) (dst_of (by kernel_rfl)) ?_
      refine l_rk 4 tt_ok ⟨36, [(2, (.ref 1 0 0)), (3, (fI (v5.2)))], [(1, (.box 27 [(fS (v5.1.name)), (.fz ((eL 1 eI) (v5.1.inputs))), (.fz ((eL 2 eSy) (v5.1.symbols))), (.fz ((eL 9 eRu) (v5.1.rules)))]))], [1]⟩ (by kernel_rfl) ?_
      refine l_nil ?_
      refine awp_ret ?_
      obtain rfl := Option.some.inj h
      exact (show retX _ _ _ _ = some _ from by kernel_rfl)
     ·refine awp_cond_f (b := (a0.toList == (⟨#[116, 97, 98, 108, 101, 115]⟩ : ByteArray).toList)) (by kernel_rfl) hb ?_
      refine awp_skip ?_
      refine awp_seq ?_
      refine awp_region ?_
      refine l_rk 3 tt_ok ⟨36, [(2, (.ref 1 0 0)), (3, (fI (5)))], (synthesisref16_Get_m0), [1]⟩ (by kernel_rfl) ?_
      refine l_nil ?_
      refine awp_ret ?_
      obtain rfl := Option.some.inj h
      exact (show retX _ _ _ _ = some _ from by kernel_rfl)

def synthesisref11_SameInts_l1 (a0 : List Int) (a1 : List Int) (v1 : (Int)) : Option (((Int)) ⊕ (((Unit) ⊕ (Bool)))) := (bif (decide (v1 < (List.length a0 : Int))) then (Option.bind (idx a0 v1) fun v2 => (Option.bind (idx a1 v1) fun v3 => (bif (v2 != v3) then (some (.inr (.inr false))) else (some (.inl ((w64 (v1 + 1)))))))) else (some (.inr (.inl ()))))
def synthesisref11_SameInts (a0 : List Int) (a1 : List Int) : Option (Bool) := (bif ((List.length a0 : Int) != (List.length a1 : Int)) then (some false) else (Option.bind (loopN (synthesisref11_SameInts_l1 a0 a1) fuel (0)) fun (v4 : ((Unit) ⊕ (Bool))) => Sum.elim (fun v5 => (some true)) (fun v6 => (some v6)) v4))
theorem synthesisref11_SameInts_ok (a0 : List Int) (a1 : List Int) (r : Bool) (h : synthesisref11_SameInts a0 a1 = some r) : PCall Try.prog 60 [(eL 1 eI) a0, (eL 1 eI) a1] (eB (r)) := by
 unfold synthesisref11_SameInts at h
 refine pcall_intro (T := TT) tt_ok [.one .keep] Try.func60 rfl (by kernel_rfl) (by kernel_rfl) ?_
 refine awp_le (st' := ⟨26, [(0, (.fz ((eL 1 eI) (a0)))), (1, (.fz ((eL 1 eI) (a1))))], [], []⟩) (le_ck (by kernel_rfl)) ?_
 refine awp_seq ?_
 refine awp_region ?_
 refine l_rk 1 tt_ok ⟨26, [(0, (.fz ((eL 1 eI) (a0)))), (1, (.fz ((eL 1 eI) (a1))))], [], []⟩ (by kernel_rfl) ?_
 refine l_nil ?_
 refine awp_seq ?_
 refine awp_seq ?_
 refine awp_region ?_
 refine l_rk 5 tt_ok ⟨26, [(0, (.fz ((eL 1 eI) (a0)))), (1, (.fz ((eL 1 eI) (a1)))), (10, (fB (((List.length a0 : Int) != (List.length a1 : Int)))))], [], []⟩ (by kernel_rfl) ?_
 refine l_nil ?_
 rcases cond_some h with ⟨hb, h⟩ | ⟨hb, h⟩
 ·refine awp_cond_t (b := ((List.length a0 : Int) != (List.length a1 : Int))) (by kernel_rfl) hb ?_
  refine awp_seq ?_
  refine awp_region ?_
  refine l_rk 1 tt_ok ⟨26, [(4, (fB (false)))], [], []⟩ (by kernel_rfl) ?_
  refine l_nil ?_
  refine awp_ret ?_
  obtain rfl := Option.some.inj h
  exact (show retX _ _ _ _ = some _ from by kernel_rfl)
 ·refine awp_cond_f (b := ((List.length a0 : Int) != (List.length a1 : Int))) (by kernel_rfl) hb ?_
  refine awp_skip ?_
  refine awp_seq ?_
  refine awp_seq ?_
  refine awp_region ?_
  refine l_rk 1 tt_ok ⟨26, [(0, (.fz ((eL 1 eI) (a0)))), (1, (.fz ((eL 1 eI) (a1)))), (5, (fI (0)))], [], []⟩ (by kernel_rfl) ?_
  refine l_nil ?_
  refine awp_block ?_
  obtain ⟨v4, hj, h⟩ := Option.bind_eq_some_iff.1 h
  refine awp_join (Qa := fun e st => Sum.elim (fun p => e = .exit 0 ∧ LeSt st ⟨26, [], [], []⟩) (fun p => e = .ret ∧ retX TT st Try.f60.results.toList [.one .keep] = some (eB (p))) v4) ?_ ?_
  ·refine awp_loopS (stOf := fun v1 => ⟨26, [(0, (.fz ((eL 1 eI) (a0)))), (1, (.fz ((eL 1 eI) (a1)))), (5, (fI (v1)))], [], []⟩) (Qb := fun j e st => Sum.elim (fun p => e = .exit 0 ∧ LeSt st ⟨26, [], [], []⟩) (fun p => e = .ret ∧ retX TT st Try.f60.results.toList [.one .keep] = some (eB (p))) j) hj (le_ck (by kernel_rfl)) ?_
   clear hj h
   intro v1 r h
   unfold synthesisref11_SameInts_l1 at h
   refine awp_seq ?_
   refine awp_seq ?_
   refine awp_region ?_
   refine l_rk 4 tt_ok ⟨26, [(0, (.fz ((eL 1 eI) (a0)))), (1, (.fz ((eL 1 eI) (a1)))), (5, (fI (v1))), (14, (fB ((decide (v1 < (List.length a0 : Int))))))], [], []⟩ (by kernel_rfl) ?_
   refine l_nil ?_
   rcases cond_some h with ⟨hb, h⟩ | ⟨hb, h⟩
   ·refine awp_cond_t (b := (decide (v1 < (List.length a0 : Int)))) (by kernel_rfl) hb ?_
    refine awp_skip ?_
    refine awp_seq ?_
    refine awp_block ?_
    refine awp_seq ?_
    obtain ⟨v2, hv2, h⟩ := Option.bind_eq_some_iff.1 h
    obtain ⟨v3, hv3, h⟩ := Option.bind_eq_some_iff.1 h
    refine awp_drawn (by kernel_rfl) [(.fz ((eL 1 eI) (a0))), (fI (v1)), (.fz (.fp [(eI (v2))])), (fI (v2)), (.fz ((eL 1 eI) (a1))), (fI (v1)), (.fz (.fp [(eI (v3))])), (fI (v3))] (by kernel_rfl) ?_
    refine ⟨.inl ⟨by kernel_rfl, (nstep_ok tt_ok (by kernel_rfl))⟩, ?_⟩
    refine ⟨.inl ⟨by kernel_rfl, (nstep_ok tt_ok (by kernel_rfl))⟩, ?_⟩
    refine ⟨.inl ⟨by kernel_rfl, (s_index (k := .i64) (d := tt23) (e := 3) (de := tt3) (enc := eI) hv2 tt_ok rfl (by kernel_rfl) (by kernel_rfl) (by kernel_rfl) (by kernel_rfl) len_eI (by kernel_rfl) rfl)⟩, ?_⟩
    refine ⟨.inl ⟨by kernel_rfl, (nstep_ok tt_ok (by kernel_rfl))⟩, ?_⟩
    refine ⟨.inl ⟨by kernel_rfl, (nstep_ok tt_ok (by kernel_rfl))⟩, ?_⟩
    refine ⟨.inl ⟨by kernel_rfl, (nstep_ok tt_ok (by kernel_rfl))⟩, ?_⟩
    refine ⟨.inl ⟨by kernel_rfl, (s_index (k := .i64) (d := tt23) (e := 3) (de := tt3) (enc := eI) hv3 tt_ok rfl (by kernel_rfl) (by kernel_rfl) (by kernel_rfl) (by kernel_rfl) len_eI (by kernel_rfl) rfl)⟩, ?_⟩
    refine ⟨.inl ⟨by kernel_rfl, (nstep_ok tt_ok (by kernel_rfl))⟩, ?_⟩
    refine l_rk 1 tt_ok ⟨26, [(0, (.fz ((eL 1 eI) (a0)))), (1, (.fz ((eL 1 eI) (a1)))), (5, (fI (v1))), (25, (fB ((v2 != v3))))], [], []⟩ (by kernel_rfl) ?_
    refine l_nil ?_
    rcases cond_some h with ⟨hb, h⟩ | ⟨hb, h⟩
    ·refine awp_cond_t (b := (v2 != v3)) (by kernel_rfl) hb ?_
     refine awp_seq ?_
     refine awp_region ?_
     refine l_rk 1 tt_ok ⟨26, [(4, (fB (false)))], [], []⟩ (by kernel_rfl) ?_
     refine l_nil ?_
     refine awp_ret ?_
     obtain rfl := Option.some.inj h
     exact And.intro (And.intro (fun h => nomatch h) (fun h => nomatch h)) (And.intro rfl (show retX _ _ _ _ = some _ from by kernel_rfl))
    ·refine awp_cond_f (b := (v2 != v3)) (by kernel_rfl) hb ?_
     refine awp_skip ?_
     refine awp_region ?_
     refine l_rk 3 tt_ok ⟨26, [(0, (.fz ((eL 1 eI) (a0)))), (1, (.fz ((eL 1 eI) (a1)))), (5, (fI ((w64 (v1 + 1)))))], [], []⟩ (by kernel_rfl) ?_
     refine l_nil ?_
     obtain rfl := Option.some.inj h
     exact And.intro rfl (le_ck (by kernel_rfl))
   ·refine awp_cond_f (b := (decide (v1 < (List.length a0 : Int)))) (by kernel_rfl) hb ?_
    refine awp_exit ?_
    obtain rfl := Option.some.inj h
    exact And.intro (And.intro (fun h => nomatch h) (fun h => nomatch h)) (And.intro rfl (le_ck (by kernel_rfl)))
  ·clear hj
   intro e st' hq
   rcases v4 with v5 | v6
   ·try simp only [Sum.elim_inl, Sum.elim_inr] at h
    obtain ⟨rfl, hle⟩ := hq
    refine ⟨_, hle, ?_⟩
    refine awp_seq ?_
    refine awp_region ?_
    refine l_rk 1 tt_ok ⟨26, [(4, (fB (true)))], [], []⟩ (by kernel_rfl) ?_
    refine l_nil ?_
    refine awp_ret ?_
    obtain rfl := Option.some.inj h
    exact (show retX _ _ _ _ = some _ from by kernel_rfl)
   ·try simp only [Sum.elim_inl, Sum.elim_inr] at h
    obtain ⟨rfl, hret⟩ := hq
    refine ⟨_, LeSt.refl, ?_⟩
    obtain rfl := Option.some.inj h
    exact hret

def synthesisref11_SameRule_m0 (a0 : Ru) (a1 : Ru) : List (Nat × AObj) := [(1, (.box 67 [(fI (a0.symbol)), (fI (a0.kind)), (fI (a0.input)), (fI (a0.const.type)), (fI (a0.const.num)), (fS (a0.const.text)), (.fz ((eL 4 eVaR) (a0.const.items))), (fS (a0.op)), (.fz ((eL 1 eI) (a0.args)))])), (2, (.box 67 [(fI (a1.symbol)), (fI (a1.kind)), (fI (a1.input)), (fI (a1.const.type)), (fI (a1.const.num)), (fS (a1.const.text)), (.fz ((eL 4 eVaR) (a1.const.items))), (fS (a1.op)), (.fz ((eL 1 eI) (a1.args)))]))]
def synthesisref11_SameRule (a0 : Ru) (a1 : Ru) : Option (Bool) := (Option.bind ((bif (a0.symbol == a1.symbol) then (bif (a0.kind == a1.kind) then (bif (a0.input == a1.input) then (bif (a0.op.toList == a1.op.toList) then (Option.bind (synthesisref11_SameInts (a0.args) (a1.args)) fun v1 => (bif v1 then (Option.bind (synthesisref01_Equal (a0.const) (a1.const)) fun v2 => (some (v2))) else (some (false)))) else (some (false))) else (some (false))) else (some (false))) else (some (false))) : Option ((Bool))) fun (v4 : (Bool)) => (some v4))
theorem synthesisref11_SameRule_ok (a0 : Ru) (a1 : Ru) (r : Bool) (h : synthesisref11_SameRule a0 a1 = some r) : PCall Try.prog 61 [eRu a0, eRu a1] (eB (r)) := by
 unfold synthesisref11_SameRule at h
 refine pcall_intro (T := TT) tt_ok [.one .keep] Try.func61 rfl (by kernel_rfl) (by kernel_rfl) ?_
 refine awp_le (st' := ⟨45, [(0, (.fz (eRu (a0)))), (1, (.fz (eRu (a1))))], [], []⟩) (le_ck (by kernel_rfl)) ?_
 refine awp_seq ?_
 refine awp_region ?_
 refine l_rk 3 tt_ok ⟨45, [(2, (.ref 1 0 0)), (3, (.ref 2 0 0))], (synthesisref11_SameRule_m0 a0 a1), [2, 1]⟩ (by kernel_rfl) ?_
 refine l_nil ?_
 refine awp_seq ?_
 obtain ⟨v4, hj, h⟩ := Option.bind_eq_some_iff.1 h
 refine awp_join (Qa := fun e st => e = .normal ∧ LeSt st ⟨45, [(4, (fB (v4)))], [], []⟩) ?_ ?_
 ·replace h := hj
  clear hj
  refine awp_region ?_
  refine l_rk 6 tt_ok ⟨45, [(2, (.ref 1 0 0)), (3, (.ref 2 0 0)), (10, (fB ((a0.symbol == a1.symbol))))], (synthesisref11_SameRule_m0 a0 a1), [2, 1]⟩ (by kernel_rfl) ?_
  rcases cond_some h with ⟨hb, h⟩ | ⟨hb, h⟩
  ·refine l_le (le_eq (t := 10) (x := .fz (eB (a0.symbol == a1.symbol))) (y := .fz (eB true)) (by kernel_rfl) (congrArg (fun b => AV.fz (eB b)) hb)) ?_
   refine l_rk 7 tt_ok ⟨45, [(2, (.ref 1 0 0)), (3, (.ref 2 0 0)), (17, (fB ((a0.kind == a1.kind))))], (synthesisref11_SameRule_m0 a0 a1), [2, 1]⟩ (by kernel_rfl) ?_
   rcases cond_some h with ⟨hb, h⟩ | ⟨hb, h⟩
   ·refine l_le (le_eq (t := 17) (x := .fz (eB (a0.kind == a1.kind))) (y := .fz (eB true)) (by kernel_rfl) (congrArg (fun b => AV.fz (eB b)) hb)) ?_
    refine l_rk 7 tt_ok ⟨45, [(2, (.ref 1 0 0)), (3, (.ref 2 0 0)), (24, (fB ((a0.input == a1.input))))], (synthesisref11_SameRule_m0 a0 a1), [2, 1]⟩ (by kernel_rfl) ?_
    rcases cond_some h with ⟨hb, h⟩ | ⟨hb, h⟩
    ·refine l_le (le_eq (t := 24) (x := .fz (eB (a0.input == a1.input))) (y := .fz (eB true)) (by kernel_rfl) (congrArg (fun b => AV.fz (eB b)) hb)) ?_
     refine l_rk 7 tt_ok ⟨45, [(2, (.ref 1 0 0)), (3, (.ref 2 0 0)), (31, (fB ((a0.op.toList == a1.op.toList))))], (synthesisref11_SameRule_m0 a0 a1), [2, 1]⟩ (by kernel_rfl) ?_
     rcases cond_some h with ⟨hb, h⟩ | ⟨hb, h⟩
     ·refine l_le (le_eq (t := 31) (x := .fz (eB (a0.op.toList == a1.op.toList))) (y := .fz (eB true)) (by kernel_rfl) (congrArg (fun b => AV.fz (eB b)) hb)) ?_
      refine l_rk 4 tt_ok ⟨45, [(2, (.ref 1 0 0)), (3, (.ref 2 0 0)), (31, (fB (true))), (33, (.fz ((eL 1 eI) (a0.args)))), (35, (.fz ((eL 1 eI) (a1.args))))], (synthesisref11_SameRule_m0 a0 a1), [2, 1]⟩ (by kernel_rfl) ?_
      obtain ⟨v1, hv1, h⟩ := Option.bind_eq_some_iff.1 h
      refine l_step ((n_call (ys := [(eL 1 eI) (a0.args), (eL 1 eI) (a1.args)]) (cs := [(.one (.sl 1)), (.one (.sl 1))]) rfl (by kernel_rfl) (synthesisref11_SameInts_ok (a0.args) (a1.args) _ hv1)).step) (by kernel_rfl) (dst_of (by kernel_rfl)) ?_
      refine l_rk 2 tt_ok ⟨45, [(2, (.ref 1 0 0)), (3, (.ref 2 0 0)), (38, (fB (v1)))], (synthesisref11_SameRule_m0 a0 a1), [2, 1]⟩ (by kernel_rfl) ?_
      rcases cond_some h with ⟨hb, h⟩ | ⟨hb, h⟩
      ·refine l_le (le_eq (t := 38) (x := .fz (eB v1)) (y := .fz (eB true)) (by kernel_rfl) (congrArg (fun b => AV.fz (eB b)) hb)) ?_
       refine l_rk 4 tt_ok ⟨45, [(38, (fB (true))), (40, (.fz (eVa (a0.const)))), (42, (.fz (eVa (a1.const))))], [], []⟩ (by kernel_rfl) ?_
       obtain ⟨v2, hv2, h⟩ := Option.bind_eq_some_iff.1 h
       refine l_step ((n_call (ys := [eVa (a0.const), eVa (a1.const)]) (cs := [(.one .keep), (.one .keep)]) rfl (by kernel_rfl) (synthesisref01_Equal_ok (a0.const) (a1.const) _ hv2)).step) (by kernel_rfl) (dst_of (by kernel_rfl)) ?_
       refine l_rk 2 tt_ok ⟨45, [(4, (fB (v2)))], [], []⟩ (by kernel_rfl) ?_
       refine l_nil ?_
       obtain rfl := Option.some.inj h
       exact And.intro rfl (le_ck (by kernel_rfl))
      ·refine l_le (le_eq (t := 38) (x := .fz (eB v1)) (y := .fz (eB false)) (by kernel_rfl) (congrArg (fun b => AV.fz (eB b)) hb)) ?_
       refine l_rk 7 tt_ok ⟨45, [(4, (fB (false)))], [], []⟩ (by kernel_rfl) ?_
       refine l_nil ?_
       obtain rfl := Option.some.inj h
       exact And.intro rfl (le_ck (by kernel_rfl))
     ·refine l_le (le_eq (t := 31) (x := .fz (eB (a0.op.toList == a1.op.toList))) (y := .fz (eB false)) (by kernel_rfl) (congrArg (fun b => AV.fz (eB b)) hb)) ?_
      refine l_rk 14 tt_ok ⟨45, [(4, (fB (false)))], [], []⟩ (by kernel_rfl) ?_
      refine l_nil ?_
      obtain rfl := Option.some.inj h
      exact And.intro rfl (le_ck (by kernel_rfl))
    ·refine l_le (le_eq (t := 24) (x := .fz (eB (a0.input == a1.input))) (y := .fz (eB false)) (by kernel_rfl) (congrArg (fun b => AV.fz (eB b)) hb)) ?_
     refine l_rk 21 tt_ok ⟨45, [(4, (fB (false)))], [], []⟩ (by kernel_rfl) ?_
     refine l_nil ?_
     obtain rfl := Option.some.inj h
     exact And.intro rfl (le_ck (by kernel_rfl))
   ·refine l_le (le_eq (t := 17) (x := .fz (eB (a0.kind == a1.kind))) (y := .fz (eB false)) (by kernel_rfl) (congrArg (fun b => AV.fz (eB b)) hb)) ?_
    refine l_rk 28 tt_ok ⟨45, [(4, (fB (false)))], [], []⟩ (by kernel_rfl) ?_
    refine l_nil ?_
    obtain rfl := Option.some.inj h
    exact And.intro rfl (le_ck (by kernel_rfl))
  ·refine l_le (le_eq (t := 10) (x := .fz (eB (a0.symbol == a1.symbol))) (y := .fz (eB false)) (by kernel_rfl) (congrArg (fun b => AV.fz (eB b)) hb)) ?_
   refine l_rk 35 tt_ok ⟨45, [(4, (fB (false)))], [], []⟩ (by kernel_rfl) ?_
   refine l_nil ?_
   obtain rfl := Option.some.inj h
   exact And.intro rfl (le_ck (by kernel_rfl))
 ·clear hj
  intro e st' hq
  obtain ⟨rfl, hle⟩ := hq
  refine ⟨_, hle, ?_⟩
  refine awp_ret ?_
  obtain rfl := Option.some.inj h
  exact (show retX _ _ _ _ = some _ from by kernel_rfl)

def synthesisref11_Same_m0 (a0 : La) (a1 : La) : List (Nat × AObj) := [(1, (.box 27 [(fS (a0.name)), (.fz ((eL 1 eI) (a0.inputs))), (.fz ((eL 2 eSy) (a0.symbols))), (.fz ((eL 9 eRu) (a0.rules)))])), (2, (.box 27 [(fS (a1.name)), (.fz ((eL 1 eI) (a1.inputs))), (.fz ((eL 2 eSy) (a1.symbols))), (.fz ((eL 9 eRu) (a1.rules)))]))]
def synthesisref11_Same_l1 (a0 : La) (a1 : La) (v9 : (Int)) : Option (((Int)) ⊕ (((Unit) ⊕ (Bool)))) := (bif (decide (v9 < (List.length a0.rules : Int))) then (Option.bind (idx a0.rules v9) fun v10 => (Option.bind (idx a1.rules v9) fun v11 => (Option.bind (synthesisref11_SameRule (v10) (v11)) fun v12 => (bif (!v12) then (some (.inr (.inr false))) else (some (.inl ((w64 (v9 + 1))))))))) else (some (.inr (.inl ()))))
def synthesisref11_Same_l2 (a0 : La) (a1 : La) (v4 : (Int)) : Option (((Int)) ⊕ (((Unit) ⊕ (Bool)))) := (bif (decide (v4 < (List.length a0.symbols : Int))) then (Option.bind (idx a0.symbols v4) fun v5 => (Option.bind (idx a1.symbols v4) fun v6 => (bif (!((v5.name.toList == v6.name.toList) && ((v5.type == v6.type) && true))) then (some (.inr (.inr false))) else (some (.inl ((w64 (v4 + 1)))))))) else (some (.inr (.inl ()))))
def synthesisref11_Same (a0 : La) (a1 : La) : Option (Bool) := (Option.bind ((bif (!(a0.name.toList == a1.name.toList)) then (some (true)) else (Option.bind (synthesisref11_SameInts (a0.inputs) (a1.inputs)) fun v1 => (bif (!v1) then (some (true)) else (bif ((List.length a0.symbols : Int) != (List.length a1.symbols : Int)) then (some (true)) else (some (((List.length a0.rules : Int) != (List.length a1.rules : Int)))))))) : Option ((Bool))) fun (v3 : (Bool)) => (bif v3 then (some false) else (Option.bind (loopN (synthesisref11_Same_l2 a0 a1) fuel (0)) fun (v7 : ((Unit) ⊕ (Bool))) => Sum.elim (fun v8 => (Option.bind (loopN (synthesisref11_Same_l1 a0 a1) fuel (0)) fun (v13 : ((Unit) ⊕ (Bool))) => Sum.elim (fun v14 => (some true)) (fun v15 => (some v15)) v13)) (fun v16 => (some v16)) v7)))
theorem synthesisref11_Same_ok (a0 : La) (a1 : La) (r : Bool) (h : synthesisref11_Same a0 a1 = some r) : PCall Try.prog 21 [eLa a0, eLa a1] (eB (r)) := by
 unfold synthesisref11_Same at h
 refine pcall_intro (T := TT) tt_ok [.one .keep] Try.func21 rfl (by kernel_rfl) (by kernel_rfl) ?_
 refine awp_le (st' := ⟨75, [(0, (.fz (eLa (a0)))), (1, (.fz (eLa (a1))))], [], []⟩) (le_ck (by kernel_rfl)) ?_
 refine awp_seq ?_
 refine awp_region ?_
 refine l_rk 3 tt_ok ⟨75, [(2, (.ref 1 0 0)), (3, (.ref 2 0 0))], (synthesisref11_Same_m0 a0 a1), [2, 1]⟩ (by kernel_rfl) ?_
 refine l_nil ?_
 refine awp_seq ?_
 refine awp_seq ?_
 obtain ⟨v3, hj, h⟩ := Option.bind_eq_some_iff.1 h
 refine awp_join (Qa := fun e st => e = .normal ∧ LeSt st ⟨75, [(2, (.ref 1 0 0)), (3, (.ref 2 0 0)), (37, (fB (v3)))], (synthesisref11_Same_m0 a0 a1), [2, 1]⟩) ?_ ?_
 ·replace h := hj
  clear hj
  refine awp_region ?_
  refine l_rk 6 tt_ok ⟨75, [(2, (.ref 1 0 0)), (3, (.ref 2 0 0)), (12, (fB ((!(a0.name.toList == a1.name.toList)))))], (synthesisref11_Same_m0 a0 a1), [2, 1]⟩ (by kernel_rfl) ?_
  rcases cond_some h with ⟨hb, h⟩ | ⟨hb, h⟩
  ·refine l_le (le_eq (t := 12) (x := .fz (eB (!(a0.name.toList == a1.name.toList)))) (y := .fz (eB true)) (by kernel_rfl) (congrArg (fun b => AV.fz (eB b)) hb)) ?_
   refine l_rk 25 tt_ok ⟨75, [(2, (.ref 1 0 0)), (3, (.ref 2 0 0)), (37, (fB (true)))], (synthesisref11_Same_m0 a0 a1), [2, 1]⟩ (by kernel_rfl) ?_
   refine l_nil ?_
   obtain rfl := Option.some.inj h
   exact And.intro rfl (le_ck (by kernel_rfl))
  ·refine l_le (le_eq (t := 12) (x := .fz (eB (!(a0.name.toList == a1.name.toList)))) (y := .fz (eB false)) (by kernel_rfl) (congrArg (fun b => AV.fz (eB b)) hb)) ?_
   refine l_rk 4 tt_ok ⟨75, [(2, (.ref 1 0 0)), (3, (.ref 2 0 0)), (12, (fB (false))), (14, (.fz ((eL 1 eI) (a0.inputs)))), (16, (.fz ((eL 1 eI) (a1.inputs))))], (synthesisref11_Same_m0 a0 a1), [2, 1]⟩ (by kernel_rfl) ?_
   obtain ⟨v1, hv1, h⟩ := Option.bind_eq_some_iff.1 h
   refine l_step ((n_call (ys := [(eL 1 eI) (a0.inputs), (eL 1 eI) (a1.inputs)]) (cs := [(.one (.sl 1)), (.one (.sl 1))]) rfl (by kernel_rfl) (synthesisref11_SameInts_ok (a0.inputs) (a1.inputs) _ hv1)).step) (by kernel_rfl) (dst_of (by kernel_rfl)) ?_
   refine l_rk 3 tt_ok ⟨75, [(2, (.ref 1 0 0)), (3, (.ref 2 0 0)), (20, (fB ((!v1))))], (synthesisref11_Same_m0 a0 a1), [2, 1]⟩ (by kernel_rfl) ?_
   rcases cond_some h with ⟨hb, h⟩ | ⟨hb, h⟩
   ·refine l_le (le_eq (t := 20) (x := .fz (eB (!v1))) (y := .fz (eB true)) (by kernel_rfl) (congrArg (fun b => AV.fz (eB b)) hb)) ?_
    refine l_rk 17 tt_ok ⟨75, [(2, (.ref 1 0 0)), (3, (.ref 2 0 0)), (37, (fB (true)))], (synthesisref11_Same_m0 a0 a1), [2, 1]⟩ (by kernel_rfl) ?_
    refine l_nil ?_
    obtain rfl := Option.some.inj h
    exact And.intro rfl (le_ck (by kernel_rfl))
   ·refine l_le (le_eq (t := 20) (x := .fz (eB (!v1))) (y := .fz (eB false)) (by kernel_rfl) (congrArg (fun b => AV.fz (eB b)) hb)) ?_
    refine l_rk 9 tt_ok ⟨75, [(2, (.ref 1 0 0)), (3, (.ref 2 0 0)), (29, (fB (((List.length a0.symbols : Int) != (List.length a1.symbols : Int)))))], (synthesisref11_Same_m0 a0 a1), [2, 1]⟩ (by kernel_rfl) ?_
    rcases cond_some h with ⟨hb, h⟩ | ⟨hb, h⟩
    ·refine l_le (le_eq (t := 29) (x := .fz (eB ((List.length a0.symbols : Int) != (List.length a1.symbols : Int)))) (y := .fz (eB true)) (by kernel_rfl) (congrArg (fun b => AV.fz (eB b)) hb)) ?_
     refine l_rk 8 tt_ok ⟨75, [(2, (.ref 1 0 0)), (3, (.ref 2 0 0)), (37, (fB (true)))], (synthesisref11_Same_m0 a0 a1), [2, 1]⟩ (by kernel_rfl) ?_
     refine l_nil ?_
     obtain rfl := Option.some.inj h
     exact And.intro rfl (le_ck (by kernel_rfl))
    ·refine l_le (le_eq (t := 29) (x := .fz (eB ((List.length a0.symbols : Int) != (List.length a1.symbols : Int)))) (y := .fz (eB false)) (by kernel_rfl) (congrArg (fun b => AV.fz (eB b)) hb)) ?_
     refine l_rk 8 tt_ok ⟨75, [(2, (.ref 1 0 0)), (3, (.ref 2 0 0)), (37, (fB (((List.length a0.rules : Int) != (List.length a1.rules : Int)))))], (synthesisref11_Same_m0 a0 a1), [2, 1]⟩ (by kernel_rfl) ?_
     refine l_nil ?_
     obtain rfl := Option.some.inj h
     exact And.intro rfl (le_ck (by kernel_rfl))
 ·clear hj
  intro e st' hq
  obtain ⟨rfl, hle⟩ := hq
  refine ⟨_, hle, ?_⟩
  rcases cond_some h with ⟨hb, h⟩ | ⟨hb, h⟩
  ·refine awp_cond_t (b := v3) (by kernel_rfl) hb ?_
   refine awp_seq ?_
   refine awp_region ?_
   refine l_rk 1 tt_ok ⟨75, [(4, (fB (false)))], [], []⟩ (by kernel_rfl) ?_
   refine l_nil ?_
   refine awp_ret ?_
   obtain rfl := Option.some.inj h
   exact (show retX _ _ _ _ = some _ from by kernel_rfl)
  ·refine awp_cond_f (b := v3) (by kernel_rfl) hb ?_
   refine awp_skip ?_
   refine awp_seq ?_
   refine awp_seq ?_
   refine awp_region ?_
   refine l_rk 1 tt_ok ⟨75, [(2, (.ref 1 0 0)), (3, (.ref 2 0 0)), (5, (fI (0)))], (synthesisref11_Same_m0 a0 a1), [2, 1]⟩ (by kernel_rfl) ?_
   refine l_nil ?_
   refine awp_block ?_
   obtain ⟨v7, hj, h⟩ := Option.bind_eq_some_iff.1 h
   refine awp_join (Qa := fun e st => Sum.elim (fun p => e = .exit 0 ∧ LeSt st ⟨75, [(2, (.ref 1 0 0)), (3, (.ref 2 0 0))], (synthesisref11_Same_m0 a0 a1), [2, 1]⟩) (fun p => e = .ret ∧ retX TT st Try.f21.results.toList [.one .keep] = some (eB (p))) v7) ?_ ?_
   ·refine awp_loopS (stOf := fun v4 => ⟨75, [(2, (.ref 1 0 0)), (3, (.ref 2 0 0)), (5, (fI (v4)))], (synthesisref11_Same_m0 a0 a1), [2, 1]⟩) (Qb := fun j e st => Sum.elim (fun p => e = .exit 0 ∧ LeSt st ⟨75, [(2, (.ref 1 0 0)), (3, (.ref 2 0 0))], (synthesisref11_Same_m0 a0 a1), [2, 1]⟩) (fun p => e = .ret ∧ retX TT st Try.f21.results.toList [.one .keep] = some (eB (p))) j) hj (le_ck (by kernel_rfl)) ?_
    clear hj h
    intro v4 r h
    unfold synthesisref11_Same_l2 at h
    refine awp_seq ?_
    refine awp_seq ?_
    refine awp_region ?_
    refine l_rk 5 tt_ok ⟨75, [(2, (.ref 1 0 0)), (3, (.ref 2 0 0)), (5, (fI (v4))), (42, (fB ((decide (v4 < (List.length a0.symbols : Int))))))], (synthesisref11_Same_m0 a0 a1), [2, 1]⟩ (by kernel_rfl) ?_
    refine l_nil ?_
    rcases cond_some h with ⟨hb, h⟩ | ⟨hb, h⟩
    ·refine awp_cond_t (b := (decide (v4 < (List.length a0.symbols : Int)))) (by kernel_rfl) hb ?_
     refine awp_skip ?_
     refine awp_seq ?_
     refine awp_block ?_
     refine awp_seq ?_
     obtain ⟨v5, hv5, h⟩ := Option.bind_eq_some_iff.1 h
     obtain ⟨v6, hv6, h⟩ := Option.bind_eq_some_iff.1 h
     refine awp_drawn (by kernel_rfl) [(.ref 1 0 2), (.fz ((eL 2 eSy) (a0.symbols))), (fI (v4)), (.fz (.fp [(eS (v5.name)), (eI (v5.type))])), (.fz (eSy (v5))), (.ref 2 0 2), (.fz ((eL 2 eSy) (a1.symbols))), (fI (v4)), (.fz (.fp [(eS (v6.name)), (eI (v6.type))])), (.fz (eSy (v6)))] (by kernel_rfl) ?_
     refine ⟨.inl ⟨by kernel_rfl, (nstep_ok tt_ok (by kernel_rfl))⟩, ?_⟩
     refine ⟨.inl ⟨by kernel_rfl, (nstep_ok tt_ok (by kernel_rfl))⟩, ?_⟩
     refine ⟨.inl ⟨by kernel_rfl, (nstep_ok tt_ok (by kernel_rfl))⟩, ?_⟩
     refine ⟨.inl ⟨by kernel_rfl, (s_index (k := .i64) (d := tt24) (e := 72) (de := tt72) (enc := eSy) hv5 tt_ok rfl (by kernel_rfl) (by kernel_rfl) (by kernel_rfl) (by kernel_rfl) len_eSy (by kernel_rfl) rfl)⟩, ?_⟩
     refine ⟨.inl ⟨by kernel_rfl, (nstep_ok tt_ok (by kernel_rfl))⟩, ?_⟩
     refine ⟨.inl ⟨by kernel_rfl, (nstep_ok tt_ok (by kernel_rfl))⟩, ?_⟩
     refine ⟨.inl ⟨by kernel_rfl, (nstep_ok tt_ok (by kernel_rfl))⟩, ?_⟩
     refine ⟨.inl ⟨by kernel_rfl, (nstep_ok tt_ok (by kernel_rfl))⟩, ?_⟩
     refine ⟨.inl ⟨by kernel_rfl, (s_index (k := .i64) (d := tt24) (e := 72) (de := tt72) (enc := eSy) hv6 tt_ok rfl (by kernel_rfl) (by kernel_rfl) (by kernel_rfl) (by kernel_rfl) len_eSy (by kernel_rfl) rfl)⟩, ?_⟩
     refine ⟨.inl ⟨by kernel_rfl, (nstep_ok tt_ok (by kernel_rfl))⟩, ?_⟩
     refine l_rk 0 tt_ok ⟨75, [(2, (.ref 1 0 0)), (3, (.ref 2 0 0)), (5, (fI (v4))), (49, (.fz (eSy (v5)))), (54, (.fz (eSy (v6))))], (synthesisref11_Same_m0 a0 a1), [2, 1]⟩ (by kernel_rfl) ?_
     refine l_step ((n_structeq (d := tt72) (xs := [(eS (v5.name)), (eI (v5.type))]) (ys := [(eS (v6.name)), (eI (v6.type))]) (r := ((v5.name.toList == v6.name.toList) && ((v5.type == v6.type) && true))) true tt_ok rfl (by kernel_rfl) rfl (by kernel_rfl) (by kernel_rfl) (by kernel_rfl) (by kernel_rfl) (by kernel_rfl) (by kernel_rfl)).step) (by kernel_rfl) (dst_of (by kernel_rfl)) ?_
     refine l_nil ?_
     rcases cond_some h with ⟨hb, h⟩ | ⟨hb, h⟩
     ·refine awp_cond_t (b := (!((v5.name.toList == v6.name.toList) && ((v5.type == v6.type) && true)))) (by kernel_rfl) hb ?_
      refine awp_seq ?_
      refine awp_region ?_
      refine l_rk 1 tt_ok ⟨75, [(4, (fB (false)))], [], []⟩ (by kernel_rfl) ?_
      refine l_nil ?_
      refine awp_ret ?_
      obtain rfl := Option.some.inj h
      exact And.intro (And.intro (fun h => nomatch h) (fun h => nomatch h)) (And.intro rfl (show retX _ _ _ _ = some _ from by kernel_rfl))
     ·refine awp_cond_f (b := (!((v5.name.toList == v6.name.toList) && ((v5.type == v6.type) && true)))) (by kernel_rfl) hb ?_
      refine awp_skip ?_
      refine awp_region ?_
      refine l_rk 3 tt_ok ⟨75, [(2, (.ref 1 0 0)), (3, (.ref 2 0 0)), (5, (fI ((w64 (v4 + 1)))))], (synthesisref11_Same_m0 a0 a1), [2, 1]⟩ (by kernel_rfl) ?_
      refine l_nil ?_
      obtain rfl := Option.some.inj h
      exact And.intro rfl (le_ck (by kernel_rfl))
    ·refine awp_cond_f (b := (decide (v4 < (List.length a0.symbols : Int)))) (by kernel_rfl) hb ?_
     refine awp_exit ?_
     obtain rfl := Option.some.inj h
     exact And.intro (And.intro (fun h => nomatch h) (fun h => nomatch h)) (And.intro rfl (le_ck (by kernel_rfl)))
   ·clear hj
    intro e st' hq
    rcases v7 with v8 | v16
    ·try simp only [Sum.elim_inl, Sum.elim_inr] at h
     obtain ⟨rfl, hle⟩ := hq
     refine ⟨_, hle, ?_⟩
     refine awp_seq ?_
     refine awp_seq ?_
     refine awp_region ?_
     refine l_rk 1 tt_ok ⟨75, [(2, (.ref 1 0 0)), (3, (.ref 2 0 0)), (6, (fI (0)))], (synthesisref11_Same_m0 a0 a1), [2, 1]⟩ (by kernel_rfl) ?_
     refine l_nil ?_
     refine awp_block ?_
     obtain ⟨v13, hj, h⟩ := Option.bind_eq_some_iff.1 h
     refine awp_join (Qa := fun e st => Sum.elim (fun p => e = .exit 2 ∧ LeSt st ⟨75, [], [], []⟩) (fun p => e = .ret ∧ retX TT st Try.f21.results.toList [.one .keep] = some (eB (p))) v13) ?_ ?_
     ·refine awp_loopS (stOf := fun v9 => ⟨75, [(2, (.ref 1 0 0)), (3, (.ref 2 0 0)), (6, (fI (v9)))], (synthesisref11_Same_m0 a0 a1), [2, 1]⟩) (Qb := fun j e st => Sum.elim (fun p => e = .exit 2 ∧ LeSt st ⟨75, [], [], []⟩) (fun p => e = .ret ∧ retX TT st Try.f21.results.toList [.one .keep] = some (eB (p))) j) hj (le_ck (by kernel_rfl)) ?_
      clear hj h
      intro v9 r h
      unfold synthesisref11_Same_l1 at h
      refine awp_seq ?_
      refine awp_seq ?_
      refine awp_region ?_
      refine l_rk 5 tt_ok ⟨75, [(2, (.ref 1 0 0)), (3, (.ref 2 0 0)), (6, (fI (v9))), (60, (fB ((decide (v9 < (List.length a0.rules : Int))))))], (synthesisref11_Same_m0 a0 a1), [2, 1]⟩ (by kernel_rfl) ?_
      refine l_nil ?_
      rcases cond_some h with ⟨hb, h⟩ | ⟨hb, h⟩
      ·refine awp_cond_t (b := (decide (v9 < (List.length a0.rules : Int)))) (by kernel_rfl) hb ?_
       refine awp_skip ?_
       refine awp_seq ?_
       refine awp_block ?_
       refine awp_seq ?_
       obtain ⟨v10, hv10, h⟩ := Option.bind_eq_some_iff.1 h
       obtain ⟨v11, hv11, h⟩ := Option.bind_eq_some_iff.1 h
       refine awp_drawn (by kernel_rfl) [(.ref 1 0 3), (.fz ((eL 9 eRu) (a0.rules))), (fI (v9)), (.fz (.fp [(eI (v10.symbol)), (eI (v10.kind)), (eI (v10.input)), (eI (v10.const.type)), (eI (v10.const.num)), (eS (v10.const.text)), ((eL 4 eVaR) (v10.const.items)), (eS (v10.op)), ((eL 1 eI) (v10.args))])), (.fz (eRu (v10))), (.ref 2 0 3), (.fz ((eL 9 eRu) (a1.rules))), (fI (v9)), (.fz (.fp [(eI (v11.symbol)), (eI (v11.kind)), (eI (v11.input)), (eI (v11.const.type)), (eI (v11.const.num)), (eS (v11.const.text)), ((eL 4 eVaR) (v11.const.items)), (eS (v11.op)), ((eL 1 eI) (v11.args))])), (.fz (eRu (v11)))] (by kernel_rfl) ?_
       refine ⟨.inl ⟨by kernel_rfl, (nstep_ok tt_ok (by kernel_rfl))⟩, ?_⟩
       refine ⟨.inl ⟨by kernel_rfl, (nstep_ok tt_ok (by kernel_rfl))⟩, ?_⟩
       refine ⟨.inl ⟨by kernel_rfl, (nstep_ok tt_ok (by kernel_rfl))⟩, ?_⟩
       refine ⟨.inl ⟨by kernel_rfl, (s_index (k := .i64) (d := tt25) (e := 67) (de := tt67) (enc := eRu) hv10 tt_ok rfl (by kernel_rfl) (by kernel_rfl) (by kernel_rfl) (by kernel_rfl) len_eRu (by kernel_rfl) rfl)⟩, ?_⟩
       refine ⟨.inl ⟨by kernel_rfl, (nstep_ok tt_ok (by kernel_rfl))⟩, ?_⟩
       refine ⟨.inl ⟨by kernel_rfl, (nstep_ok tt_ok (by kernel_rfl))⟩, ?_⟩
       refine ⟨.inl ⟨by kernel_rfl, (nstep_ok tt_ok (by kernel_rfl))⟩, ?_⟩
       refine ⟨.inl ⟨by kernel_rfl, (nstep_ok tt_ok (by kernel_rfl))⟩, ?_⟩
       refine ⟨.inl ⟨by kernel_rfl, (s_index (k := .i64) (d := tt25) (e := 67) (de := tt67) (enc := eRu) hv11 tt_ok rfl (by kernel_rfl) (by kernel_rfl) (by kernel_rfl) (by kernel_rfl) len_eRu (by kernel_rfl) rfl)⟩, ?_⟩
       refine ⟨.inl ⟨by kernel_rfl, (nstep_ok tt_ok (by kernel_rfl))⟩, ?_⟩
       refine l_rk 0 tt_ok ⟨75, [(2, (.ref 1 0 0)), (3, (.ref 2 0 0)), (6, (fI (v9))), (67, (.fz (eRu (v10)))), (72, (.fz (eRu (v11))))], (synthesisref11_Same_m0 a0 a1), [2, 1]⟩ (by kernel_rfl) ?_
       obtain ⟨v12, hv12, h⟩ := Option.bind_eq_some_iff.1 h
       refine l_step ((n_call (ys := [eRu (v10), eRu (v11)]) (cs := [(.one .keep), (.one .keep)]) rfl (by kernel_rfl) (synthesisref11_SameRule_ok (v10) (v11) _ hv12)).step) (by kernel_rfl) (dst_of (by kernel_rfl)) ?_
       refine l_rk 1 tt_ok ⟨75, [(2, (.ref 1 0 0)), (3, (.ref 2 0 0)), (6, (fI (v9))), (74, (fB ((!v12))))], (synthesisref11_Same_m0 a0 a1), [2, 1]⟩ (by kernel_rfl) ?_
       refine l_nil ?_
       rcases cond_some h with ⟨hb, h⟩ | ⟨hb, h⟩
       ·refine awp_cond_t (b := (!v12)) (by kernel_rfl) hb ?_
        refine awp_seq ?_
        refine awp_region ?_
        refine l_rk 1 tt_ok ⟨75, [(4, (fB (false)))], [], []⟩ (by kernel_rfl) ?_
        refine l_nil ?_
        refine awp_ret ?_
        obtain rfl := Option.some.inj h
        exact And.intro (And.intro (fun h => nomatch h) (fun h => nomatch h)) (And.intro rfl (show retX _ _ _ _ = some _ from by kernel_rfl))
       ·refine awp_cond_f (b := (!v12)) (by kernel_rfl) hb ?_
        refine awp_skip ?_
        refine awp_region ?_
        refine l_rk 3 tt_ok ⟨75, [(2, (.ref 1 0 0)), (3, (.ref 2 0 0)), (6, (fI ((w64 (v9 + 1)))))], (synthesisref11_Same_m0 a0 a1), [2, 1]⟩ (by kernel_rfl) ?_
        refine l_nil ?_
        obtain rfl := Option.some.inj h
        exact And.intro rfl (le_ck (by kernel_rfl))
      ·refine awp_cond_f (b := (decide (v9 < (List.length a0.rules : Int)))) (by kernel_rfl) hb ?_
       refine awp_exit ?_
       obtain rfl := Option.some.inj h
       exact And.intro (And.intro (fun h => nomatch h) (fun h => nomatch h)) (And.intro rfl (le_ck (by kernel_rfl)))
     ·clear hj
      intro e st' hq
      rcases v13 with v14 | v15
      ·try simp only [Sum.elim_inl, Sum.elim_inr] at h
       obtain ⟨rfl, hle⟩ := hq
       refine ⟨_, hle, ?_⟩
       refine awp_seq ?_
       refine awp_region ?_
       refine l_rk 1 tt_ok ⟨75, [(4, (fB (true)))], [], []⟩ (by kernel_rfl) ?_
       refine l_nil ?_
       refine awp_ret ?_
       obtain rfl := Option.some.inj h
       exact (show retX _ _ _ _ = some _ from by kernel_rfl)
      ·try simp only [Sum.elim_inl, Sum.elim_inr] at h
       obtain ⟨rfl, hret⟩ := hq
       refine ⟨_, LeSt.refl, ?_⟩
       obtain rfl := Option.some.inj h
       exact hret
    ·try simp only [Sum.elim_inl, Sum.elim_inr] at h
     obtain ⟨rfl, hret⟩ := hq
     refine ⟨_, LeSt.refl, ?_⟩
     obtain rfl := Option.some.inj h
     exact hret

def synthesisref16_Names  : Option (List ByteArray) := (some ([(⟨#[115, 116, 114, 105, 110, 103, 115]⟩ : ByteArray), (⟨#[112, 97, 116, 116, 101, 114, 110, 115]⟩ : ByteArray), (⟨#[108, 105, 115, 116, 115]⟩ : ByteArray), (⟨#[118, 101, 99, 116, 111, 114, 115]⟩ : ByteArray), (⟨#[116, 97, 98, 108, 101, 115]⟩ : ByteArray)] : List (ByteArray)))
theorem synthesisref16_Names_ok  (r : List ByteArray) (h : synthesisref16_Names  = some r) : PCall Try.prog 23 [] ((eL 1 eS) (r)) := by
 unfold synthesisref16_Names at h
 refine pcall_intro (T := TT) tt_ok [.one (.sl 1)] Try.func23 rfl (by kernel_rfl) (by kernel_rfl) ?_
 refine awp_le (st' := ⟨2, [], [], []⟩) (le_ck (by kernel_rfl)) ?_
 refine awp_seq ?_
 refine awp_region ?_
 refine l_rk 1 tt_ok ⟨2, [], [], []⟩ (by kernel_rfl) ?_
 refine l_nil ?_
 refine awp_seq ?_
 refine awp_region ?_
 refine l_rk 2 tt_ok ⟨2, [(0, (.lim 1 (List.length (([(⟨#[115, 116, 114, 105, 110, 103, 115]⟩ : ByteArray), (⟨#[112, 97, 116, 116, 101, 114, 110, 115]⟩ : ByteArray), (⟨#[108, 105, 115, 116, 115]⟩ : ByteArray), (⟨#[118, 101, 99, 116, 111, 114, 115]⟩ : ByteArray), (⟨#[116, 97, 98, 108, 101, 115]⟩ : ByteArray)] : List (ByteArray)))) (List.map eS (([(⟨#[115, 116, 114, 105, 110, 103, 115]⟩ : ByteArray), (⟨#[112, 97, 116, 116, 101, 114, 110, 115]⟩ : ByteArray), (⟨#[108, 105, 115, 116, 115]⟩ : ByteArray), (⟨#[118, 101, 99, 116, 111, 114, 115]⟩ : ByteArray), (⟨#[116, 97, 98, 108, 101, 115]⟩ : ByteArray)] : List (ByteArray))))))], [], []⟩ (by kernel_rfl) ?_
 refine l_nil ?_
 refine awp_ret ?_
 obtain rfl := Option.some.inj h
 exact (show retX _ _ _ _ = some _ from by kernel_rfl)
end Go.Proofs.Ytaeicmnimjfbaaa
