/- Typed programs and what computes them. -/
import Derived.Test.YtaeicmnimjfbaaaZ2
set_option linter.unusedVariables false
set_option linter.unusedSimpArgs false
set_option maxRecDepth 100000
namespace Go.Proofs.Ytaeicmnimjfbaaa
open Go Go.RowKit Go.Proofs
def languages_Vectors_m0 : List (Nat × AObj) := [(1, (.box 27 [(fS ((⟨#[]⟩ : ByteArray))), (.fz (.atom (.slice none 0 0))), (.fz (.atom (.slice none 0 0))), (.fz (.atom (.slice none 0 0)))])), (2, (.box 83 [(fS (((⟨#[118, 101, 99, 116, 111, 114, 115]⟩ : ByteArray)))), (.lim 1 (List.length (([(4)] : List (Int)))) (List.map eI (([(4)] : List (Int))))), (.fz ((eL 2 eSy) ((([(Sy.mk ((⟨#[98, 105, 116, 115]⟩ : ByteArray)) (4)), (Sy.mk ((⟨#[110, 117, 109, 98, 101, 114]⟩ : ByteArray)) (2))] : List (Sy)))))), (.row 3 (List.length (([] : List (Ru)))))])), (3, (.frow 67 9 (List.map eRu (([] : List (Ru))))))]
def languages_Vectors_m1 : List (Nat × AObj) := [(1, (.box 27 [(fS ((⟨#[]⟩ : ByteArray))), (.fz (.atom (.slice none 0 0))), (.fz (.atom (.slice none 0 0))), (.fz (.atom (.slice none 0 0)))]))]
def languages_Vectors_m2 (v1 : (Int) × (List Va)) : List (Nat × AObj) := [(1, (.box 27 [(fS ((⟨#[]⟩ : ByteArray))), (.fz (.atom (.slice none 0 0))), (.fz (.atom (.slice none 0 0))), (.fz (.atom (.slice none 0 0)))])), (2, (.frow 65 4 (List.map eVaR (v1.2))))]
def languages_Vectors_m3 (v6 : List Va) : List (Nat × AObj) := [(1, (.box 27 [(fS ((⟨#[]⟩ : ByteArray))), (.fz (.atom (.slice none 0 0))), (.fz (.atom (.slice none 0 0))), (.fz (.atom (.slice none 0 0)))])), (2, (.frow 65 4 (List.map eVaR (v6))))]
def languages_Vectors_l1 (a0 : List Int) (v1 : (Int) × (List Va)) : Option (((Int) × (List Va)) ⊕ ((List Va))) := (bif (decide (v1.1 < (List.length a0 : Int))) then (Option.bind (idx a0 v1.1) fun v2 => (Option.bind (value_OfBits (v2)) fun v3 => (Option.bind (app 56 v1.2 ([v3] : List (Va))) fun v4 => (some (.inl ((w64 (v1.1 + 1)), v4)))))) else (some (.inr (v1.2))))
def languages_Vectors (a0 : List Int) : Option ((La) × (Int)) := (Option.bind (loopN (languages_Vectors_l1 a0) fuel (0, ([] : List (Va)))) fun (v6 : (List Va)) => (Option.bind (languages_checked (v6)) fun v7 => (bif (v7 != 0) then (some ((La.mk ((⟨#[]⟩ : ByteArray)) (([] : List Int)) (([] : List Sy)) (([] : List Ru))), v7)) else (Option.bind (languages_begin_h ((⟨#[118, 101, 99, 116, 111, 114, 115]⟩ : ByteArray)) (4) (([(Sy.mk ((⟨#[98, 105, 116, 115]⟩ : ByteArray)) (4)), (Sy.mk ((⟨#[110, 117, 109, 98, 101, 114]⟩ : ByteArray)) (2))] : List (Sy)))) fun v8 => (Option.bind (languages_writer_input_h (((⟨#[118, 101, 99, 116, 111, 114, 115]⟩ : ByteArray))) (([(4)] : List (Int))) ((([(Sy.mk ((⟨#[98, 105, 116, 115]⟩ : ByteArray)) (4)), (Sy.mk ((⟨#[110, 117, 109, 98, 101, 114]⟩ : ByteArray)) (2))] : List (Sy)))) (([] : List (Ru))) (0)) fun v9 => (Option.bind (languages_writer_constants_h ((((⟨#[118, 101, 99, 116, 111, 114, 115]⟩ : ByteArray)))) ((([(4)] : List (Int)))) (((([(Sy.mk ((⟨#[98, 105, 116, 115]⟩ : ByteArray)) (4)), (Sy.mk ((⟨#[110, 117, 109, 98, 101, 114]⟩ : ByteArray)) (2))] : List (Sy))))) (v9) (0) (v6)) fun v10 => (Option.bind (languages_writer_ops_h (((((⟨#[118, 101, 99, 116, 111, 114, 115]⟩ : ByteArray))))) (((([(4)] : List (Int))))) ((((([(Sy.mk ((⟨#[98, 105, 116, 115]⟩ : ByteArray)) (4)), (Sy.mk ((⟨#[110, 117, 109, 98, 101, 114]⟩ : ByteArray)) (2))] : List (Sy)))))) (v10) (0) (([0, 0] : List (Int))) (([(⟨#[98, 97, 110, 100]⟩ : ByteArray), (⟨#[98, 111, 114]⟩ : ByteArray), (⟨#[98, 120, 111, 114]⟩ : ByteArray), (⟨#[98, 97, 100, 100]⟩ : ByteArray), (⟨#[98, 115, 117, 98]⟩ : ByteArray), (⟨#[98, 109, 117, 108]⟩ : ByteArray)] : List (ByteArray)))) fun v11 => (Option.bind (languages_writer_ops_h ((((((⟨#[118, 101, 99, 116, 111, 114, 115]⟩ : ByteArray)))))) ((((([(4)] : List (Int)))))) (((((([(Sy.mk ((⟨#[98, 105, 116, 115]⟩ : ByteArray)) (4)), (Sy.mk ((⟨#[110, 117, 109, 98, 101, 114]⟩ : ByteArray)) (2))] : List (Sy))))))) (v11) (0) (([0] : List (Int))) (([(⟨#[98, 110, 111, 116]⟩ : ByteArray)] : List (ByteArray)))) fun v12 => (Option.bind (languages_writer_ops_h (((((((⟨#[118, 101, 99, 116, 111, 114, 115]⟩ : ByteArray))))))) (((((([(4)] : List (Int))))))) ((((((([(Sy.mk ((⟨#[98, 105, 116, 115]⟩ : ByteArray)) (4)), (Sy.mk ((⟨#[110, 117, 109, 98, 101, 114]⟩ : ByteArray)) (2))] : List (Sy)))))))) (v12) (0) (([0, 1] : List (Int))) (([(⟨#[98, 108, 101, 102, 116]⟩ : ByteArray), (⟨#[98, 114, 105, 103, 104, 116]⟩ : ByteArray), (⟨#[98, 97, 114, 105, 116, 104]⟩ : ByteArray)] : List (ByteArray)))) fun v13 => (Option.bind (languages_integers (([1, 2, 4] : List (Int)))) fun v14 => (Option.bind (languages_writer_constants_h ((((((((⟨#[118, 101, 99, 116, 111, 114, 115]⟩ : ByteArray)))))))) ((((((([(4)] : List (Int)))))))) (((((((([(Sy.mk ((⟨#[98, 105, 116, 115]⟩ : ByteArray)) (4)), (Sy.mk ((⟨#[110, 117, 109, 98, 101, 114]⟩ : ByteArray)) (2))] : List (Sy))))))))) (v13) (1) (v14)) fun v15 => (Option.bind (languages_writer_ops_h (((((((((⟨#[118, 101, 99, 116, 111, 114, 115]⟩ : ByteArray))))))))) (((((((([(4)] : List (Int))))))))) ((((((((([(Sy.mk ((⟨#[98, 105, 116, 115]⟩ : ByteArray)) (4)), (Sy.mk ((⟨#[110, 117, 109, 98, 101, 114]⟩ : ByteArray)) (2))] : List (Sy)))))))))) (v15) (1) (([0] : List (Int))) (([(⟨#[111, 110, 101, 115]⟩ : ByteArray)] : List (ByteArray)))) fun v16 => (some ((La.mk ((((((((((⟨#[118, 101, 99, 116, 111, 114, 115]⟩ : ByteArray)))))))))) ((((((((([(4)] : List (Int)))))))))) (((((((((([(Sy.mk ((⟨#[98, 105, 116, 115]⟩ : ByteArray)) (4)), (Sy.mk ((⟨#[110, 117, 109, 98, 101, 114]⟩ : ByteArray)) (2))] : List (Sy))))))))))) (v16)), 0))))))))))))))
theorem languages_Vectors_ok (a0 : List Int) (r : (La) × (Int)) (h : languages_Vectors a0 = some r) : PCall Try.prog 30 [(eL 1 eI) a0] (.tup [eLa (r.1), eI (r.2)]) := by
 unfold languages_Vectors at h
 refine pcall_intro (T := TT) tt_ok [.ag [.keep, .sl 1, .sl 2, .sl 9], .one .keep] Try.func30 rfl (by kernel_rfl) (by kernel_rfl) ?_
 refine awp_le (st' := ⟨60, [(0, (.fz ((eL 1 eI) (a0))))], [], []⟩) (le_ck (by kernel_rfl)) ?_
 refine awp_seq ?_
 refine awp_region ?_
 refine l_rk 2 tt_ok ⟨60, [(0, (.fz ((eL 1 eI) (a0)))), (2, (.ref 1 0 0))], (languages_Vectors_m1), [1]⟩ (by kernel_rfl) ?_
 refine l_nil ?_
 refine awp_seq ?_
 refine awp_region ?_
 refine l_rk 1 tt_ok ⟨60, [(0, (.fz ((eL 1 eI) (a0)))), (2, (.ref 1 0 0)), (4, (.fz (.atom (.slice none 0 0))))], (languages_Vectors_m1), [1]⟩ (by kernel_rfl) ?_
 refine l_nil ?_
 refine awp_seq ?_
 refine awp_seq ?_
 refine awp_region ?_
 refine l_rk 3 tt_ok ⟨60, [(2, (.ref 1 0 0)), (4, (.fz (.atom (.slice none 0 0)))), (9, (.fz ((eL 1 eI) (a0)))), (10, (fI ((List.length a0 : Int)))), (11, (fI (0)))], (languages_Vectors_m1), [1]⟩ (by kernel_rfl) ?_
 refine l_nil ?_
 refine awp_block ?_
 refine awp_le (le_nilrow (e := 65) (size := 4) (t := 4) (id := 2) (by decide) (by kernel_rfl) (by kernel_rfl)) ?_
 obtain ⟨v6, hj, h⟩ := Option.bind_eq_some_iff.1 h
 refine awp_join (Qa := fun e st => e = .exit 0 ∧ LeSt st ⟨60, [(2, (.ref 1 0 0)), (4, (.row 2 (List.length (v6))))], (languages_Vectors_m3 v6), [2, 1]⟩) ?_ ?_
 ·refine awp_loopS (stOf := fun v1 => ⟨60, [(2, (.ref 1 0 0)), (4, (.row 2 (List.length (v1.2)))), (9, (.fz ((eL 1 eI) (a0)))), (10, (fI ((List.length a0 : Int)))), (11, (fI (v1.1)))], (languages_Vectors_m2 v1), [2, 1]⟩) (Qb := fun j e st => e = .exit 0 ∧ LeSt st ⟨60, [(2, (.ref 1 0 0)), (4, (.row 2 (List.length (j))))], [(1, (.box 27 [(fS ((⟨#[]⟩ : ByteArray))), (.fz (.atom (.slice none 0 0))), (.fz (.atom (.slice none 0 0))), (.fz (.atom (.slice none 0 0)))])), (2, (.frow 65 4 (List.map eVaR (j))))], [2, 1]⟩) hj (le_ck (by kernel_rfl)) ?_
  clear hj h
  intro v1 r h
  unfold languages_Vectors_l1 at h
  refine awp_seq ?_
  refine awp_region ?_
  refine l_rk 1 tt_ok ⟨60, [(2, (.ref 1 0 0)), (4, (.row 2 (List.length (v1.2)))), (9, (.fz ((eL 1 eI) (a0)))), (10, (fI ((List.length a0 : Int)))), (11, (fI (v1.1))), (12, (fB ((decide (v1.1 < (List.length a0 : Int))))))], (languages_Vectors_m2 v1), [2, 1]⟩ (by kernel_rfl) ?_
  refine l_nil ?_
  refine awp_seq ?_
  rcases cond_some h with ⟨hb, h⟩ | ⟨hb, h⟩
  ·refine awp_cond_t (b := (decide (v1.1 < (List.length a0 : Int)))) (by kernel_rfl) hb ?_
   refine awp_skip ?_
   refine awp_seq ?_
   refine awp_block ?_
   refine awp_seq ?_
   refine awp_region ?_
   obtain ⟨v2, hv2, h⟩ := Option.bind_eq_some_iff.1 h
   refine l_step ((s_index (k := .i64) (d := tt35) (e := 2) (de := tt2) (enc := eI) hv2 tt_ok rfl (by kernel_rfl) (by kernel_rfl) (by kernel_rfl) (by kernel_rfl) len_eI (by kernel_rfl) rfl).step) (by kernel_rfl) (dst_of (by kernel_rfl)) ?_
   refine l_rk 2 tt_ok ⟨60, [(2, (.ref 1 0 0)), (4, (.row 2 (List.length (v1.2)))), (6, (fI (v2))), (9, (.fz ((eL 1 eI) (a0)))), (10, (fI ((List.length a0 : Int)))), (11, (fI (v1.1)))], (languages_Vectors_m2 v1), [2, 1]⟩ (by kernel_rfl) ?_
   refine l_nil ?_
   refine awp_region ?_
   refine l_rk 2 tt_ok ⟨60, [(2, (.ref 1 0 0)), (9, (.fz ((eL 1 eI) (a0)))), (10, (fI ((List.length a0 : Int)))), (11, (fI (v1.1))), (15, (.row 2 (List.length (v1.2)))), (16, (fI (v2)))], (languages_Vectors_m2 v1), [2, 1]⟩ (by kernel_rfl) ?_
   obtain ⟨v3, hv3, h⟩ := Option.bind_eq_some_iff.1 h
   refine l_step ((n_call (ys := [eI (v2)]) (cs := [(.one (.keep))]) rfl (by kernel_rfl) (value_OfBits_ok (v2) _ hv3)).step) (by kernel_rfl) (dst_of (by kernel_rfl)) ?_
   refine l_step (xstep_ok (c := .lim 4 1 [eVa (v3)]) (h := [(1, (.box 27 [(fS ((⟨#[]⟩ : ByteArray))), (.fz (.atom (.slice none 0 0))), (.fz (.atom (.slice none 0 0))), (.fz (.atom (.slice none 0 0)))])), (2, (.frow 65 4 (List.map eVaR (v1.2))))]) (i := [2, 1]) tt_ok (by kernel_rfl)) (by kernel_rfl) (dst_of (by kernel_rfl)) ?_
   refine l_le (le_eq (t := 18) (x := .lim 4 1 [eVa (v3)]) (y := .lim 4 1 (List.map eVaR ([v3] : List (Va)))) (by kernel_rfl) (by simp only [List.map, eVaR_eq])) ?_
   obtain ⟨v4, hv4, h⟩ := Option.bind_eq_some_iff.1 h
   refine l_step (s_append (d := tt63) (e := 65) (de := tt65) (enc := eVaR) (xs := v1.2) (ys := ([v3] : List (Va))) (m := List.length ([v3] : List (Va))) (id := 2) (n := List.length (v1.2)) hv4 tt_ok rfl (by kernel_rfl) (by kernel_rfl) (by kernel_rfl) (by kernel_rfl) (by kernel_rfl) (by kernel_rfl) (by kernel_rfl) (by kernel_rfl) rfl (.inr (by kernel_rfl))) (by kernel_rfl) (dst_of (by kernel_rfl)) ?_
   refine l_rk 1 tt_ok ⟨60, [(2, (.ref 1 0 0)), (4, (.row 2 (List.length (v4)))), (9, (.fz ((eL 1 eI) (a0)))), (10, (fI ((List.length a0 : Int)))), (11, (fI (v1.1)))], [(1, (.box 27 [(fS ((⟨#[]⟩ : ByteArray))), (.fz (.atom (.slice none 0 0))), (.fz (.atom (.slice none 0 0))), (.fz (.atom (.slice none 0 0)))])), (2, (.frow 65 4 (List.map eVaR (v4))))], [2, 1]⟩ (by kernel_rfl) ?_
   refine l_nil ?_
   refine awp_region ?_
   refine l_rk 2 tt_ok ⟨60, [(2, (.ref 1 0 0)), (4, (.row 2 (List.length (v4)))), (9, (.fz ((eL 1 eI) (a0)))), (10, (fI ((List.length a0 : Int)))), (11, (fI ((w64 (v1.1 + 1)))))], [(1, (.box 27 [(fS ((⟨#[]⟩ : ByteArray))), (.fz (.atom (.slice none 0 0))), (.fz (.atom (.slice none 0 0))), (.fz (.atom (.slice none 0 0)))])), (2, (.frow 65 4 (List.map eVaR (v4))))], [2, 1]⟩ (by kernel_rfl) ?_
   refine l_nil ?_
   obtain rfl := Option.some.inj h
   exact And.intro rfl (le_ck (by kernel_rfl))
  ·refine awp_cond_f (b := (decide (v1.1 < (List.length a0 : Int)))) (by kernel_rfl) hb ?_
   refine awp_exit ?_
   obtain rfl := Option.some.inj h
   exact And.intro (And.intro (fun h => nomatch h) (fun h => nomatch h)) (And.intro rfl (le_ck (by kernel_rfl)))
 ·clear hj
  intro e st' hq
  obtain ⟨rfl, hle⟩ := hq
  refine ⟨_, hle, ?_⟩
  refine awp_seq ?_
  refine awp_seq ?_
  refine awp_region ?_
  refine l_rk 1 tt_ok ⟨60, [(2, (.ref 1 0 0)), (4, (.row 2 (List.length (v6)))), (21, (.row 2 (List.length (v6))))], (languages_Vectors_m3 v6), [2, 1]⟩ (by kernel_rfl) ?_
  refine l_le (le_freezeTs (id := 2) (n := List.length (v6)) (e := 65) (size := 4) (xs := List.map eVaR (v6)) [4, 21] ⟨by kernel_rfl, by kernel_rfl, trivial⟩ (by kernel_rfl) (by simp)) ?_
  obtain ⟨v7, hv7, h⟩ := Option.bind_eq_some_iff.1 h
  refine l_step ((n_call (ys := [(eL 4 eVaR) (v6)]) (cs := [(.one (.sl 4))]) rfl (by kernel_rfl) (languages_checked_ok (v6) _ hv7)).step) (by kernel_rfl) (dst_of (by kernel_rfl)) ?_
  refine l_rk 1 tt_ok ⟨60, [(2, (.ref 1 0 0)), (4, (.fz ((eL 4 eVaR) (v6)))), (7, (fI (v7)))], (languages_Vectors_m1), [1]⟩ (by kernel_rfl) ?_
  refine l_nil ?_
  refine awp_seq ?_
  refine awp_region ?_
  refine l_rk 2 tt_ok ⟨60, [(2, (.ref 1 0 0)), (4, (.fz ((eL 4 eVaR) (v6)))), (7, (fI (v7))), (24, (fB ((v7 != 0))))], (languages_Vectors_m1), [1]⟩ (by kernel_rfl) ?_
  refine l_nil ?_
  rcases cond_some h with ⟨hb, h⟩ | ⟨hb, h⟩
  ·refine awp_cond_t (b := (v7 != 0)) (by kernel_rfl) hb ?_
   refine awp_seq ?_
   refine awp_region ?_
   refine l_rk 4 tt_ok ⟨60, [(2, (.ref 1 0 0)), (3, (fI (v7)))], (languages_Vectors_m1), [1]⟩ (by kernel_rfl) ?_
   refine l_nil ?_
   refine awp_ret ?_
   obtain rfl := Option.some.inj h
   exact (show retX _ _ _ _ = some _ from by kernel_rfl)
  ·refine awp_cond_f (b := (v7 != 0)) (by kernel_rfl) hb ?_
   refine awp_skip ?_
   refine awp_seq ?_
   refine awp_region ?_
   refine l_rk 3 tt_ok ⟨60, [(2, (.ref 1 0 0)), (4, (.fz ((eL 4 eVaR) (v6)))), (29, (.lim 2 (List.length (([(Sy.mk ((⟨#[98, 105, 116, 115]⟩ : ByteArray)) (4)), (Sy.mk ((⟨#[110, 117, 109, 98, 101, 114]⟩ : ByteArray)) (2))] : List (Sy)))) (List.map eSy (([(Sy.mk ((⟨#[98, 105, 116, 115]⟩ : ByteArray)) (4)), (Sy.mk ((⟨#[110, 117, 109, 98, 101, 114]⟩ : ByteArray)) (2))] : List (Sy))))))], (languages_Vectors_m1), [1]⟩ (by kernel_rfl) ?_
   obtain ⟨v8, hv8, h⟩ := Option.bind_eq_some_iff.1 h
   refine l_step (h_step (f := 65) (cap := []) (cs := [.one .keep, .one .keep, (.one (.sl 2))]) (keys := []) [] [(1, 2), (2, 3)] rfl (by kernel_rfl) (languages_begin_h_ok ((⟨#[118, 101, 99, 116, 111, 114, 115]⟩ : ByteArray)) (4) (([(Sy.mk ((⟨#[98, 105, 116, 115]⟩ : ByteArray)) (4)), (Sy.mk ((⟨#[110, 117, 109, 98, 101, 114]⟩ : ByteArray)) (2))] : List (Sy))) _ hv8) (by kernel_rfl) (by kernel_rfl) (by kernel_rfl) (by kernel_rfl)) (by kernel_rfl) (dst_of (by kernel_rfl)) ?_
   refine l_rk 1 tt_ok ⟨60, [(2, (.ref 1 0 0)), (4, (.fz ((eL 4 eVaR) (v6)))), (8, (.ref 2 0 0))], (languages_Vectors_m0), [2, 3, 1]⟩ (by kernel_rfl) ?_
   refine l_nil ?_
   refine awp_seq ?_
   refine awp_region ?_
   refine l_rk 1 tt_ok ⟨60, [(2, (.ref 1 0 0)), (4, (.fz ((eL 4 eVaR) (v6)))), (8, (.ref 2 0 0)), (31, (.ref 2 0 0))], (languages_Vectors_m0), [2, 3, 1]⟩ (by kernel_rfl) ?_
   obtain ⟨v9, hv9, h⟩ := Option.bind_eq_some_iff.1 h
   refine l_le (le_co (ids := [2, 3, 1]) (ts := [(2, .one .keep), (4, .one .keep), (8, .one .keep), (31, .one .keep)]) (os := [(1, []), (2, [.keep, .sl 1]), (3, [])]) (by kernel_rfl) : LeSt _ ⟨60, [(2, (.ref 1 0 0)), (4, (.fz ((eL 4 eVaR) (v6)))), (8, (.ref 2 0 0)), (31, (.ref 2 0 0))], [(1, (.box 27 [(fS ((⟨#[]⟩ : ByteArray))), (.fz (.atom (.slice none 0 0))), (.fz (.atom (.slice none 0 0))), (.fz (.atom (.slice none 0 0)))])), (2, (.box 83 [(fS (((⟨#[118, 101, 99, 116, 111, 114, 115]⟩ : ByteArray)))), (.fz ((eL 1 eI) (([(4)] : List (Int))))), (.fz ((eL 2 eSy) ((([(Sy.mk ((⟨#[98, 105, 116, 115]⟩ : ByteArray)) (4)), (Sy.mk ((⟨#[110, 117, 109, 98, 101, 114]⟩ : ByteArray)) (2))] : List (Sy)))))), (.row 3 (List.length (([] : List (Ru)))))])), (3, (.frow 67 9 (List.map eRu (([] : List (Ru))))))], [2, 3, 1]⟩) ?_
   refine l_step (h_step (f := 66) (cap := []) (cs := [.one .keep, .one .keep]) (keys := [1, 2]) [(2, 1), (3, 2)] [(1, 2), (2, 3)] rfl (by kernel_rfl) (languages_writer_input_h_ok (((⟨#[118, 101, 99, 116, 111, 114, 115]⟩ : ByteArray))) (([(4)] : List (Int))) ((([(Sy.mk ((⟨#[98, 105, 116, 115]⟩ : ByteArray)) (4)), (Sy.mk ((⟨#[110, 117, 109, 98, 101, 114]⟩ : ByteArray)) (2))] : List (Sy)))) (([] : List (Ru))) (0) _ hv9) (by kernel_rfl) (by kernel_rfl) (by kernel_rfl) (by kernel_rfl)) (by kernel_rfl) (dst_of (by kernel_rfl)) ?_
   refine l_nil ?_
   refine awp_seq ?_
   refine awp_region ?_
   refine l_rk 2 tt_ok ⟨60, [(2, (.ref 1 0 0)), (8, (.ref 2 0 0)), (33, (.ref 2 0 0)), (34, (.fz ((eL 4 eVaR) (v6))))], [(1, (.box 27 [(fS ((⟨#[]⟩ : ByteArray))), (.fz (.atom (.slice none 0 0))), (.fz (.atom (.slice none 0 0))), (.fz (.atom (.slice none 0 0)))])), (2, (.box 83 [(fS ((((⟨#[118, 101, 99, 116, 111, 114, 115]⟩ : ByteArray))))), (.fz ((eL 1 eI) ((([(4)] : List (Int)))))), (.fz ((eL 2 eSy) (((([(Sy.mk ((⟨#[98, 105, 116, 115]⟩ : ByteArray)) (4)), (Sy.mk ((⟨#[110, 117, 109, 98, 101, 114]⟩ : ByteArray)) (2))] : List (Sy))))))), (.row 3 (List.length (v9)))])), (3, (.frow 67 9 (List.map eRu (v9))))], [2, 3, 1]⟩ (by kernel_rfl) ?_
   obtain ⟨v10, hv10, h⟩ := Option.bind_eq_some_iff.1 h
   refine l_step (h_step (f := 67) (cap := []) (cs := [.one .keep, .one .keep, .one .keep]) (keys := [1, 2]) [(2, 1), (3, 2)] [(1, 2), (2, 3)] rfl (by kernel_rfl) (languages_writer_constants_h_ok ((((⟨#[118, 101, 99, 116, 111, 114, 115]⟩ : ByteArray)))) ((([(4)] : List (Int)))) (((([(Sy.mk ((⟨#[98, 105, 116, 115]⟩ : ByteArray)) (4)), (Sy.mk ((⟨#[110, 117, 109, 98, 101, 114]⟩ : ByteArray)) (2))] : List (Sy))))) (v9) (0) (v6) _ hv10) (by kernel_rfl) (by kernel_rfl) (by kernel_rfl) (by kernel_rfl)) (by kernel_rfl) (dst_of (by kernel_rfl)) ?_
   refine l_nil ?_
   refine awp_seq ?_
   refine awp_region ?_
   refine l_rk 3 tt_ok ⟨60, [(2, (.ref 1 0 0)), (8, (.ref 2 0 0)), (36, (.ref 2 0 0)), (37, (.lim 1 (List.length (([0, 0] : List (Int)))) (List.map eI (([0, 0] : List (Int)))))), (38, (.lim 1 (List.length (([(⟨#[98, 97, 110, 100]⟩ : ByteArray), (⟨#[98, 111, 114]⟩ : ByteArray), (⟨#[98, 120, 111, 114]⟩ : ByteArray), (⟨#[98, 97, 100, 100]⟩ : ByteArray), (⟨#[98, 115, 117, 98]⟩ : ByteArray), (⟨#[98, 109, 117, 108]⟩ : ByteArray)] : List (ByteArray)))) (List.map eS (([(⟨#[98, 97, 110, 100]⟩ : ByteArray), (⟨#[98, 111, 114]⟩ : ByteArray), (⟨#[98, 120, 111, 114]⟩ : ByteArray), (⟨#[98, 97, 100, 100]⟩ : ByteArray), (⟨#[98, 115, 117, 98]⟩ : ByteArray), (⟨#[98, 109, 117, 108]⟩ : ByteArray)] : List (ByteArray))))))], [(1, (.box 27 [(fS ((⟨#[]⟩ : ByteArray))), (.fz (.atom (.slice none 0 0))), (.fz (.atom (.slice none 0 0))), (.fz (.atom (.slice none 0 0)))])), (2, (.box 83 [(fS (((((⟨#[118, 101, 99, 116, 111, 114, 115]⟩ : ByteArray)))))), (.fz ((eL 1 eI) (((([(4)] : List (Int))))))), (.fz ((eL 2 eSy) ((((([(Sy.mk ((⟨#[98, 105, 116, 115]⟩ : ByteArray)) (4)), (Sy.mk ((⟨#[110, 117, 109, 98, 101, 114]⟩ : ByteArray)) (2))] : List (Sy)))))))), (.row 3 (List.length (v10)))])), (3, (.frow 67 9 (List.map eRu (v10))))], [2, 3, 1]⟩ (by kernel_rfl) ?_
   obtain ⟨v11, hv11, h⟩ := Option.bind_eq_some_iff.1 h
   refine l_step (h_step (f := 68) (cap := []) (cs := [.one .keep, .one .keep, (.one (.sl 1)), (.one (.sl 1))]) (keys := [1, 2]) [(2, 1), (3, 2)] [(1, 2), (2, 3)] rfl (by kernel_rfl) (languages_writer_ops_h_ok (((((⟨#[118, 101, 99, 116, 111, 114, 115]⟩ : ByteArray))))) (((([(4)] : List (Int))))) ((((([(Sy.mk ((⟨#[98, 105, 116, 115]⟩ : ByteArray)) (4)), (Sy.mk ((⟨#[110, 117, 109, 98, 101, 114]⟩ : ByteArray)) (2))] : List (Sy)))))) (v10) (0) (([0, 0] : List (Int))) (([(⟨#[98, 97, 110, 100]⟩ : ByteArray), (⟨#[98, 111, 114]⟩ : ByteArray), (⟨#[98, 120, 111, 114]⟩ : ByteArray), (⟨#[98, 97, 100, 100]⟩ : ByteArray), (⟨#[98, 115, 117, 98]⟩ : ByteArray), (⟨#[98, 109, 117, 108]⟩ : ByteArray)] : List (ByteArray))) _ hv11) (by kernel_rfl) (by kernel_rfl) (by kernel_rfl) (by kernel_rfl)) (by kernel_rfl) (dst_of (by kernel_rfl)) ?_
   refine l_nil ?_
   refine awp_seq ?_
   refine awp_region ?_
   refine l_rk 3 tt_ok ⟨60, [(2, (.ref 1 0 0)), (8, (.ref 2 0 0)), (40, (.ref 2 0 0)), (41, (.lim 1 (List.length (([0] : List (Int)))) (List.map eI (([0] : List (Int)))))), (42, (.lim 1 (List.length (([(⟨#[98, 110, 111, 116]⟩ : ByteArray)] : List (ByteArray)))) (List.map eS (([(⟨#[98, 110, 111, 116]⟩ : ByteArray)] : List (ByteArray))))))], [(1, (.box 27 [(fS ((⟨#[]⟩ : ByteArray))), (.fz (.atom (.slice none 0 0))), (.fz (.atom (.slice none 0 0))), (.fz (.atom (.slice none 0 0)))])), (2, (.box 83 [(fS ((((((⟨#[118, 101, 99, 116, 111, 114, 115]⟩ : ByteArray))))))), (.fz ((eL 1 eI) ((((([(4)] : List (Int)))))))), (.fz ((eL 2 eSy) (((((([(Sy.mk ((⟨#[98, 105, 116, 115]⟩ : ByteArray)) (4)), (Sy.mk ((⟨#[110, 117, 109, 98, 101, 114]⟩ : ByteArray)) (2))] : List (Sy))))))))), (.row 3 (List.length (v11)))])), (3, (.frow 67 9 (List.map eRu (v11))))], [2, 3, 1]⟩ (by kernel_rfl) ?_
   obtain ⟨v12, hv12, h⟩ := Option.bind_eq_some_iff.1 h
   refine l_step (h_step (f := 68) (cap := []) (cs := [.one .keep, .one .keep, (.one (.sl 1)), (.one (.sl 1))]) (keys := [1, 2]) [(2, 1), (3, 2)] [(1, 2), (2, 3)] rfl (by kernel_rfl) (languages_writer_ops_h_ok ((((((⟨#[118, 101, 99, 116, 111, 114, 115]⟩ : ByteArray)))))) ((((([(4)] : List (Int)))))) (((((([(Sy.mk ((⟨#[98, 105, 116, 115]⟩ : ByteArray)) (4)), (Sy.mk ((⟨#[110, 117, 109, 98, 101, 114]⟩ : ByteArray)) (2))] : List (Sy))))))) (v11) (0) (([0] : List (Int))) (([(⟨#[98, 110, 111, 116]⟩ : ByteArray)] : List (ByteArray))) _ hv12) (by kernel_rfl) (by kernel_rfl) (by kernel_rfl) (by kernel_rfl)) (by kernel_rfl) (dst_of (by kernel_rfl)) ?_
   refine l_nil ?_
   refine awp_seq ?_
   refine awp_region ?_
   refine l_rk 3 tt_ok ⟨60, [(2, (.ref 1 0 0)), (8, (.ref 2 0 0)), (44, (.ref 2 0 0)), (45, (.lim 1 (List.length (([0, 1] : List (Int)))) (List.map eI (([0, 1] : List (Int)))))), (46, (.lim 1 (List.length (([(⟨#[98, 108, 101, 102, 116]⟩ : ByteArray), (⟨#[98, 114, 105, 103, 104, 116]⟩ : ByteArray), (⟨#[98, 97, 114, 105, 116, 104]⟩ : ByteArray)] : List (ByteArray)))) (List.map eS (([(⟨#[98, 108, 101, 102, 116]⟩ : ByteArray), (⟨#[98, 114, 105, 103, 104, 116]⟩ : ByteArray), (⟨#[98, 97, 114, 105, 116, 104]⟩ : ByteArray)] : List (ByteArray))))))], [(1, (.box 27 [(fS ((⟨#[]⟩ : ByteArray))), (.fz (.atom (.slice none 0 0))), (.fz (.atom (.slice none 0 0))), (.fz (.atom (.slice none 0 0)))])), (2, (.box 83 [(fS (((((((⟨#[118, 101, 99, 116, 111, 114, 115]⟩ : ByteArray)))))))), (.fz ((eL 1 eI) (((((([(4)] : List (Int))))))))), (.fz ((eL 2 eSy) ((((((([(Sy.mk ((⟨#[98, 105, 116, 115]⟩ : ByteArray)) (4)), (Sy.mk ((⟨#[110, 117, 109, 98, 101, 114]⟩ : ByteArray)) (2))] : List (Sy)))))))))), (.row 3 (List.length (v12)))])), (3, (.frow 67 9 (List.map eRu (v12))))], [2, 3, 1]⟩ (by kernel_rfl) ?_
   obtain ⟨v13, hv13, h⟩ := Option.bind_eq_some_iff.1 h
   refine l_step (h_step (f := 68) (cap := []) (cs := [.one .keep, .one .keep, (.one (.sl 1)), (.one (.sl 1))]) (keys := [1, 2]) [(2, 1), (3, 2)] [(1, 2), (2, 3)] rfl (by kernel_rfl) (languages_writer_ops_h_ok (((((((⟨#[118, 101, 99, 116, 111, 114, 115]⟩ : ByteArray))))))) (((((([(4)] : List (Int))))))) ((((((([(Sy.mk ((⟨#[98, 105, 116, 115]⟩ : ByteArray)) (4)), (Sy.mk ((⟨#[110, 117, 109, 98, 101, 114]⟩ : ByteArray)) (2))] : List (Sy)))))))) (v12) (0) (([0, 1] : List (Int))) (([(⟨#[98, 108, 101, 102, 116]⟩ : ByteArray), (⟨#[98, 114, 105, 103, 104, 116]⟩ : ByteArray), (⟨#[98, 97, 114, 105, 116, 104]⟩ : ByteArray)] : List (ByteArray))) _ hv13) (by kernel_rfl) (by kernel_rfl) (by kernel_rfl) (by kernel_rfl)) (by kernel_rfl) (dst_of (by kernel_rfl)) ?_
   refine l_nil ?_
   refine awp_seq ?_
   refine awp_region ?_
   refine l_rk 2 tt_ok ⟨60, [(2, (.ref 1 0 0)), (8, (.ref 2 0 0)), (48, (.ref 2 0 0)), (49, (.lim 1 (List.length (([1, 2, 4] : List (Int)))) (List.map eI (([1, 2, 4] : List (Int))))))], [(1, (.box 27 [(fS ((⟨#[]⟩ : ByteArray))), (.fz (.atom (.slice none 0 0))), (.fz (.atom (.slice none 0 0))), (.fz (.atom (.slice none 0 0)))])), (2, (.box 83 [(fS ((((((((⟨#[118, 101, 99, 116, 111, 114, 115]⟩ : ByteArray))))))))), (.fz ((eL 1 eI) ((((((([(4)] : List (Int)))))))))), (.fz ((eL 2 eSy) (((((((([(Sy.mk ((⟨#[98, 105, 116, 115]⟩ : ByteArray)) (4)), (Sy.mk ((⟨#[110, 117, 109, 98, 101, 114]⟩ : ByteArray)) (2))] : List (Sy))))))))))), (.row 3 (List.length (v13)))])), (3, (.frow 67 9 (List.map eRu (v13))))], [2, 3, 1]⟩ (by kernel_rfl) ?_
   obtain ⟨v14, hv14, h⟩ := Option.bind_eq_some_iff.1 h
   refine l_step ((n_call (ys := [(eL 1 eI) (([1, 2, 4] : List (Int)))]) (cs := [(.one (.sl 1))]) rfl (by kernel_rfl) (languages_integers_ok (([1, 2, 4] : List (Int))) _ hv14)).step) (by kernel_rfl) (dst_of (by kernel_rfl)) ?_
   obtain ⟨v15, hv15, h⟩ := Option.bind_eq_some_iff.1 h
   refine l_step (h_step (f := 67) (cap := []) (cs := [.one .keep, .one .keep, .one .keep]) (keys := [1, 2]) [(2, 1), (3, 2)] [(1, 2), (2, 3)] rfl (by kernel_rfl) (languages_writer_constants_h_ok ((((((((⟨#[118, 101, 99, 116, 111, 114, 115]⟩ : ByteArray)))))))) ((((((([(4)] : List (Int)))))))) (((((((([(Sy.mk ((⟨#[98, 105, 116, 115]⟩ : ByteArray)) (4)), (Sy.mk ((⟨#[110, 117, 109, 98, 101, 114]⟩ : ByteArray)) (2))] : List (Sy))))))))) (v13) (1) (v14) _ hv15) (by kernel_rfl) (by kernel_rfl) (by kernel_rfl) (by kernel_rfl)) (by kernel_rfl) (dst_of (by kernel_rfl)) ?_
   refine l_nil ?_
   refine awp_seq ?_
   refine awp_region ?_
   refine l_rk 3 tt_ok ⟨60, [(2, (.ref 1 0 0)), (8, (.ref 2 0 0)), (52, (.ref 2 0 0)), (53, (.lim 1 (List.length (([0] : List (Int)))) (List.map eI (([0] : List (Int)))))), (54, (.lim 1 (List.length (([(⟨#[111, 110, 101, 115]⟩ : ByteArray)] : List (ByteArray)))) (List.map eS (([(⟨#[111, 110, 101, 115]⟩ : ByteArray)] : List (ByteArray))))))], [(1, (.box 27 [(fS ((⟨#[]⟩ : ByteArray))), (.fz (.atom (.slice none 0 0))), (.fz (.atom (.slice none 0 0))), (.fz (.atom (.slice none 0 0)))])), (2, (.box 83 [(fS (((((((((⟨#[118, 101, 99, 116, 111, 114, 115]⟩ : ByteArray)))))))))), (.fz ((eL 1 eI) (((((((([(4)] : List (Int))))))))))), (.fz ((eL 2 eSy) ((((((((([(Sy.mk ((⟨#[98, 105, 116, 115]⟩ : ByteArray)) (4)), (Sy.mk ((⟨#[110, 117, 109, 98, 101, 114]⟩ : ByteArray)) (2))] : List (Sy)))))))))))), (.row 3 (List.length (v15)))])), (3, (.frow 67 9 (List.map eRu (v15))))], [2, 3, 1]⟩ (by kernel_rfl) ?_
   obtain ⟨v16, hv16, h⟩ := Option.bind_eq_some_iff.1 h
   refine l_step (h_step (f := 68) (cap := []) (cs := [.one .keep, .one .keep, (.one (.sl 1)), (.one (.sl 1))]) (keys := [1, 2]) [(2, 1), (3, 2)] [(1, 2), (2, 3)] rfl (by kernel_rfl) (languages_writer_ops_h_ok (((((((((⟨#[118, 101, 99, 116, 111, 114, 115]⟩ : ByteArray))))))))) (((((((([(4)] : List (Int))))))))) ((((((((([(Sy.mk ((⟨#[98, 105, 116, 115]⟩ : ByteArray)) (4)), (Sy.mk ((⟨#[110, 117, 109, 98, 101, 114]⟩ : ByteArray)) (2))] : List (Sy)))))))))) (v15) (1) (([0] : List (Int))) (([(⟨#[111, 110, 101, 115]⟩ : ByteArray)] : List (ByteArray))) _ hv16) (by kernel_rfl) (by kernel_rfl) (by kernel_rfl) (by kernel_rfl)) (by kernel_rfl) (dst_of (by kernel_rfl)) ?_
   refine l_nil ?_
   refine awp_seq ?_
   refine awp_region ?_
   refine l_rk 6 tt_ok ⟨60, [(2, (.ref 1 0 0)), (3, (fI (0)))], [(1, (.box 27 [(fS ((((((((((⟨#[118, 101, 99, 116, 111, 114, 115]⟩ : ByteArray))))))))))), (.fz ((eL 1 eI) ((((((((([(4)] : List (Int)))))))))))), (.fz ((eL 2 eSy) (((((((((([(Sy.mk ((⟨#[98, 105, 116, 115]⟩ : ByteArray)) (4)), (Sy.mk ((⟨#[110, 117, 109, 98, 101, 114]⟩ : ByteArray)) (2))] : List (Sy))))))))))))), (.row 3 (List.length (v16)))])), (3, (.frow 67 9 (List.map eRu (v16))))], [3, 1]⟩ (by kernel_rfl) ?_
   refine l_nil ?_
   refine awp_le (le_freezeCell (e2 := 27) (id2 := 1) (j := 3) (id := 3) (n := List.length (v16)) (e := 67) (size := 9) (xs := List.map eRu (v16)) (cells := [(fS ((((((((((⟨#[118, 101, 99, 116, 111, 114, 115]⟩ : ByteArray))))))))))), (.fz ((eL 1 eI) ((((((((([(4)] : List (Int)))))))))))), (.fz ((eL 2 eSy) (((((((((([(Sy.mk ((⟨#[98, 105, 116, 115]⟩ : ByteArray)) (4)), (Sy.mk ((⟨#[110, 117, 109, 98, 101, 114]⟩ : ByteArray)) (2))] : List (Sy))))))))))))), (.row 3 (List.length (v16)))]) (by kernel_rfl) (by kernel_rfl) (by kernel_rfl) (by simp)) ?_
   refine awp_ret ?_
   obtain rfl := Option.some.inj h
   exact (show retX _ _ _ _ = some _ from by kernel_rfl)

def languages_Reshaping_m0 : List (Nat × AObj) := [(1, (.box 27 [(fS ((⟨#[]⟩ : ByteArray))), (.fz (.atom (.slice none 0 0))), (.fz (.atom (.slice none 0 0))), (.fz (.atom (.slice none 0 0)))])), (2, (.box 83 [(fS (((⟨#[116, 97, 98, 108, 101, 115]⟩ : ByteArray)))), (.lim 1 (List.length (([(7)] : List (Int)))) (List.map eI (([(7)] : List (Int))))), (.fz ((eL 2 eSy) ((([(Sy.mk ((⟨#[116, 97, 98, 108, 101]⟩ : ByteArray)) (7)), (Sy.mk ((⟨#[110, 117, 109, 98, 101, 114]⟩ : ByteArray)) (2))] : List (Sy)))))), (.row 3 (List.length (([] : List (Ru)))))])), (3, (.frow 67 9 (List.map eRu (([] : List (Ru))))))]
def languages_Reshaping_m1 : List (Nat × AObj) := [(1, (.box 27 [(fS ((⟨#[]⟩ : ByteArray))), (.fz (.atom (.slice none 0 0))), (.fz (.atom (.slice none 0 0))), (.fz (.atom (.slice none 0 0)))]))]
def languages_Reshaping (a0 : List Int) : Option ((La) × (Int)) := (Option.bind (languages_integers (a0)) fun v1 => (Option.bind (languages_checked (v1)) fun v2 => (bif (v2 != 0) then (some ((La.mk ((⟨#[]⟩ : ByteArray)) (([] : List Int)) (([] : List Sy)) (([] : List Ru))), v2)) else (Option.bind (languages_begin_h ((⟨#[116, 97, 98, 108, 101, 115]⟩ : ByteArray)) (7) (([(Sy.mk ((⟨#[116, 97, 98, 108, 101]⟩ : ByteArray)) (7)), (Sy.mk ((⟨#[110, 117, 109, 98, 101, 114]⟩ : ByteArray)) (2))] : List (Sy)))) fun v3 => (Option.bind (languages_writer_input_h (((⟨#[116, 97, 98, 108, 101, 115]⟩ : ByteArray))) (([(7)] : List (Int))) ((([(Sy.mk ((⟨#[116, 97, 98, 108, 101]⟩ : ByteArray)) (7)), (Sy.mk ((⟨#[110, 117, 109, 98, 101, 114]⟩ : ByteArray)) (2))] : List (Sy)))) (([] : List (Ru))) (0)) fun v4 => (Option.bind (languages_writer_ops_h ((((⟨#[116, 97, 98, 108, 101, 115]⟩ : ByteArray)))) ((([(7)] : List (Int)))) (((([(Sy.mk ((⟨#[116, 97, 98, 108, 101]⟩ : ByteArray)) (7)), (Sy.mk ((⟨#[110, 117, 109, 98, 101, 114]⟩ : ByteArray)) (2))] : List (Sy))))) (v4) (0) (([0] : List (Int))) (([(⟨#[116, 114, 97, 110, 115, 112, 111, 115, 101]⟩ : ByteArray), (⟨#[102, 105, 108, 108]⟩ : ByteArray), (⟨#[112, 105, 118, 111, 116]⟩ : ByteArray)] : List (ByteArray)))) fun v5 => (Option.bind (languages_writer_ops_h (((((⟨#[116, 97, 98, 108, 101, 115]⟩ : ByteArray))))) (((([(7)] : List (Int))))) ((((([(Sy.mk ((⟨#[116, 97, 98, 108, 101]⟩ : ByteArray)) (7)), (Sy.mk ((⟨#[110, 117, 109, 98, 101, 114]⟩ : ByteArray)) (2))] : List (Sy)))))) (v5) (0) (([0, 1] : List (Int))) (([(⟨#[100, 114, 111, 112, 114, 111, 119]⟩ : ByteArray), (⟨#[100, 114, 111, 112, 99, 111, 108, 117, 109, 110]⟩ : ByteArray), (⟨#[115, 111, 114, 116, 116, 97, 98, 108, 101]⟩ : ByteArray), (⟨#[117, 110, 112, 105, 118, 111, 116]⟩ : ByteArray)] : List (ByteArray)))) fun v6 => (Option.bind (languages_writer_ops_h ((((((⟨#[116, 97, 98, 108, 101, 115]⟩ : ByteArray)))))) ((((([(7)] : List (Int)))))) (((((([(Sy.mk ((⟨#[116, 97, 98, 108, 101]⟩ : ByteArray)) (7)), (Sy.mk ((⟨#[110, 117, 109, 98, 101, 114]⟩ : ByteArray)) (2))] : List (Sy))))))) (v6) (0) (([0, 0] : List (Int))) (([(⟨#[115, 116, 97, 99, 107]⟩ : ByteArray), (⟨#[98, 101, 115, 105, 100, 101]⟩ : ByteArray)] : List (ByteArray)))) fun v7 => (Option.bind (languages_integers (a0)) fun v8 => (Option.bind (languages_writer_constants_h (((((((⟨#[116, 97, 98, 108, 101, 115]⟩ : ByteArray))))))) (((((([(7)] : List (Int))))))) ((((((([(Sy.mk ((⟨#[116, 97, 98, 108, 101]⟩ : ByteArray)) (7)), (Sy.mk ((⟨#[110, 117, 109, 98, 101, 114]⟩ : ByteArray)) (2))] : List (Sy)))))))) (v7) (1) (v8)) fun v9 => (some ((La.mk ((((((((⟨#[116, 97, 98, 108, 101, 115]⟩ : ByteArray)))))))) ((((((([(7)] : List (Int)))))))) (((((((([(Sy.mk ((⟨#[116, 97, 98, 108, 101]⟩ : ByteArray)) (7)), (Sy.mk ((⟨#[110, 117, 109, 98, 101, 114]⟩ : ByteArray)) (2))] : List (Sy))))))))) (v9)), 0))))))))))))
theorem languages_Reshaping_ok (a0 : List Int) (r : (La) × (Int)) (h : languages_Reshaping a0 = some r) : PCall Try.prog 32 [(eL 1 eI) a0] (.tup [eLa (r.1), eI (r.2)]) := by
 unfold languages_Reshaping at h
 refine pcall_intro (T := TT) tt_ok [.ag [.keep, .sl 1, .sl 2, .sl 9], .one .keep] Try.func32 rfl (by kernel_rfl) (by kernel_rfl) ?_
 refine awp_le (st' := ⟨39, [(0, (.fz ((eL 1 eI) (a0))))], [], []⟩) (le_ck (by kernel_rfl)) ?_
 refine awp_seq ?_
 refine awp_region ?_
 refine l_rk 2 tt_ok ⟨39, [(0, (.fz ((eL 1 eI) (a0)))), (2, (.ref 1 0 0))], (languages_Reshaping_m1), [1]⟩ (by kernel_rfl) ?_
 refine l_nil ?_
 refine awp_seq ?_
 refine awp_seq ?_
 refine awp_region ?_
 refine l_rk 1 tt_ok ⟨39, [(0, (.fz ((eL 1 eI) (a0)))), (2, (.ref 1 0 0)), (6, (.fz ((eL 1 eI) (a0))))], (languages_Reshaping_m1), [1]⟩ (by kernel_rfl) ?_
 obtain ⟨v1, hv1, h⟩ := Option.bind_eq_some_iff.1 h
 refine l_step ((n_call (ys := [(eL 1 eI) (a0)]) (cs := [(.one (.sl 1))]) rfl (by kernel_rfl) (languages_integers_ok (a0) _ hv1)).step) (by kernel_rfl) (dst_of (by kernel_rfl)) ?_
 obtain ⟨v2, hv2, h⟩ := Option.bind_eq_some_iff.1 h
 refine l_step ((n_call (ys := [(eL 4 eVaR) (v1)]) (cs := [(.one (.sl 4))]) rfl (by kernel_rfl) (languages_checked_ok (v1) _ hv2)).step) (by kernel_rfl) (dst_of (by kernel_rfl)) ?_
 refine l_rk 1 tt_ok ⟨39, [(0, (.fz ((eL 1 eI) (a0)))), (2, (.ref 1 0 0)), (4, (fI (v2)))], (languages_Reshaping_m1), [1]⟩ (by kernel_rfl) ?_
 refine l_nil ?_
 refine awp_seq ?_
 refine awp_region ?_
 refine l_rk 2 tt_ok ⟨39, [(0, (.fz ((eL 1 eI) (a0)))), (2, (.ref 1 0 0)), (4, (fI (v2))), (10, (fB ((v2 != 0))))], (languages_Reshaping_m1), [1]⟩ (by kernel_rfl) ?_
 refine l_nil ?_
 rcases cond_some h with ⟨hb, h⟩ | ⟨hb, h⟩
 ·refine awp_cond_t (b := (v2 != 0)) (by kernel_rfl) hb ?_
  refine awp_seq ?_
  refine awp_region ?_
  refine l_rk 4 tt_ok ⟨39, [(2, (.ref 1 0 0)), (3, (fI (v2)))], (languages_Reshaping_m1), [1]⟩ (by kernel_rfl) ?_
  refine l_nil ?_
  refine awp_ret ?_
  obtain rfl := Option.some.inj h
  exact (show retX _ _ _ _ = some _ from by kernel_rfl)
 ·refine awp_cond_f (b := (v2 != 0)) (by kernel_rfl) hb ?_
  refine awp_skip ?_
  refine awp_seq ?_
  refine awp_region ?_
  refine l_rk 3 tt_ok ⟨39, [(0, (.fz ((eL 1 eI) (a0)))), (2, (.ref 1 0 0)), (15, (.lim 2 (List.length (([(Sy.mk ((⟨#[116, 97, 98, 108, 101]⟩ : ByteArray)) (7)), (Sy.mk ((⟨#[110, 117, 109, 98, 101, 114]⟩ : ByteArray)) (2))] : List (Sy)))) (List.map eSy (([(Sy.mk ((⟨#[116, 97, 98, 108, 101]⟩ : ByteArray)) (7)), (Sy.mk ((⟨#[110, 117, 109, 98, 101, 114]⟩ : ByteArray)) (2))] : List (Sy))))))], (languages_Reshaping_m1), [1]⟩ (by kernel_rfl) ?_
  obtain ⟨v3, hv3, h⟩ := Option.bind_eq_some_iff.1 h
  refine l_step (h_step (f := 65) (cap := []) (cs := [.one .keep, .one .keep, (.one (.sl 2))]) (keys := []) [] [(1, 2), (2, 3)] rfl (by kernel_rfl) (languages_begin_h_ok ((⟨#[116, 97, 98, 108, 101, 115]⟩ : ByteArray)) (7) (([(Sy.mk ((⟨#[116, 97, 98, 108, 101]⟩ : ByteArray)) (7)), (Sy.mk ((⟨#[110, 117, 109, 98, 101, 114]⟩ : ByteArray)) (2))] : List (Sy))) _ hv3) (by kernel_rfl) (by kernel_rfl) (by kernel_rfl) (by kernel_rfl)) (by kernel_rfl) (dst_of (by kernel_rfl)) ?_
  refine l_rk 1 tt_ok ⟨39, [(0, (.fz ((eL 1 eI) (a0)))), (2, (.ref 1 0 0)), (5, (.ref 2 0 0))], (languages_Reshaping_m0), [2, 3, 1]⟩ (by kernel_rfl) ?_
  refine l_nil ?_
  refine awp_seq ?_
  refine awp_region ?_
  refine l_rk 1 tt_ok ⟨39, [(0, (.fz ((eL 1 eI) (a0)))), (2, (.ref 1 0 0)), (5, (.ref 2 0 0)), (17, (.ref 2 0 0))], (languages_Reshaping_m0), [2, 3, 1]⟩ (by kernel_rfl) ?_
  obtain ⟨v4, hv4, h⟩ := Option.bind_eq_some_iff.1 h
  refine l_le (le_co (ids := [2, 3, 1]) (ts := [(0, .one .keep), (2, .one .keep), (5, .one .keep), (17, .one .keep)]) (os := [(1, []), (2, [.keep, .sl 1]), (3, [])]) (by kernel_rfl) : LeSt _ ⟨39, [(0, (.fz ((eL 1 eI) (a0)))), (2, (.ref 1 0 0)), (5, (.ref 2 0 0)), (17, (.ref 2 0 0))], [(1, (.box 27 [(fS ((⟨#[]⟩ : ByteArray))), (.fz (.atom (.slice none 0 0))), (.fz (.atom (.slice none 0 0))), (.fz (.atom (.slice none 0 0)))])), (2, (.box 83 [(fS (((⟨#[116, 97, 98, 108, 101, 115]⟩ : ByteArray)))), (.fz ((eL 1 eI) (([(7)] : List (Int))))), (.fz ((eL 2 eSy) ((([(Sy.mk ((⟨#[116, 97, 98, 108, 101]⟩ : ByteArray)) (7)), (Sy.mk ((⟨#[110, 117, 109, 98, 101, 114]⟩ : ByteArray)) (2))] : List (Sy)))))), (.row 3 (List.length (([] : List (Ru)))))])), (3, (.frow 67 9 (List.map eRu (([] : List (Ru))))))], [2, 3, 1]⟩) ?_
  refine l_step (h_step (f := 66) (cap := []) (cs := [.one .keep, .one .keep]) (keys := [1, 2]) [(2, 1), (3, 2)] [(1, 2), (2, 3)] rfl (by kernel_rfl) (languages_writer_input_h_ok (((⟨#[116, 97, 98, 108, 101, 115]⟩ : ByteArray))) (([(7)] : List (Int))) ((([(Sy.mk ((⟨#[116, 97, 98, 108, 101]⟩ : ByteArray)) (7)), (Sy.mk ((⟨#[110, 117, 109, 98, 101, 114]⟩ : ByteArray)) (2))] : List (Sy)))) (([] : List (Ru))) (0) _ hv4) (by kernel_rfl) (by kernel_rfl) (by kernel_rfl) (by kernel_rfl)) (by kernel_rfl) (dst_of (by kernel_rfl)) ?_
  refine l_nil ?_
  refine awp_seq ?_
  refine awp_region ?_
  refine l_rk 3 tt_ok ⟨39, [(0, (.fz ((eL 1 eI) (a0)))), (2, (.ref 1 0 0)), (5, (.ref 2 0 0)), (19, (.ref 2 0 0)), (20, (.lim 1 (List.length (([0] : List (Int)))) (List.map eI (([0] : List (Int)))))), (21, (.lim 1 (List.length (([(⟨#[116, 114, 97, 110, 115, 112, 111, 115, 101]⟩ : ByteArray), (⟨#[102, 105, 108, 108]⟩ : ByteArray), (⟨#[112, 105, 118, 111, 116]⟩ : ByteArray)] : List (ByteArray)))) (List.map eS (([(⟨#[116, 114, 97, 110, 115, 112, 111, 115, 101]⟩ : ByteArray), (⟨#[102, 105, 108, 108]⟩ : ByteArray), (⟨#[112, 105, 118, 111, 116]⟩ : ByteArray)] : List (ByteArray))))))], [(1, (.box 27 [(fS ((⟨#[]⟩ : ByteArray))), (.fz (.atom (.slice none 0 0))), (.fz (.atom (.slice none 0 0))), (.fz (.atom (.slice none 0 0)))])), (2, (.box 83 [(fS ((((⟨#[116, 97, 98, 108, 101, 115]⟩ : ByteArray))))), (.fz ((eL 1 eI) ((([(7)] : List (Int)))))), (.fz ((eL 2 eSy) (((([(Sy.mk ((⟨#[116, 97, 98, 108, 101]⟩ : ByteArray)) (7)), (Sy.mk ((⟨#[110, 117, 109, 98, 101, 114]⟩ : ByteArray)) (2))] : List (Sy))))))), (.row 3 (List.length (v4)))])), (3, (.frow 67 9 (List.map eRu (v4))))], [2, 3, 1]⟩ (by kernel_rfl) ?_
  obtain ⟨v5, hv5, h⟩ := Option.bind_eq_some_iff.1 h
  refine l_step (h_step (f := 68) (cap := []) (cs := [.one .keep, .one .keep, (.one (.sl 1)), (.one (.sl 1))]) (keys := [1, 2]) [(2, 1), (3, 2)] [(1, 2), (2, 3)] rfl (by kernel_rfl) (languages_writer_ops_h_ok ((((⟨#[116, 97, 98, 108, 101, 115]⟩ : ByteArray)))) ((([(7)] : List (Int)))) (((([(Sy.mk ((⟨#[116, 97, 98, 108, 101]⟩ : ByteArray)) (7)), (Sy.mk ((⟨#[110, 117, 109, 98, 101, 114]⟩ : ByteArray)) (2))] : List (Sy))))) (v4) (0) (([0] : List (Int))) (([(⟨#[116, 114, 97, 110, 115, 112, 111, 115, 101]⟩ : ByteArray), (⟨#[102, 105, 108, 108]⟩ : ByteArray), (⟨#[112, 105, 118, 111, 116]⟩ : ByteArray)] : List (ByteArray))) _ hv5) (by kernel_rfl) (by kernel_rfl) (by kernel_rfl) (by kernel_rfl)) (by kernel_rfl) (dst_of (by kernel_rfl)) ?_
  refine l_nil ?_
  refine awp_seq ?_
  refine awp_region ?_
  refine l_rk 3 tt_ok ⟨39, [(0, (.fz ((eL 1 eI) (a0)))), (2, (.ref 1 0 0)), (5, (.ref 2 0 0)), (23, (.ref 2 0 0)), (24, (.lim 1 (List.length (([0, 1] : List (Int)))) (List.map eI (([0, 1] : List (Int)))))), (25, (.lim 1 (List.length (([(⟨#[100, 114, 111, 112, 114, 111, 119]⟩ : ByteArray), (⟨#[100, 114, 111, 112, 99, 111, 108, 117, 109, 110]⟩ : ByteArray), (⟨#[115, 111, 114, 116, 116, 97, 98, 108, 101]⟩ : ByteArray), (⟨#[117, 110, 112, 105, 118, 111, 116]⟩ : ByteArray)] : List (ByteArray)))) (List.map eS (([(⟨#[100, 114, 111, 112, 114, 111, 119]⟩ : ByteArray), (⟨#[100, 114, 111, 112, 99, 111, 108, 117, 109, 110]⟩ : ByteArray), (⟨#[115, 111, 114, 116, 116, 97, 98, 108, 101]⟩ : ByteArray), (⟨#[117, 110, 112, 105, 118, 111, 116]⟩ : ByteArray)] : List (ByteArray))))))], [(1, (.box 27 [(fS ((⟨#[]⟩ : ByteArray))), (.fz (.atom (.slice none 0 0))), (.fz (.atom (.slice none 0 0))), (.fz (.atom (.slice none 0 0)))])), (2, (.box 83 [(fS (((((⟨#[116, 97, 98, 108, 101, 115]⟩ : ByteArray)))))), (.fz ((eL 1 eI) (((([(7)] : List (Int))))))), (.fz ((eL 2 eSy) ((((([(Sy.mk ((⟨#[116, 97, 98, 108, 101]⟩ : ByteArray)) (7)), (Sy.mk ((⟨#[110, 117, 109, 98, 101, 114]⟩ : ByteArray)) (2))] : List (Sy)))))))), (.row 3 (List.length (v5)))])), (3, (.frow 67 9 (List.map eRu (v5))))], [2, 3, 1]⟩ (by kernel_rfl) ?_
  obtain ⟨v6, hv6, h⟩ := Option.bind_eq_some_iff.1 h
  refine l_step (h_step (f := 68) (cap := []) (cs := [.one .keep, .one .keep, (.one (.sl 1)), (.one (.sl 1))]) (keys := [1, 2]) [(2, 1), (3, 2)] [(1, 2), (2, 3)] rfl (by kernel_rfl) (languages_writer_ops_h_ok (((((⟨#[116, 97, 98, 108, 101, 115]⟩ : ByteArray))))) (((([(7)] : List (Int))))) ((((([(Sy.mk ((⟨#[116, 97, 98, 108, 101]⟩ : ByteArray)) (7)), (Sy.mk ((⟨#[110, 117, 109, 98, 101, 114]⟩ : ByteArray)) (2))] : List (Sy)))))) (v5) (0) (([0, 1] : List (Int))) (([(⟨#[100, 114, 111, 112, 114, 111, 119]⟩ : ByteArray), (⟨#[100, 114, 111, 112, 99, 111, 108, 117, 109, 110]⟩ : ByteArray), (⟨#[115, 111, 114, 116, 116, 97, 98, 108, 101]⟩ : ByteArray), (⟨#[117, 110, 112, 105, 118, 111, 116]⟩ : ByteArray)] : List (ByteArray))) _ hv6) (by kernel_rfl) (by kernel_rfl) (by kernel_rfl) (by kernel_rfl)) (by kernel_rfl) (dst_of (by kernel_rfl)) ?_
  refine l_nil ?_
  refine awp_seq ?_
  refine awp_region ?_
  refine l_rk 3 tt_ok ⟨39, [(0, (.fz ((eL 1 eI) (a0)))), (2, (.ref 1 0 0)), (5, (.ref 2 0 0)), (27, (.ref 2 0 0)), (28, (.lim 1 (List.length (([0, 0] : List (Int)))) (List.map eI (([0, 0] : List (Int)))))), (29, (.lim 1 (List.length (([(⟨#[115, 116, 97, 99, 107]⟩ : ByteArray), (⟨#[98, 101, 115, 105, 100, 101]⟩ : ByteArray)] : List (ByteArray)))) (List.map eS (([(⟨#[115, 116, 97, 99, 107]⟩ : ByteArray), (⟨#[98, 101, 115, 105, 100, 101]⟩ : ByteArray)] : List (ByteArray))))))], [(1, (.box 27 [(fS ((⟨#[]⟩ : ByteArray))), (.fz (.atom (.slice none 0 0))), (.fz (.atom (.slice none 0 0))), (.fz (.atom (.slice none 0 0)))])), (2, (.box 83 [(fS ((((((⟨#[116, 97, 98, 108, 101, 115]⟩ : ByteArray))))))), (.fz ((eL 1 eI) ((((([(7)] : List (Int)))))))), (.fz ((eL 2 eSy) (((((([(Sy.mk ((⟨#[116, 97, 98, 108, 101]⟩ : ByteArray)) (7)), (Sy.mk ((⟨#[110, 117, 109, 98, 101, 114]⟩ : ByteArray)) (2))] : List (Sy))))))))), (.row 3 (List.length (v6)))])), (3, (.frow 67 9 (List.map eRu (v6))))], [2, 3, 1]⟩ (by kernel_rfl) ?_
  obtain ⟨v7, hv7, h⟩ := Option.bind_eq_some_iff.1 h
  refine l_step (h_step (f := 68) (cap := []) (cs := [.one .keep, .one .keep, (.one (.sl 1)), (.one (.sl 1))]) (keys := [1, 2]) [(2, 1), (3, 2)] [(1, 2), (2, 3)] rfl (by kernel_rfl) (languages_writer_ops_h_ok ((((((⟨#[116, 97, 98, 108, 101, 115]⟩ : ByteArray)))))) ((((([(7)] : List (Int)))))) (((((([(Sy.mk ((⟨#[116, 97, 98, 108, 101]⟩ : ByteArray)) (7)), (Sy.mk ((⟨#[110, 117, 109, 98, 101, 114]⟩ : ByteArray)) (2))] : List (Sy))))))) (v6) (0) (([0, 0] : List (Int))) (([(⟨#[115, 116, 97, 99, 107]⟩ : ByteArray), (⟨#[98, 101, 115, 105, 100, 101]⟩ : ByteArray)] : List (ByteArray))) _ hv7) (by kernel_rfl) (by kernel_rfl) (by kernel_rfl) (by kernel_rfl)) (by kernel_rfl) (dst_of (by kernel_rfl)) ?_
  refine l_nil ?_
  refine awp_seq ?_
  refine awp_region ?_
  refine l_rk 2 tt_ok ⟨39, [(2, (.ref 1 0 0)), (5, (.ref 2 0 0)), (31, (.ref 2 0 0)), (32, (.fz ((eL 1 eI) (a0))))], [(1, (.box 27 [(fS ((⟨#[]⟩ : ByteArray))), (.fz (.atom (.slice none 0 0))), (.fz (.atom (.slice none 0 0))), (.fz (.atom (.slice none 0 0)))])), (2, (.box 83 [(fS (((((((⟨#[116, 97, 98, 108, 101, 115]⟩ : ByteArray)))))))), (.fz ((eL 1 eI) (((((([(7)] : List (Int))))))))), (.fz ((eL 2 eSy) ((((((([(Sy.mk ((⟨#[116, 97, 98, 108, 101]⟩ : ByteArray)) (7)), (Sy.mk ((⟨#[110, 117, 109, 98, 101, 114]⟩ : ByteArray)) (2))] : List (Sy)))))))))), (.row 3 (List.length (v7)))])), (3, (.frow 67 9 (List.map eRu (v7))))], [2, 3, 1]⟩ (by kernel_rfl) ?_
  obtain ⟨v8, hv8, h⟩ := Option.bind_eq_some_iff.1 h
  refine l_step ((n_call (ys := [(eL 1 eI) (a0)]) (cs := [(.one (.sl 1))]) rfl (by kernel_rfl) (languages_integers_ok (a0) _ hv8)).step) (by kernel_rfl) (dst_of (by kernel_rfl)) ?_
  obtain ⟨v9, hv9, h⟩ := Option.bind_eq_some_iff.1 h
  refine l_step (h_step (f := 67) (cap := []) (cs := [.one .keep, .one .keep, .one .keep]) (keys := [1, 2]) [(2, 1), (3, 2)] [(1, 2), (2, 3)] rfl (by kernel_rfl) (languages_writer_constants_h_ok (((((((⟨#[116, 97, 98, 108, 101, 115]⟩ : ByteArray))))))) (((((([(7)] : List (Int))))))) ((((((([(Sy.mk ((⟨#[116, 97, 98, 108, 101]⟩ : ByteArray)) (7)), (Sy.mk ((⟨#[110, 117, 109, 98, 101, 114]⟩ : ByteArray)) (2))] : List (Sy)))))))) (v7) (1) (v8) _ hv9) (by kernel_rfl) (by kernel_rfl) (by kernel_rfl) (by kernel_rfl)) (by kernel_rfl) (dst_of (by kernel_rfl)) ?_
  refine l_nil ?_
  refine awp_seq ?_
  refine awp_region ?_
  refine l_rk 6 tt_ok ⟨39, [(2, (.ref 1 0 0)), (3, (fI (0)))], [(1, (.box 27 [(fS ((((((((⟨#[116, 97, 98, 108, 101, 115]⟩ : ByteArray))))))))), (.fz ((eL 1 eI) ((((((([(7)] : List (Int)))))))))), (.fz ((eL 2 eSy) (((((((([(Sy.mk ((⟨#[116, 97, 98, 108, 101]⟩ : ByteArray)) (7)), (Sy.mk ((⟨#[110, 117, 109, 98, 101, 114]⟩ : ByteArray)) (2))] : List (Sy))))))))))), (.row 3 (List.length (v9)))])), (3, (.frow 67 9 (List.map eRu (v9))))], [3, 1]⟩ (by kernel_rfl) ?_
  refine l_nil ?_
  refine awp_le (le_freezeCell (e2 := 27) (id2 := 1) (j := 3) (id := 3) (n := List.length (v9)) (e := 67) (size := 9) (xs := List.map eRu (v9)) (cells := [(fS ((((((((⟨#[116, 97, 98, 108, 101, 115]⟩ : ByteArray))))))))), (.fz ((eL 1 eI) ((((((([(7)] : List (Int)))))))))), (.fz ((eL 2 eSy) (((((((([(Sy.mk ((⟨#[116, 97, 98, 108, 101]⟩ : ByteArray)) (7)), (Sy.mk ((⟨#[110, 117, 109, 98, 101, 114]⟩ : ByteArray)) (2))] : List (Sy))))))))))), (.row 3 (List.length (v9)))]) (by kernel_rfl) (by kernel_rfl) (by kernel_rfl) (by simp)) ?_
  refine awp_ret ?_
  obtain rfl := Option.some.inj h
  exact (show retX _ _ _ _ = some _ from by kernel_rfl)

def languages_Get_m0 : List (Nat × AObj) := [(1, (.box 27 [(fS ((⟨#[]⟩ : ByteArray))), (.fz (.atom (.slice none 0 0))), (.fz (.atom (.slice none 0 0))), (.fz (.atom (.slice none 0 0)))]))]
def languages_Get (a0 : ByteArray) : Option ((La) × (Int)) := (bif (a0.toList == (⟨#[115, 116, 114, 105, 110, 103, 115]⟩ : ByteArray).toList) then (Option.bind (languages_Strings (([(⟨#[32]⟩ : ByteArray), (⟨#[45]⟩ : ByteArray), (⟨#[46]⟩ : ByteArray)] : List (ByteArray))) (([0, 1, (-1)] : List (Int)))) fun v1 => (some (v1.1, v1.2))) else (bif (a0.toList == (⟨#[112, 97, 116, 116, 101, 114, 110, 115]⟩ : ByteArray).toList) then (Option.bind (languages_Patterns ((⟨#[97, 98]⟩ : ByteArray))) fun v2 => (some (v2.1, v2.2))) else (bif (a0.toList == (⟨#[108, 105, 115, 116, 115]⟩ : ByteArray).toList) then (Option.bind (languages_Lists (([0, 1, 2] : List (Int)))) fun v3 => (some (v3.1, v3.2))) else (bif (a0.toList == (⟨#[118, 101, 99, 116, 111, 114, 115]⟩ : ByteArray).toList) then (Option.bind (languages_Vectors (([1, 15, 128] : List (Int)))) fun v4 => (some (v4.1, v4.2))) else (bif (a0.toList == (⟨#[116, 97, 98, 108, 101, 115]⟩ : ByteArray).toList) then (Option.bind (languages_Reshaping (([0, 1] : List (Int)))) fun v5 => (some (v5.1, v5.2))) else (some ((La.mk ((⟨#[]⟩ : ByteArray)) (([] : List Int)) (([] : List Sy)) (([] : List Ru))), 5)))))))
theorem languages_Get_ok (a0 : ByteArray) (r : (La) × (Int)) (h : languages_Get a0 = some r) : PCall Try.prog 19 [eS a0] (.tup [eLa (r.1), eI (r.2)]) := by
 unfold languages_Get at h
 refine pcall_intro (T := TT) tt_ok [.ag [.keep, .sl 1, .sl 2, .sl 9], .one .keep] Try.func19 rfl (by kernel_rfl) (by kernel_rfl) ?_
 refine awp_le (st' := ⟨36, [(0, (fS (a0)))], [], []⟩) (le_ck (by kernel_rfl)) ?_
 refine awp_seq ?_
 refine awp_region ?_
 refine l_rk 2 tt_ok ⟨36, [(0, (fS (a0))), (2, (.ref 1 0 0))], (languages_Get_m0), [1]⟩ (by kernel_rfl) ?_
 refine l_nil ?_
 refine awp_seq ?_
 refine awp_seq ?_
 refine awp_region ?_
 refine l_rk 1 tt_ok ⟨36, [(2, (.ref 1 0 0)), (4, (fS (a0)))], (languages_Get_m0), [1]⟩ (by kernel_rfl) ?_
 refine l_nil ?_
 refine awp_block ?_
 refine awp_seq ?_
 refine awp_region ?_
 refine l_rk 2 tt_ok ⟨36, [(2, (.ref 1 0 0)), (4, (fS (a0))), (5, (fB ((a0.toList == (⟨#[115, 116, 114, 105, 110, 103, 115]⟩ : ByteArray).toList))))], (languages_Get_m0), [1]⟩ (by kernel_rfl) ?_
 refine l_nil ?_
 rcases cond_some h with ⟨hb, h⟩ | ⟨hb, h⟩
 ·refine awp_cond_t (b := (a0.toList == (⟨#[115, 116, 114, 105, 110, 103, 115]⟩ : ByteArray).toList)) (by kernel_rfl) hb ?_
  refine awp_seq ?_
  refine awp_region ?_
  refine l_rk 2 tt_ok ⟨36, [(2, (.ref 1 0 0)), (7, (.lim 1 (List.length (([(⟨#[32]⟩ : ByteArray), (⟨#[45]⟩ : ByteArray), (⟨#[46]⟩ : ByteArray)] : List (ByteArray)))) (List.map eS (([(⟨#[32]⟩ : ByteArray), (⟨#[45]⟩ : ByteArray), (⟨#[46]⟩ : ByteArray)] : List (ByteArray)))))), (8, (.lim 1 (List.length (([0, 1, (-1)] : List (Int)))) (List.map eI (([0, 1, (-1)] : List (Int))))))], (languages_Get_m0), [1]⟩ (by kernel_rfl) ?_
  obtain ⟨v1, hv1, h⟩ := Option.bind_eq_some_iff.1 h
  refine l_step ((n_call (ys := [(eL 1 eS) (([(⟨#[32]⟩ : ByteArray), (⟨#[45]⟩ : ByteArray), (⟨#[46]⟩ : ByteArray)] : List (ByteArray))), (eL 1 eI) (([0, 1, (-1)] : List (Int)))]) (cs := [(.one (.sl 1)), (.one (.sl 1))]) rfl (by kernel_rfl) (languages_Strings_ok (([(⟨#[32]⟩ : ByteArray), (⟨#[45]⟩ : ByteArray), (⟨#[46]⟩ : ByteArray)] : List (ByteArray))) (([0, 1, (-1)] : List (Int))) _ hv1)).step) (by kernel_rfl) (dst_of (by kernel_rfl)) ?_
  refine l_rk 4 tt_ok ⟨36, [(2, (.ref 1 0 0)), (3, (fI (v1.2)))], [(1, (.box 27 [(fS (v1.1.name)), (.fz ((eL 1 eI) (v1.1.inputs))), (.fz ((eL 2 eSy) (v1.1.symbols))), (.fz ((eL 9 eRu) (v1.1.rules)))]))], [1]⟩ (by kernel_rfl) ?_
  refine l_nil ?_
  refine awp_ret ?_
  obtain rfl := Option.some.inj h
  exact (show retX _ _ _ _ = some _ from by kernel_rfl)
 ·refine awp_cond_f (b := (a0.toList == (⟨#[115, 116, 114, 105, 110, 103, 115]⟩ : ByteArray).toList)) (by kernel_rfl) hb ?_
  refine awp_seq ?_
  refine awp_region ?_
  refine l_rk 2 tt_ok ⟨36, [(2, (.ref 1 0 0)), (4, (fS (a0))), (12, (fB ((a0.toList == (⟨#[112, 97, 116, 116, 101, 114, 110, 115]⟩ : ByteArray).toList))))], (languages_Get_m0), [1]⟩ (by kernel_rfl) ?_
  refine l_nil ?_
  rcases cond_some h with ⟨hb, h⟩ | ⟨hb, h⟩
  ·refine awp_cond_t (b := (a0.toList == (⟨#[112, 97, 116, 116, 101, 114, 110, 115]⟩ : ByteArray).toList)) (by kernel_rfl) hb ?_
   refine awp_seq ?_
   refine awp_region ?_
   obtain ⟨v2, hv2, h⟩ := Option.bind_eq_some_iff.1 h
   refine l_step ((n_call (ys := [eS ((⟨#[97, 98]⟩ : ByteArray))]) (cs := [(.one (.keep))]) rfl (by kernel_rfl) (languages_Patterns_ok ((⟨#[97, 98]⟩ : ByteArray)) _ hv2)).step) (by kernel_rfl) (dst_of (by kernel_rfl)) ?_
   refine l_rk 4 tt_ok ⟨36, [(2, (.ref 1 0 0)), (3, (fI (v2.2)))], [(1, (.box 27 [(fS (v2.1.name)), (.fz ((eL 1 eI) (v2.1.inputs))), (.fz ((eL 2 eSy) (v2.1.symbols))), (.fz ((eL 9 eRu) (v2.1.rules)))]))], [1]⟩ (by kernel_rfl) ?_
   refine l_nil ?_
   refine awp_ret ?_
   obtain rfl := Option.some.inj h
   exact (show retX _ _ _ _ = some _ from by kernel_rfl)
  ·refine awp_cond_f (b := (a0.toList == (⟨#[112, 97, 116, 116, 101, 114, 110, 115]⟩ : ByteArray).toList)) (by kernel_rfl) hb ?_
   refine awp_seq ?_
   refine awp_region ?_
   refine l_rk 2 tt_ok ⟨36, [(2, (.ref 1 0 0)), (4, (fS (a0))), (17, (fB ((a0.toList == (⟨#[108, 105, 115, 116, 115]⟩ : ByteArray).toList))))], (languages_Get_m0), [1]⟩ (by kernel_rfl) ?_
   refine l_nil ?_
   rcases cond_some h with ⟨hb, h⟩ | ⟨hb, h⟩
   ·refine awp_cond_t (b := (a0.toList == (⟨#[108, 105, 115, 116, 115]⟩ : ByteArray).toList)) (by kernel_rfl) hb ?_
    refine awp_seq ?_
    refine awp_region ?_
    refine l_rk 1 tt_ok ⟨36, [(2, (.ref 1 0 0)), (19, (.lim 1 (List.length (([0, 1, 2] : List (Int)))) (List.map eI (([0, 1, 2] : List (Int))))))], (languages_Get_m0), [1]⟩ (by kernel_rfl) ?_
    obtain ⟨v3, hv3, h⟩ := Option.bind_eq_some_iff.1 h
    refine l_step ((n_call (ys := [(eL 1 eI) (([0, 1, 2] : List (Int)))]) (cs := [(.one (.sl 1))]) rfl (by kernel_rfl) (languages_Lists_ok (([0, 1, 2] : List (Int))) _ hv3)).step) (by kernel_rfl) (dst_of (by kernel_rfl)) ?_
    refine l_rk 4 tt_ok ⟨36, [(2, (.ref 1 0 0)), (3, (fI (v3.2)))], [(1, (.box 27 [(fS (v3.1.name)), (.fz ((eL 1 eI) (v3.1.inputs))), (.fz ((eL 2 eSy) (v3.1.symbols))), (.fz ((eL 9 eRu) (v3.1.rules)))]))], [1]⟩ (by kernel_rfl) ?_
    refine l_nil ?_
    refine awp_ret ?_
    obtain rfl := Option.some.inj h
    exact (show retX _ _ _ _ = some _ from by kernel_rfl)
   ·refine awp_cond_f (b := (a0.toList == (⟨#[108, 105, 115, 116, 115]⟩ : ByteArray).toList)) (by kernel_rfl) hb ?_
    refine awp_seq ?_
    refine awp_region ?_
    refine l_rk 2 tt_ok ⟨36, [(2, (.ref 1 0 0)), (4, (fS (a0))), (23, (fB ((a0.toList == (⟨#[118, 101, 99, 116, 111, 114, 115]⟩ : ByteArray).toList))))], (languages_Get_m0), [1]⟩ (by kernel_rfl) ?_
    refine l_nil ?_
    rcases cond_some h with ⟨hb, h⟩ | ⟨hb, h⟩
    ·refine awp_cond_t (b := (a0.toList == (⟨#[118, 101, 99, 116, 111, 114, 115]⟩ : ByteArray).toList)) (by kernel_rfl) hb ?_
     refine awp_seq ?_
     refine awp_region ?_
     refine l_rk 1 tt_ok ⟨36, [(2, (.ref 1 0 0)), (25, (.lim 1 (List.length (([1, 15, 128] : List (Int)))) (List.map eI (([1, 15, 128] : List (Int))))))], (languages_Get_m0), [1]⟩ (by kernel_rfl) ?_
     obtain ⟨v4, hv4, h⟩ := Option.bind_eq_some_iff.1 h
     refine l_step ((n_call (ys := [(eL 1 eI) (([1, 15, 128] : List (Int)))]) (cs := [(.one (.sl 1))]) rfl (by kernel_rfl) (languages_Vectors_ok (([1, 15, 128] : List (Int))) _ hv4)).step) (by kernel_rfl) (dst_of (by kernel_rfl)) ?_
     refine l_rk 4 tt_ok ⟨36, [(2, (.ref 1 0 0)), (3, (fI (v4.2)))], [(1, (.box 27 [(fS (v4.1.name)), (.fz ((eL 1 eI) (v4.1.inputs))), (.fz ((eL 2 eSy) (v4.1.symbols))), (.fz ((eL 9 eRu) (v4.1.rules)))]))], [1]⟩ (by kernel_rfl) ?_
     refine l_nil ?_
     refine awp_ret ?_
     obtain rfl := Option.some.inj h
     exact (show retX _ _ _ _ = some _ from by kernel_rfl)
    ·refine awp_cond_f (b := (a0.toList == (⟨#[118, 101, 99, 116, 111, 114, 115]⟩ : ByteArray).toList)) (by kernel_rfl) hb ?_
     refine awp_seq ?_
     refine awp_region ?_
     refine l_rk 2 tt_ok ⟨36, [(2, (.ref 1 0 0)), (29, (fB ((a0.toList == (⟨#[116, 97, 98, 108, 101, 115]⟩ : ByteArray).toList))))], (languages_Get_m0), [1]⟩ (by kernel_rfl) ?_
     refine l_nil ?_
     rcases cond_some h with ⟨hb, h⟩ | ⟨hb, h⟩
     ·refine awp_cond_t (b := (a0.toList == (⟨#[116, 97, 98, 108, 101, 115]⟩ : ByteArray).toList)) (by kernel_rfl) hb ?_
      refine awp_seq ?_
      refine awp_region ?_
      refine l_rk 1 tt_ok ⟨36, [(2, (.ref 1 0 0)), (31, (.lim 1 (List.length (([0, 1] : List (Int)))) (List.map eI (([0, 1] : List (Int))))))], (languages_Get_m0), [1]⟩ (by kernel_rfl) ?_
      obtain ⟨v5, hv5, h⟩ := Option.bind_eq_some_iff.1 h
      refine l_step ((n_call (ys := [(eL 1 eI) (([0, 1] : List (Int)))]) (cs := [(.one (.sl 1))]) rfl (by kernel_rfl) (languages_Reshaping_ok (([0, 1] : List (Int))) _ hv5)).step) (by kernel_rfl) (dst_of (by kernel_rfl)) ?_
      refine l_rk 4 tt_ok ⟨36, [(2, (.ref 1 0 0)), (3, (fI (v5.2)))], [(1, (.box 27 [(fS (v5.1.name)), (.fz ((eL 1 eI) (v5.1.inputs))), (.fz ((eL 2 eSy) (v5.1.symbols))), (.fz ((eL 9 eRu) (v5.1.rules)))]))], [1]⟩ (by kernel_rfl) ?_
      refine l_nil ?_
      refine awp_ret ?_
      obtain rfl := Option.some.inj h
      exact (show retX _ _ _ _ = some _ from by kernel_rfl)
     ·refine awp_cond_f (b := (a0.toList == (⟨#[116, 97, 98, 108, 101, 115]⟩ : ByteArray).toList)) (by kernel_rfl) hb ?_
      refine awp_skip ?_
      refine awp_seq ?_
      refine awp_region ?_
      refine l_rk 3 tt_ok ⟨36, [(2, (.ref 1 0 0)), (3, (fI (5)))], (languages_Get_m0), [1]⟩ (by kernel_rfl) ?_
      refine l_nil ?_
      refine awp_ret ?_
      obtain rfl := Option.some.inj h
      exact (show retX _ _ _ _ = some _ from by kernel_rfl)

def languages_Names  : Option (List ByteArray) := (some ([(⟨#[115, 116, 114, 105, 110, 103, 115]⟩ : ByteArray), (⟨#[112, 97, 116, 116, 101, 114, 110, 115]⟩ : ByteArray), (⟨#[108, 105, 115, 116, 115]⟩ : ByteArray), (⟨#[118, 101, 99, 116, 111, 114, 115]⟩ : ByteArray), (⟨#[116, 97, 98, 108, 101, 115]⟩ : ByteArray)] : List (ByteArray)))
theorem languages_Names_ok  (r : List ByteArray) (h : languages_Names  = some r) : PCall Try.prog 22 [] ((eL 1 eS) (r)) := by
 unfold languages_Names at h
 refine pcall_intro (T := TT) tt_ok [.one (.sl 1)] Try.func22 rfl (by kernel_rfl) (by kernel_rfl) ?_
 refine awp_le (st' := ⟨2, [], [], []⟩) (le_ck (by kernel_rfl)) ?_
 refine awp_seq ?_
 refine awp_region ?_
 refine l_rk 1 tt_ok ⟨2, [], [], []⟩ (by kernel_rfl) ?_
 refine l_nil ?_
 refine awp_seq ?_
 refine awp_region ?_
 refine l_rk 2 tt_ok ⟨2, [(0, (.lim 1 (List.length (([(⟨#[115, 116, 114, 105, 110, 103, 115]⟩ : ByteArray), (⟨#[112, 97, 116, 116, 101, 114, 110, 115]⟩ : ByteArray), (⟨#[108, 105, 115, 116, 115]⟩ : ByteArray), (⟨#[118, 101, 99, 116, 111, 114, 115]⟩ : ByteArray), (⟨#[116, 97, 98, 108, 101, 115]⟩ : ByteArray)] : List (ByteArray)))) (List.map eS (([(⟨#[115, 116, 114, 105, 110, 103, 115]⟩ : ByteArray), (⟨#[112, 97, 116, 116, 101, 114, 110, 115]⟩ : ByteArray), (⟨#[108, 105, 115, 116, 115]⟩ : ByteArray), (⟨#[118, 101, 99, 116, 111, 114, 115]⟩ : ByteArray), (⟨#[116, 97, 98, 108, 101, 115]⟩ : ByteArray)] : List (ByteArray))))))], [], []⟩ (by kernel_rfl) ?_
 refine l_nil ?_
 refine awp_ret ?_
 obtain rfl := Option.some.inj h
 exact (show retX _ _ _ _ = some _ from by kernel_rfl)

def synthesislaw16_alive  : Option (Bool) := (Option.bind (languages_Names ) fun v1 => (Option.bind (languages_Get ((⟨#[108, 105, 115, 116, 115]⟩ : ByteArray))) fun v2 => (Option.bind ((bif ((List.length v1 : Int) == 5) then (Option.bind (idx v1 0) fun v3 => (bif (v3.toList == (⟨#[115, 116, 114, 105, 110, 103, 115]⟩ : ByteArray).toList) then (bif (v2.2 == 0) then (bif (v2.1.name.toList == (⟨#[108, 105, 115, 116, 115]⟩ : ByteArray).toList) then (some (((List.length v2.1.rules : Int) == 24))) else (some (false))) else (some (false))) else (some (false)))) else (some (false))) : Option ((Bool))) fun (v5 : (Bool)) => (some v5))))
theorem synthesislaw16_alive_ok  (r : Bool) (h : synthesislaw16_alive  = some r) : PCall Try.prog 18 [] (eB (r)) := by
 unfold synthesislaw16_alive at h
 refine pcall_intro (T := TT) tt_ok [.one .keep] Try.func18 rfl (by kernel_rfl) (by kernel_rfl) ?_
 refine awp_le (st' := ⟨33, [], [], []⟩) (le_ck (by kernel_rfl)) ?_
 refine awp_seq ?_
 refine awp_region ?_
 refine l_rk 1 tt_ok ⟨33, [], [], []⟩ (by kernel_rfl) ?_
 refine l_nil ?_
 refine awp_seq ?_
 refine awp_region ?_
 obtain ⟨v1, hv1, h⟩ := Option.bind_eq_some_iff.1 h
 refine l_step ((n_call (ys := []) (cs := []) rfl (by kernel_rfl) (languages_Names_ok  _ hv1)).step) (by kernel_rfl) (dst_of (by kernel_rfl)) ?_
 refine l_rk 1 tt_ok ⟨33, [(1, (.fz ((eL 1 eS) (v1))))], [], []⟩ (by kernel_rfl) ?_
 refine l_nil ?_
 refine awp_seq ?_
 refine awp_region ?_
 obtain ⟨v2, hv2, h⟩ := Option.bind_eq_some_iff.1 h
 refine l_step ((n_call (ys := [eS ((⟨#[108, 105, 115, 116, 115]⟩ : ByteArray))]) (cs := [(.one (.keep))]) rfl (by kernel_rfl) (languages_Get_ok ((⟨#[108, 105, 115, 116, 115]⟩ : ByteArray)) _ hv2)).step) (by kernel_rfl) (dst_of (by kernel_rfl)) ?_
 refine l_rk 6 tt_ok ⟨33, [(1, (.fz ((eL 1 eS) (v1)))), (2, (.ref 1 0 0)), (3, (fI (v2.2)))], [(1, (.box 27 [(fS (v2.1.name)), (.fz ((eL 1 eI) (v2.1.inputs))), (.fz ((eL 2 eSy) (v2.1.symbols))), (.fz ((eL 9 eRu) (v2.1.rules)))]))], [1]⟩ (by kernel_rfl) ?_
 refine l_nil ?_
 refine awp_seq ?_
 obtain ⟨v5, hj, h⟩ := Option.bind_eq_some_iff.1 h
 refine awp_join (Qa := fun e st => e = .normal ∧ LeSt st ⟨33, [(0, (fB (v5)))], [], []⟩) ?_ ?_
 ·replace h := hj
  clear hj
  refine awp_region ?_
  refine l_rk 4 tt_ok ⟨33, [(1, (.fz ((eL 1 eS) (v1)))), (2, (.ref 1 0 0)), (3, (fI (v2.2))), (12, (fB (((List.length v1 : Int) == 5))))], [(1, (.box 27 [(fS (v2.1.name)), (.fz ((eL 1 eI) (v2.1.inputs))), (.fz ((eL 2 eSy) (v2.1.symbols))), (.fz ((eL 9 eRu) (v2.1.rules)))]))], [1]⟩ (by kernel_rfl) ?_
  rcases cond_some h with ⟨hb, h⟩ | ⟨hb, h⟩
  ·refine l_le (le_eq (t := 12) (x := .fz (eB ((List.length v1 : Int) == 5))) (y := .fz (eB true)) (by kernel_rfl) (congrArg (fun b => AV.fz (eB b)) hb)) ?_
   refine l_rk 1 tt_ok ⟨33, [(2, (.ref 1 0 0)), (3, (fI (v2.2))), (12, (fB (true))), (13, (.fz ((eL 1 eS) (v1))))], [(1, (.box 27 [(fS (v2.1.name)), (.fz ((eL 1 eI) (v2.1.inputs))), (.fz ((eL 2 eSy) (v2.1.symbols))), (.fz ((eL 9 eRu) (v2.1.rules)))]))], [1]⟩ (by kernel_rfl) ?_
   obtain ⟨v3, hv3, h⟩ := Option.bind_eq_some_iff.1 h
   refine l_step ((s_index (k := .i64) (d := tt32) (e := 9) (de := tt9) (enc := eS) hv3 tt_ok rfl (by kernel_rfl) (by kernel_rfl) (by kernel_rfl) (by kernel_rfl) len_eS (by kernel_rfl) rfl).step) (by kernel_rfl) (dst_of (by kernel_rfl)) ?_
   refine l_rk 4 tt_ok ⟨33, [(2, (.ref 1 0 0)), (3, (fI (v2.2))), (18, (fB ((v3.toList == (⟨#[115, 116, 114, 105, 110, 103, 115]⟩ : ByteArray).toList))))], [(1, (.box 27 [(fS (v2.1.name)), (.fz ((eL 1 eI) (v2.1.inputs))), (.fz ((eL 2 eSy) (v2.1.symbols))), (.fz ((eL 9 eRu) (v2.1.rules)))]))], [1]⟩ (by kernel_rfl) ?_
   rcases cond_some h with ⟨hb, h⟩ | ⟨hb, h⟩
   ·refine l_le (le_eq (t := 18) (x := .fz (eB (v3.toList == (⟨#[115, 116, 114, 105, 110, 103, 115]⟩ : ByteArray).toList))) (y := .fz (eB true)) (by kernel_rfl) (congrArg (fun b => AV.fz (eB b)) hb)) ?_
    refine l_rk 4 tt_ok ⟨33, [(2, (.ref 1 0 0)), (22, (fB ((v2.2 == 0))))], [(1, (.box 27 [(fS (v2.1.name)), (.fz ((eL 1 eI) (v2.1.inputs))), (.fz ((eL 2 eSy) (v2.1.symbols))), (.fz ((eL 9 eRu) (v2.1.rules)))]))], [1]⟩ (by kernel_rfl) ?_
    rcases cond_some h with ⟨hb, h⟩ | ⟨hb, h⟩
    ·refine l_le (le_eq (t := 22) (x := .fz (eB (v2.2 == 0))) (y := .fz (eB true)) (by kernel_rfl) (congrArg (fun b => AV.fz (eB b)) hb)) ?_
     refine l_rk 5 tt_ok ⟨33, [(2, (.ref 1 0 0)), (27, (fB ((v2.1.name.toList == (⟨#[108, 105, 115, 116, 115]⟩ : ByteArray).toList))))], [(1, (.box 27 [(fS (v2.1.name)), (.fz ((eL 1 eI) (v2.1.inputs))), (.fz ((eL 2 eSy) (v2.1.symbols))), (.fz ((eL 9 eRu) (v2.1.rules)))]))], [1]⟩ (by kernel_rfl) ?_
     rcases cond_some h with ⟨hb, h⟩ | ⟨hb, h⟩
     ·refine l_le (le_eq (t := 27) (x := .fz (eB (v2.1.name.toList == (⟨#[108, 105, 115, 116, 115]⟩ : ByteArray).toList))) (y := .fz (eB true)) (by kernel_rfl) (congrArg (fun b => AV.fz (eB b)) hb)) ?_
      refine l_rk 6 tt_ok ⟨33, [(0, (fB (((List.length v2.1.rules : Int) == 24))))], [], []⟩ (by kernel_rfl) ?_
      refine l_nil ?_
      obtain rfl := Option.some.inj h
      exact And.intro rfl (le_ck (by kernel_rfl))
     ·refine l_le (le_eq (t := 27) (x := .fz (eB (v2.1.name.toList == (⟨#[108, 105, 115, 116, 115]⟩ : ByteArray).toList))) (y := .fz (eB false)) (by kernel_rfl) (congrArg (fun b => AV.fz (eB b)) hb)) ?_
      refine l_rk 6 tt_ok ⟨33, [(0, (fB (false)))], [], []⟩ (by kernel_rfl) ?_
      refine l_nil ?_
      obtain rfl := Option.some.inj h
      exact And.intro rfl (le_ck (by kernel_rfl))
    ·refine l_le (le_eq (t := 22) (x := .fz (eB (v2.2 == 0))) (y := .fz (eB false)) (by kernel_rfl) (congrArg (fun b => AV.fz (eB b)) hb)) ?_
     refine l_rk 11 tt_ok ⟨33, [(0, (fB (false)))], [], []⟩ (by kernel_rfl) ?_
     refine l_nil ?_
     obtain rfl := Option.some.inj h
     exact And.intro rfl (le_ck (by kernel_rfl))
   ·refine l_le (le_eq (t := 18) (x := .fz (eB (v3.toList == (⟨#[115, 116, 114, 105, 110, 103, 115]⟩ : ByteArray).toList))) (y := .fz (eB false)) (by kernel_rfl) (congrArg (fun b => AV.fz (eB b)) hb)) ?_
    refine l_rk 15 tt_ok ⟨33, [(0, (fB (false)))], [], []⟩ (by kernel_rfl) ?_
    refine l_nil ?_
    obtain rfl := Option.some.inj h
    exact And.intro rfl (le_ck (by kernel_rfl))
  ·refine l_le (le_eq (t := 12) (x := .fz (eB ((List.length v1 : Int) == 5))) (y := .fz (eB false)) (by kernel_rfl) (congrArg (fun b => AV.fz (eB b)) hb)) ?_
   refine l_rk 21 tt_ok ⟨33, [(0, (fB (false)))], [], []⟩ (by kernel_rfl) ?_
   refine l_nil ?_
   obtain rfl := Option.some.inj h
   exact And.intro rfl (le_ck (by kernel_rfl))
 ·clear hj
  intro e st' hq
  obtain ⟨rfl, hle⟩ := hq
  refine ⟨_, hle, ?_⟩
  refine awp_ret ?_
  obtain rfl := Option.some.inj h
  exact (show retX _ _ _ _ = some _ from by kernel_rfl)

def synthesisref01_OfText (a0 : ByteArray) : Option (Va) := (some (Va.mk (3) (0) (a0) (([] : List Va))))
theorem synthesisref01_OfText_ok (a0 : ByteArray) (r : Va) (h : synthesisref01_OfText a0 = some r) : PCall Try.prog 69 [eS a0] (eVa (r)) := by
 unfold synthesisref01_OfText at h
 refine pcall_intro (T := TT) tt_ok [.ag [.keep, .keep, .keep, .sl 4]] Try.func69 rfl (by kernel_rfl) (by kernel_rfl) ?_
 refine awp_le (st' := ⟨5, [(0, (fS (a0)))], [], []⟩) (le_ck (by kernel_rfl)) ?_
 refine awp_seq ?_
 refine awp_region ?_
 refine l_rk 1 tt_ok ⟨5, [(0, (fS (a0))), (2, (.ref 1 0 0))], [(1, (.box 65 [(fI (0)), (fI (0)), (fS ((⟨#[]⟩ : ByteArray))), (.fz (.atom (.slice none 0 0)))]))], [1]⟩ (by kernel_rfl) ?_
 refine l_nil ?_
 refine awp_seq ?_
 refine awp_region ?_
 refine l_rk 3 tt_ok ⟨5, [(2, (.ref 1 0 0))], [(1, (.box 65 [(fI (3)), (fI (0)), (fS (a0)), (.fz (.atom (.slice none 0 0)))]))], [1]⟩ (by kernel_rfl) ?_
 refine l_nil ?_
 refine awp_ret ?_
 obtain rfl := Option.some.inj h
 exact (show retX _ _ _ _ = some _ from by kernel_rfl)

def synthesisref01_sign (a0 : Bool) : Option (Int) := (bif a0 then (some (-1)) else (some 1))
theorem synthesisref01_sign_ok (a0 : Bool) (r : Int) (h : synthesisref01_sign a0 = some r) : PCall Try.prog 185 [eB a0] (eI (r)) := by
 unfold synthesisref01_sign at h
 refine pcall_intro (T := TT) tt_ok [.one .keep] Try.func185 rfl (by kernel_rfl) (by kernel_rfl) ?_
 refine awp_le (st' := ⟨4, [(0, (fB (a0)))], [], []⟩) (le_ck (by kernel_rfl)) ?_
 refine awp_seq ?_
 refine awp_region ?_
 refine l_rk 1 tt_ok ⟨4, [(0, (fB (a0)))], [], []⟩ (by kernel_rfl) ?_
 refine l_nil ?_
 refine awp_seq ?_
 refine awp_seq ?_
 refine awp_region ?_
 refine l_rk 1 tt_ok ⟨4, [(3, (fB (a0)))], [], []⟩ (by kernel_rfl) ?_
 refine l_nil ?_
 rcases cond_some h with ⟨hb, h⟩ | ⟨hb, h⟩
 ·refine awp_cond_t (b := a0) (by kernel_rfl) hb ?_
  refine awp_seq ?_
  refine awp_region ?_
  refine l_rk 1 tt_ok ⟨4, [(2, (fI ((-1))))], [], []⟩ (by kernel_rfl) ?_
  refine l_nil ?_
  refine awp_ret ?_
  obtain rfl := Option.some.inj h
  exact (show retX _ _ _ _ = some _ from by kernel_rfl)
 ·refine awp_cond_f (b := a0) (by kernel_rfl) hb ?_
  refine awp_skip ?_
  refine awp_seq ?_
  refine awp_region ?_
  refine l_rk 1 tt_ok ⟨4, [(2, (fI (1)))], [], []⟩ (by kernel_rfl) ?_
  refine l_nil ?_
  refine awp_ret ?_
  obtain rfl := Option.some.inj h
  exact (show retX _ _ _ _ = some _ from by kernel_rfl)

def synthesisref01_Compare_m0 (a0 : Va) (a1 : Va) : List (Nat × AObj) := [(1, (.box 65 [(fI (a0.type)), (fI (a0.num)), (fS (a0.text)), (.fz ((eL 4 eVaR) (a0.items)))])), (2, (.box 65 [(fI (a1.type)), (fI (a1.num)), (fS (a1.text)), (.fz ((eL 4 eVaR) (a1.items)))]))]
def synthesisref01_Compare_b (r162 : (Va) → (Va) → Option (Int)) (r186 : (List Va) → (List Va) → Option (Int)) (a0 : Va) (a1 : Va) : Option (Int) := (bif (a0.type != a1.type) then (Option.bind (synthesisref01_sign ((decide (a0.type < a1.type)))) fun v1 => (some v1)) else (bif (a0.num != a1.num) then (Option.bind (synthesisref01_sign ((decide (a0.num < a1.num)))) fun v2 => (some v2)) else (bif (!(a0.text.toList == a1.text.toList)) then (Option.bind (synthesisref01_sign ((Op.bytesLess a0.text.toList a1.text.toList))) fun v3 => (some v3)) else (Option.bind (r186 (a0.items) (a1.items)) fun v4 => (some v4)))))
theorem synthesisref01_Compare_b_ok (r162 : (Va) → (Va) → Option (Int)) (r186 : (List Va) → (List Va) → Option (Int)) (ih162 : ∀ (x0 : Va) (x1 : Va) r, r162 x0 x1 = some r → PCall Try.prog 162 [eVa x0, eVa x1] (eI (r))) (ih186 : ∀ (x0 : List Va) (x1 : List Va) r, r186 x0 x1 = some r → PCall Try.prog 186 [(eL 4 eVaR) x0, (eL 4 eVaR) x1] (eI (r))) (a0 : Va) (a1 : Va) (r : Int) (h : synthesisref01_Compare_b r162 r186 a0 a1 = some r) : PCall Try.prog 162 [eVa a0, eVa a1] (eI (r)) := by
 unfold synthesisref01_Compare_b at h
 refine pcall_intro (T := TT) tt_ok [.one .keep] Try.func162 rfl (by kernel_rfl) (by kernel_rfl) ?_
 refine awp_le (st' := ⟨46, [(0, (.fz (eVa (a0)))), (1, (.fz (eVa (a1))))], [], []⟩) (le_ck (by kernel_rfl)) ?_
 refine awp_seq ?_
 refine awp_region ?_
 refine l_rk 3 tt_ok ⟨46, [(2, (.ref 1 0 0)), (3, (.ref 2 0 0))], (synthesisref01_Compare_m0 a0 a1), [2, 1]⟩ (by kernel_rfl) ?_
 refine l_nil ?_
 refine awp_seq ?_
 refine awp_block ?_
 refine awp_seq ?_
 refine awp_region ?_
 refine l_rk 6 tt_ok ⟨46, [(2, (.ref 1 0 0)), (3, (.ref 2 0 0)), (5, (fB ((a0.type != a1.type))))], (synthesisref01_Compare_m0 a0 a1), [2, 1]⟩ (by kernel_rfl) ?_
 refine l_nil ?_
 rcases cond_some h with ⟨hb, h⟩ | ⟨hb, h⟩
 ·refine awp_cond_t (b := (a0.type != a1.type)) (by kernel_rfl) hb ?_
  refine awp_seq ?_
  refine awp_region ?_
  refine l_rk 5 tt_ok ⟨46, [(15, (fB ((decide (a0.type < a1.type)))))], [], []⟩ (by kernel_rfl) ?_
  obtain ⟨v1, hv1, h⟩ := Option.bind_eq_some_iff.1 h
  refine l_step ((n_call (ys := [eB ((decide (a0.type < a1.type)))]) (cs := [(.one (.keep))]) rfl (by kernel_rfl) (synthesisref01_sign_ok ((decide (a0.type < a1.type))) _ hv1)).step) (by kernel_rfl) (dst_of (by kernel_rfl)) ?_
  refine l_rk 1 tt_ok ⟨46, [(4, (fI (v1)))], [], []⟩ (by kernel_rfl) ?_
  refine l_nil ?_
  refine awp_ret ?_
  obtain rfl := Option.some.inj h
  exact (show retX _ _ _ _ = some _ from by kernel_rfl)
 ·refine awp_cond_f (b := (a0.type != a1.type)) (by kernel_rfl) hb ?_
  refine awp_seq ?_
  refine awp_region ?_
  refine l_rk 6 tt_ok ⟨46, [(2, (.ref 1 0 0)), (3, (.ref 2 0 0)), (17, (fB ((a0.num != a1.num))))], (synthesisref01_Compare_m0 a0 a1), [2, 1]⟩ (by kernel_rfl) ?_
  refine l_nil ?_
  rcases cond_some h with ⟨hb, h⟩ | ⟨hb, h⟩
  ·refine awp_cond_t (b := (a0.num != a1.num)) (by kernel_rfl) hb ?_
   refine awp_seq ?_
   refine awp_region ?_
   refine l_rk 5 tt_ok ⟨46, [(27, (fB ((decide (a0.num < a1.num)))))], [], []⟩ (by kernel_rfl) ?_
   obtain ⟨v2, hv2, h⟩ := Option.bind_eq_some_iff.1 h
   refine l_step ((n_call (ys := [eB ((decide (a0.num < a1.num)))]) (cs := [(.one (.keep))]) rfl (by kernel_rfl) (synthesisref01_sign_ok ((decide (a0.num < a1.num))) _ hv2)).step) (by kernel_rfl) (dst_of (by kernel_rfl)) ?_
   refine l_rk 1 tt_ok ⟨46, [(4, (fI (v2)))], [], []⟩ (by kernel_rfl) ?_
   refine l_nil ?_
   refine awp_ret ?_
   obtain rfl := Option.some.inj h
   exact (show retX _ _ _ _ = some _ from by kernel_rfl)
  ·refine awp_cond_f (b := (a0.num != a1.num)) (by kernel_rfl) hb ?_
   refine awp_seq ?_
   refine awp_region ?_
   refine l_rk 6 tt_ok ⟨46, [(2, (.ref 1 0 0)), (3, (.ref 2 0 0)), (29, (fB ((!(a0.text.toList == a1.text.toList)))))], (synthesisref01_Compare_m0 a0 a1), [2, 1]⟩ (by kernel_rfl) ?_
   refine l_nil ?_
   rcases cond_some h with ⟨hb, h⟩ | ⟨hb, h⟩
   ·refine awp_cond_t (b := (!(a0.text.toList == a1.text.toList))) (by kernel_rfl) hb ?_
    refine awp_seq ?_
    refine awp_region ?_
    refine l_rk 5 tt_ok ⟨46, [(39, (fB ((Op.bytesLess a0.text.toList a1.text.toList))))], [], []⟩ (by kernel_rfl) ?_
    obtain ⟨v3, hv3, h⟩ := Option.bind_eq_some_iff.1 h
    refine l_step ((n_call (ys := [eB ((Op.bytesLess a0.text.toList a1.text.toList))]) (cs := [(.one (.keep))]) rfl (by kernel_rfl) (synthesisref01_sign_ok ((Op.bytesLess a0.text.toList a1.text.toList)) _ hv3)).step) (by kernel_rfl) (dst_of (by kernel_rfl)) ?_
    refine l_rk 1 tt_ok ⟨46, [(4, (fI (v3)))], [], []⟩ (by kernel_rfl) ?_
    refine l_nil ?_
    refine awp_ret ?_
    obtain rfl := Option.some.inj h
    exact (show retX _ _ _ _ = some _ from by kernel_rfl)
   ·refine awp_cond_f (b := (!(a0.text.toList == a1.text.toList))) (by kernel_rfl) hb ?_
    refine awp_skip ?_
    refine awp_seq ?_
    refine awp_region ?_
    refine l_rk 4 tt_ok ⟨46, [(42, (.fz ((eL 4 eVaR) (a0.items)))), (44, (.fz ((eL 4 eVaR) (a1.items))))], [], []⟩ (by kernel_rfl) ?_
    obtain ⟨v4, hv4, h⟩ := Option.bind_eq_some_iff.1 h
    refine l_step ((n_call (ys := [(eL 4 eVaR) (a0.items), (eL 4 eVaR) (a1.items)]) (cs := [(.one (.sl 4)), (.one (.sl 4))]) rfl (by kernel_rfl) (ih186 (a0.items) (a1.items) _ hv4)).step) (by kernel_rfl) (dst_of (by kernel_rfl)) ?_
    refine l_rk 1 tt_ok ⟨46, [(4, (fI (v4)))], [], []⟩ (by kernel_rfl) ?_
    refine l_nil ?_
    refine awp_ret ?_
    obtain rfl := Option.some.inj h
    exact (show retX _ _ _ _ = some _ from by kernel_rfl)
def synthesisref01_CompareAll_l1 (a0 : List Va) (a1 : List Va) (r162 : (Va) → (Va) → Option (Int)) (v1 : (Int)) : Option (((Int)) ⊕ (((Unit) ⊕ (Int)))) := (Option.bind ((bif (decide (v1 < (List.length a0 : Int))) then (some ((decide (v1 < (List.length a1 : Int))))) else (some (false))) : Option ((Bool))) fun (v3 : (Bool)) => (bif v3 then (Option.bind (idx a0 v1) fun v4 => (Option.bind (idx a1 v1) fun v5 => (Option.bind (r162 (v4) (v5)) fun v6 => (bif (v6 != 0) then (some (.inr (.inr v6))) else (some (.inl ((w64 (v1 + 1))))))))) else (some (.inr (.inl ())))))
def synthesisref01_CompareAll_b (r162 : (Va) → (Va) → Option (Int)) (r186 : (List Va) → (List Va) → Option (Int)) (a0 : List Va) (a1 : List Va) : Option (Int) := (Option.bind (loopN (synthesisref01_CompareAll_l1 a0 a1 r162) fuel (0)) fun (v7 : ((Unit) ⊕ (Int))) => Sum.elim (fun v8 => (bif ((List.length a0 : Int) == (List.length a1 : Int)) then (some 0) else (Option.bind (synthesisref01_sign ((decide ((List.length a0 : Int) < (List.length a1 : Int))))) fun v9 => (some v9)))) (fun v10 => (some v10)) v7)
theorem synthesisref01_CompareAll_b_ok (r162 : (Va) → (Va) → Option (Int)) (r186 : (List Va) → (List Va) → Option (Int)) (ih162 : ∀ (x0 : Va) (x1 : Va) r, r162 x0 x1 = some r → PCall Try.prog 162 [eVa x0, eVa x1] (eI (r))) (ih186 : ∀ (x0 : List Va) (x1 : List Va) r, r186 x0 x1 = some r → PCall Try.prog 186 [(eL 4 eVaR) x0, (eL 4 eVaR) x1] (eI (r))) (a0 : List Va) (a1 : List Va) (r : Int) (h : synthesisref01_CompareAll_b r162 r186 a0 a1 = some r) : PCall Try.prog 186 [(eL 4 eVaR) a0, (eL 4 eVaR) a1] (eI (r)) := by
 unfold synthesisref01_CompareAll_b at h
 refine pcall_intro (T := TT) tt_ok [.one .keep] Try.func186 rfl (by kernel_rfl) (by kernel_rfl) ?_
 refine awp_le (st' := ⟨42, [(0, (.fz ((eL 4 eVaR) (a0)))), (1, (.fz ((eL 4 eVaR) (a1))))], [], []⟩) (le_ck (by kernel_rfl)) ?_
 refine awp_seq ?_
 refine awp_region ?_
 refine l_rk 1 tt_ok ⟨42, [(0, (.fz ((eL 4 eVaR) (a0)))), (1, (.fz ((eL 4 eVaR) (a1))))], [], []⟩ (by kernel_rfl) ?_
 refine l_nil ?_
 refine awp_seq ?_
 refine awp_seq ?_
 refine awp_region ?_
 refine l_rk 1 tt_ok ⟨42, [(0, (.fz ((eL 4 eVaR) (a0)))), (1, (.fz ((eL 4 eVaR) (a1)))), (5, (fI (0)))], [], []⟩ (by kernel_rfl) ?_
 refine l_nil ?_
 refine awp_block ?_
 obtain ⟨v7, hj, h⟩ := Option.bind_eq_some_iff.1 h
 refine awp_join (Qa := fun e st => Sum.elim (fun p => e = .exit 0 ∧ LeSt st ⟨42, [(0, (.fz ((eL 4 eVaR) (a0)))), (1, (.fz ((eL 4 eVaR) (a1))))], [], []⟩) (fun p => e = .ret ∧ retX TT st Try.f186.results.toList [.one .keep] = some (eI (p))) v7) ?_ ?_
 ·refine awp_loopS (stOf := fun v1 => ⟨42, [(0, (.fz ((eL 4 eVaR) (a0)))), (1, (.fz ((eL 4 eVaR) (a1)))), (5, (fI (v1)))], [], []⟩) (Qb := fun j e st => Sum.elim (fun p => e = .exit 0 ∧ LeSt st ⟨42, [(0, (.fz ((eL 4 eVaR) (a0)))), (1, (.fz ((eL 4 eVaR) (a1))))], [], []⟩) (fun p => e = .ret ∧ retX TT st Try.f186.results.toList [.one .keep] = some (eI (p))) j) hj (le_ck (by kernel_rfl)) ?_
  clear hj h
  intro v1 r h
  unfold synthesisref01_CompareAll_l1 at h
  refine awp_seq ?_
  refine awp_seq ?_
  obtain ⟨v3, hj, h⟩ := Option.bind_eq_some_iff.1 h
  refine awp_join (Qa := fun e st => e = .normal ∧ LeSt st ⟨42, [(0, (.fz ((eL 4 eVaR) (a0)))), (1, (.fz ((eL 4 eVaR) (a1)))), (5, (fI (v1))), (16, (fB (v3)))], [], []⟩) ?_ ?_
  ·replace h := hj
   clear hj
   refine awp_region ?_
   refine l_rk 5 tt_ok ⟨42, [(0, (.fz ((eL 4 eVaR) (a0)))), (1, (.fz ((eL 4 eVaR) (a1)))), (5, (fI (v1))), (11, (fB ((decide (v1 < (List.length a0 : Int))))))], [], []⟩ (by kernel_rfl) ?_
   rcases cond_some h with ⟨hb, h⟩ | ⟨hb, h⟩
   ·refine l_le (le_eq (t := 11) (x := .fz (eB (decide (v1 < (List.length a0 : Int))))) (y := .fz (eB true)) (by kernel_rfl) (congrArg (fun b => AV.fz (eB b)) hb)) ?_
    refine l_rk 5 tt_ok ⟨42, [(0, (.fz ((eL 4 eVaR) (a0)))), (1, (.fz ((eL 4 eVaR) (a1)))), (5, (fI (v1))), (16, (fB ((decide (v1 < (List.length a1 : Int))))))], [], []⟩ (by kernel_rfl) ?_
    refine l_nil ?_
    obtain rfl := Option.some.inj h
    exact And.intro rfl (le_ck (by kernel_rfl))
   ·refine l_le (le_eq (t := 11) (x := .fz (eB (decide (v1 < (List.length a0 : Int))))) (y := .fz (eB false)) (by kernel_rfl) (congrArg (fun b => AV.fz (eB b)) hb)) ?_
    refine l_rk 5 tt_ok ⟨42, [(0, (.fz ((eL 4 eVaR) (a0)))), (1, (.fz ((eL 4 eVaR) (a1)))), (5, (fI (v1))), (16, (fB (false)))], [], []⟩ (by kernel_rfl) ?_
    refine l_nil ?_
    obtain rfl := Option.some.inj h
    exact And.intro rfl (le_ck (by kernel_rfl))
  ·clear hj
   intro e st' hq
   obtain ⟨rfl, hle⟩ := hq
   refine ⟨_, hle, ?_⟩
   rcases cond_some h with ⟨hb, h⟩ | ⟨hb, h⟩
   ·refine awp_cond_t (b := v3) (by kernel_rfl) hb ?_
    refine awp_skip ?_
    refine awp_seq ?_
    refine awp_block ?_
    refine awp_seq ?_
    obtain ⟨v4, hv4, h⟩ := Option.bind_eq_some_iff.1 h
    obtain ⟨v5, hv5, h⟩ := Option.bind_eq_some_iff.1 h
    refine awp_drawn (by kernel_rfl) [(.fz ((eL 4 eVaR) (a0))), (fI (v1)), (.fz (.fp [(eI (v4.type)), (eI (v4.num)), (eS (v4.text)), ((eL 4 eVaR) (v4.items))])), (.fz (eVa (v4))), (.fz ((eL 4 eVaR) (a1))), (fI (v1)), (.fz (.fp [(eI (v5.type)), (eI (v5.num)), (eS (v5.text)), ((eL 4 eVaR) (v5.items))])), (.fz (eVa (v5)))] (by kernel_rfl) ?_
    refine ⟨.inl ⟨by kernel_rfl, (nstep_ok tt_ok (by kernel_rfl))⟩, ?_⟩
    refine ⟨.inl ⟨by kernel_rfl, (nstep_ok tt_ok (by kernel_rfl))⟩, ?_⟩
    refine ⟨.inl ⟨by kernel_rfl, (s_index (k := .i64) (d := tt63) (e := 65) (de := tt65) (enc := eVaR) hv4 tt_ok rfl (by kernel_rfl) (by kernel_rfl) (by kernel_rfl) (by kernel_rfl) len_eVaR (by kernel_rfl) (cells_eVaR v4))⟩, ?_⟩
    refine ⟨.inl ⟨by kernel_rfl, (nstep_ok tt_ok (by kernel_rfl))⟩, ?_⟩
    refine ⟨.inl ⟨by kernel_rfl, (nstep_ok tt_ok (by kernel_rfl))⟩, ?_⟩
    refine ⟨.inl ⟨by kernel_rfl, (nstep_ok tt_ok (by kernel_rfl))⟩, ?_⟩
    refine ⟨.inl ⟨by kernel_rfl, (s_index (k := .i64) (d := tt63) (e := 65) (de := tt65) (enc := eVaR) hv5 tt_ok rfl (by kernel_rfl) (by kernel_rfl) (by kernel_rfl) (by kernel_rfl) len_eVaR (by kernel_rfl) (cells_eVaR v5))⟩, ?_⟩
    refine ⟨.inl ⟨by kernel_rfl, (nstep_ok tt_ok (by kernel_rfl))⟩, ?_⟩
    refine l_rk 0 tt_ok ⟨42, [(0, (.fz ((eL 4 eVaR) (a0)))), (1, (.fz ((eL 4 eVaR) (a1)))), (5, (fI (v1))), (22, (.fz (eVa (v4)))), (26, (.fz (eVa (v5))))], [], []⟩ (by kernel_rfl) ?_
    obtain ⟨v6, hv6, h⟩ := Option.bind_eq_some_iff.1 h
    refine l_step ((n_call (ys := [eVa (v4), eVa (v5)]) (cs := [(.one .keep), (.one .keep)]) rfl (by kernel_rfl) (ih162 (v4) (v5) _ hv6)).step) (by kernel_rfl) (dst_of (by kernel_rfl)) ?_
    refine l_rk 1 tt_ok ⟨42, [(0, (.fz ((eL 4 eVaR) (a0)))), (1, (.fz ((eL 4 eVaR) (a1)))), (5, (fI (v1))), (6, (fI (v6)))], [], []⟩ (by kernel_rfl) ?_
    refine l_nil ?_
    refine awp_seq ?_
    refine awp_region ?_
    refine l_rk 2 tt_ok ⟨42, [(0, (.fz ((eL 4 eVaR) (a0)))), (1, (.fz ((eL 4 eVaR) (a1)))), (5, (fI (v1))), (6, (fI (v6))), (29, (fB ((v6 != 0))))], [], []⟩ (by kernel_rfl) ?_
    refine l_nil ?_
    rcases cond_some h with ⟨hb, h⟩ | ⟨hb, h⟩
    ·refine awp_cond_t (b := (v6 != 0)) (by kernel_rfl) hb ?_
     refine awp_seq ?_
     refine awp_region ?_
     refine l_rk 2 tt_ok ⟨42, [(4, (fI (v6)))], [], []⟩ (by kernel_rfl) ?_
     refine l_nil ?_
     refine awp_ret ?_
     obtain rfl := Option.some.inj h
     exact And.intro (And.intro (fun h => nomatch h) (fun h => nomatch h)) (And.intro rfl (show retX _ _ _ _ = some _ from by kernel_rfl))
    ·refine awp_cond_f (b := (v6 != 0)) (by kernel_rfl) hb ?_
     refine awp_skip ?_
     refine awp_region ?_
     refine l_rk 3 tt_ok ⟨42, [(0, (.fz ((eL 4 eVaR) (a0)))), (1, (.fz ((eL 4 eVaR) (a1)))), (5, (fI ((w64 (v1 + 1)))))], [], []⟩ (by kernel_rfl) ?_
     refine l_nil ?_
     obtain rfl := Option.some.inj h
     exact And.intro rfl (le_ck (by kernel_rfl))
   ·refine awp_cond_f (b := v3) (by kernel_rfl) hb ?_
    refine awp_exit ?_
    obtain rfl := Option.some.inj h
    exact And.intro (And.intro (fun h => nomatch h) (fun h => nomatch h)) (And.intro rfl (le_ck (by kernel_rfl)))
 ·clear hj
  intro e st' hq
  rcases v7 with v8 | v10
  ·try simp only [Sum.elim_inl, Sum.elim_inr] at h
   obtain ⟨rfl, hle⟩ := hq
   refine ⟨_, hle, ?_⟩
   refine awp_seq ?_
   refine awp_seq ?_
   refine awp_region ?_
   refine l_rk 5 tt_ok ⟨42, [(0, (.fz ((eL 4 eVaR) (a0)))), (1, (.fz ((eL 4 eVaR) (a1)))), (35, (fB (((List.length a0 : Int) == (List.length a1 : Int)))))], [], []⟩ (by kernel_rfl) ?_
   refine l_nil ?_
   rcases cond_some h with ⟨hb, h⟩ | ⟨hb, h⟩
   ·refine awp_cond_t (b := ((List.length a0 : Int) == (List.length a1 : Int))) (by kernel_rfl) hb ?_
    refine awp_seq ?_
    refine awp_region ?_
    refine l_rk 1 tt_ok ⟨42, [(4, (fI (0)))], [], []⟩ (by kernel_rfl) ?_
    refine l_nil ?_
    refine awp_ret ?_
    obtain rfl := Option.some.inj h
    exact (show retX _ _ _ _ = some _ from by kernel_rfl)
   ·refine awp_cond_f (b := ((List.length a0 : Int) == (List.length a1 : Int))) (by kernel_rfl) hb ?_
    refine awp_skip ?_
    refine awp_seq ?_
    refine awp_region ?_
    refine l_rk 5 tt_ok ⟨42, [(40, (fB ((decide ((List.length a0 : Int) < (List.length a1 : Int))))))], [], []⟩ (by kernel_rfl) ?_
    obtain ⟨v9, hv9, h⟩ := Option.bind_eq_some_iff.1 h
    refine l_step ((n_call (ys := [eB ((decide ((List.length a0 : Int) < (List.length a1 : Int))))]) (cs := [(.one (.keep))]) rfl (by kernel_rfl) (synthesisref01_sign_ok ((decide ((List.length a0 : Int) < (List.length a1 : Int)))) _ hv9)).step) (by kernel_rfl) (dst_of (by kernel_rfl)) ?_
    refine l_rk 1 tt_ok ⟨42, [(4, (fI (v9)))], [], []⟩ (by kernel_rfl) ?_
    refine l_nil ?_
    refine awp_ret ?_
    obtain rfl := Option.some.inj h
    exact (show retX _ _ _ _ = some _ from by kernel_rfl)
  ·try simp only [Sum.elim_inl, Sum.elim_inr] at h
   obtain ⟨rfl, hret⟩ := hq
   refine ⟨_, LeSt.refl, ?_⟩
   obtain rfl := Option.some.inj h
   exact hret
def synthesisref01_Compare_all : Nat → ((Va) → (Va) → Option (Int)) × ((List Va) → (List Va) → Option (Int))
  | 0 => (fun _ _ => none, fun _ _ => none)
  | n + 1 => (synthesisref01_Compare_b ((synthesisref01_Compare_all n).1) ((synthesisref01_Compare_all n).2), synthesisref01_CompareAll_b ((synthesisref01_Compare_all n).1) ((synthesisref01_Compare_all n).2))
def synthesisref01_Compare (n : Nat) : (Va) → (Va) → Option (Int) := (synthesisref01_Compare_all n).1
def synthesisref01_CompareAll (n : Nat) : (List Va) → (List Va) → Option (Int) := (synthesisref01_Compare_all n).2
theorem synthesisref01_Compare_all_ok : ∀ n : Nat, (∀ (x0 : Va) (x1 : Va) r, synthesisref01_Compare n x0 x1 = some r → PCall Try.prog 162 [eVa x0, eVa x1] (eI (r))) ∧ (∀ (x0 : List Va) (x1 : List Va) r, synthesisref01_CompareAll n x0 x1 = some r → PCall Try.prog 186 [(eL 4 eVaR) x0, (eL 4 eVaR) x1] (eI (r)))
  | 0 => ⟨(fun _ _ _ h => nomatch h), (fun _ _ _ h => nomatch h)⟩
  | n + 1 => ⟨(synthesisref01_Compare_b_ok _ _ ((synthesisref01_Compare_all_ok n).1) ((synthesisref01_Compare_all_ok n).2)), (synthesisref01_CompareAll_b_ok _ _ ((synthesisref01_Compare_all_ok n).1) ((synthesisref01_Compare_all_ok n).2))⟩
theorem synthesisref01_Compare_ok (n : Nat) : ∀ (x0 : Va) (x1 : Va) r, synthesisref01_Compare n x0 x1 = some r → PCall Try.prog 162 [eVa x0, eVa x1] (eI (r)) := (synthesisref01_Compare_all_ok n).1
theorem synthesisref01_CompareAll_ok (n : Nat) : ∀ (x0 : List Va) (x1 : List Va) r, synthesisref01_CompareAll n x0 x1 = some r → PCall Try.prog 186 [(eL 4 eVaR) x0, (eL 4 eVaR) x1] (eI (r)) := (synthesisref01_Compare_all_ok n).2

def synthesisref01_Equal (a0 : Va) (a1 : Va) : Option (Bool) := (Option.bind (synthesisref01_Compare fuel (a0) (a1)) fun v1 => (some (v1 == 0)))
theorem synthesisref01_Equal_ok (a0 : Va) (a1 : Va) (r : Bool) (h : synthesisref01_Equal a0 a1 = some r) : PCall Try.prog 127 [eVa a0, eVa a1] (eB (r)) := by
 unfold synthesisref01_Equal at h
 refine pcall_intro (T := TT) tt_ok [.one .keep] Try.func127 rfl (by kernel_rfl) (by kernel_rfl) ?_
 refine awp_le (st' := ⟨9, [(0, (.fz (eVa (a0)))), (1, (.fz (eVa (a1))))], [], []⟩) (le_ck (by kernel_rfl)) ?_
 refine awp_seq ?_
 refine awp_region ?_
 refine l_rk 3 tt_ok ⟨9, [(2, (.ref 1 0 0)), (3, (.ref 2 0 0))], [(1, (.box 65 [(fI (a0.type)), (fI (a0.num)), (fS (a0.text)), (.fz ((eL 4 eVaR) (a0.items)))])), (2, (.box 65 [(fI (a1.type)), (fI (a1.num)), (fS (a1.text)), (.fz ((eL 4 eVaR) (a1.items)))]))], [2, 1]⟩ (by kernel_rfl) ?_
 refine l_nil ?_
 refine awp_seq ?_
 refine awp_region ?_
 refine l_rk 2 tt_ok ⟨9, [(5, (.fz (eVa (a0)))), (6, (.fz (eVa (a1))))], [], []⟩ (by kernel_rfl) ?_
 obtain ⟨v1, hv1, h⟩ := Option.bind_eq_some_iff.1 h
 refine l_step ((n_call (ys := [eVa (a0), eVa (a1)]) (cs := [(.one .keep), (.one .keep)]) rfl (by kernel_rfl) (synthesisref01_Compare_ok fuel (a0) (a1) _ hv1)).step) (by kernel_rfl) (dst_of (by kernel_rfl)) ?_
 refine l_rk 2 tt_ok ⟨9, [(4, (fB ((v1 == 0))))], [], []⟩ (by kernel_rfl) ?_
 refine l_nil ?_
 refine awp_ret ?_
 obtain rfl := Option.some.inj h
 exact (show retX _ _ _ _ = some _ from by kernel_rfl)

def synthesisref01_within (a0 : Int) (a1 : Int) (a2 : Int) : Option (Int) := (Option.bind ((bif (decide (a0 < a1)) then (some (true)) else (some ((decide (a2 < a0))))) : Option ((Bool))) fun (v2 : (Bool)) => (bif v2 then (some 1) else (some 0)))
theorem synthesisref01_within_ok (a0 : Int) (a1 : Int) (a2 : Int) (r : Int) (h : synthesisref01_within a0 a1 a2 = some r) : PCall Try.prog 169 [eI a0, eI a1, eI a2] (eI (r)) := by
 unfold synthesisref01_within at h
 refine pcall_intro (T := TT) tt_ok [.one .keep] Try.func169 rfl (by kernel_rfl) (by kernel_rfl) ?_
 refine awp_le (st' := ⟨15, [(0, (fI (a0))), (1, (fI (a1))), (2, (fI (a2)))], [], []⟩) (le_ck (by kernel_rfl)) ?_
 refine awp_seq ?_
 refine awp_region ?_
 refine l_rk 1 tt_ok ⟨15, [(0, (fI (a0))), (1, (fI (a1))), (2, (fI (a2)))], [], []⟩ (by kernel_rfl) ?_
 refine l_nil ?_
 refine awp_seq ?_
 refine awp_seq ?_
 obtain ⟨v2, hj, h⟩ := Option.bind_eq_some_iff.1 h
 refine awp_join (Qa := fun e st => e = .normal ∧ LeSt st ⟨15, [(14, (fB (v2)))], [], []⟩) ?_ ?_
 ·replace h := hj
  clear hj
  refine awp_region ?_
  refine l_rk 4 tt_ok ⟨15, [(0, (fI (a0))), (2, (fI (a2))), (10, (fB ((decide (a0 < a1)))))], [], []⟩ (by kernel_rfl) ?_
  rcases cond_some h with ⟨hb, h⟩ | ⟨hb, h⟩
  ·refine l_le (le_eq (t := 10) (x := .fz (eB (decide (a0 < a1)))) (y := .fz (eB true)) (by kernel_rfl) (congrArg (fun b => AV.fz (eB b)) hb)) ?_
   refine l_rk 4 tt_ok ⟨15, [(14, (fB (true)))], [], []⟩ (by kernel_rfl) ?_
   refine l_nil ?_
   obtain rfl := Option.some.inj h
   exact And.intro rfl (le_ck (by kernel_rfl))
  ·refine l_le (le_eq (t := 10) (x := .fz (eB (decide (a0 < a1)))) (y := .fz (eB false)) (by kernel_rfl) (congrArg (fun b => AV.fz (eB b)) hb)) ?_
   refine l_rk 4 tt_ok ⟨15, [(14, (fB ((decide (a2 < a0)))))], [], []⟩ (by kernel_rfl) ?_
   refine l_nil ?_
   obtain rfl := Option.some.inj h
   exact And.intro rfl (le_ck (by kernel_rfl))
 ·clear hj
  intro e st' hq
  obtain ⟨rfl, hle⟩ := hq
  refine ⟨_, hle, ?_⟩
  rcases cond_some h with ⟨hb, h⟩ | ⟨hb, h⟩
  ·refine awp_cond_t (b := v2) (by kernel_rfl) hb ?_
   refine awp_seq ?_
   refine awp_region ?_
   refine l_rk 1 tt_ok ⟨15, [(6, (fI (1)))], [], []⟩ (by kernel_rfl) ?_
   refine l_nil ?_
   refine awp_ret ?_
   obtain rfl := Option.some.inj h
   exact (show retX _ _ _ _ = some _ from by kernel_rfl)
  ·refine awp_cond_f (b := v2) (by kernel_rfl) hb ?_
   refine awp_skip ?_
   refine awp_seq ?_
   refine awp_region ?_
   refine l_rk 1 tt_ok ⟨15, [(6, (fI (0)))], [], []⟩ (by kernel_rfl) ?_
   refine l_nil ?_
   refine awp_ret ?_
   obtain rfl := Option.some.inj h
   exact (show retX _ _ _ _ = some _ from by kernel_rfl)

def synthesisref01_plain_l1 (a0 : ByteArray) (v3 : (Int)) : Option (((Int)) ⊕ (((Unit) ⊕ (Int)))) := (bif (decide (v3 < (a0.size : Int))) then (Option.bind ((Option.bind (byt a0 v3) fun v4 => (bif (decide (v4 < 32)) then (some (true)) else (Option.bind (byt a0 v3) fun v5 => (some ((decide (126 < v5))))))) : Option ((Bool))) fun (v7 : (Bool)) => (bif v7 then (some (.inr (.inr 1))) else (some (.inl ((w64 (v3 + 1))))))) else (some (.inr (.inl ()))))
def synthesisref01_plain (a0 : ByteArray) (a1 : Int) (a2 : Int) : Option (Int) := (Option.bind ((bif (decide ((a0.size : Int) < a1)) then (some (true)) else (some ((decide (a2 < (a0.size : Int)))))) : Option ((Bool))) fun (v2 : (Bool)) => (bif v2 then (some 2) else (Option.bind (loopN (synthesisref01_plain_l1 a0) fuel (0)) fun (v8 : ((Unit) ⊕ (Int))) => Sum.elim (fun v9 => (some 0)) (fun v10 => (some v10)) v8)))
theorem synthesisref01_plain_ok (a0 : ByteArray) (a1 : Int) (a2 : Int) (r : Int) (h : synthesisref01_plain a0 a1 a2 = some r) : PCall Try.prog 170 [eS a0, eI a1, eI a2] (eI (r)) := by
 unfold synthesisref01_plain at h
 refine pcall_intro (T := TT) tt_ok [.one .keep] Try.func170 rfl (by kernel_rfl) (by kernel_rfl) ?_
 refine awp_le (st' := ⟨34, [(0, (fS (a0))), (1, (fI (a1))), (2, (fI (a2)))], [], []⟩) (le_ck (by kernel_rfl)) ?_
 refine awp_seq ?_
 refine awp_region ?_
 refine l_rk 1 tt_ok ⟨34, [(0, (fS (a0))), (1, (fI (a1))), (2, (fI (a2)))], [], []⟩ (by kernel_rfl) ?_
 refine l_nil ?_
 refine awp_seq ?_
 refine awp_seq ?_
 obtain ⟨v2, hj, h⟩ := Option.bind_eq_some_iff.1 h
 refine awp_join (Qa := fun e st => e = .normal ∧ LeSt st ⟨34, [(0, (fS (a0))), (17, (fB (v2)))], [], []⟩) ?_ ?_
 ·replace h := hj
  clear hj
  refine awp_region ?_
  refine l_rk 5 tt_ok ⟨34, [(0, (fS (a0))), (2, (fI (a2))), (12, (fB ((decide ((a0.size : Int) < a1)))))], [], []⟩ (by kernel_rfl) ?_
  rcases cond_some h with ⟨hb, h⟩ | ⟨hb, h⟩
  ·refine l_le (le_eq (t := 12) (x := .fz (eB (decide ((a0.size : Int) < a1)))) (y := .fz (eB true)) (by kernel_rfl) (congrArg (fun b => AV.fz (eB b)) hb)) ?_
   refine l_rk 5 tt_ok ⟨34, [(0, (fS (a0))), (17, (fB (true)))], [], []⟩ (by kernel_rfl) ?_
   refine l_nil ?_
   obtain rfl := Option.some.inj h
   exact And.intro rfl (le_ck (by kernel_rfl))
  ·refine l_le (le_eq (t := 12) (x := .fz (eB (decide ((a0.size : Int) < a1)))) (y := .fz (eB false)) (by kernel_rfl) (congrArg (fun b => AV.fz (eB b)) hb)) ?_
   refine l_rk 5 tt_ok ⟨34, [(0, (fS (a0))), (17, (fB ((decide (a2 < (a0.size : Int))))))], [], []⟩ (by kernel_rfl) ?_
   refine l_nil ?_
   obtain rfl := Option.some.inj h
   exact And.intro rfl (le_ck (by kernel_rfl))
 ·clear hj
  intro e st' hq
  obtain ⟨rfl, hle⟩ := hq
  refine ⟨_, hle, ?_⟩
  rcases cond_some h with ⟨hb, h⟩ | ⟨hb, h⟩
  ·refine awp_cond_t (b := v2) (by kernel_rfl) hb ?_
   refine awp_seq ?_
   refine awp_region ?_
   refine l_rk 1 tt_ok ⟨34, [(6, (fI (2)))], [], []⟩ (by kernel_rfl) ?_
   refine l_nil ?_
   refine awp_ret ?_
   obtain rfl := Option.some.inj h
   exact (show retX _ _ _ _ = some _ from by kernel_rfl)
  ·refine awp_cond_f (b := v2) (by kernel_rfl) hb ?_
   refine awp_skip ?_
   refine awp_seq ?_
   refine awp_seq ?_
   refine awp_region ?_
   refine l_rk 1 tt_ok ⟨34, [(0, (fS (a0))), (7, (fI (0)))], [], []⟩ (by kernel_rfl) ?_
   refine l_nil ?_
   refine awp_block ?_
   obtain ⟨v8, hj, h⟩ := Option.bind_eq_some_iff.1 h
   refine awp_join (Qa := fun e st => Sum.elim (fun p => e = .exit 0 ∧ LeSt st ⟨34, [], [], []⟩) (fun p => e = .ret ∧ retX TT st Try.f170.results.toList [.one .keep] = some (eI (p))) v8) ?_ ?_
   ·refine awp_loopS (stOf := fun v3 => ⟨34, [(0, (fS (a0))), (7, (fI (v3)))], [], []⟩) (Qb := fun j e st => Sum.elim (fun p => e = .exit 0 ∧ LeSt st ⟨34, [], [], []⟩) (fun p => e = .ret ∧ retX TT st Try.f170.results.toList [.one .keep] = some (eI (p))) j) hj (le_ck (by kernel_rfl)) ?_
    clear hj h
    intro v3 r h
    unfold synthesisref01_plain_l1 at h
    refine awp_seq ?_
    refine awp_seq ?_
    refine awp_region ?_
    refine l_rk 4 tt_ok ⟨34, [(0, (fS (a0))), (7, (fI (v3))), (21, (fB ((decide (v3 < (a0.size : Int))))))], [], []⟩ (by kernel_rfl) ?_
    refine l_nil ?_
    rcases cond_some h with ⟨hb, h⟩ | ⟨hb, h⟩
    ·refine awp_cond_t (b := (decide (v3 < (a0.size : Int)))) (by kernel_rfl) hb ?_
     refine awp_skip ?_
     refine awp_seq ?_
     refine awp_block ?_
     refine awp_seq ?_
     obtain ⟨v7, hj, h⟩ := Option.bind_eq_some_iff.1 h
     refine awp_join (Qa := fun e st => e = .normal ∧ LeSt st ⟨34, [(0, (fS (a0))), (7, (fI (v3))), (33, (fB (v7)))], [], []⟩) ?_ ?_
     ·replace h := hj
      clear hj
      refine awp_region ?_
      refine l_rk 2 tt_ok ⟨34, [(0, (fS (a0))), (7, (fI (v3))), (24, (fS (a0))), (25, (fI (v3)))], [], []⟩ (by kernel_rfl) ?_
      obtain ⟨v4, hv4, h⟩ := Option.bind_eq_some_iff.1 h
      refine l_step ((s_byte (k := .i64) (d := tt9) (s := a0) hv4 tt_ok rfl (by kernel_rfl) (by kernel_rfl) (by kernel_rfl) (by kernel_rfl)).step) (by kernel_rfl) (dst_of (by kernel_rfl)) ?_
      refine l_rk 2 tt_ok ⟨34, [(0, (fS (a0))), (7, (fI (v3))), (28, (fB ((decide (v4 < 32)))))], [], []⟩ (by kernel_rfl) ?_
      rcases cond_some h with ⟨hb, h⟩ | ⟨hb, h⟩
      ·refine l_le (le_eq (t := 28) (x := .fz (eB (decide (v4 < 32)))) (y := .fz (eB true)) (by kernel_rfl) (congrArg (fun b => AV.fz (eB b)) hb)) ?_
       refine l_rk 5 tt_ok ⟨34, [(0, (fS (a0))), (7, (fI (v3))), (33, (fB (true)))], [], []⟩ (by kernel_rfl) ?_
       refine l_nil ?_
       obtain rfl := Option.some.inj h
       exact And.intro rfl (le_ck (by kernel_rfl))
      ·refine l_le (le_eq (t := 28) (x := .fz (eB (decide (v4 < 32)))) (y := .fz (eB false)) (by kernel_rfl) (congrArg (fun b => AV.fz (eB b)) hb)) ?_
       refine l_rk 2 tt_ok ⟨34, [(0, (fS (a0))), (7, (fI (v3))), (28, (fB (false))), (29, (fS (a0))), (30, (fI (v3)))], [], []⟩ (by kernel_rfl) ?_
       obtain ⟨v5, hv5, h⟩ := Option.bind_eq_some_iff.1 h
       refine l_step ((s_byte (k := .i64) (d := tt9) (s := a0) hv5 tt_ok rfl (by kernel_rfl) (by kernel_rfl) (by kernel_rfl) (by kernel_rfl)).step) (by kernel_rfl) (dst_of (by kernel_rfl)) ?_
       refine l_rk 2 tt_ok ⟨34, [(0, (fS (a0))), (7, (fI (v3))), (33, (fB ((decide (126 < v5)))))], [], []⟩ (by kernel_rfl) ?_
       refine l_nil ?_
       obtain rfl := Option.some.inj h
       exact And.intro rfl (le_ck (by kernel_rfl))
     ·clear hj
      intro e st' hq
      obtain ⟨rfl, hle⟩ := hq
      refine ⟨_, hle, ?_⟩
      rcases cond_some h with ⟨hb, h⟩ | ⟨hb, h⟩
      ·refine awp_cond_t (b := v7) (by kernel_rfl) hb ?_
       refine awp_seq ?_
       refine awp_region ?_
       refine l_rk 1 tt_ok ⟨34, [(6, (fI (1)))], [], []⟩ (by kernel_rfl) ?_
       refine l_nil ?_
       refine awp_ret ?_
       obtain rfl := Option.some.inj h
       exact And.intro (And.intro (fun h => nomatch h) (fun h => nomatch h)) (And.intro rfl (show retX _ _ _ _ = some _ from by kernel_rfl))
      ·refine awp_cond_f (b := v7) (by kernel_rfl) hb ?_
       refine awp_skip ?_
       refine awp_region ?_
       refine l_rk 3 tt_ok ⟨34, [(0, (fS (a0))), (7, (fI ((w64 (v3 + 1)))))], [], []⟩ (by kernel_rfl) ?_
       refine l_nil ?_
       obtain rfl := Option.some.inj h
       exact And.intro rfl (le_ck (by kernel_rfl))
    ·refine awp_cond_f (b := (decide (v3 < (a0.size : Int)))) (by kernel_rfl) hb ?_
     refine awp_exit ?_
     obtain rfl := Option.some.inj h
     exact And.intro (And.intro (fun h => nomatch h) (fun h => nomatch h)) (And.intro rfl (le_ck (by kernel_rfl)))
   ·clear hj
    intro e st' hq
    rcases v8 with v9 | v10
    ·try simp only [Sum.elim_inl, Sum.elim_inr] at h
     obtain ⟨rfl, hle⟩ := hq
     refine ⟨_, hle, ?_⟩
     refine awp_seq ?_
     refine awp_region ?_
     refine l_rk 1 tt_ok ⟨34, [(6, (fI (0)))], [], []⟩ (by kernel_rfl) ?_
     refine l_nil ?_
     refine awp_ret ?_
     obtain rfl := Option.some.inj h
     exact (show retX _ _ _ _ = some _ from by kernel_rfl)
    ·try simp only [Sum.elim_inl, Sum.elim_inr] at h
     obtain ⟨rfl, hret⟩ := hq
     refine ⟨_, LeSt.refl, ?_⟩
     obtain rfl := Option.some.inj h
     exact hret
end Go.Proofs.Ytaeicmnimjfbaaa
