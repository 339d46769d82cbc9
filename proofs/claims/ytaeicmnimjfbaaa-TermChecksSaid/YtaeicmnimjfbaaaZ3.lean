/- Typed programs and what computes them. -/
import Derived.Test.YtaeicmnimjfbaaaZ2
set_option linter.unusedVariables false
set_option linter.unusedSimpArgs false
set_option maxRecDepth 100000
namespace Go.Proofs.Ytaeicmnimjfbaaa
open Go Go.RowKit Go.Proofs
structure S_api_Operator where
  f_Name : ByteArray
  f_Args : List Int
  f_Result : Int
def eS_api_Operator (x : S_api_Operator) : FV := .agg [eS (x.f_Name), (eL 1 eI) (x.f_Args), eI (x.f_Result)]
theorem len_eS_api_Operator (x : S_api_Operator) : (eS_api_Operator x).cells.length = 3 := rfl
structure S_operator_entry where
  f_Operator : S_api_Operator
  f_family : ByteArray
def eS_operator_entry (x : S_operator_entry) : FV := .agg [eS (x.f_Operator.f_Name), (eL 1 eI) (x.f_Operator.f_Args), eI (x.f_Operator.f_Result), eS (x.f_family)]
theorem len_eS_operator_entry (x : S_operator_entry) : (eS_operator_entry x).cells.length = 4 := rfl
def operator_family_m0 (v1 : (Int) × (List S_operator_entry)) (v3 : (ByteArray) × (ByteArray) × (Bool)) (v4 : (Int) × (List Int)) (a0 : ByteArray) : List (Nat × AObj) := [(1, (.frow 182 4 (List.map eS_operator_entry (v1.2)))), (2, (.box 182 [(fS (v3.1)), (.row 3 (List.length (v4.2))), (fI (0)), (fS (a0))])), (3, (.frow 3 1 (List.map eI (v4.2))))]
def operator_family_m1 (v1 : (Int) × (List S_operator_entry)) : List (Nat × AObj) := [(1, (.frow 182 4 (List.map eS_operator_entry (v1.2))))]
def operator_family_l1 (v3 : (ByteArray) × (ByteArray) × (Bool)) (v4 : (Int) × (List Int)) : Option (((Int) × (List Int)) ⊕ ((List Int))) := (bif (decide (v4.1 < (w64 ((v3.2.1.size : Int) - 1)))) then (Option.bind (byt v3.2.1 v4.1) fun v5 => (Option.bind (operator_typeOf (v5)) fun v6 => (Option.bind (app 8 v4.2 ([v6] : List (Int))) fun v7 => (some (.inl ((w64 (v4.1 + 1)), v7)))))) else (some (.inr (v4.2))))
def operator_family_l2 (a0 : ByteArray) (a1 : List ByteArray) (v1 : (Int) × (List S_operator_entry)) : Option (((Int) × (List S_operator_entry)) ⊕ ((List S_operator_entry))) := (bif (decide (v1.1 < (List.length a1 : Int))) then (Option.bind (idx a1 v1.1) fun v2 => (Option.bind (strings_Cut (v2) ((⟨#[58]⟩ : ByteArray))) fun v3 => (Option.bind (loopN (operator_family_l1 v3) fuel (0, ([] : List (Int)))) fun (v9 : (List Int)) => (Option.bind (byt v3.2.1 (w64 ((v3.2.1.size : Int) - 1))) fun v10 => (Option.bind (operator_typeOf (v10)) fun v11 => (Option.bind (app 64 v1.2 ([(S_operator_entry.mk ((S_api_Operator.mk (v3.1) (v9) (v11))) (a0))] : List (S_operator_entry))) fun v12 => (some (.inl ((w64 (v1.1 + 1)), v12))))))))) else (some (.inr (v1.2))))
def operator_family (a0 : ByteArray) (a1 : List ByteArray) : Option (List S_operator_entry) := (Option.bind (loopN (operator_family_l2 a0 a1) fuel (0, ([] : List (S_operator_entry)))) fun (v14 : (List S_operator_entry)) => (some v14))
theorem operator_family_ok (a0 : ByteArray) (a1 : List ByteArray) (r : List S_operator_entry) (h : operator_family a0 a1 = some r) : PCall Try.prog 197 [eS a0, (eL 1 eS) a1] ((eL 4 eS_operator_entry) (r)) := by
 unfold operator_family at h
 refine pcall_intro (T := TT) tt_ok [.one (.sl 4)] Try.func197 rfl (by kernel_rfl) (by kernel_rfl) ?_
 refine awp_le (st' := ⟨62, [(0, (fS (a0))), (1, (.fz ((eL 1 eS) (a1))))], [], []⟩) (le_ck (by kernel_rfl)) ?_
 refine awp_seq ?_
 refine awp_region ?_
 refine l_rk 1 tt_ok ⟨62, [(0, (fS (a0))), (1, (.fz ((eL 1 eS) (a1))))], [], []⟩ (by kernel_rfl) ?_
 refine l_nil ?_
 refine awp_seq ?_
 refine awp_region ?_
 refine l_rk 1 tt_ok ⟨62, [(0, (fS (a0))), (1, (.fz ((eL 1 eS) (a1)))), (5, (.fz (.atom (.slice none 0 0))))], [], []⟩ (by kernel_rfl) ?_
 refine l_nil ?_
 refine awp_seq ?_
 refine awp_seq ?_
 refine awp_region ?_
 refine l_rk 3 tt_ok ⟨62, [(0, (fS (a0))), (5, (.fz (.atom (.slice none 0 0)))), (13, (.fz ((eL 1 eS) (a1)))), (14, (fI ((List.length a1 : Int)))), (15, (fI (0)))], [], []⟩ (by kernel_rfl) ?_
 refine l_nil ?_
 refine awp_block ?_
 refine awp_le (le_nilrow (e := 182) (size := 4) (t := 5) (id := 1) (by decide) (by kernel_rfl) (by kernel_rfl)) ?_
 obtain ⟨v14, hj, h⟩ := Option.bind_eq_some_iff.1 h
 refine awp_join (Qa := fun e st => e = .exit 0 ∧ LeSt st ⟨62, [(5, (.row 1 (List.length (v14))))], [(1, (.frow 182 4 (List.map eS_operator_entry (v14))))], [1]⟩) ?_ ?_
 ·refine awp_loopS (stOf := fun v1 => ⟨62, [(0, (fS (a0))), (5, (.row 1 (List.length (v1.2)))), (13, (.fz ((eL 1 eS) (a1)))), (14, (fI ((List.length a1 : Int)))), (15, (fI (v1.1)))], (operator_family_m1 v1), [1]⟩) (Qb := fun j e st => e = .exit 0 ∧ LeSt st ⟨62, [(5, (.row 1 (List.length (j))))], [(1, (.frow 182 4 (List.map eS_operator_entry (j))))], [1]⟩) hj (le_ck (by kernel_rfl)) ?_
  clear hj h
  intro v1 r h
  unfold operator_family_l2 at h
  refine awp_seq ?_
  refine awp_region ?_
  refine l_rk 1 tt_ok ⟨62, [(0, (fS (a0))), (5, (.row 1 (List.length (v1.2)))), (13, (.fz ((eL 1 eS) (a1)))), (14, (fI ((List.length a1 : Int)))), (15, (fI (v1.1))), (16, (fB ((decide (v1.1 < (List.length a1 : Int))))))], (operator_family_m1 v1), [1]⟩ (by kernel_rfl) ?_
  refine l_nil ?_
  refine awp_seq ?_
  rcases cond_some h with ⟨hb, h⟩ | ⟨hb, h⟩
  ·refine awp_cond_t (b := (decide (v1.1 < (List.length a1 : Int)))) (by kernel_rfl) hb ?_
   refine awp_skip ?_
   refine awp_seq ?_
   refine awp_block ?_
   refine awp_seq ?_
   refine awp_region ?_
   obtain ⟨v2, hv2, h⟩ := Option.bind_eq_some_iff.1 h
   refine l_step ((s_index (k := .i64) (d := tt32) (e := 9) (de := tt9) (enc := eS) hv2 tt_ok rfl (by kernel_rfl) (by kernel_rfl) (by kernel_rfl) (by kernel_rfl) len_eS (by kernel_rfl) rfl).step) (by kernel_rfl) (dst_of (by kernel_rfl)) ?_
   refine l_rk 2 tt_ok ⟨62, [(0, (fS (a0))), (5, (.row 1 (List.length (v1.2)))), (7, (fS (v2))), (13, (.fz ((eL 1 eS) (a1)))), (14, (fI ((List.length a1 : Int)))), (15, (fI (v1.1)))], (operator_family_m1 v1), [1]⟩ (by kernel_rfl) ?_
   refine l_nil ?_
   refine awp_seq ?_
   refine awp_region ?_
   refine l_rk 1 tt_ok ⟨62, [(0, (fS (a0))), (5, (.row 1 (List.length (v1.2)))), (13, (.fz ((eL 1 eS) (a1)))), (14, (fI ((List.length a1 : Int)))), (15, (fI (v1.1))), (20, (fS (v2)))], (operator_family_m1 v1), [1]⟩ (by kernel_rfl) ?_
   obtain ⟨v3, hv3, h⟩ := Option.bind_eq_some_iff.1 h
   refine l_step ((n_call (ys := [eS (v2), eS ((⟨#[58]⟩ : ByteArray))]) (cs := [(.one (.keep)), (.one (.keep))]) rfl (by kernel_rfl) (strings_Cut_ok (v2) ((⟨#[58]⟩ : ByteArray)) _ hv3)).step) (by kernel_rfl) (dst_of (by kernel_rfl)) ?_
   refine l_rk 7 tt_ok ⟨62, [(0, (fS (a0))), (5, (.row 1 (List.length (v1.2)))), (8, (fS (v3.1))), (9, (fS (v3.2.1))), (13, (.fz ((eL 1 eS) (a1)))), (14, (fI ((List.length a1 : Int)))), (15, (fI (v1.1)))], (operator_family_m1 v1), [1]⟩ (by kernel_rfl) ?_
   refine l_nil ?_
   refine awp_seq ?_
   refine awp_region ?_
   refine l_rk 4 tt_ok ⟨62, [(0, (fS (a0))), (5, (.row 1 (List.length (v1.2)))), (8, (fS (v3.1))), (9, (fS (v3.2.1))), (11, (.ref 2 0 0)), (13, (.fz ((eL 1 eS) (a1)))), (14, (fI ((List.length a1 : Int)))), (15, (fI (v1.1)))], [(1, (.frow 182 4 (List.map eS_operator_entry (v1.2)))), (2, (.box 182 [(fS ((⟨#[]⟩ : ByteArray))), (.fz (.atom (.slice none 0 0))), (fI (0)), (fS (a0))]))], [2, 1]⟩ (by kernel_rfl) ?_
   refine l_nil ?_
   refine awp_seq ?_
   refine awp_region ?_
   refine l_rk 4 tt_ok ⟨62, [(0, (fS (a0))), (5, (.row 1 (List.length (v1.2)))), (9, (fS (v3.2.1))), (11, (.ref 2 0 0)), (13, (.fz ((eL 1 eS) (a1)))), (14, (fI ((List.length a1 : Int)))), (15, (fI (v1.1)))], [(1, (.frow 182 4 (List.map eS_operator_entry (v1.2)))), (2, (.box 182 [(fS (v3.1)), (.fz (.atom (.slice none 0 0))), (fI (0)), (fS (a0))]))], [2, 1]⟩ (by kernel_rfl) ?_
   refine l_nil ?_
   refine awp_seq ?_
   refine awp_seq ?_
   refine awp_region ?_
   refine l_rk 4 tt_ok ⟨62, [(0, (fS (a0))), (5, (.row 1 (List.length (v1.2)))), (9, (fS (v3.2.1))), (11, (.ref 2 0 0)), (13, (.fz ((eL 1 eS) (a1)))), (14, (fI ((List.length a1 : Int)))), (15, (fI (v1.1))), (32, (fI ((w64 ((v3.2.1.size : Int) - 1))))), (33, (fI (0)))], [(1, (.frow 182 4 (List.map eS_operator_entry (v1.2)))), (2, (.box 182 [(fS (v3.1)), (.fz (.atom (.slice none 0 0))), (fI (0)), (fS (a0))]))], [2, 1]⟩ (by kernel_rfl) ?_
   refine l_nil ?_
   refine awp_block ?_
   refine awp_le (le_nilcell (e2 := 182) (e := 3) (size := 1) (id2 := 2) (j := 1) (id := 3) (cells := [(fS (v3.1)), (.fz (.atom (.slice none 0 0))), (fI (0)), (fS (a0))]) (by kernel_rfl) (by kernel_rfl) (by kernel_rfl) (by kernel_rfl)) ?_
   obtain ⟨v9, hj, h⟩ := Option.bind_eq_some_iff.1 h
   refine awp_join (Qa := fun e st => e = .exit 2 ∧ LeSt st ⟨62, [(0, (fS (a0))), (5, (.row 1 (List.length (v1.2)))), (9, (fS (v3.2.1))), (11, (.ref 2 0 0)), (13, (.fz ((eL 1 eS) (a1)))), (14, (fI ((List.length a1 : Int)))), (15, (fI (v1.1)))], [(1, (.frow 182 4 (List.map eS_operator_entry (v1.2)))), (2, (.box 182 [(fS (v3.1)), (.row 3 (List.length (v9))), (fI (0)), (fS (a0))])), (3, (.frow 3 1 (List.map eI (v9))))], [3, 2, 1]⟩) ?_ ?_
   ·refine awp_loopS (stOf := fun v4 => ⟨62, [(0, (fS (a0))), (5, (.row 1 (List.length (v1.2)))), (9, (fS (v3.2.1))), (11, (.ref 2 0 0)), (13, (.fz ((eL 1 eS) (a1)))), (14, (fI ((List.length a1 : Int)))), (15, (fI (v1.1))), (32, (fI ((w64 ((v3.2.1.size : Int) - 1))))), (33, (fI (v4.1)))], (operator_family_m0 v1 v3 v4 a0), [3, 2, 1]⟩) (Qb := fun j e st => e = .exit 2 ∧ LeSt st ⟨62, [(0, (fS (a0))), (5, (.row 1 (List.length (v1.2)))), (9, (fS (v3.2.1))), (11, (.ref 2 0 0)), (13, (.fz ((eL 1 eS) (a1)))), (14, (fI ((List.length a1 : Int)))), (15, (fI (v1.1)))], [(1, (.frow 182 4 (List.map eS_operator_entry (v1.2)))), (2, (.box 182 [(fS (v3.1)), (.row 3 (List.length (j))), (fI (0)), (fS (a0))])), (3, (.frow 3 1 (List.map eI (j))))], [3, 2, 1]⟩) hj (le_ck (by kernel_rfl)) ?_
    clear hj h
    intro v4 r h
    unfold operator_family_l1 at h
    refine awp_seq ?_
    refine awp_region ?_
    refine l_rk 1 tt_ok ⟨62, [(0, (fS (a0))), (5, (.row 1 (List.length (v1.2)))), (9, (fS (v3.2.1))), (11, (.ref 2 0 0)), (13, (.fz ((eL 1 eS) (a1)))), (14, (fI ((List.length a1 : Int)))), (15, (fI (v1.1))), (32, (fI ((w64 ((v3.2.1.size : Int) - 1))))), (33, (fI (v4.1))), (34, (fB ((decide (v4.1 < (w64 ((v3.2.1.size : Int) - 1)))))))], (operator_family_m0 v1 v3 v4 a0), [3, 2, 1]⟩ (by kernel_rfl) ?_
    refine l_nil ?_
    refine awp_seq ?_
    rcases cond_some h with ⟨hb, h⟩ | ⟨hb, h⟩
    ·refine awp_cond_t (b := (decide (v4.1 < (w64 ((v3.2.1.size : Int) - 1))))) (by kernel_rfl) hb ?_
     refine awp_skip ?_
     refine awp_seq ?_
     refine awp_block ?_
     refine awp_seq ?_
     refine awp_region ?_
     refine l_rk 2 tt_ok ⟨62, [(0, (fS (a0))), (5, (.row 1 (List.length (v1.2)))), (9, (fS (v3.2.1))), (11, (.ref 2 0 0)), (12, (fI (v4.1))), (13, (.fz ((eL 1 eS) (a1)))), (14, (fI ((List.length a1 : Int)))), (15, (fI (v1.1))), (32, (fI ((w64 ((v3.2.1.size : Int) - 1))))), (33, (fI (v4.1)))], (operator_family_m0 v1 v3 v4 a0), [3, 2, 1]⟩ (by kernel_rfl) ?_
     refine l_nil ?_
     obtain ⟨v5, hv5, h⟩ := Option.bind_eq_some_iff.1 h
     obtain ⟨v6, hv6, h⟩ := Option.bind_eq_some_iff.1 h
     refine awp_drawn (by kernel_rfl) [(.ref 2 0 0), (.ref 2 0 1), (.row 3 (List.length (v4.2))), (fS (v3.2.1)), (fI (v4.1)), (.fz (eU8 (v5))), (fI (v6)), (.lim 1 (List.length (([v6] : List (Int)))) (List.map eI (([v6] : List (Int)))))] (by kernel_rfl) ?_
     refine ⟨.inl ⟨by kernel_rfl, (nstep_ok tt_ok (by kernel_rfl))⟩, ?_⟩
     refine ⟨.inl ⟨by kernel_rfl, (nstep_ok tt_ok (by kernel_rfl))⟩, ?_⟩
     refine ⟨.inl ⟨by kernel_rfl, (nstep_ok tt_ok (by kernel_rfl))⟩, ?_⟩
     refine ⟨.inl ⟨by kernel_rfl, (nstep_ok tt_ok (by kernel_rfl))⟩, ?_⟩
     refine ⟨.inl ⟨by kernel_rfl, (nstep_ok tt_ok (by kernel_rfl))⟩, ?_⟩
     refine ⟨.inl ⟨by kernel_rfl, (s_byte (k := .i64) (d := tt9) (s := v3.2.1) hv5 tt_ok rfl (by kernel_rfl) (by kernel_rfl) (by kernel_rfl) (by kernel_rfl))⟩, ?_⟩
     refine ⟨.inl ⟨by kernel_rfl, (n_call (ys := [eU8 (v5)]) (cs := [(.one (.keep))]) rfl (by kernel_rfl) (operator_typeOf_ok (v5) _ hv6))⟩, ?_⟩
     refine ⟨.inl ⟨by kernel_rfl, (nstep_ok tt_ok (by kernel_rfl))⟩, ?_⟩
     refine l_rk 0 tt_ok ⟨62, [(0, (fS (a0))), (5, (.row 1 (List.length (v1.2)))), (9, (fS (v3.2.1))), (11, (.ref 2 0 0)), (13, (.fz ((eL 1 eS) (a1)))), (14, (fI ((List.length a1 : Int)))), (15, (fI (v1.1))), (32, (fI ((w64 ((v3.2.1.size : Int) - 1))))), (33, (fI (v4.1))), (38, (.row 3 (List.length (v4.2)))), (43, (.lim 1 (List.length (([v6] : List (Int)))) (List.map eI (([v6] : List (Int))))))], (operator_family_m0 v1 v3 v4 a0), [3, 2, 1]⟩ (by kernel_rfl) ?_
     obtain ⟨v7, hv7, h⟩ := Option.bind_eq_some_iff.1 h
     refine l_step (s_append (d := tt23) (e := 3) (de := tt3) (enc := eI) (xs := v4.2) (ys := ([v6] : List (Int))) (m := List.length ([v6] : List (Int))) (id := 3) (n := List.length (v4.2)) hv7 tt_ok rfl (by kernel_rfl) (by kernel_rfl) (by kernel_rfl) (by kernel_rfl) (by kernel_rfl) (by kernel_rfl) (by kernel_rfl) (by kernel_rfl) rfl (.inr (by kernel_rfl))) (by kernel_rfl) (dst_of (by kernel_rfl)) ?_
     refine l_rk 3 tt_ok ⟨62, [(0, (fS (a0))), (5, (.row 1 (List.length (v1.2)))), (9, (fS (v3.2.1))), (11, (.ref 2 0 0)), (13, (.fz ((eL 1 eS) (a1)))), (14, (fI ((List.length a1 : Int)))), (15, (fI (v1.1))), (32, (fI ((w64 ((v3.2.1.size : Int) - 1))))), (33, (fI (v4.1)))], [(1, (.frow 182 4 (List.map eS_operator_entry (v1.2)))), (2, (.box 182 [(fS (v3.1)), (.row 3 (List.length (v7))), (fI (0)), (fS (a0))])), (3, (.frow 3 1 (List.map eI (v7))))], [3, 2, 1]⟩ (by kernel_rfl) ?_
     refine l_nil ?_
     refine awp_region ?_
     refine l_rk 2 tt_ok ⟨62, [(0, (fS (a0))), (5, (.row 1 (List.length (v1.2)))), (9, (fS (v3.2.1))), (11, (.ref 2 0 0)), (13, (.fz ((eL 1 eS) (a1)))), (14, (fI ((List.length a1 : Int)))), (15, (fI (v1.1))), (32, (fI ((w64 ((v3.2.1.size : Int) - 1))))), (33, (fI ((w64 (v4.1 + 1)))))], [(1, (.frow 182 4 (List.map eS_operator_entry (v1.2)))), (2, (.box 182 [(fS (v3.1)), (.row 3 (List.length (v7))), (fI (0)), (fS (a0))])), (3, (.frow 3 1 (List.map eI (v7))))], [3, 2, 1]⟩ (by kernel_rfl) ?_
     refine l_nil ?_
     obtain rfl := Option.some.inj h
     exact And.intro rfl (le_ck (by kernel_rfl))
    ·refine awp_cond_f (b := (decide (v4.1 < (w64 ((v3.2.1.size : Int) - 1))))) (by kernel_rfl) hb ?_
     refine awp_exit ?_
     obtain rfl := Option.some.inj h
     exact And.intro (And.intro (fun h => nomatch h) (fun h => nomatch h)) (And.intro rfl (le_ck (by kernel_rfl)))
   ·clear hj
    intro e st' hq
    obtain ⟨rfl, hle⟩ := hq
    refine ⟨_, hle, ?_⟩
    refine awp_seq ?_
    refine awp_region ?_
    refine l_rk 4 tt_ok ⟨62, [(0, (fS (a0))), (5, (.row 1 (List.length (v1.2)))), (11, (.ref 2 0 0)), (13, (.fz ((eL 1 eS) (a1)))), (14, (fI ((List.length a1 : Int)))), (15, (fI (v1.1))), (48, (fS (v3.2.1))), (51, (fI ((w64 ((v3.2.1.size : Int) - 1)))))], [(1, (.frow 182 4 (List.map eS_operator_entry (v1.2)))), (2, (.box 182 [(fS (v3.1)), (.row 3 (List.length (v9))), (fI (0)), (fS (a0))])), (3, (.frow 3 1 (List.map eI (v9))))], [3, 2, 1]⟩ (by kernel_rfl) ?_
    obtain ⟨v10, hv10, h⟩ := Option.bind_eq_some_iff.1 h
    refine l_step ((s_byte (k := .i64) (d := tt9) (s := v3.2.1) hv10 tt_ok rfl (by kernel_rfl) (by kernel_rfl) (by kernel_rfl) (by kernel_rfl)).step) (by kernel_rfl) (dst_of (by kernel_rfl)) ?_
    obtain ⟨v11, hv11, h⟩ := Option.bind_eq_some_iff.1 h
    refine l_step ((n_call (ys := [eU8 (v10)]) (cs := [(.one (.keep))]) rfl (by kernel_rfl) (operator_typeOf_ok (v10) _ hv11)).step) (by kernel_rfl) (dst_of (by kernel_rfl)) ?_
    refine l_rk 3 tt_ok ⟨62, [(0, (fS (a0))), (5, (.row 1 (List.length (v1.2)))), (11, (.ref 2 0 0)), (13, (.fz ((eL 1 eS) (a1)))), (14, (fI ((List.length a1 : Int)))), (15, (fI (v1.1)))], [(1, (.frow 182 4 (List.map eS_operator_entry (v1.2)))), (2, (.box 182 [(fS (v3.1)), (.row 3 (List.length (v9))), (fI (v11)), (fS (a0))])), (3, (.frow 3 1 (List.map eI (v9))))], [3, 2, 1]⟩ (by kernel_rfl) ?_
    refine l_nil ?_
    refine awp_region ?_
    refine l_rk 2 tt_ok ⟨62, [(0, (fS (a0))), (13, (.fz ((eL 1 eS) (a1)))), (14, (fI ((List.length a1 : Int)))), (15, (fI (v1.1))), (56, (.row 1 (List.length (v1.2)))), (57, (.agg [(fS (v3.1)), (.row 3 (List.length (v9))), (fI (v11)), (fS (a0))]))], [(1, (.frow 182 4 (List.map eS_operator_entry (v1.2)))), (3, (.frow 3 1 (List.map eI (v9))))], [3, 1]⟩ (by kernel_rfl) ?_
    refine l_le (LeSt.trans (show LeSt _ ⟨62, [(0, (fS (a0))), (13, (.fz ((eL 1 eS) (a1)))), (14, (fI ((List.length a1 : Int)))), (15, (fI (v1.1))), (56, (.row 1 (List.length (v1.2)))), (57, (.agg [(fS (v3.1)), (.row 3 (List.length (v9))), (fI (v11)), (fS (a0))]))], [(1, (.frow 182 4 (List.map eS_operator_entry (v1.2)))), (3, (.frow 3 1 (List.map eI (v9))))], [3, 1]⟩ from le_ck (by kernel_rfl)) (LeSt.trans (le_frz 3 (n := List.length (v9)) (k := 1) (e := 3) (size := 1) (xs := List.map eI (v9)) (by kernel_rfl) (by simp) (by kernel_rfl)) (show LeSt _ ⟨62, [(0, (fS (a0))), (13, (.fz ((eL 1 eS) (a1)))), (14, (fI ((List.length a1 : Int)))), (15, (fI (v1.1))), (56, (.row 1 (List.length (v1.2)))), (57, (.fz (.agg [(eS (v3.1)), ((eL 1 eI) (v9)), (eI (v11)), (eS (a0))])))], (operator_family_m1 v1), [3, 1]⟩ from le_ck (by kernel_rfl)))) ?_
    refine l_rk 1 tt_ok ⟨62, [(0, (fS (a0))), (13, (.fz ((eL 1 eS) (a1)))), (14, (fI ((List.length a1 : Int)))), (15, (fI (v1.1))), (56, (.row 1 (List.length (v1.2)))), (58, (.lim 4 (List.length (([(S_operator_entry.mk ((S_api_Operator.mk (v3.1) (v9) (v11))) (a0))] : List (S_operator_entry)))) (List.map eS_operator_entry (([(S_operator_entry.mk ((S_api_Operator.mk (v3.1) (v9) (v11))) (a0))] : List (S_operator_entry))))))], (operator_family_m1 v1), [1]⟩ (by kernel_rfl) ?_
    obtain ⟨v12, hv12, h⟩ := Option.bind_eq_some_iff.1 h
    refine l_step (s_append (d := tt185) (e := 182) (de := tt182) (enc := eS_operator_entry) (xs := v1.2) (ys := ([(S_operator_entry.mk ((S_api_Operator.mk (v3.1) (v9) (v11))) (a0))] : List (S_operator_entry))) (m := List.length ([(S_operator_entry.mk ((S_api_Operator.mk (v3.1) (v9) (v11))) (a0))] : List (S_operator_entry))) (id := 1) (n := List.length (v1.2)) hv12 tt_ok rfl (by kernel_rfl) (by kernel_rfl) (by kernel_rfl) (by kernel_rfl) (by kernel_rfl) (by kernel_rfl) (by kernel_rfl) (by kernel_rfl) rfl (.inr (by kernel_rfl))) (by kernel_rfl) (dst_of (by kernel_rfl)) ?_
    refine l_rk 1 tt_ok ⟨62, [(0, (fS (a0))), (5, (.row 1 (List.length (v12)))), (13, (.fz ((eL 1 eS) (a1)))), (14, (fI ((List.length a1 : Int)))), (15, (fI (v1.1)))], [(1, (.frow 182 4 (List.map eS_operator_entry (v12))))], [1]⟩ (by kernel_rfl) ?_
    refine l_nil ?_
    refine awp_region ?_
    refine l_rk 2 tt_ok ⟨62, [(0, (fS (a0))), (5, (.row 1 (List.length (v12)))), (13, (.fz ((eL 1 eS) (a1)))), (14, (fI ((List.length a1 : Int)))), (15, (fI ((w64 (v1.1 + 1)))))], [(1, (.frow 182 4 (List.map eS_operator_entry (v12))))], [1]⟩ (by kernel_rfl) ?_
    refine l_nil ?_
    obtain rfl := Option.some.inj h
    exact And.intro rfl (le_ck (by kernel_rfl))
  ·refine awp_cond_f (b := (decide (v1.1 < (List.length a1 : Int)))) (by kernel_rfl) hb ?_
   refine awp_exit ?_
   obtain rfl := Option.some.inj h
   exact And.intro (And.intro (fun h => nomatch h) (fun h => nomatch h)) (And.intro rfl (le_ck (by kernel_rfl)))
 ·clear hj
  intro e st' hq
  obtain ⟨rfl, hle⟩ := hq
  refine ⟨_, hle, ?_⟩
  refine awp_seq ?_
  refine awp_region ?_
  refine l_rk 2 tt_ok ⟨62, [(4, (.row 1 (List.length (v14))))], [(1, (.frow 182 4 (List.map eS_operator_entry (v14))))], [1]⟩ (by kernel_rfl) ?_
  refine l_nil ?_
  refine awp_le (le_freeze (t := 4) (id := 1) (n := List.length (v14)) (e := 182) (size := 4) (xs := List.map eS_operator_entry (v14)) (by kernel_rfl) (by kernel_rfl) (by simp)) ?_
  refine awp_ret ?_
  obtain rfl := Option.some.inj h
  exact (show retX _ _ _ _ = some _ from by kernel_rfl)

def operator_catalog_l1 (v1 : List S_operator_entry) (v2 : List S_operator_entry) (v3 : List S_operator_entry) (v4 : List S_operator_entry) (v5 : List S_operator_entry) (v6 : List S_operator_entry) (v7 : List S_operator_entry) (v8 : (Int) × (List S_operator_entry)) : Option (((Int) × (List S_operator_entry)) ⊕ ((List S_operator_entry))) := (bif (decide (v8.1 < (List.length ([v1, v2, v3, v4, v5, v6, v7] : List (List S_operator_entry)) : Int))) then (Option.bind (idx ([v1, v2, v3, v4, v5, v6, v7] : List (List S_operator_entry)) v8.1) fun v9 => (Option.bind (app 64 v8.2 v9) fun v10 => (some (.inl ((w64 (v8.1 + 1)), v10))))) else (some (.inr (v8.2))))
def operator_catalog  : Option (List S_operator_entry) := (Option.bind (operator_family ((⟨#[108, 111, 103, 105, 99]⟩ : ByteArray)) (([(⟨#[97, 110, 100, 58, 66, 66, 66]⟩ : ByteArray), (⟨#[111, 114, 58, 66, 66, 66]⟩ : ByteArray), (⟨#[110, 111, 116, 58, 66, 66]⟩ : ByteArray), (⟨#[105, 102, 105, 110, 116, 58, 66, 73, 73, 73]⟩ : ByteArray), (⟨#[105, 102, 116, 101, 120, 116, 58, 66, 84, 84, 84]⟩ : ByteArray), (⟨#[105, 102, 98, 105, 116, 115, 58, 66, 86, 86, 86]⟩ : ByteArray)] : List (ByteArray)))) fun v1 => (Option.bind (operator_family ((⟨#[110, 117, 109, 98, 101, 114, 115]⟩ : ByteArray)) (([(⟨#[97, 100, 100, 58, 73, 73, 73]⟩ : ByteArray), (⟨#[115, 117, 98, 58, 73, 73, 73]⟩ : ByteArray), (⟨#[109, 117, 108, 58, 73, 73, 73]⟩ : ByteArray), (⟨#[110, 101, 103, 58, 73, 73]⟩ : ByteArray), (⟨#[109, 105, 110, 58, 73, 73, 73]⟩ : ByteArray), (⟨#[109, 97, 120, 58, 73, 73, 73]⟩ : ByteArray), (⟨#[101, 113, 105, 110, 116, 58, 73, 73, 66]⟩ : ByteArray), (⟨#[108, 101, 115, 115, 58, 73, 73, 66]⟩ : ByteArray)] : List (ByteArray)))) fun v2 => (Option.bind (operator_family ((⟨#[116, 101, 120, 116, 115]⟩ : ByteArray)) (([(⟨#[99, 111, 110, 99, 97, 116, 58, 84, 84, 84]⟩ : ByteArray), (⟨#[115, 108, 105, 99, 101, 58, 84, 73, 73, 84]⟩ : ByteArray), (⟨#[108, 101, 110, 58, 84, 73]⟩ : ByteArray), (⟨#[117, 112, 112, 101, 114, 58, 84, 84]⟩ : ByteArray), (⟨#[108, 111, 119, 101, 114, 58, 84, 84]⟩ : ByteArray), (⟨#[116, 114, 105, 109, 58, 84, 84]⟩ : ByteArray), (⟨#[102, 105, 110, 100, 58, 84, 84, 73]⟩ : ByteArray), (⟨#[114, 101, 112, 108, 97, 99, 101, 58, 84, 84, 84, 84]⟩ : ByteArray), (⟨#[119, 111, 114, 100, 58, 84, 73, 84]⟩ : ByteArray), (⟨#[99, 104, 97, 114, 58, 84, 73, 84]⟩ : ByteArray), (⟨#[114, 101, 112, 101, 97, 116, 58, 84, 73, 84]⟩ : ByteArray), (⟨#[115, 104, 111, 119, 58, 73, 84]⟩ : ByteArray), (⟨#[114, 101, 97, 100, 58, 84, 73]⟩ : ByteArray), (⟨#[101, 113, 116, 101, 120, 116, 58, 84, 84, 66]⟩ : ByteArray), (⟨#[115, 112, 108, 105, 116, 58, 84, 84, 83]⟩ : ByteArray), (⟨#[106, 111, 105, 110, 58, 83, 84, 84]⟩ : ByteArray), (⟨#[105, 116, 101, 109, 58, 83, 73, 84]⟩ : ByteArray), (⟨#[115, 111, 114, 116, 116, 101, 120, 116, 115, 58, 83, 83]⟩ : ByteArray), (⟨#[114, 101, 118, 116, 101, 120, 116, 115, 58, 83, 83]⟩ : ByteArray)] : List (ByteArray)))) fun v3 => (Option.bind (operator_family ((⟨#[112, 97, 116, 116, 101, 114, 110, 115]⟩ : ByteArray)) (([(⟨#[115, 116, 97, 114, 116, 58, 84, 80, 73, 73]⟩ : ByteArray), (⟨#[101, 110, 100, 58, 84, 80, 73, 73]⟩ : ByteArray), (⟨#[101, 120, 116, 114, 97, 99, 116, 58, 84, 80, 73, 84]⟩ : ByteArray), (⟨#[101, 114, 97, 115, 101, 58, 84, 80, 84]⟩ : ByteArray), (⟨#[111, 99, 99, 117, 114, 115, 58, 84, 80, 73]⟩ : ByteArray), (⟨#[109, 97, 116, 99, 104, 101, 115, 58, 84, 80, 66]⟩ : ByteArray), (⟨#[112, 108, 105, 116, 58, 84, 80]⟩ : ByteArray), (⟨#[112, 99, 97, 116, 58, 80, 80, 80]⟩ : ByteArray), (⟨#[112, 97, 108, 116, 58, 80, 80, 80]⟩ : ByteArray), (⟨#[112, 115, 116, 97, 114, 58, 80, 80]⟩ : ByteArray)] : List (ByteArray)))) fun v4 => (Option.bind (operator_family ((⟨#[108, 105, 115, 116, 115]⟩ : ByteArray)) (([(⟨#[104, 101, 97, 100, 58, 76, 73]⟩ : ByteArray), (⟨#[108, 97, 115, 116, 58, 76, 73]⟩ : ByteArray), (⟨#[116, 97, 107, 101, 58, 76, 73, 76]⟩ : ByteArray), (⟨#[100, 114, 111, 112, 58, 76, 73, 76]⟩ : ByteArray), (⟨#[114, 101, 118, 101, 114, 115, 101, 58, 76, 76]⟩ : ByteArray), (⟨#[115, 111, 114, 116, 58, 76, 76]⟩ : ByteArray), (⟨#[117, 110, 105, 113, 117, 101, 58, 76, 76]⟩ : ByteArray), (⟨#[115, 117, 109, 58, 76, 73]⟩ : ByteArray), (⟨#[115, 104, 105, 102, 116, 58, 76, 73, 76]⟩ : ByteArray), (⟨#[115, 99, 97, 108, 101, 58, 76, 73, 76]⟩ : ByteArray), (⟨#[97, 98, 111, 118, 101, 58, 76, 73, 76]⟩ : ByteArray), (⟨#[101, 118, 101, 110, 58, 76, 76]⟩ : ByteArray), (⟨#[122, 105, 112, 58, 76, 76, 76]⟩ : ByteArray), (⟨#[97, 112, 112, 101, 110, 100, 58, 76, 76, 76]⟩ : ByteArray), (⟨#[101, 108, 101, 109, 101, 110, 116, 58, 76, 73, 73]⟩ : ByteArray), (⟨#[99, 111, 117, 110, 116, 58, 76, 73, 73]⟩ : ByteArray), (⟨#[109, 97, 120, 105, 109, 117, 109, 58, 76, 73]⟩ : ByteArray), (⟨#[109, 105, 110, 105, 109, 117, 109, 58, 76, 73]⟩ : ByteArray), (⟨#[114, 117, 110, 110, 105, 110, 103, 58, 76, 76]⟩ : ByteArray), (⟨#[108, 101, 110, 103, 116, 104, 58, 76, 73]⟩ : ByteArray)] : List (ByteArray)))) fun v5 => (Option.bind (operator_family ((⟨#[116, 97, 98, 108, 101, 115]⟩ : ByteArray)) (([(⟨#[116, 114, 97, 110, 115, 112, 111, 115, 101, 58, 77, 77]⟩ : ByteArray), (⟨#[114, 111, 119, 58, 77, 73, 83]⟩ : ByteArray), (⟨#[99, 111, 108, 117, 109, 110, 58, 77, 73, 83]⟩ : ByteArray), (⟨#[100, 114, 111, 112, 114, 111, 119, 58, 77, 73, 77]⟩ : ByteArray), (⟨#[100, 114, 111, 112, 99, 111, 108, 117, 109, 110, 58, 77, 73, 77]⟩ : ByteArray), (⟨#[115, 111, 114, 116, 116, 97, 98, 108, 101, 58, 77, 73, 77]⟩ : ByteArray), (⟨#[102, 105, 108, 108, 58, 77, 77]⟩ : ByteArray), (⟨#[117, 110, 112, 105, 118, 111, 116, 58, 77, 73, 77]⟩ : ByteArray), (⟨#[112, 105, 118, 111, 116, 58, 77, 77]⟩ : ByteArray), (⟨#[99, 101, 108, 108, 58, 77, 73, 73, 84]⟩ : ByteArray), (⟨#[115, 116, 97, 99, 107, 58, 77, 77, 77]⟩ : ByteArray), (⟨#[98, 101, 115, 105, 100, 101, 58, 77, 77, 77]⟩ : ByteArray), (⟨#[115, 112, 108, 105, 116, 99, 111, 108, 117, 109, 110, 58, 77, 73, 84, 77]⟩ : ByteArray)] : List (ByteArray)))) fun v6 => (Option.bind (operator_family ((⟨#[98, 105, 116, 115]⟩ : ByteArray)) (([(⟨#[98, 97, 110, 100, 58, 86, 86, 86]⟩ : ByteArray), (⟨#[98, 111, 114, 58, 86, 86, 86]⟩ : ByteArray), (⟨#[98, 120, 111, 114, 58, 86, 86, 86]⟩ : ByteArray), (⟨#[98, 110, 111, 116, 58, 86, 86]⟩ : ByteArray), (⟨#[98, 97, 100, 100, 58, 86, 86, 86]⟩ : ByteArray), (⟨#[98, 115, 117, 98, 58, 86, 86, 86]⟩ : ByteArray), (⟨#[98, 109, 117, 108, 58, 86, 86, 86]⟩ : ByteArray), (⟨#[98, 108, 101, 102, 116, 58, 86, 73, 86]⟩ : ByteArray), (⟨#[98, 114, 105, 103, 104, 116, 58, 86, 73, 86]⟩ : ByteArray), (⟨#[98, 97, 114, 105, 116, 104, 58, 86, 73, 86]⟩ : ByteArray), (⟨#[111, 110, 101, 115, 58, 86, 73]⟩ : ByteArray), (⟨#[101, 113, 98, 105, 116, 115, 58, 86, 86, 66]⟩ : ByteArray)] : List (ByteArray)))) fun v7 => (Option.bind (loopN (operator_catalog_l1 v1 v2 v3 v4 v5 v6 v7) fuel (0, ([] : List (S_operator_entry)))) fun (v12 : (List S_operator_entry)) => (some v12)))))))))
theorem operator_catalog_ok  (r : List S_operator_entry) (h : operator_catalog  = some r) : PCall Try.prog 193 [] ((eL 4 eS_operator_entry) (r)) := by
 unfold operator_catalog at h
 refine pcall_intro (T := TT) tt_ok [.one (.sl 4)] Try.func193 rfl (by kernel_rfl) (by kernel_rfl) ?_
 refine awp_le (st' := ⟨29, [], [], []⟩) (le_ck (by kernel_rfl)) ?_
 refine awp_seq ?_
 refine awp_region ?_
 refine l_rk 1 tt_ok ⟨29, [], [], []⟩ (by kernel_rfl) ?_
 refine l_nil ?_
 refine awp_seq ?_
 refine awp_region ?_
 refine l_rk 1 tt_ok ⟨29, [(1, (.fz (.atom (.slice none 0 0))))], [], []⟩ (by kernel_rfl) ?_
 refine l_nil ?_
 refine awp_seq ?_
 refine awp_seq ?_
 refine awp_region ?_
 refine l_rk 1 tt_ok ⟨29, [(1, (.fz (.atom (.slice none 0 0)))), (4, (.lim 1 (List.length (([(⟨#[97, 110, 100, 58, 66, 66, 66]⟩ : ByteArray), (⟨#[111, 114, 58, 66, 66, 66]⟩ : ByteArray), (⟨#[110, 111, 116, 58, 66, 66]⟩ : ByteArray), (⟨#[105, 102, 105, 110, 116, 58, 66, 73, 73, 73]⟩ : ByteArray), (⟨#[105, 102, 116, 101, 120, 116, 58, 66, 84, 84, 84]⟩ : ByteArray), (⟨#[105, 102, 98, 105, 116, 115, 58, 66, 86, 86, 86]⟩ : ByteArray)] : List (ByteArray)))) (List.map eS (([(⟨#[97, 110, 100, 58, 66, 66, 66]⟩ : ByteArray), (⟨#[111, 114, 58, 66, 66, 66]⟩ : ByteArray), (⟨#[110, 111, 116, 58, 66, 66]⟩ : ByteArray), (⟨#[105, 102, 105, 110, 116, 58, 66, 73, 73, 73]⟩ : ByteArray), (⟨#[105, 102, 116, 101, 120, 116, 58, 66, 84, 84, 84]⟩ : ByteArray), (⟨#[105, 102, 98, 105, 116, 115, 58, 66, 86, 86, 86]⟩ : ByteArray)] : List (ByteArray))))))], [], []⟩ (by kernel_rfl) ?_
 obtain ⟨v1, hv1, h⟩ := Option.bind_eq_some_iff.1 h
 refine l_step ((n_call (ys := [eS ((⟨#[108, 111, 103, 105, 99]⟩ : ByteArray)), (eL 1 eS) (([(⟨#[97, 110, 100, 58, 66, 66, 66]⟩ : ByteArray), (⟨#[111, 114, 58, 66, 66, 66]⟩ : ByteArray), (⟨#[110, 111, 116, 58, 66, 66]⟩ : ByteArray), (⟨#[105, 102, 105, 110, 116, 58, 66, 73, 73, 73]⟩ : ByteArray), (⟨#[105, 102, 116, 101, 120, 116, 58, 66, 84, 84, 84]⟩ : ByteArray), (⟨#[105, 102, 98, 105, 116, 115, 58, 66, 86, 86, 86]⟩ : ByteArray)] : List (ByteArray)))]) (cs := [(.one (.keep)), (.one (.sl 1))]) rfl (by kernel_rfl) (operator_family_ok ((⟨#[108, 111, 103, 105, 99]⟩ : ByteArray)) (([(⟨#[97, 110, 100, 58, 66, 66, 66]⟩ : ByteArray), (⟨#[111, 114, 58, 66, 66, 66]⟩ : ByteArray), (⟨#[110, 111, 116, 58, 66, 66]⟩ : ByteArray), (⟨#[105, 102, 105, 110, 116, 58, 66, 73, 73, 73]⟩ : ByteArray), (⟨#[105, 102, 116, 101, 120, 116, 58, 66, 84, 84, 84]⟩ : ByteArray), (⟨#[105, 102, 98, 105, 116, 115, 58, 66, 86, 86, 86]⟩ : ByteArray)] : List (ByteArray))) _ hv1)).step) (by kernel_rfl) (dst_of (by kernel_rfl)) ?_
 refine l_rk 1 tt_ok ⟨29, [(1, (.fz (.atom (.slice none 0 0)))), (5, (.fz ((eL 4 eS_operator_entry) (v1)))), (6, (.lim 1 (List.length (([(⟨#[97, 100, 100, 58, 73, 73, 73]⟩ : ByteArray), (⟨#[115, 117, 98, 58, 73, 73, 73]⟩ : ByteArray), (⟨#[109, 117, 108, 58, 73, 73, 73]⟩ : ByteArray), (⟨#[110, 101, 103, 58, 73, 73]⟩ : ByteArray), (⟨#[109, 105, 110, 58, 73, 73, 73]⟩ : ByteArray), (⟨#[109, 97, 120, 58, 73, 73, 73]⟩ : ByteArray), (⟨#[101, 113, 105, 110, 116, 58, 73, 73, 66]⟩ : ByteArray), (⟨#[108, 101, 115, 115, 58, 73, 73, 66]⟩ : ByteArray)] : List (ByteArray)))) (List.map eS (([(⟨#[97, 100, 100, 58, 73, 73, 73]⟩ : ByteArray), (⟨#[115, 117, 98, 58, 73, 73, 73]⟩ : ByteArray), (⟨#[109, 117, 108, 58, 73, 73, 73]⟩ : ByteArray), (⟨#[110, 101, 103, 58, 73, 73]⟩ : ByteArray), (⟨#[109, 105, 110, 58, 73, 73, 73]⟩ : ByteArray), (⟨#[109, 97, 120, 58, 73, 73, 73]⟩ : ByteArray), (⟨#[101, 113, 105, 110, 116, 58, 73, 73, 66]⟩ : ByteArray), (⟨#[108, 101, 115, 115, 58, 73, 73, 66]⟩ : ByteArray)] : List (ByteArray))))))], [], []⟩ (by kernel_rfl) ?_
 obtain ⟨v2, hv2, h⟩ := Option.bind_eq_some_iff.1 h
 refine l_step ((n_call (ys := [eS ((⟨#[110, 117, 109, 98, 101, 114, 115]⟩ : ByteArray)), (eL 1 eS) (([(⟨#[97, 100, 100, 58, 73, 73, 73]⟩ : ByteArray), (⟨#[115, 117, 98, 58, 73, 73, 73]⟩ : ByteArray), (⟨#[109, 117, 108, 58, 73, 73, 73]⟩ : ByteArray), (⟨#[110, 101, 103, 58, 73, 73]⟩ : ByteArray), (⟨#[109, 105, 110, 58, 73, 73, 73]⟩ : ByteArray), (⟨#[109, 97, 120, 58, 73, 73, 73]⟩ : ByteArray), (⟨#[101, 113, 105, 110, 116, 58, 73, 73, 66]⟩ : ByteArray), (⟨#[108, 101, 115, 115, 58, 73, 73, 66]⟩ : ByteArray)] : List (ByteArray)))]) (cs := [(.one (.keep)), (.one (.sl 1))]) rfl (by kernel_rfl) (operator_family_ok ((⟨#[110, 117, 109, 98, 101, 114, 115]⟩ : ByteArray)) (([(⟨#[97, 100, 100, 58, 73, 73, 73]⟩ : ByteArray), (⟨#[115, 117, 98, 58, 73, 73, 73]⟩ : ByteArray), (⟨#[109, 117, 108, 58, 73, 73, 73]⟩ : ByteArray), (⟨#[110, 101, 103, 58, 73, 73]⟩ : ByteArray), (⟨#[109, 105, 110, 58, 73, 73, 73]⟩ : ByteArray), (⟨#[109, 97, 120, 58, 73, 73, 73]⟩ : ByteArray), (⟨#[101, 113, 105, 110, 116, 58, 73, 73, 66]⟩ : ByteArray), (⟨#[108, 101, 115, 115, 58, 73, 73, 66]⟩ : ByteArray)] : List (ByteArray))) _ hv2)).step) (by kernel_rfl) (dst_of (by kernel_rfl)) ?_
 refine l_rk 1 tt_ok ⟨29, [(1, (.fz (.atom (.slice none 0 0)))), (5, (.fz ((eL 4 eS_operator_entry) (v1)))), (7, (.fz ((eL 4 eS_operator_entry) (v2)))), (8, (.lim 1 (List.length (([(⟨#[99, 111, 110, 99, 97, 116, 58, 84, 84, 84]⟩ : ByteArray), (⟨#[115, 108, 105, 99, 101, 58, 84, 73, 73, 84]⟩ : ByteArray), (⟨#[108, 101, 110, 58, 84, 73]⟩ : ByteArray), (⟨#[117, 112, 112, 101, 114, 58, 84, 84]⟩ : ByteArray), (⟨#[108, 111, 119, 101, 114, 58, 84, 84]⟩ : ByteArray), (⟨#[116, 114, 105, 109, 58, 84, 84]⟩ : ByteArray), (⟨#[102, 105, 110, 100, 58, 84, 84, 73]⟩ : ByteArray), (⟨#[114, 101, 112, 108, 97, 99, 101, 58, 84, 84, 84, 84]⟩ : ByteArray), (⟨#[119, 111, 114, 100, 58, 84, 73, 84]⟩ : ByteArray), (⟨#[99, 104, 97, 114, 58, 84, 73, 84]⟩ : ByteArray), (⟨#[114, 101, 112, 101, 97, 116, 58, 84, 73, 84]⟩ : ByteArray), (⟨#[115, 104, 111, 119, 58, 73, 84]⟩ : ByteArray), (⟨#[114, 101, 97, 100, 58, 84, 73]⟩ : ByteArray), (⟨#[101, 113, 116, 101, 120, 116, 58, 84, 84, 66]⟩ : ByteArray), (⟨#[115, 112, 108, 105, 116, 58, 84, 84, 83]⟩ : ByteArray), (⟨#[106, 111, 105, 110, 58, 83, 84, 84]⟩ : ByteArray), (⟨#[105, 116, 101, 109, 58, 83, 73, 84]⟩ : ByteArray), (⟨#[115, 111, 114, 116, 116, 101, 120, 116, 115, 58, 83, 83]⟩ : ByteArray), (⟨#[114, 101, 118, 116, 101, 120, 116, 115, 58, 83, 83]⟩ : ByteArray)] : List (ByteArray)))) (List.map eS (([(⟨#[99, 111, 110, 99, 97, 116, 58, 84, 84, 84]⟩ : ByteArray), (⟨#[115, 108, 105, 99, 101, 58, 84, 73, 73, 84]⟩ : ByteArray), (⟨#[108, 101, 110, 58, 84, 73]⟩ : ByteArray), (⟨#[117, 112, 112, 101, 114, 58, 84, 84]⟩ : ByteArray), (⟨#[108, 111, 119, 101, 114, 58, 84, 84]⟩ : ByteArray), (⟨#[116, 114, 105, 109, 58, 84, 84]⟩ : ByteArray), (⟨#[102, 105, 110, 100, 58, 84, 84, 73]⟩ : ByteArray), (⟨#[114, 101, 112, 108, 97, 99, 101, 58, 84, 84, 84, 84]⟩ : ByteArray), (⟨#[119, 111, 114, 100, 58, 84, 73, 84]⟩ : ByteArray), (⟨#[99, 104, 97, 114, 58, 84, 73, 84]⟩ : ByteArray), (⟨#[114, 101, 112, 101, 97, 116, 58, 84, 73, 84]⟩ : ByteArray), (⟨#[115, 104, 111, 119, 58, 73, 84]⟩ : ByteArray), (⟨#[114, 101, 97, 100, 58, 84, 73]⟩ : ByteArray), (⟨#[101, 113, 116, 101, 120, 116, 58, 84, 84, 66]⟩ : ByteArray), (⟨#[115, 112, 108, 105, 116, 58, 84, 84, 83]⟩ : ByteArray), (⟨#[106, 111, 105, 110, 58, 83, 84, 84]⟩ : ByteArray), (⟨#[105, 116, 101, 109, 58, 83, 73, 84]⟩ : ByteArray), (⟨#[115, 111, 114, 116, 116, 101, 120, 116, 115, 58, 83, 83]⟩ : ByteArray), (⟨#[114, 101, 118, 116, 101, 120, 116, 115, 58, 83, 83]⟩ : ByteArray)] : List (ByteArray))))))], [], []⟩ (by kernel_rfl) ?_
 obtain ⟨v3, hv3, h⟩ := Option.bind_eq_some_iff.1 h
 refine l_step ((n_call (ys := [eS ((⟨#[116, 101, 120, 116, 115]⟩ : ByteArray)), (eL 1 eS) (([(⟨#[99, 111, 110, 99, 97, 116, 58, 84, 84, 84]⟩ : ByteArray), (⟨#[115, 108, 105, 99, 101, 58, 84, 73, 73, 84]⟩ : ByteArray), (⟨#[108, 101, 110, 58, 84, 73]⟩ : ByteArray), (⟨#[117, 112, 112, 101, 114, 58, 84, 84]⟩ : ByteArray), (⟨#[108, 111, 119, 101, 114, 58, 84, 84]⟩ : ByteArray), (⟨#[116, 114, 105, 109, 58, 84, 84]⟩ : ByteArray), (⟨#[102, 105, 110, 100, 58, 84, 84, 73]⟩ : ByteArray), (⟨#[114, 101, 112, 108, 97, 99, 101, 58, 84, 84, 84, 84]⟩ : ByteArray), (⟨#[119, 111, 114, 100, 58, 84, 73, 84]⟩ : ByteArray), (⟨#[99, 104, 97, 114, 58, 84, 73, 84]⟩ : ByteArray), (⟨#[114, 101, 112, 101, 97, 116, 58, 84, 73, 84]⟩ : ByteArray), (⟨#[115, 104, 111, 119, 58, 73, 84]⟩ : ByteArray), (⟨#[114, 101, 97, 100, 58, 84, 73]⟩ : ByteArray), (⟨#[101, 113, 116, 101, 120, 116, 58, 84, 84, 66]⟩ : ByteArray), (⟨#[115, 112, 108, 105, 116, 58, 84, 84, 83]⟩ : ByteArray), (⟨#[106, 111, 105, 110, 58, 83, 84, 84]⟩ : ByteArray), (⟨#[105, 116, 101, 109, 58, 83, 73, 84]⟩ : ByteArray), (⟨#[115, 111, 114, 116, 116, 101, 120, 116, 115, 58, 83, 83]⟩ : ByteArray), (⟨#[114, 101, 118, 116, 101, 120, 116, 115, 58, 83, 83]⟩ : ByteArray)] : List (ByteArray)))]) (cs := [(.one (.keep)), (.one (.sl 1))]) rfl (by kernel_rfl) (operator_family_ok ((⟨#[116, 101, 120, 116, 115]⟩ : ByteArray)) (([(⟨#[99, 111, 110, 99, 97, 116, 58, 84, 84, 84]⟩ : ByteArray), (⟨#[115, 108, 105, 99, 101, 58, 84, 73, 73, 84]⟩ : ByteArray), (⟨#[108, 101, 110, 58, 84, 73]⟩ : ByteArray), (⟨#[117, 112, 112, 101, 114, 58, 84, 84]⟩ : ByteArray), (⟨#[108, 111, 119, 101, 114, 58, 84, 84]⟩ : ByteArray), (⟨#[116, 114, 105, 109, 58, 84, 84]⟩ : ByteArray), (⟨#[102, 105, 110, 100, 58, 84, 84, 73]⟩ : ByteArray), (⟨#[114, 101, 112, 108, 97, 99, 101, 58, 84, 84, 84, 84]⟩ : ByteArray), (⟨#[119, 111, 114, 100, 58, 84, 73, 84]⟩ : ByteArray), (⟨#[99, 104, 97, 114, 58, 84, 73, 84]⟩ : ByteArray), (⟨#[114, 101, 112, 101, 97, 116, 58, 84, 73, 84]⟩ : ByteArray), (⟨#[115, 104, 111, 119, 58, 73, 84]⟩ : ByteArray), (⟨#[114, 101, 97, 100, 58, 84, 73]⟩ : ByteArray), (⟨#[101, 113, 116, 101, 120, 116, 58, 84, 84, 66]⟩ : ByteArray), (⟨#[115, 112, 108, 105, 116, 58, 84, 84, 83]⟩ : ByteArray), (⟨#[106, 111, 105, 110, 58, 83, 84, 84]⟩ : ByteArray), (⟨#[105, 116, 101, 109, 58, 83, 73, 84]⟩ : ByteArray), (⟨#[115, 111, 114, 116, 116, 101, 120, 116, 115, 58, 83, 83]⟩ : ByteArray), (⟨#[114, 101, 118, 116, 101, 120, 116, 115, 58, 83, 83]⟩ : ByteArray)] : List (ByteArray))) _ hv3)).step) (by kernel_rfl) (dst_of (by kernel_rfl)) ?_
 refine l_rk 1 tt_ok ⟨29, [(1, (.fz (.atom (.slice none 0 0)))), (5, (.fz ((eL 4 eS_operator_entry) (v1)))), (7, (.fz ((eL 4 eS_operator_entry) (v2)))), (9, (.fz ((eL 4 eS_operator_entry) (v3)))), (10, (.lim 1 (List.length (([(⟨#[115, 116, 97, 114, 116, 58, 84, 80, 73, 73]⟩ : ByteArray), (⟨#[101, 110, 100, 58, 84, 80, 73, 73]⟩ : ByteArray), (⟨#[101, 120, 116, 114, 97, 99, 116, 58, 84, 80, 73, 84]⟩ : ByteArray), (⟨#[101, 114, 97, 115, 101, 58, 84, 80, 84]⟩ : ByteArray), (⟨#[111, 99, 99, 117, 114, 115, 58, 84, 80, 73]⟩ : ByteArray), (⟨#[109, 97, 116, 99, 104, 101, 115, 58, 84, 80, 66]⟩ : ByteArray), (⟨#[112, 108, 105, 116, 58, 84, 80]⟩ : ByteArray), (⟨#[112, 99, 97, 116, 58, 80, 80, 80]⟩ : ByteArray), (⟨#[112, 97, 108, 116, 58, 80, 80, 80]⟩ : ByteArray), (⟨#[112, 115, 116, 97, 114, 58, 80, 80]⟩ : ByteArray)] : List (ByteArray)))) (List.map eS (([(⟨#[115, 116, 97, 114, 116, 58, 84, 80, 73, 73]⟩ : ByteArray), (⟨#[101, 110, 100, 58, 84, 80, 73, 73]⟩ : ByteArray), (⟨#[101, 120, 116, 114, 97, 99, 116, 58, 84, 80, 73, 84]⟩ : ByteArray), (⟨#[101, 114, 97, 115, 101, 58, 84, 80, 84]⟩ : ByteArray), (⟨#[111, 99, 99, 117, 114, 115, 58, 84, 80, 73]⟩ : ByteArray), (⟨#[109, 97, 116, 99, 104, 101, 115, 58, 84, 80, 66]⟩ : ByteArray), (⟨#[112, 108, 105, 116, 58, 84, 80]⟩ : ByteArray), (⟨#[112, 99, 97, 116, 58, 80, 80, 80]⟩ : ByteArray), (⟨#[112, 97, 108, 116, 58, 80, 80, 80]⟩ : ByteArray), (⟨#[112, 115, 116, 97, 114, 58, 80, 80]⟩ : ByteArray)] : List (ByteArray))))))], [], []⟩ (by kernel_rfl) ?_
 obtain ⟨v4, hv4, h⟩ := Option.bind_eq_some_iff.1 h
 refine l_step ((n_call (ys := [eS ((⟨#[112, 97, 116, 116, 101, 114, 110, 115]⟩ : ByteArray)), (eL 1 eS) (([(⟨#[115, 116, 97, 114, 116, 58, 84, 80, 73, 73]⟩ : ByteArray), (⟨#[101, 110, 100, 58, 84, 80, 73, 73]⟩ : ByteArray), (⟨#[101, 120, 116, 114, 97, 99, 116, 58, 84, 80, 73, 84]⟩ : ByteArray), (⟨#[101, 114, 97, 115, 101, 58, 84, 80, 84]⟩ : ByteArray), (⟨#[111, 99, 99, 117, 114, 115, 58, 84, 80, 73]⟩ : ByteArray), (⟨#[109, 97, 116, 99, 104, 101, 115, 58, 84, 80, 66]⟩ : ByteArray), (⟨#[112, 108, 105, 116, 58, 84, 80]⟩ : ByteArray), (⟨#[112, 99, 97, 116, 58, 80, 80, 80]⟩ : ByteArray), (⟨#[112, 97, 108, 116, 58, 80, 80, 80]⟩ : ByteArray), (⟨#[112, 115, 116, 97, 114, 58, 80, 80]⟩ : ByteArray)] : List (ByteArray)))]) (cs := [(.one (.keep)), (.one (.sl 1))]) rfl (by kernel_rfl) (operator_family_ok ((⟨#[112, 97, 116, 116, 101, 114, 110, 115]⟩ : ByteArray)) (([(⟨#[115, 116, 97, 114, 116, 58, 84, 80, 73, 73]⟩ : ByteArray), (⟨#[101, 110, 100, 58, 84, 80, 73, 73]⟩ : ByteArray), (⟨#[101, 120, 116, 114, 97, 99, 116, 58, 84, 80, 73, 84]⟩ : ByteArray), (⟨#[101, 114, 97, 115, 101, 58, 84, 80, 84]⟩ : ByteArray), (⟨#[111, 99, 99, 117, 114, 115, 58, 84, 80, 73]⟩ : ByteArray), (⟨#[109, 97, 116, 99, 104, 101, 115, 58, 84, 80, 66]⟩ : ByteArray), (⟨#[112, 108, 105, 116, 58, 84, 80]⟩ : ByteArray), (⟨#[112, 99, 97, 116, 58, 80, 80, 80]⟩ : ByteArray), (⟨#[112, 97, 108, 116, 58, 80, 80, 80]⟩ : ByteArray), (⟨#[112, 115, 116, 97, 114, 58, 80, 80]⟩ : ByteArray)] : List (ByteArray))) _ hv4)).step) (by kernel_rfl) (dst_of (by kernel_rfl)) ?_
 refine l_rk 1 tt_ok ⟨29, [(1, (.fz (.atom (.slice none 0 0)))), (5, (.fz ((eL 4 eS_operator_entry) (v1)))), (7, (.fz ((eL 4 eS_operator_entry) (v2)))), (9, (.fz ((eL 4 eS_operator_entry) (v3)))), (11, (.fz ((eL 4 eS_operator_entry) (v4)))), (12, (.lim 1 (List.length (([(⟨#[104, 101, 97, 100, 58, 76, 73]⟩ : ByteArray), (⟨#[108, 97, 115, 116, 58, 76, 73]⟩ : ByteArray), (⟨#[116, 97, 107, 101, 58, 76, 73, 76]⟩ : ByteArray), (⟨#[100, 114, 111, 112, 58, 76, 73, 76]⟩ : ByteArray), (⟨#[114, 101, 118, 101, 114, 115, 101, 58, 76, 76]⟩ : ByteArray), (⟨#[115, 111, 114, 116, 58, 76, 76]⟩ : ByteArray), (⟨#[117, 110, 105, 113, 117, 101, 58, 76, 76]⟩ : ByteArray), (⟨#[115, 117, 109, 58, 76, 73]⟩ : ByteArray), (⟨#[115, 104, 105, 102, 116, 58, 76, 73, 76]⟩ : ByteArray), (⟨#[115, 99, 97, 108, 101, 58, 76, 73, 76]⟩ : ByteArray), (⟨#[97, 98, 111, 118, 101, 58, 76, 73, 76]⟩ : ByteArray), (⟨#[101, 118, 101, 110, 58, 76, 76]⟩ : ByteArray), (⟨#[122, 105, 112, 58, 76, 76, 76]⟩ : ByteArray), (⟨#[97, 112, 112, 101, 110, 100, 58, 76, 76, 76]⟩ : ByteArray), (⟨#[101, 108, 101, 109, 101, 110, 116, 58, 76, 73, 73]⟩ : ByteArray), (⟨#[99, 111, 117, 110, 116, 58, 76, 73, 73]⟩ : ByteArray), (⟨#[109, 97, 120, 105, 109, 117, 109, 58, 76, 73]⟩ : ByteArray), (⟨#[109, 105, 110, 105, 109, 117, 109, 58, 76, 73]⟩ : ByteArray), (⟨#[114, 117, 110, 110, 105, 110, 103, 58, 76, 76]⟩ : ByteArray), (⟨#[108, 101, 110, 103, 116, 104, 58, 76, 73]⟩ : ByteArray)] : List (ByteArray)))) (List.map eS (([(⟨#[104, 101, 97, 100, 58, 76, 73]⟩ : ByteArray), (⟨#[108, 97, 115, 116, 58, 76, 73]⟩ : ByteArray), (⟨#[116, 97, 107, 101, 58, 76, 73, 76]⟩ : ByteArray), (⟨#[100, 114, 111, 112, 58, 76, 73, 76]⟩ : ByteArray), (⟨#[114, 101, 118, 101, 114, 115, 101, 58, 76, 76]⟩ : ByteArray), (⟨#[115, 111, 114, 116, 58, 76, 76]⟩ : ByteArray), (⟨#[117, 110, 105, 113, 117, 101, 58, 76, 76]⟩ : ByteArray), (⟨#[115, 117, 109, 58, 76, 73]⟩ : ByteArray), (⟨#[115, 104, 105, 102, 116, 58, 76, 73, 76]⟩ : ByteArray), (⟨#[115, 99, 97, 108, 101, 58, 76, 73, 76]⟩ : ByteArray), (⟨#[97, 98, 111, 118, 101, 58, 76, 73, 76]⟩ : ByteArray), (⟨#[101, 118, 101, 110, 58, 76, 76]⟩ : ByteArray), (⟨#[122, 105, 112, 58, 76, 76, 76]⟩ : ByteArray), (⟨#[97, 112, 112, 101, 110, 100, 58, 76, 76, 76]⟩ : ByteArray), (⟨#[101, 108, 101, 109, 101, 110, 116, 58, 76, 73, 73]⟩ : ByteArray), (⟨#[99, 111, 117, 110, 116, 58, 76, 73, 73]⟩ : ByteArray), (⟨#[109, 97, 120, 105, 109, 117, 109, 58, 76, 73]⟩ : ByteArray), (⟨#[109, 105, 110, 105, 109, 117, 109, 58, 76, 73]⟩ : ByteArray), (⟨#[114, 117, 110, 110, 105, 110, 103, 58, 76, 76]⟩ : ByteArray), (⟨#[108, 101, 110, 103, 116, 104, 58, 76, 73]⟩ : ByteArray)] : List (ByteArray))))))], [], []⟩ (by kernel_rfl) ?_
 obtain ⟨v5, hv5, h⟩ := Option.bind_eq_some_iff.1 h
 refine l_step ((n_call (ys := [eS ((⟨#[108, 105, 115, 116, 115]⟩ : ByteArray)), (eL 1 eS) (([(⟨#[104, 101, 97, 100, 58, 76, 73]⟩ : ByteArray), (⟨#[108, 97, 115, 116, 58, 76, 73]⟩ : ByteArray), (⟨#[116, 97, 107, 101, 58, 76, 73, 76]⟩ : ByteArray), (⟨#[100, 114, 111, 112, 58, 76, 73, 76]⟩ : ByteArray), (⟨#[114, 101, 118, 101, 114, 115, 101, 58, 76, 76]⟩ : ByteArray), (⟨#[115, 111, 114, 116, 58, 76, 76]⟩ : ByteArray), (⟨#[117, 110, 105, 113, 117, 101, 58, 76, 76]⟩ : ByteArray), (⟨#[115, 117, 109, 58, 76, 73]⟩ : ByteArray), (⟨#[115, 104, 105, 102, 116, 58, 76, 73, 76]⟩ : ByteArray), (⟨#[115, 99, 97, 108, 101, 58, 76, 73, 76]⟩ : ByteArray), (⟨#[97, 98, 111, 118, 101, 58, 76, 73, 76]⟩ : ByteArray), (⟨#[101, 118, 101, 110, 58, 76, 76]⟩ : ByteArray), (⟨#[122, 105, 112, 58, 76, 76, 76]⟩ : ByteArray), (⟨#[97, 112, 112, 101, 110, 100, 58, 76, 76, 76]⟩ : ByteArray), (⟨#[101, 108, 101, 109, 101, 110, 116, 58, 76, 73, 73]⟩ : ByteArray), (⟨#[99, 111, 117, 110, 116, 58, 76, 73, 73]⟩ : ByteArray), (⟨#[109, 97, 120, 105, 109, 117, 109, 58, 76, 73]⟩ : ByteArray), (⟨#[109, 105, 110, 105, 109, 117, 109, 58, 76, 73]⟩ : ByteArray), (⟨#[114, 117, 110, 110, 105, 110, 103, 58, 76, 76]⟩ : ByteArray), (⟨#[108, 101, 110, 103, 116, 104, 58, 76, 73]⟩ : ByteArray)] : List (ByteArray)))]) (cs := [(.one (.keep)), (.one (.sl 1))]) rfl (by kernel_rfl) (operator_family_ok ((⟨#[108, 105, 115, 116, 115]⟩ : ByteArray)) (([(⟨#[104, 101, 97, 100, 58, 76, 73]⟩ : ByteArray), (⟨#[108, 97, 115, 116, 58, 76, 73]⟩ : ByteArray), (⟨#[116, 97, 107, 101, 58, 76, 73, 76]⟩ : ByteArray), (⟨#[100, 114, 111, 112, 58, 76, 73, 76]⟩ : ByteArray), (⟨#[114, 101, 118, 101, 114, 115, 101, 58, 76, 76]⟩ : ByteArray), (⟨#[115, 111, 114, 116, 58, 76, 76]⟩ : ByteArray), (⟨#[117, 110, 105, 113, 117, 101, 58, 76, 76]⟩ : ByteArray), (⟨#[115, 117, 109, 58, 76, 73]⟩ : ByteArray), (⟨#[115, 104, 105, 102, 116, 58, 76, 73, 76]⟩ : ByteArray), (⟨#[115, 99, 97, 108, 101, 58, 76, 73, 76]⟩ : ByteArray), (⟨#[97, 98, 111, 118, 101, 58, 76, 73, 76]⟩ : ByteArray), (⟨#[101, 118, 101, 110, 58, 76, 76]⟩ : ByteArray), (⟨#[122, 105, 112, 58, 76, 76, 76]⟩ : ByteArray), (⟨#[97, 112, 112, 101, 110, 100, 58, 76, 76, 76]⟩ : ByteArray), (⟨#[101, 108, 101, 109, 101, 110, 116, 58, 76, 73, 73]⟩ : ByteArray), (⟨#[99, 111, 117, 110, 116, 58, 76, 73, 73]⟩ : ByteArray), (⟨#[109, 97, 120, 105, 109, 117, 109, 58, 76, 73]⟩ : ByteArray), (⟨#[109, 105, 110, 105, 109, 117, 109, 58, 76, 73]⟩ : ByteArray), (⟨#[114, 117, 110, 110, 105, 110, 103, 58, 76, 76]⟩ : ByteArray), (⟨#[108, 101, 110, 103, 116, 104, 58, 76, 73]⟩ : ByteArray)] : List (ByteArray))) _ hv5)).step) (by kernel_rfl) (dst_of (by kernel_rfl)) ?_
 refine l_rk 1 tt_ok ⟨29, [(1, (.fz (.atom (.slice none 0 0)))), (5, (.fz ((eL 4 eS_operator_entry) (v1)))), (7, (.fz ((eL 4 eS_operator_entry) (v2)))), (9, (.fz ((eL 4 eS_operator_entry) (v3)))), (11, (.fz ((eL 4 eS_operator_entry) (v4)))), (13, (.fz ((eL 4 eS_operator_entry) (v5)))), (14, (.lim 1 (List.length (([(⟨#[116, 114, 97, 110, 115, 112, 111, 115, 101, 58, 77, 77]⟩ : ByteArray), (⟨#[114, 111, 119, 58, 77, 73, 83]⟩ : ByteArray), (⟨#[99, 111, 108, 117, 109, 110, 58, 77, 73, 83]⟩ : ByteArray), (⟨#[100, 114, 111, 112, 114, 111, 119, 58, 77, 73, 77]⟩ : ByteArray), (⟨#[100, 114, 111, 112, 99, 111, 108, 117, 109, 110, 58, 77, 73, 77]⟩ : ByteArray), (⟨#[115, 111, 114, 116, 116, 97, 98, 108, 101, 58, 77, 73, 77]⟩ : ByteArray), (⟨#[102, 105, 108, 108, 58, 77, 77]⟩ : ByteArray), (⟨#[117, 110, 112, 105, 118, 111, 116, 58, 77, 73, 77]⟩ : ByteArray), (⟨#[112, 105, 118, 111, 116, 58, 77, 77]⟩ : ByteArray), (⟨#[99, 101, 108, 108, 58, 77, 73, 73, 84]⟩ : ByteArray), (⟨#[115, 116, 97, 99, 107, 58, 77, 77, 77]⟩ : ByteArray), (⟨#[98, 101, 115, 105, 100, 101, 58, 77, 77, 77]⟩ : ByteArray), (⟨#[115, 112, 108, 105, 116, 99, 111, 108, 117, 109, 110, 58, 77, 73, 84, 77]⟩ : ByteArray)] : List (ByteArray)))) (List.map eS (([(⟨#[116, 114, 97, 110, 115, 112, 111, 115, 101, 58, 77, 77]⟩ : ByteArray), (⟨#[114, 111, 119, 58, 77, 73, 83]⟩ : ByteArray), (⟨#[99, 111, 108, 117, 109, 110, 58, 77, 73, 83]⟩ : ByteArray), (⟨#[100, 114, 111, 112, 114, 111, 119, 58, 77, 73, 77]⟩ : ByteArray), (⟨#[100, 114, 111, 112, 99, 111, 108, 117, 109, 110, 58, 77, 73, 77]⟩ : ByteArray), (⟨#[115, 111, 114, 116, 116, 97, 98, 108, 101, 58, 77, 73, 77]⟩ : ByteArray), (⟨#[102, 105, 108, 108, 58, 77, 77]⟩ : ByteArray), (⟨#[117, 110, 112, 105, 118, 111, 116, 58, 77, 73, 77]⟩ : ByteArray), (⟨#[112, 105, 118, 111, 116, 58, 77, 77]⟩ : ByteArray), (⟨#[99, 101, 108, 108, 58, 77, 73, 73, 84]⟩ : ByteArray), (⟨#[115, 116, 97, 99, 107, 58, 77, 77, 77]⟩ : ByteArray), (⟨#[98, 101, 115, 105, 100, 101, 58, 77, 77, 77]⟩ : ByteArray), (⟨#[115, 112, 108, 105, 116, 99, 111, 108, 117, 109, 110, 58, 77, 73, 84, 77]⟩ : ByteArray)] : List (ByteArray))))))], [], []⟩ (by kernel_rfl) ?_
 obtain ⟨v6, hv6, h⟩ := Option.bind_eq_some_iff.1 h
 refine l_step ((n_call (ys := [eS ((⟨#[116, 97, 98, 108, 101, 115]⟩ : ByteArray)), (eL 1 eS) (([(⟨#[116, 114, 97, 110, 115, 112, 111, 115, 101, 58, 77, 77]⟩ : ByteArray), (⟨#[114, 111, 119, 58, 77, 73, 83]⟩ : ByteArray), (⟨#[99, 111, 108, 117, 109, 110, 58, 77, 73, 83]⟩ : ByteArray), (⟨#[100, 114, 111, 112, 114, 111, 119, 58, 77, 73, 77]⟩ : ByteArray), (⟨#[100, 114, 111, 112, 99, 111, 108, 117, 109, 110, 58, 77, 73, 77]⟩ : ByteArray), (⟨#[115, 111, 114, 116, 116, 97, 98, 108, 101, 58, 77, 73, 77]⟩ : ByteArray), (⟨#[102, 105, 108, 108, 58, 77, 77]⟩ : ByteArray), (⟨#[117, 110, 112, 105, 118, 111, 116, 58, 77, 73, 77]⟩ : ByteArray), (⟨#[112, 105, 118, 111, 116, 58, 77, 77]⟩ : ByteArray), (⟨#[99, 101, 108, 108, 58, 77, 73, 73, 84]⟩ : ByteArray), (⟨#[115, 116, 97, 99, 107, 58, 77, 77, 77]⟩ : ByteArray), (⟨#[98, 101, 115, 105, 100, 101, 58, 77, 77, 77]⟩ : ByteArray), (⟨#[115, 112, 108, 105, 116, 99, 111, 108, 117, 109, 110, 58, 77, 73, 84, 77]⟩ : ByteArray)] : List (ByteArray)))]) (cs := [(.one (.keep)), (.one (.sl 1))]) rfl (by kernel_rfl) (operator_family_ok ((⟨#[116, 97, 98, 108, 101, 115]⟩ : ByteArray)) (([(⟨#[116, 114, 97, 110, 115, 112, 111, 115, 101, 58, 77, 77]⟩ : ByteArray), (⟨#[114, 111, 119, 58, 77, 73, 83]⟩ : ByteArray), (⟨#[99, 111, 108, 117, 109, 110, 58, 77, 73, 83]⟩ : ByteArray), (⟨#[100, 114, 111, 112, 114, 111, 119, 58, 77, 73, 77]⟩ : ByteArray), (⟨#[100, 114, 111, 112, 99, 111, 108, 117, 109, 110, 58, 77, 73, 77]⟩ : ByteArray), (⟨#[115, 111, 114, 116, 116, 97, 98, 108, 101, 58, 77, 73, 77]⟩ : ByteArray), (⟨#[102, 105, 108, 108, 58, 77, 77]⟩ : ByteArray), (⟨#[117, 110, 112, 105, 118, 111, 116, 58, 77, 73, 77]⟩ : ByteArray), (⟨#[112, 105, 118, 111, 116, 58, 77, 77]⟩ : ByteArray), (⟨#[99, 101, 108, 108, 58, 77, 73, 73, 84]⟩ : ByteArray), (⟨#[115, 116, 97, 99, 107, 58, 77, 77, 77]⟩ : ByteArray), (⟨#[98, 101, 115, 105, 100, 101, 58, 77, 77, 77]⟩ : ByteArray), (⟨#[115, 112, 108, 105, 116, 99, 111, 108, 117, 109, 110, 58, 77, 73, 84, 77]⟩ : ByteArray)] : List (ByteArray))) _ hv6)).step) (by kernel_rfl) (dst_of (by kernel_rfl)) ?_
 refine l_rk 1 tt_ok ⟨29, [(1, (.fz (.atom (.slice none 0 0)))), (5, (.fz ((eL 4 eS_operator_entry) (v1)))), (7, (.fz ((eL 4 eS_operator_entry) (v2)))), (9, (.fz ((eL 4 eS_operator_entry) (v3)))), (11, (.fz ((eL 4 eS_operator_entry) (v4)))), (13, (.fz ((eL 4 eS_operator_entry) (v5)))), (15, (.fz ((eL 4 eS_operator_entry) (v6)))), (16, (.lim 1 (List.length (([(⟨#[98, 97, 110, 100, 58, 86, 86, 86]⟩ : ByteArray), (⟨#[98, 111, 114, 58, 86, 86, 86]⟩ : ByteArray), (⟨#[98, 120, 111, 114, 58, 86, 86, 86]⟩ : ByteArray), (⟨#[98, 110, 111, 116, 58, 86, 86]⟩ : ByteArray), (⟨#[98, 97, 100, 100, 58, 86, 86, 86]⟩ : ByteArray), (⟨#[98, 115, 117, 98, 58, 86, 86, 86]⟩ : ByteArray), (⟨#[98, 109, 117, 108, 58, 86, 86, 86]⟩ : ByteArray), (⟨#[98, 108, 101, 102, 116, 58, 86, 73, 86]⟩ : ByteArray), (⟨#[98, 114, 105, 103, 104, 116, 58, 86, 73, 86]⟩ : ByteArray), (⟨#[98, 97, 114, 105, 116, 104, 58, 86, 73, 86]⟩ : ByteArray), (⟨#[111, 110, 101, 115, 58, 86, 73]⟩ : ByteArray), (⟨#[101, 113, 98, 105, 116, 115, 58, 86, 86, 66]⟩ : ByteArray)] : List (ByteArray)))) (List.map eS (([(⟨#[98, 97, 110, 100, 58, 86, 86, 86]⟩ : ByteArray), (⟨#[98, 111, 114, 58, 86, 86, 86]⟩ : ByteArray), (⟨#[98, 120, 111, 114, 58, 86, 86, 86]⟩ : ByteArray), (⟨#[98, 110, 111, 116, 58, 86, 86]⟩ : ByteArray), (⟨#[98, 97, 100, 100, 58, 86, 86, 86]⟩ : ByteArray), (⟨#[98, 115, 117, 98, 58, 86, 86, 86]⟩ : ByteArray), (⟨#[98, 109, 117, 108, 58, 86, 86, 86]⟩ : ByteArray), (⟨#[98, 108, 101, 102, 116, 58, 86, 73, 86]⟩ : ByteArray), (⟨#[98, 114, 105, 103, 104, 116, 58, 86, 73, 86]⟩ : ByteArray), (⟨#[98, 97, 114, 105, 116, 104, 58, 86, 73, 86]⟩ : ByteArray), (⟨#[111, 110, 101, 115, 58, 86, 73]⟩ : ByteArray), (⟨#[101, 113, 98, 105, 116, 115, 58, 86, 86, 66]⟩ : ByteArray)] : List (ByteArray))))))], [], []⟩ (by kernel_rfl) ?_
 obtain ⟨v7, hv7, h⟩ := Option.bind_eq_some_iff.1 h
 refine l_step ((n_call (ys := [eS ((⟨#[98, 105, 116, 115]⟩ : ByteArray)), (eL 1 eS) (([(⟨#[98, 97, 110, 100, 58, 86, 86, 86]⟩ : ByteArray), (⟨#[98, 111, 114, 58, 86, 86, 86]⟩ : ByteArray), (⟨#[98, 120, 111, 114, 58, 86, 86, 86]⟩ : ByteArray), (⟨#[98, 110, 111, 116, 58, 86, 86]⟩ : ByteArray), (⟨#[98, 97, 100, 100, 58, 86, 86, 86]⟩ : ByteArray), (⟨#[98, 115, 117, 98, 58, 86, 86, 86]⟩ : ByteArray), (⟨#[98, 109, 117, 108, 58, 86, 86, 86]⟩ : ByteArray), (⟨#[98, 108, 101, 102, 116, 58, 86, 73, 86]⟩ : ByteArray), (⟨#[98, 114, 105, 103, 104, 116, 58, 86, 73, 86]⟩ : ByteArray), (⟨#[98, 97, 114, 105, 116, 104, 58, 86, 73, 86]⟩ : ByteArray), (⟨#[111, 110, 101, 115, 58, 86, 73]⟩ : ByteArray), (⟨#[101, 113, 98, 105, 116, 115, 58, 86, 86, 66]⟩ : ByteArray)] : List (ByteArray)))]) (cs := [(.one (.keep)), (.one (.sl 1))]) rfl (by kernel_rfl) (operator_family_ok ((⟨#[98, 105, 116, 115]⟩ : ByteArray)) (([(⟨#[98, 97, 110, 100, 58, 86, 86, 86]⟩ : ByteArray), (⟨#[98, 111, 114, 58, 86, 86, 86]⟩ : ByteArray), (⟨#[98, 120, 111, 114, 58, 86, 86, 86]⟩ : ByteArray), (⟨#[98, 110, 111, 116, 58, 86, 86]⟩ : ByteArray), (⟨#[98, 97, 100, 100, 58, 86, 86, 86]⟩ : ByteArray), (⟨#[98, 115, 117, 98, 58, 86, 86, 86]⟩ : ByteArray), (⟨#[98, 109, 117, 108, 58, 86, 86, 86]⟩ : ByteArray), (⟨#[98, 108, 101, 102, 116, 58, 86, 73, 86]⟩ : ByteArray), (⟨#[98, 114, 105, 103, 104, 116, 58, 86, 73, 86]⟩ : ByteArray), (⟨#[98, 97, 114, 105, 116, 104, 58, 86, 73, 86]⟩ : ByteArray), (⟨#[111, 110, 101, 115, 58, 86, 73]⟩ : ByteArray), (⟨#[101, 113, 98, 105, 116, 115, 58, 86, 86, 66]⟩ : ByteArray)] : List (ByteArray))) _ hv7)).step) (by kernel_rfl) (dst_of (by kernel_rfl)) ?_
 refine l_rk 3 tt_ok ⟨29, [(1, (.fz (.atom (.slice none 0 0)))), (18, (.lim 1 (List.length (([v1, v2, v3, v4, v5, v6, v7] : List (List S_operator_entry)))) (List.map (eL 4 eS_operator_entry) (([v1, v2, v3, v4, v5, v6, v7] : List (List S_operator_entry)))))), (19, (fI ((List.length ([v1, v2, v3, v4, v5, v6, v7] : List (List S_operator_entry)) : Int)))), (20, (fI (0)))], [], []⟩ (by kernel_rfl) ?_
 refine l_nil ?_
 refine awp_block ?_
 refine awp_le (le_nilrow (e := 182) (size := 4) (t := 1) (id := 1) (by decide) (by kernel_rfl) (by kernel_rfl)) ?_
 obtain ⟨v12, hj, h⟩ := Option.bind_eq_some_iff.1 h
 refine awp_join (Qa := fun e st => e = .exit 0 ∧ LeSt st ⟨29, [(1, (.row 1 (List.length (v12))))], [(1, (.frow 182 4 (List.map eS_operator_entry (v12))))], [1]⟩) ?_ ?_
 ·refine awp_loopS (stOf := fun v8 => ⟨29, [(1, (.row 1 (List.length (v8.2)))), (18, (.lim 1 (List.length (([v1, v2, v3, v4, v5, v6, v7] : List (List S_operator_entry)))) (List.map (eL 4 eS_operator_entry) (([v1, v2, v3, v4, v5, v6, v7] : List (List S_operator_entry)))))), (19, (fI ((List.length ([v1, v2, v3, v4, v5, v6, v7] : List (List S_operator_entry)) : Int)))), (20, (fI (v8.1)))], [(1, (.frow 182 4 (List.map eS_operator_entry (v8.2))))], [1]⟩) (Qb := fun j e st => e = .exit 0 ∧ LeSt st ⟨29, [(1, (.row 1 (List.length (j))))], [(1, (.frow 182 4 (List.map eS_operator_entry (j))))], [1]⟩) hj (le_ck (by kernel_rfl)) ?_
  clear hj h
  intro v8 r h
  unfold operator_catalog_l1 at h
  refine awp_seq ?_
  refine awp_region ?_
  refine l_rk 1 tt_ok ⟨29, [(1, (.row 1 (List.length (v8.2)))), (18, (.lim 1 (List.length (([v1, v2, v3, v4, v5, v6, v7] : List (List S_operator_entry)))) (List.map (eL 4 eS_operator_entry) (([v1, v2, v3, v4, v5, v6, v7] : List (List S_operator_entry)))))), (19, (fI ((List.length ([v1, v2, v3, v4, v5, v6, v7] : List (List S_operator_entry)) : Int)))), (20, (fI (v8.1))), (21, (fB ((decide (v8.1 < (List.length ([v1, v2, v3, v4, v5, v6, v7] : List (List S_operator_entry)) : Int))))))], [(1, (.frow 182 4 (List.map eS_operator_entry (v8.2))))], [1]⟩ (by kernel_rfl) ?_
  refine l_nil ?_
  refine awp_seq ?_
  rcases cond_some h with ⟨hb, h⟩ | ⟨hb, h⟩
  ·refine awp_cond_t (b := (decide (v8.1 < (List.length ([v1, v2, v3, v4, v5, v6, v7] : List (List S_operator_entry)) : Int)))) (by kernel_rfl) hb ?_
   refine awp_skip ?_
   refine awp_seq ?_
   refine awp_block ?_
   refine awp_seq ?_
   refine awp_region ?_
   obtain ⟨v9, hv9, h⟩ := Option.bind_eq_some_iff.1 h
   refine l_step ((s_index (k := .i64) (d := tt192) (e := 185) (de := tt185) (enc := (eL 4 eS_operator_entry)) hv9 tt_ok rfl (by kernel_rfl) (by kernel_rfl) (by kernel_rfl) (by kernel_rfl) (len_eL _ _) (by kernel_rfl) rfl).step) (by kernel_rfl) (dst_of (by kernel_rfl)) ?_
   refine l_rk 2 tt_ok ⟨29, [(1, (.row 1 (List.length (v8.2)))), (3, (.fz ((eL 4 eS_operator_entry) (v9)))), (18, (.lim 1 (List.length (([v1, v2, v3, v4, v5, v6, v7] : List (List S_operator_entry)))) (List.map (eL 4 eS_operator_entry) (([v1, v2, v3, v4, v5, v6, v7] : List (List S_operator_entry)))))), (19, (fI ((List.length ([v1, v2, v3, v4, v5, v6, v7] : List (List S_operator_entry)) : Int)))), (20, (fI (v8.1)))], [(1, (.frow 182 4 (List.map eS_operator_entry (v8.2))))], [1]⟩ (by kernel_rfl) ?_
   refine l_nil ?_
   refine awp_region ?_
   refine l_rk 2 tt_ok ⟨29, [(18, (.lim 1 (List.length (([v1, v2, v3, v4, v5, v6, v7] : List (List S_operator_entry)))) (List.map (eL 4 eS_operator_entry) (([v1, v2, v3, v4, v5, v6, v7] : List (List S_operator_entry)))))), (19, (fI ((List.length ([v1, v2, v3, v4, v5, v6, v7] : List (List S_operator_entry)) : Int)))), (20, (fI (v8.1))), (24, (.row 1 (List.length (v8.2)))), (25, (.fz ((eL 4 eS_operator_entry) (v9))))], [(1, (.frow 182 4 (List.map eS_operator_entry (v8.2))))], [1]⟩ (by kernel_rfl) ?_
   obtain ⟨v10, hv10, h⟩ := Option.bind_eq_some_iff.1 h
   refine l_step (s_append (d := tt185) (e := 182) (de := tt182) (enc := eS_operator_entry) (xs := v8.2) (ys := v9) (m := List.length v9) (id := 1) (n := List.length (v8.2)) hv10 tt_ok rfl (by kernel_rfl) (by kernel_rfl) (by kernel_rfl) (by kernel_rfl) (by kernel_rfl) (by kernel_rfl) (by kernel_rfl) (by kernel_rfl) rfl (.inl (by kernel_rfl))) (by kernel_rfl) (dst_of (by kernel_rfl)) ?_
   refine l_rk 1 tt_ok ⟨29, [(1, (.row 1 (List.length (v10)))), (18, (.lim 1 (List.length (([v1, v2, v3, v4, v5, v6, v7] : List (List S_operator_entry)))) (List.map (eL 4 eS_operator_entry) (([v1, v2, v3, v4, v5, v6, v7] : List (List S_operator_entry)))))), (19, (fI ((List.length ([v1, v2, v3, v4, v5, v6, v7] : List (List S_operator_entry)) : Int)))), (20, (fI (v8.1)))], [(1, (.frow 182 4 (List.map eS_operator_entry (v10))))], [1]⟩ (by kernel_rfl) ?_
   refine l_nil ?_
   refine awp_region ?_
   refine l_rk 2 tt_ok ⟨29, [(1, (.row 1 (List.length (v10)))), (18, (.lim 1 (List.length (([v1, v2, v3, v4, v5, v6, v7] : List (List S_operator_entry)))) (List.map (eL 4 eS_operator_entry) (([v1, v2, v3, v4, v5, v6, v7] : List (List S_operator_entry)))))), (19, (fI ((List.length ([v1, v2, v3, v4, v5, v6, v7] : List (List S_operator_entry)) : Int)))), (20, (fI ((w64 (v8.1 + 1)))))], [(1, (.frow 182 4 (List.map eS_operator_entry (v10))))], [1]⟩ (by kernel_rfl) ?_
   refine l_nil ?_
   obtain rfl := Option.some.inj h
   exact And.intro rfl (le_ck (by kernel_rfl))
  ·refine awp_cond_f (b := (decide (v8.1 < (List.length ([v1, v2, v3, v4, v5, v6, v7] : List (List S_operator_entry)) : Int)))) (by kernel_rfl) hb ?_
   refine awp_exit ?_
   obtain rfl := Option.some.inj h
   exact And.intro (And.intro (fun h => nomatch h) (fun h => nomatch h)) (And.intro rfl (le_ck (by kernel_rfl)))
 ·clear hj
  intro e st' hq
  obtain ⟨rfl, hle⟩ := hq
  refine ⟨_, hle, ?_⟩
  refine awp_seq ?_
  refine awp_region ?_
  refine l_rk 2 tt_ok ⟨29, [(0, (.row 1 (List.length (v12))))], [(1, (.frow 182 4 (List.map eS_operator_entry (v12))))], [1]⟩ (by kernel_rfl) ?_
  refine l_nil ?_
  refine awp_le (le_freeze (t := 0) (id := 1) (n := List.length (v12)) (e := 182) (size := 4) (xs := List.map eS_operator_entry (v12)) (by kernel_rfl) (by kernel_rfl) (by simp)) ?_
  refine awp_ret ?_
  obtain rfl := Option.some.inj h
  exact (show retX _ _ _ _ = some _ from by kernel_rfl)

def operator_find_m0 : List (Nat × AObj) := [(1, (.box 182 [(fS ((⟨#[]⟩ : ByteArray))), (.fz (.atom (.slice none 0 0))), (fI (0)), (fS ((⟨#[]⟩ : ByteArray)))]))]
def operator_find_l1 (a0 : ByteArray) (v1 : List S_operator_entry) (v2 : (Int)) : Option (((Int)) ⊕ (((Unit) ⊕ ((S_operator_entry) × (Bool))))) := (bif (decide (v2 < (List.length v1 : Int))) then (Option.bind (idx v1 v2) fun v3 => (bif (v3.f_Operator.f_Name.toList == a0.toList) then (some (.inr (.inr (v3, true)))) else (some (.inl ((w64 (v2 + 1))))))) else (some (.inr (.inl ()))))
def operator_find (a0 : ByteArray) : Option ((S_operator_entry) × (Bool)) := (Option.bind (operator_catalog ) fun v1 => (Option.bind (loopN (operator_find_l1 a0 v1) fuel (0)) fun (v4 : ((Unit) ⊕ ((S_operator_entry) × (Bool)))) => Sum.elim (fun v5 => (some ((S_operator_entry.mk ((S_api_Operator.mk ((⟨#[]⟩ : ByteArray)) (([] : List Int)) (0))) ((⟨#[]⟩ : ByteArray))), false))) (fun v6 => (some v6)) v4))
theorem operator_find_ok (a0 : ByteArray) (r : (S_operator_entry) × (Bool)) (h : operator_find a0 = some r) : PCall Try.prog 190 [eS a0] (.tup [eS_operator_entry (r.1), eB (r.2)]) := by
 unfold operator_find at h
 refine pcall_intro (T := TT) tt_ok [.ag [.keep, .sl 1, .keep, .keep], .one .keep] Try.func190 rfl (by kernel_rfl) (by kernel_rfl) ?_
 refine awp_le (st' := ⟨20, [(0, (fS (a0)))], [], []⟩) (le_ck (by kernel_rfl)) ?_
 refine awp_seq ?_
 refine awp_region ?_
 refine l_rk 2 tt_ok ⟨20, [(0, (fS (a0))), (2, (.ref 1 0 0))], (operator_find_m0), [1]⟩ (by kernel_rfl) ?_
 refine l_nil ?_
 refine awp_seq ?_
 refine awp_seq ?_
 refine awp_region ?_
 obtain ⟨v1, hv1, h⟩ := Option.bind_eq_some_iff.1 h
 refine l_step ((n_call (ys := []) (cs := []) rfl (by kernel_rfl) (operator_catalog_ok  _ hv1)).step) (by kernel_rfl) (dst_of (by kernel_rfl)) ?_
 refine l_rk 2 tt_ok ⟨20, [(0, (fS (a0))), (2, (.ref 1 0 0)), (6, (.fz ((eL 4 eS_operator_entry) (v1)))), (7, (fI ((List.length v1 : Int)))), (8, (fI (0)))], (operator_find_m0), [1]⟩ (by kernel_rfl) ?_
 refine l_nil ?_
 refine awp_block ?_
 obtain ⟨v4, hj, h⟩ := Option.bind_eq_some_iff.1 h
 refine awp_join (Qa := fun e st => Sum.elim (fun p => e = .exit 0 ∧ LeSt st ⟨20, [(2, (.ref 1 0 0))], (operator_find_m0), [1]⟩) (fun p => e = .ret ∧ retX TT st Try.f190.results.toList [.ag [.keep, .sl 1, .keep, .keep], .one .keep] = some (.tup [eS_operator_entry (p.1), eB (p.2)])) v4) ?_ ?_
 ·refine awp_loopS (stOf := fun v2 => ⟨20, [(0, (fS (a0))), (2, (.ref 1 0 0)), (6, (.fz ((eL 4 eS_operator_entry) (v1)))), (7, (fI ((List.length v1 : Int)))), (8, (fI (v2)))], (operator_find_m0), [1]⟩) (Qb := fun j e st => Sum.elim (fun p => e = .exit 0 ∧ LeSt st ⟨20, [(2, (.ref 1 0 0))], (operator_find_m0), [1]⟩) (fun p => e = .ret ∧ retX TT st Try.f190.results.toList [.ag [.keep, .sl 1, .keep, .keep], .one .keep] = some (.tup [eS_operator_entry (p.1), eB (p.2)])) j) hj (le_ck (by kernel_rfl)) ?_
  clear hj h
  intro v2 r h
  unfold operator_find_l1 at h
  refine awp_seq ?_
  refine awp_region ?_
  refine l_rk 1 tt_ok ⟨20, [(0, (fS (a0))), (2, (.ref 1 0 0)), (6, (.fz ((eL 4 eS_operator_entry) (v1)))), (7, (fI ((List.length v1 : Int)))), (8, (fI (v2))), (9, (fB ((decide (v2 < (List.length v1 : Int))))))], (operator_find_m0), [1]⟩ (by kernel_rfl) ?_
  refine l_nil ?_
  refine awp_seq ?_
  rcases cond_some h with ⟨hb, h⟩ | ⟨hb, h⟩
  ·refine awp_cond_t (b := (decide (v2 < (List.length v1 : Int)))) (by kernel_rfl) hb ?_
   refine awp_skip ?_
   refine awp_seq ?_
   refine awp_block ?_
   refine awp_seq ?_
   refine awp_region ?_
   obtain ⟨v3, hv3, h⟩ := Option.bind_eq_some_iff.1 h
   refine l_step ((s_index (k := .i64) (d := tt185) (e := 182) (de := tt182) (enc := eS_operator_entry) hv3 tt_ok rfl (by kernel_rfl) (by kernel_rfl) (by kernel_rfl) (by kernel_rfl) len_eS_operator_entry (by kernel_rfl) rfl).step) (by kernel_rfl) (dst_of (by kernel_rfl)) ?_
   refine l_rk 3 tt_ok ⟨20, [(0, (fS (a0))), (2, (.ref 1 0 0)), (5, (.ref 2 0 0)), (6, (.fz ((eL 4 eS_operator_entry) (v1)))), (7, (fI ((List.length v1 : Int)))), (8, (fI (v2)))], [(1, (.box 182 [(fS ((⟨#[]⟩ : ByteArray))), (.fz (.atom (.slice none 0 0))), (fI (0)), (fS ((⟨#[]⟩ : ByteArray)))])), (2, (.box 182 [(fS (v3.f_Operator.f_Name)), (.fz ((eL 1 eI) (v3.f_Operator.f_Args))), (fI (v3.f_Operator.f_Result)), (fS (v3.f_family))]))], [2, 1]⟩ (by kernel_rfl) ?_
   refine l_nil ?_
   refine awp_seq ?_
   refine awp_region ?_
   refine l_rk 5 tt_ok ⟨20, [(0, (fS (a0))), (2, (.ref 1 0 0)), (5, (.ref 2 0 0)), (6, (.fz ((eL 4 eS_operator_entry) (v1)))), (7, (fI ((List.length v1 : Int)))), (8, (fI (v2))), (16, (fB ((v3.f_Operator.f_Name.toList == a0.toList))))], [(1, (.box 182 [(fS ((⟨#[]⟩ : ByteArray))), (.fz (.atom (.slice none 0 0))), (fI (0)), (fS ((⟨#[]⟩ : ByteArray)))])), (2, (.box 182 [(fS (v3.f_Operator.f_Name)), (.fz ((eL 1 eI) (v3.f_Operator.f_Args))), (fI (v3.f_Operator.f_Result)), (fS (v3.f_family))]))], [2, 1]⟩ (by kernel_rfl) ?_
   refine l_nil ?_
   rcases cond_some h with ⟨hb, h⟩ | ⟨hb, h⟩
   ·refine awp_cond_t (b := (v3.f_Operator.f_Name.toList == a0.toList)) (by kernel_rfl) hb ?_
    refine awp_seq ?_
    refine awp_region ?_
    refine l_rk 3 tt_ok ⟨20, [(2, (.ref 1 0 0)), (3, (fB (true)))], [(1, (.box 182 [(fS (v3.f_Operator.f_Name)), (.fz ((eL 1 eI) (v3.f_Operator.f_Args))), (fI (v3.f_Operator.f_Result)), (fS (v3.f_family))]))], [1]⟩ (by kernel_rfl) ?_
    refine l_nil ?_
    refine awp_ret ?_
    obtain rfl := Option.some.inj h
    exact And.intro (And.intro (fun h => nomatch h) (fun h => nomatch h)) (And.intro rfl (show retX _ _ _ _ = some _ from by kernel_rfl))
   ·refine awp_cond_f (b := (v3.f_Operator.f_Name.toList == a0.toList)) (by kernel_rfl) hb ?_
    refine awp_skip ?_
    refine awp_region ?_
    refine l_rk 2 tt_ok ⟨20, [(0, (fS (a0))), (2, (.ref 1 0 0)), (6, (.fz ((eL 4 eS_operator_entry) (v1)))), (7, (fI ((List.length v1 : Int)))), (8, (fI ((w64 (v2 + 1)))))], (operator_find_m0), [1]⟩ (by kernel_rfl) ?_
    refine l_nil ?_
    obtain rfl := Option.some.inj h
    exact And.intro rfl (le_ck (by kernel_rfl))
  ·refine awp_cond_f (b := (decide (v2 < (List.length v1 : Int)))) (by kernel_rfl) hb ?_
   refine awp_exit ?_
   obtain rfl := Option.some.inj h
   exact And.intro (And.intro (fun h => nomatch h) (fun h => nomatch h)) (And.intro rfl (le_ck (by kernel_rfl)))
 ·clear hj
  intro e st' hq
  rcases v4 with v5 | v6
  ·try simp only [Sum.elim_inl, Sum.elim_inr] at h
   obtain ⟨rfl, hle⟩ := hq
   refine ⟨_, hle, ?_⟩
   refine awp_seq ?_
   refine awp_region ?_
   refine l_rk 3 tt_ok ⟨20, [(2, (.ref 1 0 0)), (3, (fB (false)))], (operator_find_m0), [1]⟩ (by kernel_rfl) ?_
   refine l_nil ?_
   refine awp_ret ?_
   obtain rfl := Option.some.inj h
   exact (show retX _ _ _ _ = some _ from by kernel_rfl)
  ·try simp only [Sum.elim_inl, Sum.elim_inr] at h
   obtain ⟨rfl, hret⟩ := hq
   refine ⟨_, LeSt.refl, ?_⟩
   obtain rfl := Option.some.inj h
   exact hret

def operator_Find_m0 : List (Nat × AObj) := [(1, (.box 171 [(fS ((⟨#[]⟩ : ByteArray))), (.fz (.atom (.slice none 0 0))), (fI (0))]))]
def operator_Find (a0 : ByteArray) : Option ((S_api_Operator) × (Bool)) := (Option.bind (operator_find (a0)) fun v1 => (some (v1.1.f_Operator, v1.2)))
theorem operator_Find_ok (a0 : ByteArray) (r : (S_api_Operator) × (Bool)) (h : operator_Find a0 = some r) : PCall Try.prog 177 [eS a0] (.tup [eS_api_Operator (r.1), eB (r.2)]) := by
 unfold operator_Find at h
 refine pcall_intro (T := TT) tt_ok [.ag [.keep, .sl 1, .keep], .one .keep] Try.func177 rfl (by kernel_rfl) (by kernel_rfl) ?_
 refine awp_le (st' := ⟨14, [(0, (fS (a0)))], [], []⟩) (le_ck (by kernel_rfl)) ?_
 refine awp_seq ?_
 refine awp_region ?_
 refine l_rk 2 tt_ok ⟨14, [(0, (fS (a0))), (2, (.ref 1 0 0))], (operator_Find_m0), [1]⟩ (by kernel_rfl) ?_
 refine l_nil ?_
 refine awp_seq ?_
 refine awp_region ?_
 refine l_rk 1 tt_ok ⟨14, [(2, (.ref 1 0 0)), (7, (fS (a0)))], (operator_Find_m0), [1]⟩ (by kernel_rfl) ?_
 obtain ⟨v1, hv1, h⟩ := Option.bind_eq_some_iff.1 h
 refine l_step ((n_call (ys := [eS (a0)]) (cs := [(.one (.keep))]) rfl (by kernel_rfl) (operator_find_ok (a0) _ hv1)).step) (by kernel_rfl) (dst_of (by kernel_rfl)) ?_
 refine l_rk 6 tt_ok ⟨14, [(2, (.ref 1 0 0)), (4, (.ref 2 0 0)), (5, (fB (v1.2)))], [(1, (.box 171 [(fS ((⟨#[]⟩ : ByteArray))), (.fz (.atom (.slice none 0 0))), (fI (0))])), (2, (.box 182 [(fS (v1.1.f_Operator.f_Name)), (.fz ((eL 1 eI) (v1.1.f_Operator.f_Args))), (fI (v1.1.f_Operator.f_Result)), (fS (v1.1.f_family))]))], [2, 1]⟩ (by kernel_rfl) ?_
 refine l_nil ?_
 refine awp_seq ?_
 refine awp_region ?_
 refine l_rk 5 tt_ok ⟨14, [(2, (.ref 1 0 0)), (3, (fB (v1.2)))], [(1, (.box 171 [(fS (v1.1.f_Operator.f_Name)), (.fz ((eL 1 eI) (v1.1.f_Operator.f_Args))), (fI (v1.1.f_Operator.f_Result))]))], [1]⟩ (by kernel_rfl) ?_
 refine l_nil ?_
 refine awp_ret ?_
 obtain rfl := Option.some.inj h
 exact (show retX _ _ _ _ = some _ from by kernel_rfl)
end Go.Proofs.Ytaeicmnimjfbaaa
