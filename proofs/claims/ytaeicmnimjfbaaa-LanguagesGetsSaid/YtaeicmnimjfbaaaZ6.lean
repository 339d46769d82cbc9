/- Typed programs and what computes them. -/
import Derived.Test.YtaeicmnimjfbaaaZ5
set_option linter.unusedVariables false
set_option linter.unusedSimpArgs false
set_option maxRecDepth 100000
namespace Go.Proofs.Ytaeicmnimjfbaaa
open Go Go.RowKit Go.Proofs
def synthesisref16_writer_op_h2_l1 (a4 : Int) (a5 : List ByteArray) (a6 : List Int) (v1 : (Int) × (List Ru)) : Option (((Int) × (List Ru)) ⊕ ((List Ru))) := (bif (decide (v1.1 < (List.length a5 : Int))) then (Option.bind (idx a5 v1.1) fun v2 => (Option.bind (app 120 v1.2 ([(Ru.mk (a4) (3) (0) ((Va.mk (0) (0) ((⟨#[]⟩ : ByteArray)) (([] : List Va)))) (v2) (a6))] : List (Ru))) fun v3 => (some (.inl ((w64 (v1.1 + 1)), v3))))) else (some (.inr (v1.2))))
def synthesisref16_writer_op_h2 (a0 : ByteArray) (a1 : List Int) (a2 : List Sy) (a3 : List Ru) (a4 : Int) (a5 : List ByteArray) (a6 : List Int) : Option ((List Ru)) := (Option.bind (loopN (synthesisref16_writer_op_h2_l1 a4 a5 a6) fuel (0, a3)) fun (v5 : (List Ru)) => (some (v5)))
theorem synthesisref16_writer_op_h2_ok (a0 : ByteArray) (a1 : List Int) (a2 : List Sy) (a3 : List Ru) (a4 : Int) (a5 : List ByteArray) (a6 : List Int) (r : (List Ru)) (h : synthesisref16_writer_op_h2 a0 a1 a2 a3 a4 a5 a6 = some r) : HCall Try.prog 75 ([(.ref 1 0 0), (fI (a4)), (.fz ((eL 1 eS) (a5))), (.fz ((eL 1 eI) (a6)))] ++ []) [(1, (.box 91 [(fS (a0)), (.fz ((eL 1 eI) (a1))), (.row 2 (List.length (a2))), (.row 3 (List.length (a3)))])), (2, (.frow 72 2 (List.map eSy (a2)))), (3, (.frow 67 9 (List.map eRu (a3))))] [1, 2, 3] (.ret (.fz (.tup []))) [(1, (.box 91 [(fS (a0)), (.fz ((eL 1 eI) (a1))), (.row 2 (List.length (a2))), (.row 3 (List.length (r)))])), (2, (.frow 72 2 (List.map eSy (a2)))), (3, (.frow 67 9 (List.map eRu (r))))] [1, 2, 3] := by
 unfold synthesisref16_writer_op_h2 at h
 refine hcall_introQ (g := 0) tt_ok Try.func75 rfl (by kernel_rfl) (by kernel_rfl) (by kernel_rfl) (by kernel_rfl) (by kernel_rfl) (by kernel_rfl) (by kernel_rfl) ?_
 intro p0 q0 w0
 refine awp_le (st' := ⟨33, [(0, (.ref 1 0 0)), (1, (fI (a4))), (2, (.fz ((eL 1 eS) (a5)))), (3, (.fz ((eL 1 eI) (a6))))], [(0, (.was p0 [1, 2, 3] q0 w0)), (1, (.box 91 [(fS (a0)), (.fz ((eL 1 eI) (a1))), (.row 2 (List.length (a2))), (.row 3 (List.length (a3)))])), (2, (.frow 72 2 (List.map eSy (a2)))), (3, (.frow 67 9 (List.map eRu (a3))))], [0, 1, 2, 3]⟩) (le_ck (by kernel_rfl)) ?_
 refine awp_seq ?_
 refine awp_region ?_
 refine l_rk 1 tt_ok ⟨33, [(0, (.ref 1 0 0)), (1, (fI (a4))), (2, (.fz ((eL 1 eS) (a5)))), (3, (.fz ((eL 1 eI) (a6)))), (8, (fI (0)))], [(0, (.was p0 [1, 2, 3] q0 w0)), (1, (.box 91 [(fS (a0)), (.fz ((eL 1 eI) (a1))), (.row 2 (List.length (a2))), (.row 3 (List.length (a3)))])), (2, (.frow 72 2 (List.map eSy (a2)))), (3, (.frow 67 9 (List.map eRu (a3))))], [0, 1, 2, 3]⟩ (by kernel_rfl) ?_
 refine l_nil ?_
 refine awp_block ?_
 obtain ⟨v5, hj, h⟩ := Option.bind_eq_some_iff.1 h
 refine awp_join (Qa := fun e st => e = .exit 0 ∧ LeSt st ⟨33, [], [(0, (.was p0 [1, 2, 3] q0 w0)), (1, (.box 91 [(fS (a0)), (.fz ((eL 1 eI) (a1))), (.row 2 (List.length (a2))), (.row 3 (List.length (v5)))])), (2, (.frow 72 2 (List.map eSy (a2)))), (3, (.frow 67 9 (List.map eRu (v5))))], [0, 1, 2, 3]⟩) ?_ ?_
 ·refine awp_loopS (stOf := fun v1 => ⟨33, [(0, (.ref 1 0 0)), (1, (fI (a4))), (2, (.fz ((eL 1 eS) (a5)))), (3, (.fz ((eL 1 eI) (a6)))), (8, (fI (v1.1)))], [(0, (.was p0 [1, 2, 3] q0 w0)), (1, (.box 91 [(fS (a0)), (.fz ((eL 1 eI) (a1))), (.row 2 (List.length (a2))), (.row 3 (List.length (v1.2)))])), (2, (.frow 72 2 (List.map eSy (a2)))), (3, (.frow 67 9 (List.map eRu (v1.2))))], [0, 1, 2, 3]⟩) (Qb := fun j e st => e = .exit 0 ∧ LeSt st ⟨33, [], [(0, (.was p0 [1, 2, 3] q0 w0)), (1, (.box 91 [(fS (a0)), (.fz ((eL 1 eI) (a1))), (.row 2 (List.length (a2))), (.row 3 (List.length (j)))])), (2, (.frow 72 2 (List.map eSy (a2)))), (3, (.frow 67 9 (List.map eRu (j))))], [0, 1, 2, 3]⟩) hj (le_ck (by kernel_rfl)) ?_
  clear hj h
  intro v1 r h
  unfold synthesisref16_writer_op_h2_l1 at h
  refine awp_seq ?_
  refine awp_seq ?_
  refine awp_region ?_
  refine l_rk 4 tt_ok ⟨33, [(0, (.ref 1 0 0)), (1, (fI (a4))), (2, (.fz ((eL 1 eS) (a5)))), (3, (.fz ((eL 1 eI) (a6)))), (8, (fI (v1.1))), (12, (fB ((decide (v1.1 < (List.length a5 : Int))))))], [(0, (.was p0 [1, 2, 3] q0 w0)), (1, (.box 91 [(fS (a0)), (.fz ((eL 1 eI) (a1))), (.row 2 (List.length (a2))), (.row 3 (List.length (v1.2)))])), (2, (.frow 72 2 (List.map eSy (a2)))), (3, (.frow 67 9 (List.map eRu (v1.2))))], [0, 1, 2, 3]⟩ (by kernel_rfl) ?_
  refine l_nil ?_
  rcases cond_some h with ⟨hb, h⟩ | ⟨hb, h⟩
  ·refine awp_cond_t (b := (decide (v1.1 < (List.length a5 : Int)))) (by kernel_rfl) hb ?_
   refine awp_skip ?_
   refine awp_seq ?_
   refine awp_block ?_
   obtain ⟨v2, hv2, h⟩ := Option.bind_eq_some_iff.1 h
   obtain ⟨v3, hv3, h⟩ := Option.bind_eq_some_iff.1 h
   refine awp_drawnE (by kernel_rfl) 14 3 (.frow 67 9 (List.map eRu (v1.2))) (.frow 67 9 (List.map eRu (v3))) [(.ref 1 0 0), (.ref 1 0 0), (.ref 1 0 0), (.ref 1 0 0), (.ref 1 0 3), (.row 3 (List.length (v1.2))), (fI (a4)), (.fz ((eL 1 eS) (a5))), (fI (v1.1)), (.fz (.fp [(eS (v2))])), (fS (v2)), (.fz ((eL 1 eI) (a6))), (.fz (.agg [(eI (a4)), (eI (3)), (eI (0)), (eI (0)), (eI (0)), (eS ((⟨#[]⟩ : ByteArray))), (.atom (.slice none 0 0)), (eS (v2)), ((eL 1 eI) (a6))])), (.lim 9 (List.length (([(Ru.mk (a4) (3) (0) ((Va.mk (0) (0) ((⟨#[]⟩ : ByteArray)) (([] : List Va)))) (v2) (a6))] : List (Ru)))) (List.map eRu (([(Ru.mk (a4) (3) (0) ((Va.mk (0) (0) ((⟨#[]⟩ : ByteArray)) (([] : List Va)))) (v2) (a6))] : List (Ru))))), (.row 3 (List.length (v3)))] (by kernel_rfl) (by kernel_rfl) (by kernel_rfl) ?_
   refine ⟨.inr ⟨by decide, .inl ⟨by kernel_rfl, (nstep_ok tt_ok (by kernel_rfl))⟩⟩, ?_⟩
   refine ⟨.inr ⟨by decide, .inl ⟨by kernel_rfl, (nstep_ok tt_ok (by kernel_rfl))⟩⟩, ?_⟩
   refine ⟨.inr ⟨by decide, .inl ⟨by kernel_rfl, (nstep_ok tt_ok (by kernel_rfl))⟩⟩, ?_⟩
   refine ⟨.inr ⟨by decide, .inl ⟨by kernel_rfl, (nstep_ok tt_ok (by kernel_rfl))⟩⟩, ?_⟩
   refine ⟨.inr ⟨by decide, .inl ⟨by kernel_rfl, (nstep_ok tt_ok (by kernel_rfl))⟩⟩, ?_⟩
   refine ⟨.inr ⟨by decide, .inl ⟨by kernel_rfl, (nstep_ok tt_ok (by kernel_rfl))⟩⟩, ?_⟩
   refine ⟨.inr ⟨by decide, .inl ⟨by kernel_rfl, (nstep_ok tt_ok (by kernel_rfl))⟩⟩, ?_⟩
   refine ⟨.inr ⟨by decide, .inl ⟨by kernel_rfl, (nstep_ok tt_ok (by kernel_rfl))⟩⟩, ?_⟩
   refine ⟨.inr ⟨by decide, .inl ⟨by kernel_rfl, (nstep_ok tt_ok (by kernel_rfl))⟩⟩, ?_⟩
   refine ⟨.inr ⟨by decide, .inl ⟨by kernel_rfl, (s_index (k := .i64) (d := tt32) (e := 9) (de := tt9) (enc := eS) hv2 tt_ok rfl (by kernel_rfl) (by kernel_rfl) (by kernel_rfl) (by kernel_rfl) len_eS (by kernel_rfl) rfl)⟩⟩, ?_⟩
   refine ⟨.inr ⟨by decide, .inl ⟨by kernel_rfl, (nstep_ok tt_ok (by kernel_rfl))⟩⟩, ?_⟩
   refine ⟨.inr ⟨by decide, .inl ⟨by kernel_rfl, (nstep_ok tt_ok (by kernel_rfl))⟩⟩, ?_⟩
   refine ⟨.inr ⟨by decide, .inl ⟨by kernel_rfl, (nstep_ok tt_ok (by kernel_rfl))⟩⟩, ?_⟩
   refine ⟨.inr ⟨by decide, .inl ⟨by kernel_rfl, (nstep_co (st' := ⟨33, [(27, (.fz (eRu ((Ru.mk (a4) (3) (0) ((Va.mk (0) (0) ((⟨#[]⟩ : ByteArray)) (([] : List Va)))) (v2) (a6))))))], [], []⟩) (ids := []) (ts := [(27, (.ag [.keep, .keep, .keep, .keep, .keep, .keep, .sl 4, .keep, .sl 1]))]) (by kernel_rfl) (nstep_ok (c := .lim 9 1 [eRu ((Ru.mk (a4) (3) (0) ((Va.mk (0) (0) ((⟨#[]⟩ : ByteArray)) (([] : List Va)))) (v2) (a6)))]) tt_ok (by kernel_rfl)))⟩⟩, ?_⟩
   refine ⟨.inl ⟨rfl, by kernel_rfl, (s_appE (d := tt25) (e := 67) (de := tt67) (enc := eRu) (xs := v1.2) (ys := ([(Ru.mk (a4) (3) (0) ((Va.mk (0) (0) ((⟨#[]⟩ : ByteArray)) (([] : List Va)))) (v2) (a6))] : List (Ru))) (m := List.length ([(Ru.mk (a4) (3) (0) ((Va.mk (0) (0) ((⟨#[]⟩ : ByteArray)) (([] : List Va)))) (v2) (a6))] : List (Ru))) (id := 3) (n := List.length (v1.2)) hv3 tt_ok rfl (by kernel_rfl) (by kernel_rfl) (by kernel_rfl) (by kernel_rfl) (by kernel_rfl) (by kernel_rfl) (by kernel_rfl) rfl (.inr (by kernel_rfl)))⟩, ?_⟩
   refine l_rk 4 tt_ok ⟨33, [(0, (.ref 1 0 0)), (1, (fI (a4))), (2, (.fz ((eL 1 eS) (a5)))), (3, (.fz ((eL 1 eI) (a6)))), (8, (fI (v1.1)))], [(0, (.was p0 [1, 2, 3] q0 w0)), (1, (.box 91 [(fS (a0)), (.fz ((eL 1 eI) (a1))), (.row 2 (List.length (a2))), (.row 3 (List.length (v3)))])), (2, (.frow 72 2 (List.map eSy (a2)))), (3, (.frow 67 9 (List.map eRu (v3))))], [0, 1, 2, 3]⟩ (by kernel_rfl) ?_
   refine l_nil ?_
   refine awp_region ?_
   refine l_rk 3 tt_ok ⟨33, [(0, (.ref 1 0 0)), (1, (fI (a4))), (2, (.fz ((eL 1 eS) (a5)))), (3, (.fz ((eL 1 eI) (a6)))), (8, (fI ((w64 (v1.1 + 1)))))], [(0, (.was p0 [1, 2, 3] q0 w0)), (1, (.box 91 [(fS (a0)), (.fz ((eL 1 eI) (a1))), (.row 2 (List.length (a2))), (.row 3 (List.length (v3)))])), (2, (.frow 72 2 (List.map eSy (a2)))), (3, (.frow 67 9 (List.map eRu (v3))))], [0, 1, 2, 3]⟩ (by kernel_rfl) ?_
   refine l_nil ?_
   obtain rfl := Option.some.inj h
   exact And.intro rfl (le_ck (by kernel_rfl))
  ·refine awp_cond_f (b := (decide (v1.1 < (List.length a5 : Int)))) (by kernel_rfl) hb ?_
   refine awp_exit ?_
   obtain rfl := Option.some.inj h
   exact And.intro (And.intro (fun h => nomatch h) (fun h => nomatch h)) (And.intro rfl (le_ck (by kernel_rfl)))
 ·clear hj
  intro e st' hq
  obtain ⟨rfl, hle⟩ := hq
  refine ⟨_, hle, ?_⟩
  obtain rfl := Option.some.inj h
  exact hQ_ret (st2 := ⟨33, [], [(0, (.was p0 [1, 2, 3] q0 w0)), (1, (.box 91 [(fS (a0)), (.fz ((eL 1 eI) (a1))), (.row 2 (List.length (a2))), (.row 3 (List.length (v5)))])), (2, (.frow 72 2 (List.map eSy (a2)))), (3, (.frow 67 9 (List.map eRu (v5))))], [0, 1, 2, 3]⟩) (le_ck (by kernel_rfl)) rfl rfl (.inl rfl) (by kernel_rfl)

def synthesisref16_writer_input_h2_m0 (p0 : Env) (q0 : Nat → Prop) (w0 : World) (a0 : ByteArray) (a1 : List Int) (a2 : List Sy) (a3 : List Ru) : List (Nat × AObj) := [(0, (.was p0 [1, 2, 3] q0 w0)), (1, (.box 91 [(fS (a0)), (.fz ((eL 1 eI) (a1))), (.row 2 (List.length (a2))), (.row 3 (List.length (a3)))])), (2, (.frow 72 2 (List.map eSy (a2)))), (3, (.frow 67 9 (List.map eRu (a3))))]
def synthesisref16_writer_input_h2 (a0 : ByteArray) (a1 : List Int) (a2 : List Sy) (a3 : List Ru) (a4 : Int) : Option ((List Ru)) := (Option.bind (app 120 a3 ([(Ru.mk (a4) (1) (0) ((Va.mk (0) (0) ((⟨#[]⟩ : ByteArray)) (([] : List Va)))) ((⟨#[]⟩ : ByteArray)) (([] : List Int)))] : List (Ru))) fun v1 => (some (v1)))
theorem synthesisref16_writer_input_h2_ok (a0 : ByteArray) (a1 : List Int) (a2 : List Sy) (a3 : List Ru) (a4 : Int) (r : (List Ru)) (h : synthesisref16_writer_input_h2 a0 a1 a2 a3 a4 = some r) : HCall Try.prog 73 ([(.ref 1 0 0), (fI (a4))] ++ []) [(1, (.box 91 [(fS (a0)), (.fz ((eL 1 eI) (a1))), (.row 2 (List.length (a2))), (.row 3 (List.length (a3)))])), (2, (.frow 72 2 (List.map eSy (a2)))), (3, (.frow 67 9 (List.map eRu (a3))))] [1, 2, 3] (.ret (.fz (.tup []))) [(1, (.box 91 [(fS (a0)), (.fz ((eL 1 eI) (a1))), (.row 2 (List.length (a2))), (.row 3 (List.length (r)))])), (2, (.frow 72 2 (List.map eSy (a2)))), (3, (.frow 67 9 (List.map eRu (r))))] [1, 2, 3] := by
 unfold synthesisref16_writer_input_h2 at h
 refine hcall_introQ (g := 0) tt_ok Try.func73 rfl (by kernel_rfl) (by kernel_rfl) (by kernel_rfl) (by kernel_rfl) (by kernel_rfl) (by kernel_rfl) (by kernel_rfl) ?_
 intro p0 q0 w0
 refine awp_le (st' := ⟨17, [(0, (.ref 1 0 0)), (1, (fI (a4)))], (synthesisref16_writer_input_h2_m0 p0 q0 w0 a0 a1 a2 a3), [0, 1, 2, 3]⟩) (le_ck (by kernel_rfl)) ?_
 refine awp_region ?_
 refine l_rk 8 tt_ok ⟨17, [(4, (.ref 1 0 0)), (9, (.row 3 (List.length (a3)))), (11, (.fz (.agg [(eI (a4)), (eI (1)), (eI (0)), (eI (0)), (eI (0)), (eS ((⟨#[]⟩ : ByteArray))), (.atom (.slice none 0 0)), (eS ((⟨#[]⟩ : ByteArray))), (.atom (.slice none 0 0))])))], (synthesisref16_writer_input_h2_m0 p0 q0 w0 a0 a1 a2 a3), [0, 1, 2, 3]⟩ (by kernel_rfl) ?_
 refine l_le (le_co (ids := [0, 1, 2, 3]) (ts := [(4, .one .keep), (9, .one .keep), (11, (.ag [.keep, .keep, .keep, .keep, .keep, .keep, .sl 4, .keep, .sl 1]))]) (os := [(0, []), (1, []), (2, []), (3, [])]) (by kernel_rfl) : LeSt _ ⟨17, [(4, (.ref 1 0 0)), (9, (.row 3 (List.length (a3)))), (11, (.fz (eRu ((Ru.mk (a4) (1) (0) ((Va.mk (0) (0) ((⟨#[]⟩ : ByteArray)) (([] : List Va)))) ((⟨#[]⟩ : ByteArray)) (([] : List Int)))))))], (synthesisref16_writer_input_h2_m0 p0 q0 w0 a0 a1 a2 a3), [0, 1, 2, 3]⟩) ?_
 refine l_step (xstep_ok (c := .lim 9 1 [eRu ((Ru.mk (a4) (1) (0) ((Va.mk (0) (0) ((⟨#[]⟩ : ByteArray)) (([] : List Va)))) ((⟨#[]⟩ : ByteArray)) (([] : List Int))))]) (h := [(0, (.was p0 [1, 2, 3] q0 w0)), (1, (.box 91 [(fS (a0)), (.fz ((eL 1 eI) (a1))), (.row 2 (List.length (a2))), (.row 3 (List.length (a3)))])), (2, (.frow 72 2 (List.map eSy (a2)))), (3, (.frow 67 9 (List.map eRu (a3))))]) (i := [0, 1, 2, 3]) tt_ok (by kernel_rfl)) (by kernel_rfl) (dst_of (by kernel_rfl)) ?_
 obtain ⟨v1, hv1, h⟩ := Option.bind_eq_some_iff.1 h
 refine l_step (s_append (d := tt25) (e := 67) (de := tt67) (enc := eRu) (xs := a3) (ys := ([(Ru.mk (a4) (1) (0) ((Va.mk (0) (0) ((⟨#[]⟩ : ByteArray)) (([] : List Va)))) ((⟨#[]⟩ : ByteArray)) (([] : List Int)))] : List (Ru))) (m := List.length ([(Ru.mk (a4) (1) (0) ((Va.mk (0) (0) ((⟨#[]⟩ : ByteArray)) (([] : List Va)))) ((⟨#[]⟩ : ByteArray)) (([] : List Int)))] : List (Ru))) (id := 3) (n := List.length (a3)) hv1 tt_ok rfl (by kernel_rfl) (by kernel_rfl) (by kernel_rfl) (by kernel_rfl) (by kernel_rfl) (by kernel_rfl) (by kernel_rfl) (by kernel_rfl) rfl (.inr (by kernel_rfl))) (by kernel_rfl) (dst_of (by kernel_rfl)) ?_
 refine l_rk 4 tt_ok ⟨17, [], [(0, (.was p0 [1, 2, 3] q0 w0)), (1, (.box 91 [(fS (a0)), (.fz ((eL 1 eI) (a1))), (.row 2 (List.length (a2))), (.row 3 (List.length (v1)))])), (2, (.frow 72 2 (List.map eSy (a2)))), (3, (.frow 67 9 (List.map eRu (v1))))], [0, 1, 2, 3]⟩ (by kernel_rfl) ?_
 refine l_nil ?_
 obtain rfl := Option.some.inj h
 exact hQ_ret (st2 := ⟨17, [], [(0, (.was p0 [1, 2, 3] q0 w0)), (1, (.box 91 [(fS (a0)), (.fz ((eL 1 eI) (a1))), (.row 2 (List.length (a2))), (.row 3 (List.length (v1)))])), (2, (.frow 72 2 (List.map eSy (a2)))), (3, (.frow 67 9 (List.map eRu (v1))))], [0, 1, 2, 3]⟩) (le_ck (by kernel_rfl)) rfl rfl (.inl rfl) (by kernel_rfl)

def synthesisref16_writer_constant_h2 (a0 : ByteArray) (a1 : List Int) (a2 : List Sy) (a3 : List Ru) (a4 : Int) (a5 : Va) : Option ((List Ru)) := (Option.bind (app 120 a3 ([(Ru.mk (a4) (2) (0) (a5) ((⟨#[]⟩ : ByteArray)) (([] : List Int)))] : List (Ru))) fun v1 => (some (v1)))
theorem synthesisref16_writer_constant_h2_ok (a0 : ByteArray) (a1 : List Int) (a2 : List Sy) (a3 : List Ru) (a4 : Int) (a5 : Va) (r : (List Ru)) (h : synthesisref16_writer_constant_h2 a0 a1 a2 a3 a4 a5 = some r) : HCall Try.prog 74 ([(.ref 1 0 0), (fI (a4)), (.fz (eVa (a5)))] ++ []) [(1, (.box 91 [(fS (a0)), (.fz ((eL 1 eI) (a1))), (.row 2 (List.length (a2))), (.row 3 (List.length (a3)))])), (2, (.frow 72 2 (List.map eSy (a2)))), (3, (.frow 67 9 (List.map eRu (a3))))] [1, 2, 3] (.ret (.fz (.tup []))) [(1, (.box 91 [(fS (a0)), (.fz ((eL 1 eI) (a1))), (.row 2 (List.length (a2))), (.row 3 (List.length (r)))])), (2, (.frow 72 2 (List.map eSy (a2)))), (3, (.frow 67 9 (List.map eRu (r))))] [1, 2, 3] := by
 unfold synthesisref16_writer_constant_h2 at h
 refine hcall_introQ (g := 0) tt_ok Try.func74 rfl (by kernel_rfl) (by kernel_rfl) (by kernel_rfl) (by kernel_rfl) (by kernel_rfl) (by kernel_rfl) (by kernel_rfl) ?_
 intro p0 q0 w0
 refine awp_le (st' := ⟨20, [(0, (.ref 1 0 0)), (1, (fI (a4))), (2, (.fz (eVa (a5))))], [(0, (.was p0 [1, 2, 3] q0 w0)), (1, (.box 91 [(fS (a0)), (.fz ((eL 1 eI) (a1))), (.row 2 (List.length (a2))), (.row 3 (List.length (a3)))])), (2, (.frow 72 2 (List.map eSy (a2)))), (3, (.frow 67 9 (List.map eRu (a3))))], [0, 1, 2, 3]⟩) (le_ck (by kernel_rfl)) ?_
 refine awp_seq ?_
 refine awp_region ?_
 refine l_rk 1 tt_ok ⟨20, [(0, (.ref 1 0 0)), (1, (fI (a4))), (5, (.ref 4 0 0))], [(0, (.was p0 [1, 2, 3] q0 w0)), (1, (.box 91 [(fS (a0)), (.fz ((eL 1 eI) (a1))), (.row 2 (List.length (a2))), (.row 3 (List.length (a3)))])), (2, (.frow 72 2 (List.map eSy (a2)))), (3, (.frow 67 9 (List.map eRu (a3)))), (4, (.box 65 [(fI (a5.type)), (fI (a5.num)), (fS (a5.text)), (.fz ((eL 4 eVaR) (a5.items)))]))], [4, 0, 1, 2, 3]⟩ (by kernel_rfl) ?_
 refine l_nil ?_
 obtain ⟨v1, hv1, h⟩ := Option.bind_eq_some_iff.1 h
 refine awp_drawnE (by kernel_rfl) 10 3 (.frow 67 9 (List.map eRu (a3))) (.frow 67 9 (List.map eRu (v1))) [(.ref 1 0 0), (.ref 1 0 0), (.ref 1 0 0), (.ref 1 0 0), (.ref 1 0 3), (.row 3 (List.length (a3))), (fI (a4)), (.fz (eVa (a5))), (.fz (.agg [(eI (a4)), (eI (2)), (eI (0)), (eI (a5.type)), (eI (a5.num)), (eS (a5.text)), ((eL 4 eVaR) (a5.items)), (eS ((⟨#[]⟩ : ByteArray))), (.atom (.slice none 0 0))])), (.lim 9 (List.length (([(Ru.mk (a4) (2) (0) (a5) ((⟨#[]⟩ : ByteArray)) (([] : List Int)))] : List (Ru)))) (List.map eRu (([(Ru.mk (a4) (2) (0) (a5) ((⟨#[]⟩ : ByteArray)) (([] : List Int)))] : List (Ru))))), (.row 3 (List.length (v1)))] (by kernel_rfl) (by kernel_rfl) (by kernel_rfl) ?_
 refine ⟨.inr ⟨by decide, .inl ⟨by kernel_rfl, (nstep_ok tt_ok (by kernel_rfl))⟩⟩, ?_⟩
 refine ⟨.inr ⟨by decide, .inl ⟨by kernel_rfl, (nstep_ok tt_ok (by kernel_rfl))⟩⟩, ?_⟩
 refine ⟨.inr ⟨by decide, .inl ⟨by kernel_rfl, (nstep_ok tt_ok (by kernel_rfl))⟩⟩, ?_⟩
 refine ⟨.inr ⟨by decide, .inl ⟨by kernel_rfl, (nstep_ok tt_ok (by kernel_rfl))⟩⟩, ?_⟩
 refine ⟨.inr ⟨by decide, .inl ⟨by kernel_rfl, (nstep_ok tt_ok (by kernel_rfl))⟩⟩, ?_⟩
 refine ⟨.inr ⟨by decide, .inl ⟨by kernel_rfl, (nstep_ok tt_ok (by kernel_rfl))⟩⟩, ?_⟩
 refine ⟨.inr ⟨by decide, .inl ⟨by kernel_rfl, (nstep_ok tt_ok (by kernel_rfl))⟩⟩, ?_⟩
 refine ⟨.inr ⟨by decide, .inl ⟨by kernel_rfl, (nstep_ok tt_ok (by kernel_rfl))⟩⟩, ?_⟩
 refine ⟨.inr ⟨by decide, .inl ⟨by kernel_rfl, (nstep_ok tt_ok (by kernel_rfl))⟩⟩, ?_⟩
 refine ⟨.inr ⟨by decide, .inl ⟨by kernel_rfl, (nstep_co (st' := ⟨20, [(14, (.fz (eRu ((Ru.mk (a4) (2) (0) (a5) ((⟨#[]⟩ : ByteArray)) (([] : List Int)))))))], [], []⟩) (ids := []) (ts := [(14, (.ag [.keep, .keep, .keep, .keep, .keep, .keep, .sl 4, .keep, .sl 1]))]) (by kernel_rfl) (nstep_ok (c := .lim 9 1 [eRu ((Ru.mk (a4) (2) (0) (a5) ((⟨#[]⟩ : ByteArray)) (([] : List Int))))]) tt_ok (by kernel_rfl)))⟩⟩, ?_⟩
 refine ⟨.inl ⟨rfl, by kernel_rfl, (s_appE (d := tt25) (e := 67) (de := tt67) (enc := eRu) (xs := a3) (ys := ([(Ru.mk (a4) (2) (0) (a5) ((⟨#[]⟩ : ByteArray)) (([] : List Int)))] : List (Ru))) (m := List.length ([(Ru.mk (a4) (2) (0) (a5) ((⟨#[]⟩ : ByteArray)) (([] : List Int)))] : List (Ru))) (id := 3) (n := List.length (a3)) hv1 tt_ok rfl (by kernel_rfl) (by kernel_rfl) (by kernel_rfl) (by kernel_rfl) (by kernel_rfl) (by kernel_rfl) (by kernel_rfl) rfl (.inr (by kernel_rfl)))⟩, ?_⟩
 refine l_rk 4 tt_ok ⟨20, [], [(0, (.was p0 [1, 2, 3] q0 w0)), (1, (.box 91 [(fS (a0)), (.fz ((eL 1 eI) (a1))), (.row 2 (List.length (a2))), (.row 3 (List.length (v1)))])), (2, (.frow 72 2 (List.map eSy (a2)))), (3, (.frow 67 9 (List.map eRu (v1))))], [0, 1, 2, 3]⟩ (by kernel_rfl) ?_
 refine l_nil ?_
 obtain rfl := Option.some.inj h
 exact hQ_ret (st2 := ⟨20, [], [(0, (.was p0 [1, 2, 3] q0 w0)), (1, (.box 91 [(fS (a0)), (.fz ((eL 1 eI) (a1))), (.row 2 (List.length (a2))), (.row 3 (List.length (v1)))])), (2, (.frow 72 2 (List.map eSy (a2)))), (3, (.frow 67 9 (List.map eRu (v1))))], [0, 1, 2, 3]⟩) (le_ck (by kernel_rfl)) rfl rfl (.inl rfl) (by kernel_rfl)

def synthesisref16_Patterns_m0 : List (Nat × AObj) := [(1, (.box 27 [(fS ((⟨#[]⟩ : ByteArray))), (.fz (.atom (.slice none 0 0))), (.fz (.atom (.slice none 0 0))), (.fz (.atom (.slice none 0 0)))]))]
def synthesisref16_Patterns_m1 : List (Nat × AObj) := [(1, (.box 27 [(fS ((⟨#[]⟩ : ByteArray))), (.fz (.atom (.slice none 0 0))), (.fz (.atom (.slice none 0 0))), (.fz (.atom (.slice none 0 0)))])), (2, (.box 91 [(fS (((⟨#[112, 97, 116, 116, 101, 114, 110, 115]⟩ : ByteArray)))), (.lim 1 (List.length (([(3)] : List (Int)))) (List.map eI (([(3)] : List (Int))))), (.lim 2 (List.length (([(Sy.mk (((⟨#[116, 101, 115, 116]⟩ : ByteArray))) ((1))), (Sy.mk (((⟨#[116, 101, 120, 116]⟩ : ByteArray))) ((3)))] : List (Sy)))) (List.map eSy (([(Sy.mk (((⟨#[116, 101, 115, 116]⟩ : ByteArray))) ((1))), (Sy.mk (((⟨#[116, 101, 120, 116]⟩ : ByteArray))) ((3)))] : List (Sy))))), (.row 3 (List.length (([] : List (Ru)))))])), (3, (.frow 67 9 (List.map eRu (([] : List (Ru))))))]
def synthesisref16_Patterns_m2 (v20 : (Int) × (ByteArray) × (List Int) × (List Ru) × (List Sy)) : List (Nat × AObj) := [(1, (.box 27 [(fS ((⟨#[]⟩ : ByteArray))), (.fz (.atom (.slice none 0 0))), (.fz (.atom (.slice none 0 0))), (.fz (.atom (.slice none 0 0)))])), (2, (.box 91 [(fS (v20.2.1)), (.fz ((eL 1 eI) (v20.2.2.1))), (.row 4 (List.length (v20.2.2.2.2))), (.row 3 (List.length (v20.2.2.2.1)))])), (3, (.frow 67 9 (List.map eRu (v20.2.2.2.1)))), (4, (.frow 72 2 (List.map eSy (v20.2.2.2.2))))]
def synthesisref16_Patterns_m3 (v26 : (ByteArray) × (List Int) × (List Ru) × (List Sy)) : List (Nat × AObj) := [(1, (.box 27 [(fS ((⟨#[]⟩ : ByteArray))), (.fz (.atom (.slice none 0 0))), (.fz (.atom (.slice none 0 0))), (.fz (.atom (.slice none 0 0)))])), (2, (.box 91 [(fS (v26.1)), (.fz ((eL 1 eI) (v26.2.1))), (.row 4 (List.length (v26.2.2.2))), (.row 3 (List.length (v26.2.2.1)))])), (3, (.frow 67 9 (List.map eRu (v26.2.2.1)))), (4, (.frow 72 2 (List.map eSy (v26.2.2.2))))]
def synthesisref16_Patterns_l1 (a0 : ByteArray) (v3 : (Int)) (v8 : (Int)) : Option (((Int)) ⊕ (((Unit) ⊕ ((La) × (Int))))) := (bif (decide (v8 < v3)) then (Option.bind (byt a0 v8) fun v9 => (Option.bind (byt a0 v3) fun v10 => (bif (v9 == v10) then (some (.inr (.inr ((La.mk ((⟨#[]⟩ : ByteArray)) (([] : List Int)) (([] : List Sy)) (([] : List Ru))), 6)))) else (some (.inl ((w64 (v8 + 1)))))))) else (some (.inr (.inl ()))))
def synthesisref16_Patterns_l2 (a0 : ByteArray) (v20 : (Int) × (ByteArray) × (List Int) × (List Ru) × (List Sy)) : Option (((Int) × (ByteArray) × (List Int) × (List Ru) × (List Sy)) ⊕ ((ByteArray) × (List Int) × (List Ru) × (List Sy))) := (bif (decide (v20.1 < (a0.size : Int))) then (Option.bind (cutS a0 v20.1 (w64 (v20.1 + 1))) fun v21 => (Option.bind (synthesisref05_Literal (v21)) fun v22 => (Option.bind (synthesisref01_OfPattern (v22)) fun v23 => (Option.bind (synthesisref16_writer_constant_h2 (v20.2.1) (v20.2.2.1) (v20.2.2.2.2) (v20.2.2.2.1) (2) (v23)) fun v24 => (some (.inl ((w64 (v20.1 + 1)), (v20.2.1), (v20.2.2.1), v24, (v20.2.2.2.2)))))))) else (some (.inr (v20.2.1, v20.2.2.1, v20.2.2.2.1, v20.2.2.2.2))))
def synthesisref16_Patterns_l3 (a0 : ByteArray) (v3 : (Int)) : Option (((Int)) ⊕ (((Unit) ⊕ ((La) × (Int))))) := (bif (decide (v3 < (a0.size : Int))) then (Option.bind ((Option.bind (byt a0 v3) fun v4 => (bif (decide (v4 < 32)) then (some (true)) else (Option.bind (byt a0 v3) fun v5 => (some ((decide (126 < v5))))))) : Option ((Bool))) fun (v7 : (Bool)) => (bif v7 then (some (.inr (.inr ((La.mk ((⟨#[]⟩ : ByteArray)) (([] : List Int)) (([] : List Sy)) (([] : List Ru))), 1)))) else (Option.bind (loopN (synthesisref16_Patterns_l1 a0 v3) fuel (0)) fun (v11 : ((Unit) ⊕ ((La) × (Int)))) => Sum.elim (fun v12 => (some (.inl ((w64 (v3 + 1)))))) (fun v13 => (some (.inr (.inr v13)))) v11))) else (some (.inr (.inl ()))))
def synthesisref16_Patterns (a0 : ByteArray) : Option ((La) × (Int)) := (Option.bind ((bif (a0.toList == (⟨#[]⟩ : ByteArray).toList) then (some (true)) else (some ((decide (16 < (a0.size : Int)))))) : Option ((Bool))) fun (v2 : (Bool)) => (bif v2 then (some ((La.mk ((⟨#[]⟩ : ByteArray)) (([] : List Int)) (([] : List Sy)) (([] : List Ru))), 2)) else (Option.bind (loopN (synthesisref16_Patterns_l3 a0) fuel (0)) fun (v14 : ((Unit) ⊕ ((La) × (Int)))) => Sum.elim (fun v15 => (Option.bind (synthesisref16_begin_h ((⟨#[112, 97, 116, 116, 101, 114, 110, 115]⟩ : ByteArray)) (3) ((⟨#[116, 101, 115, 116]⟩ : ByteArray)) (1) ((⟨#[116, 101, 120, 116]⟩ : ByteArray)) (3)) fun v16 => (Option.bind (appN 24 ([(Sy.mk (((⟨#[116, 101, 115, 116]⟩ : ByteArray))) ((1))), (Sy.mk (((⟨#[116, 101, 120, 116]⟩ : ByteArray))) ((3)))] : List (Sy)) ([(Sy.mk ((⟨#[112, 97, 116, 116, 101, 114, 110]⟩ : ByteArray)) (8))] : List (Sy))) fun v17 => (Option.bind (synthesisref16_writer_op_h2 (((⟨#[112, 97, 116, 116, 101, 114, 110, 115]⟩ : ByteArray))) (([(3)] : List (Int))) (v17) (([] : List (Ru))) (0) (([(⟨#[109, 97, 116, 99, 104, 101, 115]⟩ : ByteArray)] : List (ByteArray))) (([1, 2] : List (Int)))) fun v18 => (Option.bind (synthesisref16_writer_input_h2 ((((⟨#[112, 97, 116, 116, 101, 114, 110, 115]⟩ : ByteArray)))) ((([(3)] : List (Int)))) ((v17)) (v18) (1)) fun v19 => (Option.bind (loopN (synthesisref16_Patterns_l2 a0) fuel (0, ((((⟨#[112, 97, 116, 116, 101, 114, 110, 115]⟩ : ByteArray)))), ((([(3)] : List (Int)))), v19, ((v17)))) fun (v26 : (ByteArray) × (List Int) × (List Ru) × (List Sy)) => (Option.bind (synthesisref16_writer_op_h2 (v26.1) (v26.2.1) (v26.2.2.2) (v26.2.2.1) (2) (([(⟨#[112, 99, 97, 116]⟩ : ByteArray), (⟨#[112, 97, 108, 116]⟩ : ByteArray)] : List (ByteArray))) (([2, 2] : List (Int)))) fun v27 => (Option.bind (synthesisref16_writer_op_h2 ((v26.1)) ((v26.2.1)) ((v26.2.2.2)) (v27) (2) (([(⟨#[112, 115, 116, 97, 114]⟩ : ByteArray)] : List (ByteArray))) (([2] : List (Int)))) fun v28 => (some ((La.mk (((v26.1))) (((v26.2.1))) (((v26.2.2.2))) (v28)), 0)))))))))) (fun v29 => (some v29)) v14)))
theorem synthesisref16_Patterns_ok (a0 : ByteArray) (r : (La) × (Int)) (h : synthesisref16_Patterns a0 = some r) : PCall Try.prog 27 [eS a0] (.tup [eLa (r.1), eI (r.2)]) := by
 unfold synthesisref16_Patterns at h
 refine pcall_intro (T := TT) tt_ok [.ag [.keep, .sl 1, .sl 2, .sl 9], .one .keep] Try.func27 rfl (by kernel_rfl) (by kernel_rfl) ?_
 refine awp_le (st' := ⟨92, [(0, (fS (a0)))], [], []⟩) (le_ck (by kernel_rfl)) ?_
 refine awp_seq ?_
 refine awp_region ?_
 refine l_rk 2 tt_ok ⟨92, [(0, (fS (a0))), (2, (.ref 1 0 0))], (synthesisref16_Patterns_m0), [1]⟩ (by kernel_rfl) ?_
 refine l_nil ?_
 refine awp_seq ?_
 refine awp_seq ?_
 obtain ⟨v2, hj, h⟩ := Option.bind_eq_some_iff.1 h
 refine awp_join (Qa := fun e st => e = .normal ∧ LeSt st ⟨92, [(0, (fS (a0))), (2, (.ref 1 0 0)), (14, (fB (v2)))], (synthesisref16_Patterns_m0), [1]⟩) ?_ ?_
 ·replace h := hj
  clear hj
  refine awp_region ?_
  refine l_rk 3 tt_ok ⟨92, [(0, (fS (a0))), (2, (.ref 1 0 0)), (10, (fB ((a0.toList == (⟨#[]⟩ : ByteArray).toList))))], (synthesisref16_Patterns_m0), [1]⟩ (by kernel_rfl) ?_
  rcases cond_some h with ⟨hb, h⟩ | ⟨hb, h⟩
  ·refine l_le (le_eq (t := 10) (x := .fz (eB (a0.toList == (⟨#[]⟩ : ByteArray).toList))) (y := .fz (eB true)) (by kernel_rfl) (congrArg (fun b => AV.fz (eB b)) hb)) ?_
   refine l_rk 4 tt_ok ⟨92, [(0, (fS (a0))), (2, (.ref 1 0 0)), (14, (fB (true)))], (synthesisref16_Patterns_m0), [1]⟩ (by kernel_rfl) ?_
   refine l_nil ?_
   obtain rfl := Option.some.inj h
   exact And.intro rfl (le_ck (by kernel_rfl))
  ·refine l_le (le_eq (t := 10) (x := .fz (eB (a0.toList == (⟨#[]⟩ : ByteArray).toList))) (y := .fz (eB false)) (by kernel_rfl) (congrArg (fun b => AV.fz (eB b)) hb)) ?_
   refine l_rk 4 tt_ok ⟨92, [(0, (fS (a0))), (2, (.ref 1 0 0)), (14, (fB ((decide (16 < (a0.size : Int))))))], (synthesisref16_Patterns_m0), [1]⟩ (by kernel_rfl) ?_
   refine l_nil ?_
   obtain rfl := Option.some.inj h
   exact And.intro rfl (le_ck (by kernel_rfl))
 ·clear hj
  intro e st' hq
  obtain ⟨rfl, hle⟩ := hq
  refine ⟨_, hle, ?_⟩
  rcases cond_some h with ⟨hb, h⟩ | ⟨hb, h⟩
  ·refine awp_cond_t (b := v2) (by kernel_rfl) hb ?_
   refine awp_seq ?_
   refine awp_region ?_
   refine l_rk 3 tt_ok ⟨92, [(2, (.ref 1 0 0)), (3, (fI (2)))], (synthesisref16_Patterns_m0), [1]⟩ (by kernel_rfl) ?_
   refine l_nil ?_
   refine awp_ret ?_
   obtain rfl := Option.some.inj h
   exact (show retX _ _ _ _ = some _ from by kernel_rfl)
  ·refine awp_cond_f (b := v2) (by kernel_rfl) hb ?_
   refine awp_skip ?_
   refine awp_seq ?_
   refine awp_seq ?_
   refine awp_region ?_
   refine l_rk 1 tt_ok ⟨92, [(0, (fS (a0))), (2, (.ref 1 0 0)), (4, (fI (0)))], (synthesisref16_Patterns_m0), [1]⟩ (by kernel_rfl) ?_
   refine l_nil ?_
   refine awp_block ?_
   obtain ⟨v14, hj, h⟩ := Option.bind_eq_some_iff.1 h
   refine awp_join (Qa := fun e st => Sum.elim (fun p => e = .exit 0 ∧ LeSt st ⟨92, [(0, (fS (a0))), (2, (.ref 1 0 0))], (synthesisref16_Patterns_m0), [1]⟩) (fun p => e = .ret ∧ retX TT st Try.f27.results.toList [.ag [.keep, .sl 1, .sl 2, .sl 9], .one .keep] = some (.tup [eLa (p.1), eI (p.2)])) v14) ?_ ?_
   ·refine awp_loopS (stOf := fun v3 => ⟨92, [(0, (fS (a0))), (2, (.ref 1 0 0)), (4, (fI (v3)))], (synthesisref16_Patterns_m0), [1]⟩) (Qb := fun j e st => Sum.elim (fun p => e = .exit 0 ∧ LeSt st ⟨92, [(0, (fS (a0))), (2, (.ref 1 0 0))], (synthesisref16_Patterns_m0), [1]⟩) (fun p => e = .ret ∧ retX TT st Try.f27.results.toList [.ag [.keep, .sl 1, .sl 2, .sl 9], .one .keep] = some (.tup [eLa (p.1), eI (p.2)])) j) hj (le_ck (by kernel_rfl)) ?_
    clear hj h
    intro v3 r h
    unfold synthesisref16_Patterns_l3 at h
    refine awp_seq ?_
    refine awp_seq ?_
    refine awp_region ?_
    refine l_rk 4 tt_ok ⟨92, [(0, (fS (a0))), (2, (.ref 1 0 0)), (4, (fI (v3))), (19, (fB ((decide (v3 < (a0.size : Int))))))], (synthesisref16_Patterns_m0), [1]⟩ (by kernel_rfl) ?_
    refine l_nil ?_
    rcases cond_some h with ⟨hb, h⟩ | ⟨hb, h⟩
    ·refine awp_cond_t (b := (decide (v3 < (a0.size : Int)))) (by kernel_rfl) hb ?_
     refine awp_skip ?_
     refine awp_seq ?_
     refine awp_block ?_
     refine awp_seq ?_
     refine awp_seq ?_
     obtain ⟨v7, hj, h⟩ := Option.bind_eq_some_iff.1 h
     refine awp_join (Qa := fun e st => e = .normal ∧ LeSt st ⟨92, [(0, (fS (a0))), (2, (.ref 1 0 0)), (4, (fI (v3))), (31, (fB (v7)))], (synthesisref16_Patterns_m0), [1]⟩) ?_ ?_
     ·replace h := hj
      clear hj
      refine awp_region ?_
      refine l_rk 2 tt_ok ⟨92, [(0, (fS (a0))), (2, (.ref 1 0 0)), (4, (fI (v3))), (22, (fS (a0))), (23, (fI (v3)))], (synthesisref16_Patterns_m0), [1]⟩ (by kernel_rfl) ?_
      obtain ⟨v4, hv4, h⟩ := Option.bind_eq_some_iff.1 h
      refine l_step ((s_byte (k := .i64) (d := tt9) (s := a0) hv4 tt_ok rfl (by kernel_rfl) (by kernel_rfl) (by kernel_rfl) (by kernel_rfl)).step) (by kernel_rfl) (dst_of (by kernel_rfl)) ?_
      refine l_rk 2 tt_ok ⟨92, [(0, (fS (a0))), (2, (.ref 1 0 0)), (4, (fI (v3))), (26, (fB ((decide (v4 < 32)))))], (synthesisref16_Patterns_m0), [1]⟩ (by kernel_rfl) ?_
      rcases cond_some h with ⟨hb, h⟩ | ⟨hb, h⟩
      ·refine l_le (le_eq (t := 26) (x := .fz (eB (decide (v4 < 32)))) (y := .fz (eB true)) (by kernel_rfl) (congrArg (fun b => AV.fz (eB b)) hb)) ?_
       refine l_rk 5 tt_ok ⟨92, [(0, (fS (a0))), (2, (.ref 1 0 0)), (4, (fI (v3))), (31, (fB (true)))], (synthesisref16_Patterns_m0), [1]⟩ (by kernel_rfl) ?_
       refine l_nil ?_
       obtain rfl := Option.some.inj h
       exact And.intro rfl (le_ck (by kernel_rfl))
      ·refine l_le (le_eq (t := 26) (x := .fz (eB (decide (v4 < 32)))) (y := .fz (eB false)) (by kernel_rfl) (congrArg (fun b => AV.fz (eB b)) hb)) ?_
       refine l_rk 2 tt_ok ⟨92, [(0, (fS (a0))), (2, (.ref 1 0 0)), (4, (fI (v3))), (26, (fB (false))), (27, (fS (a0))), (28, (fI (v3)))], (synthesisref16_Patterns_m0), [1]⟩ (by kernel_rfl) ?_
       obtain ⟨v5, hv5, h⟩ := Option.bind_eq_some_iff.1 h
       refine l_step ((s_byte (k := .i64) (d := tt9) (s := a0) hv5 tt_ok rfl (by kernel_rfl) (by kernel_rfl) (by kernel_rfl) (by kernel_rfl)).step) (by kernel_rfl) (dst_of (by kernel_rfl)) ?_
       refine l_rk 2 tt_ok ⟨92, [(0, (fS (a0))), (2, (.ref 1 0 0)), (4, (fI (v3))), (31, (fB ((decide (126 < v5)))))], (synthesisref16_Patterns_m0), [1]⟩ (by kernel_rfl) ?_
       refine l_nil ?_
       obtain rfl := Option.some.inj h
       exact And.intro rfl (le_ck (by kernel_rfl))
     ·clear hj
      intro e st' hq
      obtain ⟨rfl, hle⟩ := hq
      refine ⟨_, hle, ?_⟩
      rcases cond_some h with ⟨hb, h⟩ | ⟨hb, h⟩
      ·refine awp_cond_t (b := v7) (by kernel_rfl) hb ?_
       refine awp_seq ?_
       refine awp_region ?_
       refine l_rk 3 tt_ok ⟨92, [(2, (.ref 1 0 0)), (3, (fI (1)))], (synthesisref16_Patterns_m0), [1]⟩ (by kernel_rfl) ?_
       refine l_nil ?_
       refine awp_ret ?_
       obtain rfl := Option.some.inj h
       exact And.intro (And.intro (fun h => nomatch h) (fun h => nomatch h)) (And.intro rfl (show retX _ _ _ _ = some _ from by kernel_rfl))
      ·refine awp_cond_f (b := v7) (by kernel_rfl) hb ?_
       refine awp_skip ?_
       refine awp_seq ?_
       refine awp_region ?_
       refine l_rk 1 tt_ok ⟨92, [(0, (fS (a0))), (2, (.ref 1 0 0)), (4, (fI (v3))), (5, (fI (0)))], (synthesisref16_Patterns_m0), [1]⟩ (by kernel_rfl) ?_
       refine l_nil ?_
       refine awp_block ?_
       obtain ⟨v11, hj, h⟩ := Option.bind_eq_some_iff.1 h
       refine awp_join (Qa := fun e st => Sum.elim (fun p => e = .exit 2 ∧ LeSt st ⟨92, [(0, (fS (a0))), (2, (.ref 1 0 0)), (4, (fI (v3)))], (synthesisref16_Patterns_m0), [1]⟩) (fun p => e = .ret ∧ retX TT st Try.f27.results.toList [.ag [.keep, .sl 1, .sl 2, .sl 9], .one .keep] = some (.tup [eLa (p.1), eI (p.2)])) v11) ?_ ?_
       ·refine awp_loopS (stOf := fun v8 => ⟨92, [(0, (fS (a0))), (2, (.ref 1 0 0)), (4, (fI (v3))), (5, (fI (v8)))], (synthesisref16_Patterns_m0), [1]⟩) (Qb := fun j e st => Sum.elim (fun p => e = .exit 2 ∧ LeSt st ⟨92, [(0, (fS (a0))), (2, (.ref 1 0 0)), (4, (fI (v3)))], (synthesisref16_Patterns_m0), [1]⟩) (fun p => e = .ret ∧ retX TT st Try.f27.results.toList [.ag [.keep, .sl 1, .sl 2, .sl 9], .one .keep] = some (.tup [eLa (p.1), eI (p.2)])) j) hj (le_ck (by kernel_rfl)) ?_
        clear hj h
        intro v8 r h
        unfold synthesisref16_Patterns_l1 at h
        refine awp_seq ?_
        refine awp_seq ?_
        refine awp_region ?_
        refine l_rk 3 tt_ok ⟨92, [(0, (fS (a0))), (2, (.ref 1 0 0)), (4, (fI (v3))), (5, (fI (v8))), (35, (fB ((decide (v8 < v3)))))], (synthesisref16_Patterns_m0), [1]⟩ (by kernel_rfl) ?_
        refine l_nil ?_
        rcases cond_some h with ⟨hb, h⟩ | ⟨hb, h⟩
        ·refine awp_cond_t (b := (decide (v8 < v3))) (by kernel_rfl) hb ?_
         refine awp_skip ?_
         refine awp_seq ?_
         refine awp_block ?_
         refine awp_seq ?_
         obtain ⟨v9, hv9, h⟩ := Option.bind_eq_some_iff.1 h
         obtain ⟨v10, hv10, h⟩ := Option.bind_eq_some_iff.1 h
         refine awp_drawn (by kernel_rfl) [(fS (a0)), (fI (v8)), (.fz (eU8 (v9))), (fS (a0)), (fI (v3)), (.fz (eU8 (v10)))] (by kernel_rfl) ?_
         refine ⟨.inl ⟨by kernel_rfl, (nstep_ok tt_ok (by kernel_rfl))⟩, ?_⟩
         refine ⟨.inl ⟨by kernel_rfl, (nstep_ok tt_ok (by kernel_rfl))⟩, ?_⟩
         refine ⟨.inl ⟨by kernel_rfl, (s_byte (k := .i64) (d := tt9) (s := a0) hv9 tt_ok rfl (by kernel_rfl) (by kernel_rfl) (by kernel_rfl) (by kernel_rfl))⟩, ?_⟩
         refine ⟨.inl ⟨by kernel_rfl, (nstep_ok tt_ok (by kernel_rfl))⟩, ?_⟩
         refine ⟨.inl ⟨by kernel_rfl, (nstep_ok tt_ok (by kernel_rfl))⟩, ?_⟩
         refine ⟨.inl ⟨by kernel_rfl, (s_byte (k := .i64) (d := tt9) (s := a0) hv10 tt_ok rfl (by kernel_rfl) (by kernel_rfl) (by kernel_rfl) (by kernel_rfl))⟩, ?_⟩
         refine l_rk 1 tt_ok ⟨92, [(0, (fS (a0))), (2, (.ref 1 0 0)), (4, (fI (v3))), (5, (fI (v8))), (44, (fB ((v9 == v10))))], (synthesisref16_Patterns_m0), [1]⟩ (by kernel_rfl) ?_
         refine l_nil ?_
         rcases cond_some h with ⟨hb, h⟩ | ⟨hb, h⟩
         ·refine awp_cond_t (b := (v9 == v10)) (by kernel_rfl) hb ?_
          refine awp_seq ?_
          refine awp_region ?_
          refine l_rk 3 tt_ok ⟨92, [(2, (.ref 1 0 0)), (3, (fI (6)))], (synthesisref16_Patterns_m0), [1]⟩ (by kernel_rfl) ?_
          refine l_nil ?_
          refine awp_ret ?_
          obtain rfl := Option.some.inj h
          exact And.intro (And.intro (fun h => nomatch h) (fun h => nomatch h)) (And.intro rfl (show retX _ _ _ _ = some _ from by kernel_rfl))
         ·refine awp_cond_f (b := (v9 == v10)) (by kernel_rfl) hb ?_
          refine awp_skip ?_
          refine awp_region ?_
          refine l_rk 3 tt_ok ⟨92, [(0, (fS (a0))), (2, (.ref 1 0 0)), (4, (fI (v3))), (5, (fI ((w64 (v8 + 1)))))], (synthesisref16_Patterns_m0), [1]⟩ (by kernel_rfl) ?_
          refine l_nil ?_
          obtain rfl := Option.some.inj h
          exact And.intro rfl (le_ck (by kernel_rfl))
        ·refine awp_cond_f (b := (decide (v8 < v3))) (by kernel_rfl) hb ?_
         refine awp_exit ?_
         obtain rfl := Option.some.inj h
         exact And.intro (And.intro (fun h => nomatch h) (fun h => nomatch h)) (And.intro rfl (le_ck (by kernel_rfl)))
       ·clear hj
        intro e st' hq
        rcases v11 with v12 | v13
        ·try simp only [Sum.elim_inl, Sum.elim_inr] at h
         obtain ⟨rfl, hle⟩ := hq
         refine ⟨_, hle, ?_⟩
         refine awp_region ?_
         refine l_rk 3 tt_ok ⟨92, [(0, (fS (a0))), (2, (.ref 1 0 0)), (4, (fI ((w64 (v3 + 1)))))], (synthesisref16_Patterns_m0), [1]⟩ (by kernel_rfl) ?_
         refine l_nil ?_
         obtain rfl := Option.some.inj h
         exact And.intro rfl (le_ck (by kernel_rfl))
        ·try simp only [Sum.elim_inl, Sum.elim_inr] at h
         obtain ⟨rfl, hret⟩ := hq
         refine ⟨_, LeSt.refl, ?_⟩
         obtain rfl := Option.some.inj h
         exact And.intro (And.intro (fun h => nomatch h) (fun h => nomatch h)) (And.intro rfl hret)
    ·refine awp_cond_f (b := (decide (v3 < (a0.size : Int)))) (by kernel_rfl) hb ?_
     refine awp_exit ?_
     obtain rfl := Option.some.inj h
     exact And.intro (And.intro (fun h => nomatch h) (fun h => nomatch h)) (And.intro rfl (le_ck (by kernel_rfl)))
   ·clear hj
    intro e st' hq
    rcases v14 with v15 | v29
    ·try simp only [Sum.elim_inl, Sum.elim_inr] at h
     obtain ⟨rfl, hle⟩ := hq
     refine ⟨_, hle, ?_⟩
     refine awp_seq ?_
     refine awp_region ?_
     obtain ⟨v16, hv16, h⟩ := Option.bind_eq_some_iff.1 h
     refine l_step (h_step (f := 72) (cap := []) (cs := [.one .keep, .one .keep, .one .keep, .one .keep, .one .keep, .one .keep]) (keys := []) [] [(1, 2), (2, 3)] rfl (by kernel_rfl) (synthesisref16_begin_h_ok ((⟨#[112, 97, 116, 116, 101, 114, 110, 115]⟩ : ByteArray)) (3) ((⟨#[116, 101, 115, 116]⟩ : ByteArray)) (1) ((⟨#[116, 101, 120, 116]⟩ : ByteArray)) (3) _ hv16) (by kernel_rfl) (by kernel_rfl) (by kernel_rfl) (by kernel_rfl)) (by kernel_rfl) (dst_of (by kernel_rfl)) ?_
     refine l_rk 1 tt_ok ⟨92, [(0, (fS (a0))), (2, (.ref 1 0 0)), (6, (.ref 2 0 0))], (synthesisref16_Patterns_m1), [2, 3, 1]⟩ (by kernel_rfl) ?_
     refine l_nil ?_
     refine awp_seq ?_
     refine awp_region ?_
     refine l_rk 8 tt_ok ⟨92, [(0, (fS (a0))), (2, (.ref 1 0 0)), (6, (.ref 2 0 0)), (47, (.ref 2 0 0)), (52, (.lim 2 (List.length (([(Sy.mk (((⟨#[116, 101, 115, 116]⟩ : ByteArray))) ((1))), (Sy.mk (((⟨#[116, 101, 120, 116]⟩ : ByteArray))) ((3)))] : List (Sy)))) (List.map eSy (([(Sy.mk (((⟨#[116, 101, 115, 116]⟩ : ByteArray))) ((1))), (Sy.mk (((⟨#[116, 101, 120, 116]⟩ : ByteArray))) ((3)))] : List (Sy)))))), (54, (.lim 2 (List.length (([(Sy.mk ((⟨#[112, 97, 116, 116, 101, 114, 110]⟩ : ByteArray)) (8))] : List (Sy)))) (List.map eSy (([(Sy.mk ((⟨#[112, 97, 116, 116, 101, 114, 110]⟩ : ByteArray)) (8))] : List (Sy))))))], (synthesisref16_Patterns_m1), [2, 3, 1]⟩ (by kernel_rfl) ?_
     obtain ⟨v17, hv17, h⟩ := Option.bind_eq_some_iff.1 h
     refine l_step (s_appLit (d := tt24) (e := 72) (de := tt72) (enc := eSy) (xs := ([(Sy.mk (((⟨#[116, 101, 115, 116]⟩ : ByteArray))) ((1))), (Sy.mk (((⟨#[116, 101, 120, 116]⟩ : ByteArray))) ((3)))] : List (Sy))) (ys := ([(Sy.mk ((⟨#[112, 97, 116, 116, 101, 114, 110]⟩ : ByteArray)) (8))] : List (Sy))) (n := List.length ([(Sy.mk (((⟨#[116, 101, 115, 116]⟩ : ByteArray))) ((1))), (Sy.mk (((⟨#[116, 101, 120, 116]⟩ : ByteArray))) ((3)))] : List (Sy))) (m := List.length ([(Sy.mk ((⟨#[112, 97, 116, 116, 101, 114, 110]⟩ : ByteArray)) (8))] : List (Sy))) (id := 4) hv17 tt_ok rfl (by kernel_rfl) (by kernel_rfl) (by kernel_rfl) (by kernel_rfl) (by kernel_rfl) (by kernel_rfl) (by kernel_rfl) (.inr (by kernel_rfl)) (by kernel_rfl)) (by kernel_rfl) (dst_of (by kernel_rfl)) ?_
     refine l_rk 4 tt_ok ⟨92, [(0, (fS (a0))), (2, (.ref 1 0 0)), (6, (.ref 2 0 0))], [(1, (.box 27 [(fS ((⟨#[]⟩ : ByteArray))), (.fz (.atom (.slice none 0 0))), (.fz (.atom (.slice none 0 0))), (.fz (.atom (.slice none 0 0)))])), (2, (.box 91 [(fS (((⟨#[112, 97, 116, 116, 101, 114, 110, 115]⟩ : ByteArray)))), (.lim 1 (List.length (([(3)] : List (Int)))) (List.map eI (([(3)] : List (Int))))), (.row 4 (List.length (v17))), (.row 3 (List.length (([] : List (Ru)))))])), (3, (.frow 67 9 (List.map eRu (([] : List (Ru)))))), (4, (.frow 72 2 (List.map eSy (v17))))], [4, 2, 3, 1]⟩ (by kernel_rfl) ?_
     refine l_nil ?_
     refine awp_seq ?_
     refine awp_region ?_
     refine l_rk 3 tt_ok ⟨92, [(0, (fS (a0))), (2, (.ref 1 0 0)), (6, (.ref 2 0 0)), (59, (.ref 2 0 0)), (60, (.lim 1 (List.length (([(⟨#[109, 97, 116, 99, 104, 101, 115]⟩ : ByteArray)] : List (ByteArray)))) (List.map eS (([(⟨#[109, 97, 116, 99, 104, 101, 115]⟩ : ByteArray)] : List (ByteArray)))))), (61, (.lim 1 (List.length (([1, 2] : List (Int)))) (List.map eI (([1, 2] : List (Int))))))], [(1, (.box 27 [(fS ((⟨#[]⟩ : ByteArray))), (.fz (.atom (.slice none 0 0))), (.fz (.atom (.slice none 0 0))), (.fz (.atom (.slice none 0 0)))])), (2, (.box 91 [(fS (((⟨#[112, 97, 116, 116, 101, 114, 110, 115]⟩ : ByteArray)))), (.lim 1 (List.length (([(3)] : List (Int)))) (List.map eI (([(3)] : List (Int))))), (.row 4 (List.length (v17))), (.row 3 (List.length (([] : List (Ru)))))])), (3, (.frow 67 9 (List.map eRu (([] : List (Ru)))))), (4, (.frow 72 2 (List.map eSy (v17))))], [4, 2, 3, 1]⟩ (by kernel_rfl) ?_
     obtain ⟨v18, hv18, h⟩ := Option.bind_eq_some_iff.1 h
     refine l_le (le_co (ids := [4, 2, 3, 1]) (ts := [(0, .one .keep), (2, .one .keep), (6, .one .keep), (59, .one .keep), (60, .one .keep), (61, .one .keep)]) (os := [(1, []), (2, [.keep, .sl 1]), (3, []), (4, [])]) (by kernel_rfl) : LeSt _ ⟨92, [(0, (fS (a0))), (2, (.ref 1 0 0)), (6, (.ref 2 0 0)), (59, (.ref 2 0 0)), (60, (.lim 1 (List.length (([(⟨#[109, 97, 116, 99, 104, 101, 115]⟩ : ByteArray)] : List (ByteArray)))) (List.map eS (([(⟨#[109, 97, 116, 99, 104, 101, 115]⟩ : ByteArray)] : List (ByteArray)))))), (61, (.lim 1 (List.length (([1, 2] : List (Int)))) (List.map eI (([1, 2] : List (Int))))))], [(1, (.box 27 [(fS ((⟨#[]⟩ : ByteArray))), (.fz (.atom (.slice none 0 0))), (.fz (.atom (.slice none 0 0))), (.fz (.atom (.slice none 0 0)))])), (2, (.box 91 [(fS (((⟨#[112, 97, 116, 116, 101, 114, 110, 115]⟩ : ByteArray)))), (.fz ((eL 1 eI) (([(3)] : List (Int))))), (.row 4 (List.length (v17))), (.row 3 (List.length (([] : List (Ru)))))])), (3, (.frow 67 9 (List.map eRu (([] : List (Ru)))))), (4, (.frow 72 2 (List.map eSy (v17))))], [4, 2, 3, 1]⟩) ?_
     refine l_step (h_step (f := 75) (cap := []) (cs := [.one .keep, .one .keep, (.one (.sl 1)), (.one (.sl 1))]) (keys := [1, 2, 3]) [(2, 1), (4, 2), (3, 3)] [(1, 2), (2, 4), (3, 3)] rfl (by kernel_rfl) (synthesisref16_writer_op_h2_ok (((⟨#[112, 97, 116, 116, 101, 114, 110, 115]⟩ : ByteArray))) (([(3)] : List (Int))) (v17) (([] : List (Ru))) (0) (([(⟨#[109, 97, 116, 99, 104, 101, 115]⟩ : ByteArray)] : List (ByteArray))) (([1, 2] : List (Int))) _ hv18) (by kernel_rfl) (by kernel_rfl) (by kernel_rfl) (by kernel_rfl)) (by kernel_rfl) (dst_of (by kernel_rfl)) ?_
     refine l_nil ?_
     refine awp_seq ?_
     refine awp_region ?_
     refine l_rk 1 tt_ok ⟨92, [(0, (fS (a0))), (2, (.ref 1 0 0)), (6, (.ref 2 0 0)), (63, (.ref 2 0 0))], [(1, (.box 27 [(fS ((⟨#[]⟩ : ByteArray))), (.fz (.atom (.slice none 0 0))), (.fz (.atom (.slice none 0 0))), (.fz (.atom (.slice none 0 0)))])), (2, (.box 91 [(fS ((((⟨#[112, 97, 116, 116, 101, 114, 110, 115]⟩ : ByteArray))))), (.fz ((eL 1 eI) ((([(3)] : List (Int)))))), (.row 4 (List.length ((v17)))), (.row 3 (List.length (v18)))])), (3, (.frow 67 9 (List.map eRu (v18)))), (4, (.frow 72 2 (List.map eSy ((v17)))))], [4, 2, 3, 1]⟩ (by kernel_rfl) ?_
     obtain ⟨v19, hv19, h⟩ := Option.bind_eq_some_iff.1 h
     refine l_step (h_step (f := 73) (cap := []) (cs := [.one .keep, .one .keep]) (keys := [1, 2, 3]) [(2, 1), (4, 2), (3, 3)] [(1, 2), (2, 4), (3, 3)] rfl (by kernel_rfl) (synthesisref16_writer_input_h2_ok ((((⟨#[112, 97, 116, 116, 101, 114, 110, 115]⟩ : ByteArray)))) ((([(3)] : List (Int)))) ((v17)) (v18) (1) _ hv19) (by kernel_rfl) (by kernel_rfl) (by kernel_rfl) (by kernel_rfl)) (by kernel_rfl) (dst_of (by kernel_rfl)) ?_
     refine l_nil ?_
     refine awp_seq ?_
     refine awp_seq ?_
     refine awp_region ?_
     refine l_rk 1 tt_ok ⟨92, [(0, (fS (a0))), (2, (.ref 1 0 0)), (6, (.ref 2 0 0)), (7, (fI (0)))], [(1, (.box 27 [(fS ((⟨#[]⟩ : ByteArray))), (.fz (.atom (.slice none 0 0))), (.fz (.atom (.slice none 0 0))), (.fz (.atom (.slice none 0 0)))])), (2, (.box 91 [(fS (((((⟨#[112, 97, 116, 116, 101, 114, 110, 115]⟩ : ByteArray)))))), (.fz ((eL 1 eI) (((([(3)] : List (Int))))))), (.row 4 (List.length (((v17))))), (.row 3 (List.length (v19)))])), (3, (.frow 67 9 (List.map eRu (v19)))), (4, (.frow 72 2 (List.map eSy (((v17))))))], [4, 2, 3, 1]⟩ (by kernel_rfl) ?_
     refine l_nil ?_
     refine awp_block ?_
     obtain ⟨v26, hj, h⟩ := Option.bind_eq_some_iff.1 h
     refine awp_join (Qa := fun e st => e = .exit 4 ∧ LeSt st ⟨92, [(2, (.ref 1 0 0)), (6, (.ref 2 0 0))], (synthesisref16_Patterns_m3 v26), [4, 2, 3, 1]⟩) ?_ ?_
     ·refine awp_loopS (stOf := fun v20 => ⟨92, [(0, (fS (a0))), (2, (.ref 1 0 0)), (6, (.ref 2 0 0)), (7, (fI (v20.1)))], (synthesisref16_Patterns_m2 v20), [4, 2, 3, 1]⟩) (Qb := fun j e st => e = .exit 4 ∧ LeSt st ⟨92, [(2, (.ref 1 0 0)), (6, (.ref 2 0 0))], [(1, (.box 27 [(fS ((⟨#[]⟩ : ByteArray))), (.fz (.atom (.slice none 0 0))), (.fz (.atom (.slice none 0 0))), (.fz (.atom (.slice none 0 0)))])), (2, (.box 91 [(fS (j.1)), (.fz ((eL 1 eI) (j.2.1))), (.row 4 (List.length (j.2.2.2))), (.row 3 (List.length (j.2.2.1)))])), (3, (.frow 67 9 (List.map eRu (j.2.2.1)))), (4, (.frow 72 2 (List.map eSy (j.2.2.2))))], [4, 2, 3, 1]⟩) hj (le_co (ids := [4, 2, 3, 1]) (ts := [(0, .one .keep), (2, .one .keep), (6, .one .keep), (7, (.one (.keep)))]) (os := [(1, []), (2, [.keep, .sl 1]), (3, []), (4, [])]) (by kernel_rfl)) ?_
      clear hj h
      intro v20 r h
      unfold synthesisref16_Patterns_l2 at h
      refine awp_seq ?_
      refine awp_seq ?_
      refine awp_region ?_
      refine l_rk 4 tt_ok ⟨92, [(0, (fS (a0))), (2, (.ref 1 0 0)), (6, (.ref 2 0 0)), (7, (fI (v20.1))), (68, (fB ((decide (v20.1 < (a0.size : Int))))))], (synthesisref16_Patterns_m2 v20), [4, 2, 3, 1]⟩ (by kernel_rfl) ?_
      refine l_nil ?_
      rcases cond_some h with ⟨hb, h⟩ | ⟨hb, h⟩
      ·refine awp_cond_t (b := (decide (v20.1 < (a0.size : Int)))) (by kernel_rfl) hb ?_
       refine awp_skip ?_
       refine awp_seq ?_
       refine awp_block ?_
       refine awp_region ?_
       refine l_rk 5 tt_ok ⟨92, [(0, (fS (a0))), (2, (.ref 1 0 0)), (6, (.ref 2 0 0)), (7, (fI (v20.1))), (71, (.ref 2 0 0)), (72, (fS (a0))), (73, (fI (v20.1))), (75, (fI ((w64 (v20.1 + 1)))))], (synthesisref16_Patterns_m2 v20), [4, 2, 3, 1]⟩ (by kernel_rfl) ?_
       obtain ⟨v21, hv21, h⟩ := Option.bind_eq_some_iff.1 h
       refine l_step ((s_cutS (d := tt9) (s := a0) (l := (some v20.1)) (h := (some (w64 (v20.1 + 1)))) hv21 tt_ok rfl (by kernel_rfl) (by kernel_rfl) (by kernel_rfl) (by kernel_rfl) (by kernel_rfl)).step) (by kernel_rfl) (dst_of (by kernel_rfl)) ?_
       obtain ⟨v22, hv22, h⟩ := Option.bind_eq_some_iff.1 h
       refine l_step ((n_call (ys := [eS (v21)]) (cs := [(.one (.keep))]) rfl (by kernel_rfl) (synthesisref05_Literal_ok (v21) _ hv22)).step) (by kernel_rfl) (dst_of (by kernel_rfl)) ?_
       obtain ⟨v23, hv23, h⟩ := Option.bind_eq_some_iff.1 h
       refine l_step ((n_call (ys := [eS (v22)]) (cs := [(.one (.keep))]) rfl (by kernel_rfl) (synthesisref01_OfPattern_ok (v22) _ hv23)).step) (by kernel_rfl) (dst_of (by kernel_rfl)) ?_
       obtain ⟨v24, hv24, h⟩ := Option.bind_eq_some_iff.1 h
       refine l_step (h_step (f := 74) (cap := []) (cs := [.one .keep, .one .keep, .one .keep]) (keys := [1, 2, 3]) [(2, 1), (4, 2), (3, 3)] [(1, 2), (2, 4), (3, 3)] rfl (by kernel_rfl) (synthesisref16_writer_constant_h2_ok (v20.2.1) (v20.2.2.1) (v20.2.2.2.2) (v20.2.2.2.1) (2) (v23) _ hv24) (by kernel_rfl) (by kernel_rfl) (by kernel_rfl) (by kernel_rfl)) (by kernel_rfl) (dst_of (by kernel_rfl)) ?_
       refine l_nil ?_
       refine awp_region ?_
       refine l_rk 3 tt_ok ⟨92, [(0, (fS (a0))), (2, (.ref 1 0 0)), (6, (.ref 2 0 0)), (7, (fI ((w64 (v20.1 + 1)))))], [(1, (.box 27 [(fS ((⟨#[]⟩ : ByteArray))), (.fz (.atom (.slice none 0 0))), (.fz (.atom (.slice none 0 0))), (.fz (.atom (.slice none 0 0)))])), (2, (.box 91 [(fS ((v20.2.1))), (.fz ((eL 1 eI) ((v20.2.2.1)))), (.row 4 (List.length ((v20.2.2.2.2)))), (.row 3 (List.length (v24)))])), (3, (.frow 67 9 (List.map eRu (v24)))), (4, (.frow 72 2 (List.map eSy ((v20.2.2.2.2)))))], [4, 2, 3, 1]⟩ (by kernel_rfl) ?_
       refine l_nil ?_
       obtain rfl := Option.some.inj h
       exact And.intro rfl (le_co (ids := [4, 2, 3, 1]) (ts := [(0, .one .keep), (2, .one .keep), (6, .one .keep), (7, (.one (.keep)))]) (os := [(1, []), (2, [.keep, .sl 1]), (3, []), (4, [])]) (by kernel_rfl))
      ·refine awp_cond_f (b := (decide (v20.1 < (a0.size : Int)))) (by kernel_rfl) hb ?_
       refine awp_exit ?_
       obtain rfl := Option.some.inj h
       exact And.intro (And.intro (fun h => nomatch h) (fun h => nomatch h)) (And.intro rfl (le_co (ids := [4, 2, 3, 1]) (ts := [(2, .one .keep), (6, .one .keep)]) (os := [(1, []), (2, [.keep, .sl 1]), (3, []), (4, [])]) (by kernel_rfl)))
     ·clear hj
      intro e st' hq
      obtain ⟨rfl, hle⟩ := hq
      refine ⟨_, hle, ?_⟩
      refine awp_seq ?_
      refine awp_region ?_
      refine l_rk 3 tt_ok ⟨92, [(2, (.ref 1 0 0)), (6, (.ref 2 0 0)), (80, (.ref 2 0 0)), (81, (.lim 1 (List.length (([(⟨#[112, 99, 97, 116]⟩ : ByteArray), (⟨#[112, 97, 108, 116]⟩ : ByteArray)] : List (ByteArray)))) (List.map eS (([(⟨#[112, 99, 97, 116]⟩ : ByteArray), (⟨#[112, 97, 108, 116]⟩ : ByteArray)] : List (ByteArray)))))), (82, (.lim 1 (List.length (([2, 2] : List (Int)))) (List.map eI (([2, 2] : List (Int))))))], (synthesisref16_Patterns_m3 v26), [4, 2, 3, 1]⟩ (by kernel_rfl) ?_
      obtain ⟨v27, hv27, h⟩ := Option.bind_eq_some_iff.1 h
      refine l_step (h_step (f := 75) (cap := []) (cs := [.one .keep, .one .keep, (.one (.sl 1)), (.one (.sl 1))]) (keys := [1, 2, 3]) [(2, 1), (4, 2), (3, 3)] [(1, 2), (2, 4), (3, 3)] rfl (by kernel_rfl) (synthesisref16_writer_op_h2_ok (v26.1) (v26.2.1) (v26.2.2.2) (v26.2.2.1) (2) (([(⟨#[112, 99, 97, 116]⟩ : ByteArray), (⟨#[112, 97, 108, 116]⟩ : ByteArray)] : List (ByteArray))) (([2, 2] : List (Int))) _ hv27) (by kernel_rfl) (by kernel_rfl) (by kernel_rfl) (by kernel_rfl)) (by kernel_rfl) (dst_of (by kernel_rfl)) ?_
      refine l_nil ?_
      refine awp_seq ?_
      refine awp_region ?_
      refine l_rk 3 tt_ok ⟨92, [(2, (.ref 1 0 0)), (6, (.ref 2 0 0)), (84, (.ref 2 0 0)), (85, (.lim 1 (List.length (([(⟨#[112, 115, 116, 97, 114]⟩ : ByteArray)] : List (ByteArray)))) (List.map eS (([(⟨#[112, 115, 116, 97, 114]⟩ : ByteArray)] : List (ByteArray)))))), (86, (.lim 1 (List.length (([2] : List (Int)))) (List.map eI (([2] : List (Int))))))], [(1, (.box 27 [(fS ((⟨#[]⟩ : ByteArray))), (.fz (.atom (.slice none 0 0))), (.fz (.atom (.slice none 0 0))), (.fz (.atom (.slice none 0 0)))])), (2, (.box 91 [(fS ((v26.1))), (.fz ((eL 1 eI) ((v26.2.1)))), (.row 4 (List.length ((v26.2.2.2)))), (.row 3 (List.length (v27)))])), (3, (.frow 67 9 (List.map eRu (v27)))), (4, (.frow 72 2 (List.map eSy ((v26.2.2.2)))))], [4, 2, 3, 1]⟩ (by kernel_rfl) ?_
      obtain ⟨v28, hv28, h⟩ := Option.bind_eq_some_iff.1 h
      refine l_step (h_step (f := 75) (cap := []) (cs := [.one .keep, .one .keep, (.one (.sl 1)), (.one (.sl 1))]) (keys := [1, 2, 3]) [(2, 1), (4, 2), (3, 3)] [(1, 2), (2, 4), (3, 3)] rfl (by kernel_rfl) (synthesisref16_writer_op_h2_ok ((v26.1)) ((v26.2.1)) ((v26.2.2.2)) (v27) (2) (([(⟨#[112, 115, 116, 97, 114]⟩ : ByteArray)] : List (ByteArray))) (([2] : List (Int))) _ hv28) (by kernel_rfl) (by kernel_rfl) (by kernel_rfl) (by kernel_rfl)) (by kernel_rfl) (dst_of (by kernel_rfl)) ?_
      refine l_nil ?_
      refine awp_seq ?_
      refine awp_region ?_
      refine l_rk 6 tt_ok ⟨92, [(2, (.ref 1 0 0)), (3, (fI (0)))], [(1, (.box 27 [(fS (((v26.1)))), (.fz ((eL 1 eI) (((v26.2.1))))), (.row 4 (List.length (((v26.2.2.2))))), (.row 3 (List.length (v28)))])), (3, (.frow 67 9 (List.map eRu (v28)))), (4, (.frow 72 2 (List.map eSy (((v26.2.2.2))))))], [4, 3, 1]⟩ (by kernel_rfl) ?_
      refine l_nil ?_
      refine awp_le (le_freezeCell (e2 := 27) (id2 := 1) (j := 2) (id := 4) (n := List.length (((v26.2.2.2)))) (e := 72) (size := 2) (xs := List.map eSy (((v26.2.2.2)))) (cells := [(fS (((v26.1)))), (.fz ((eL 1 eI) (((v26.2.1))))), (.row 4 (List.length (((v26.2.2.2))))), (.row 3 (List.length (v28)))]) (by kernel_rfl) (by kernel_rfl) (by kernel_rfl) (by simp)) ?_
      refine awp_le (le_freezeCell (e2 := 27) (id2 := 1) (j := 3) (id := 3) (n := List.length (v28)) (e := 67) (size := 9) (xs := List.map eRu (v28)) (cells := [(fS (((v26.1)))), (.fz ((eL 1 eI) (((v26.2.1))))), (.fz ((eL 2 eSy) (((v26.2.2.2))))), (.row 3 (List.length (v28)))]) (by kernel_rfl) (by kernel_rfl) (by kernel_rfl) (by simp)) ?_
      refine awp_ret ?_
      obtain rfl := Option.some.inj h
      exact (show retX _ _ _ _ = some _ from by kernel_rfl)
    ·try simp only [Sum.elim_inl, Sum.elim_inr] at h
     obtain ⟨rfl, hret⟩ := hq
     refine ⟨_, LeSt.refl, ?_⟩
     obtain rfl := Option.some.inj h
     exact hret

def synthesisref16_Lists_m0 : List (Nat × AObj) := [(1, (.box 27 [(fS ((⟨#[]⟩ : ByteArray))), (.fz (.atom (.slice none 0 0))), (.fz (.atom (.slice none 0 0))), (.fz (.atom (.slice none 0 0)))])), (2, (.box 91 [(fS (((⟨#[108, 105, 115, 116, 115]⟩ : ByteArray)))), (.lim 1 (List.length (([(5)] : List (Int)))) (List.map eI (([(5)] : List (Int))))), (.lim 2 (List.length (([(Sy.mk (((⟨#[108, 105, 115, 116]⟩ : ByteArray))) ((5))), (Sy.mk (((⟨#[110, 117, 109, 98, 101, 114]⟩ : ByteArray))) ((2)))] : List (Sy)))) (List.map eSy (([(Sy.mk (((⟨#[108, 105, 115, 116]⟩ : ByteArray))) ((5))), (Sy.mk (((⟨#[110, 117, 109, 98, 101, 114]⟩ : ByteArray))) ((2)))] : List (Sy))))), (.row 3 (List.length (([] : List (Ru)))))])), (3, (.frow 67 9 (List.map eRu (([] : List (Ru))))))]
def synthesisref16_Lists_m1 (v8 : (Int) × (ByteArray) × (List Int) × (List Sy) × (List Ru)) : List (Nat × AObj) := [(1, (.box 27 [(fS ((⟨#[]⟩ : ByteArray))), (.fz (.atom (.slice none 0 0))), (.fz (.atom (.slice none 0 0))), (.fz (.atom (.slice none 0 0)))])), (2, (.box 91 [(fS (v8.2.1)), (.fz ((eL 1 eI) (v8.2.2.1))), (.fz ((eL 2 eSy) (v8.2.2.2.1))), (.row 3 (List.length (v8.2.2.2.2)))])), (3, (.frow 67 9 (List.map eRu (v8.2.2.2.2))))]
def synthesisref16_Lists_m2 : List (Nat × AObj) := [(1, (.box 27 [(fS ((⟨#[]⟩ : ByteArray))), (.fz (.atom (.slice none 0 0))), (.fz (.atom (.slice none 0 0))), (.fz (.atom (.slice none 0 0)))]))]
def synthesisref16_Lists_m3 (v13 : (ByteArray) × (List Int) × (List Sy) × (List Ru)) : List (Nat × AObj) := [(1, (.box 27 [(fS ((⟨#[]⟩ : ByteArray))), (.fz (.atom (.slice none 0 0))), (.fz (.atom (.slice none 0 0))), (.fz (.atom (.slice none 0 0)))])), (2, (.box 91 [(fS (v13.1)), (.fz ((eL 1 eI) (v13.2.1))), (.fz ((eL 2 eSy) (v13.2.2.1))), (.row 3 (List.length (v13.2.2.2)))])), (3, (.frow 67 9 (List.map eRu (v13.2.2.2))))]
def synthesisref16_Lists_l1 (a0 : List Int) (v8 : (Int) × (ByteArray) × (List Int) × (List Sy) × (List Ru)) : Option (((Int) × (ByteArray) × (List Int) × (List Sy) × (List Ru)) ⊕ ((ByteArray) × (List Int) × (List Sy) × (List Ru))) := (bif (decide (v8.1 < (List.length a0 : Int))) then (Option.bind (idx a0 v8.1) fun v9 => (Option.bind (synthesisref01_OfInt (v9)) fun v10 => (Option.bind (synthesisref16_writer_constant_h (v8.2.1) (v8.2.2.1) (v8.2.2.2.1) (v8.2.2.2.2) (1) (v10)) fun v11 => (some (.inl ((w64 (v8.1 + 1)), (v8.2.1), (v8.2.2.1), (v8.2.2.2.1), v11)))))) else (some (.inr (v8.2.1, v8.2.2.1, v8.2.2.2.1, v8.2.2.2.2))))
def synthesisref16_Lists (a0 : List Int) : Option ((La) × (Int)) := (Option.bind (synthesisref16_values (a0) (2)) fun v1 => (Option.bind (synthesisref16_check (v1)) fun v2 => (bif (v2 != 0) then (some ((La.mk ((⟨#[]⟩ : ByteArray)) (([] : List Int)) (([] : List Sy)) (([] : List Ru))), v2)) else (Option.bind (synthesisref16_begin_h ((⟨#[108, 105, 115, 116, 115]⟩ : ByteArray)) (5) ((⟨#[108, 105, 115, 116]⟩ : ByteArray)) (5) ((⟨#[110, 117, 109, 98, 101, 114]⟩ : ByteArray)) (2)) fun v3 => (Option.bind (synthesisref16_writer_input_h (((⟨#[108, 105, 115, 116, 115]⟩ : ByteArray))) (([(5)] : List (Int))) (([(Sy.mk (((⟨#[108, 105, 115, 116]⟩ : ByteArray))) ((5))), (Sy.mk (((⟨#[110, 117, 109, 98, 101, 114]⟩ : ByteArray))) ((2)))] : List (Sy))) (([] : List (Ru))) (0)) fun v4 => (Option.bind (synthesisref16_writer_op_h ((((⟨#[108, 105, 115, 116, 115]⟩ : ByteArray)))) ((([(5)] : List (Int)))) ((([(Sy.mk (((⟨#[108, 105, 115, 116]⟩ : ByteArray))) ((5))), (Sy.mk (((⟨#[110, 117, 109, 98, 101, 114]⟩ : ByteArray))) ((2)))] : List (Sy)))) (v4) (0) (([(⟨#[116, 97, 107, 101]⟩ : ByteArray), (⟨#[100, 114, 111, 112]⟩ : ByteArray), (⟨#[115, 104, 105, 102, 116]⟩ : ByteArray), (⟨#[115, 99, 97, 108, 101]⟩ : ByteArray), (⟨#[97, 98, 111, 118, 101]⟩ : ByteArray)] : List (ByteArray))) (([0, 1] : List (Int)))) fun v5 => (Option.bind (synthesisref16_writer_op_h (((((⟨#[108, 105, 115, 116, 115]⟩ : ByteArray))))) (((([(5)] : List (Int))))) (((([(Sy.mk (((⟨#[108, 105, 115, 116]⟩ : ByteArray))) ((5))), (Sy.mk (((⟨#[110, 117, 109, 98, 101, 114]⟩ : ByteArray))) ((2)))] : List (Sy))))) (v5) (0) (([(⟨#[114, 101, 118, 101, 114, 115, 101]⟩ : ByteArray), (⟨#[115, 111, 114, 116]⟩ : ByteArray), (⟨#[117, 110, 105, 113, 117, 101]⟩ : ByteArray), (⟨#[101, 118, 101, 110]⟩ : ByteArray), (⟨#[114, 117, 110, 110, 105, 110, 103]⟩ : ByteArray)] : List (ByteArray))) (([0] : List (Int)))) fun v6 => (Option.bind (synthesisref16_writer_op_h ((((((⟨#[108, 105, 115, 116, 115]⟩ : ByteArray)))))) ((((([(5)] : List (Int)))))) ((((([(Sy.mk (((⟨#[108, 105, 115, 116]⟩ : ByteArray))) ((5))), (Sy.mk (((⟨#[110, 117, 109, 98, 101, 114]⟩ : ByteArray))) ((2)))] : List (Sy)))))) (v6) (0) (([(⟨#[122, 105, 112]⟩ : ByteArray), (⟨#[97, 112, 112, 101, 110, 100]⟩ : ByteArray)] : List (ByteArray))) (([0, 0] : List (Int)))) fun v7 => (Option.bind (loopN (synthesisref16_Lists_l1 a0) fuel (0, ((((((⟨#[108, 105, 115, 116, 115]⟩ : ByteArray)))))), ((((([(5)] : List (Int)))))), ((((([(Sy.mk (((⟨#[108, 105, 115, 116]⟩ : ByteArray))) ((5))), (Sy.mk (((⟨#[110, 117, 109, 98, 101, 114]⟩ : ByteArray))) ((2)))] : List (Sy)))))), v7)) fun (v13 : (ByteArray) × (List Int) × (List Sy) × (List Ru)) => (Option.bind (synthesisref16_writer_op_h (v13.1) (v13.2.1) (v13.2.2.1) (v13.2.2.2) (1) (([(⟨#[104, 101, 97, 100]⟩ : ByteArray), (⟨#[108, 97, 115, 116]⟩ : ByteArray), (⟨#[115, 117, 109]⟩ : ByteArray), (⟨#[109, 97, 120, 105, 109, 117, 109]⟩ : ByteArray), (⟨#[109, 105, 110, 105, 109, 117, 109]⟩ : ByteArray), (⟨#[108, 101, 110, 103, 116, 104]⟩ : ByteArray)] : List (ByteArray))) (([0] : List (Int)))) fun v14 => (Option.bind (synthesisref16_writer_op_h ((v13.1)) ((v13.2.1)) ((v13.2.2.1)) (v14) (1) (([(⟨#[101, 108, 101, 109, 101, 110, 116]⟩ : ByteArray), (⟨#[99, 111, 117, 110, 116]⟩ : ByteArray)] : List (ByteArray))) (([0, 1] : List (Int)))) fun v15 => (some ((La.mk (((v13.1))) (((v13.2.1))) (((v13.2.2.1))) (v15)), 0)))))))))))))
theorem synthesisref16_Lists_ok (a0 : List Int) (r : (La) × (Int)) (h : synthesisref16_Lists a0 = some r) : PCall Try.prog 29 [(eL 1 eI) a0] (.tup [eLa (r.1), eI (r.2)]) := by
 unfold synthesisref16_Lists at h
 refine pcall_intro (T := TT) tt_ok [.ag [.keep, .sl 1, .sl 2, .sl 9], .one .keep] Try.func29 rfl (by kernel_rfl) (by kernel_rfl) ?_
 refine awp_le (st' := ⟨54, [(0, (.fz ((eL 1 eI) (a0))))], [], []⟩) (le_ck (by kernel_rfl)) ?_
 refine awp_seq ?_
 refine awp_region ?_
 refine l_rk 2 tt_ok ⟨54, [(0, (.fz ((eL 1 eI) (a0)))), (2, (.ref 1 0 0))], (synthesisref16_Lists_m2), [1]⟩ (by kernel_rfl) ?_
 refine l_nil ?_
 refine awp_seq ?_
 refine awp_seq ?_
 refine awp_region ?_
 refine l_rk 1 tt_ok ⟨54, [(0, (.fz ((eL 1 eI) (a0)))), (2, (.ref 1 0 0)), (7, (.fz ((eL 1 eI) (a0))))], (synthesisref16_Lists_m2), [1]⟩ (by kernel_rfl) ?_
 obtain ⟨v1, hv1, h⟩ := Option.bind_eq_some_iff.1 h
 refine l_step ((n_call (ys := [(eL 1 eI) (a0), eI (2)]) (cs := [(.one (.sl 1)), (.one (.keep))]) rfl (by kernel_rfl) (synthesisref16_values_ok (a0) (2) _ hv1)).step) (by kernel_rfl) (dst_of (by kernel_rfl)) ?_
 obtain ⟨v2, hv2, h⟩ := Option.bind_eq_some_iff.1 h
 refine l_step ((n_call (ys := [(eL 4 eVaR) (v1)]) (cs := [(.one (.sl 4))]) rfl (by kernel_rfl) (synthesisref16_check_ok (v1) _ hv2)).step) (by kernel_rfl) (dst_of (by kernel_rfl)) ?_
 refine l_rk 1 tt_ok ⟨54, [(0, (.fz ((eL 1 eI) (a0)))), (2, (.ref 1 0 0)), (4, (fI (v2)))], (synthesisref16_Lists_m2), [1]⟩ (by kernel_rfl) ?_
 refine l_nil ?_
 refine awp_seq ?_
 refine awp_region ?_
 refine l_rk 2 tt_ok ⟨54, [(0, (.fz ((eL 1 eI) (a0)))), (2, (.ref 1 0 0)), (4, (fI (v2))), (11, (fB ((v2 != 0))))], (synthesisref16_Lists_m2), [1]⟩ (by kernel_rfl) ?_
 refine l_nil ?_
 rcases cond_some h with ⟨hb, h⟩ | ⟨hb, h⟩
 ·refine awp_cond_t (b := (v2 != 0)) (by kernel_rfl) hb ?_
  refine awp_seq ?_
  refine awp_region ?_
  refine l_rk 4 tt_ok ⟨54, [(2, (.ref 1 0 0)), (3, (fI (v2)))], (synthesisref16_Lists_m2), [1]⟩ (by kernel_rfl) ?_
  refine l_nil ?_
  refine awp_ret ?_
  obtain rfl := Option.some.inj h
  exact (show retX _ _ _ _ = some _ from by kernel_rfl)
 ·refine awp_cond_f (b := (v2 != 0)) (by kernel_rfl) hb ?_
  refine awp_skip ?_
  refine awp_seq ?_
  refine awp_region ?_
  obtain ⟨v3, hv3, h⟩ := Option.bind_eq_some_iff.1 h
  refine l_step (h_step (f := 72) (cap := []) (cs := [.one .keep, .one .keep, .one .keep, .one .keep, .one .keep, .one .keep]) (keys := []) [] [(1, 2), (2, 3)] rfl (by kernel_rfl) (synthesisref16_begin_h_ok ((⟨#[108, 105, 115, 116, 115]⟩ : ByteArray)) (5) ((⟨#[108, 105, 115, 116]⟩ : ByteArray)) (5) ((⟨#[110, 117, 109, 98, 101, 114]⟩ : ByteArray)) (2) _ hv3) (by kernel_rfl) (by kernel_rfl) (by kernel_rfl) (by kernel_rfl)) (by kernel_rfl) (dst_of (by kernel_rfl)) ?_
  refine l_rk 1 tt_ok ⟨54, [(0, (.fz ((eL 1 eI) (a0)))), (2, (.ref 1 0 0)), (5, (.ref 2 0 0))], (synthesisref16_Lists_m0), [2, 3, 1]⟩ (by kernel_rfl) ?_
  refine l_nil ?_
  refine awp_seq ?_
  refine awp_region ?_
  refine l_rk 1 tt_ok ⟨54, [(0, (.fz ((eL 1 eI) (a0)))), (2, (.ref 1 0 0)), (5, (.ref 2 0 0)), (15, (.ref 2 0 0))], (synthesisref16_Lists_m0), [2, 3, 1]⟩ (by kernel_rfl) ?_
  obtain ⟨v4, hv4, h⟩ := Option.bind_eq_some_iff.1 h
  refine l_le (le_co (ids := [2, 3, 1]) (ts := [(0, .one .keep), (2, .one .keep), (5, .one .keep), (15, .one .keep)]) (os := [(1, []), (2, [.keep, .sl 1, .sl 2]), (3, [])]) (by kernel_rfl) : LeSt _ ⟨54, [(0, (.fz ((eL 1 eI) (a0)))), (2, (.ref 1 0 0)), (5, (.ref 2 0 0)), (15, (.ref 2 0 0))], [(1, (.box 27 [(fS ((⟨#[]⟩ : ByteArray))), (.fz (.atom (.slice none 0 0))), (.fz (.atom (.slice none 0 0))), (.fz (.atom (.slice none 0 0)))])), (2, (.box 91 [(fS (((⟨#[108, 105, 115, 116, 115]⟩ : ByteArray)))), (.fz ((eL 1 eI) (([(5)] : List (Int))))), (.fz ((eL 2 eSy) (([(Sy.mk (((⟨#[108, 105, 115, 116]⟩ : ByteArray))) ((5))), (Sy.mk (((⟨#[110, 117, 109, 98, 101, 114]⟩ : ByteArray))) ((2)))] : List (Sy))))), (.row 3 (List.length (([] : List (Ru)))))])), (3, (.frow 67 9 (List.map eRu (([] : List (Ru))))))], [2, 3, 1]⟩) ?_
  refine l_step (h_step (f := 73) (cap := []) (cs := [.one .keep, .one .keep]) (keys := [1, 2]) [(2, 1), (3, 2)] [(1, 2), (2, 3)] rfl (by kernel_rfl) (synthesisref16_writer_input_h_ok (((⟨#[108, 105, 115, 116, 115]⟩ : ByteArray))) (([(5)] : List (Int))) (([(Sy.mk (((⟨#[108, 105, 115, 116]⟩ : ByteArray))) ((5))), (Sy.mk (((⟨#[110, 117, 109, 98, 101, 114]⟩ : ByteArray))) ((2)))] : List (Sy))) (([] : List (Ru))) (0) _ hv4) (by kernel_rfl) (by kernel_rfl) (by kernel_rfl) (by kernel_rfl)) (by kernel_rfl) (dst_of (by kernel_rfl)) ?_
  refine l_nil ?_
  refine awp_seq ?_
  refine awp_region ?_
  refine l_rk 3 tt_ok ⟨54, [(0, (.fz ((eL 1 eI) (a0)))), (2, (.ref 1 0 0)), (5, (.ref 2 0 0)), (17, (.ref 2 0 0)), (18, (.lim 1 (List.length (([(⟨#[116, 97, 107, 101]⟩ : ByteArray), (⟨#[100, 114, 111, 112]⟩ : ByteArray), (⟨#[115, 104, 105, 102, 116]⟩ : ByteArray), (⟨#[115, 99, 97, 108, 101]⟩ : ByteArray), (⟨#[97, 98, 111, 118, 101]⟩ : ByteArray)] : List (ByteArray)))) (List.map eS (([(⟨#[116, 97, 107, 101]⟩ : ByteArray), (⟨#[100, 114, 111, 112]⟩ : ByteArray), (⟨#[115, 104, 105, 102, 116]⟩ : ByteArray), (⟨#[115, 99, 97, 108, 101]⟩ : ByteArray), (⟨#[97, 98, 111, 118, 101]⟩ : ByteArray)] : List (ByteArray)))))), (19, (.lim 1 (List.length (([0, 1] : List (Int)))) (List.map eI (([0, 1] : List (Int))))))], [(1, (.box 27 [(fS ((⟨#[]⟩ : ByteArray))), (.fz (.atom (.slice none 0 0))), (.fz (.atom (.slice none 0 0))), (.fz (.atom (.slice none 0 0)))])), (2, (.box 91 [(fS ((((⟨#[108, 105, 115, 116, 115]⟩ : ByteArray))))), (.fz ((eL 1 eI) ((([(5)] : List (Int)))))), (.fz ((eL 2 eSy) ((([(Sy.mk (((⟨#[108, 105, 115, 116]⟩ : ByteArray))) ((5))), (Sy.mk (((⟨#[110, 117, 109, 98, 101, 114]⟩ : ByteArray))) ((2)))] : List (Sy)))))), (.row 3 (List.length (v4)))])), (3, (.frow 67 9 (List.map eRu (v4))))], [2, 3, 1]⟩ (by kernel_rfl) ?_
  obtain ⟨v5, hv5, h⟩ := Option.bind_eq_some_iff.1 h
  refine l_step (h_step (f := 75) (cap := []) (cs := [.one .keep, .one .keep, (.one (.sl 1)), (.one (.sl 1))]) (keys := [1, 2]) [(2, 1), (3, 2)] [(1, 2), (2, 3)] rfl (by kernel_rfl) (synthesisref16_writer_op_h_ok ((((⟨#[108, 105, 115, 116, 115]⟩ : ByteArray)))) ((([(5)] : List (Int)))) ((([(Sy.mk (((⟨#[108, 105, 115, 116]⟩ : ByteArray))) ((5))), (Sy.mk (((⟨#[110, 117, 109, 98, 101, 114]⟩ : ByteArray))) ((2)))] : List (Sy)))) (v4) (0) (([(⟨#[116, 97, 107, 101]⟩ : ByteArray), (⟨#[100, 114, 111, 112]⟩ : ByteArray), (⟨#[115, 104, 105, 102, 116]⟩ : ByteArray), (⟨#[115, 99, 97, 108, 101]⟩ : ByteArray), (⟨#[97, 98, 111, 118, 101]⟩ : ByteArray)] : List (ByteArray))) (([0, 1] : List (Int))) _ hv5) (by kernel_rfl) (by kernel_rfl) (by kernel_rfl) (by kernel_rfl)) (by kernel_rfl) (dst_of (by kernel_rfl)) ?_
  refine l_nil ?_
  refine awp_seq ?_
  refine awp_region ?_
  refine l_rk 3 tt_ok ⟨54, [(0, (.fz ((eL 1 eI) (a0)))), (2, (.ref 1 0 0)), (5, (.ref 2 0 0)), (21, (.ref 2 0 0)), (22, (.lim 1 (List.length (([(⟨#[114, 101, 118, 101, 114, 115, 101]⟩ : ByteArray), (⟨#[115, 111, 114, 116]⟩ : ByteArray), (⟨#[117, 110, 105, 113, 117, 101]⟩ : ByteArray), (⟨#[101, 118, 101, 110]⟩ : ByteArray), (⟨#[114, 117, 110, 110, 105, 110, 103]⟩ : ByteArray)] : List (ByteArray)))) (List.map eS (([(⟨#[114, 101, 118, 101, 114, 115, 101]⟩ : ByteArray), (⟨#[115, 111, 114, 116]⟩ : ByteArray), (⟨#[117, 110, 105, 113, 117, 101]⟩ : ByteArray), (⟨#[101, 118, 101, 110]⟩ : ByteArray), (⟨#[114, 117, 110, 110, 105, 110, 103]⟩ : ByteArray)] : List (ByteArray)))))), (23, (.lim 1 (List.length (([0] : List (Int)))) (List.map eI (([0] : List (Int))))))], [(1, (.box 27 [(fS ((⟨#[]⟩ : ByteArray))), (.fz (.atom (.slice none 0 0))), (.fz (.atom (.slice none 0 0))), (.fz (.atom (.slice none 0 0)))])), (2, (.box 91 [(fS (((((⟨#[108, 105, 115, 116, 115]⟩ : ByteArray)))))), (.fz ((eL 1 eI) (((([(5)] : List (Int))))))), (.fz ((eL 2 eSy) (((([(Sy.mk (((⟨#[108, 105, 115, 116]⟩ : ByteArray))) ((5))), (Sy.mk (((⟨#[110, 117, 109, 98, 101, 114]⟩ : ByteArray))) ((2)))] : List (Sy))))))), (.row 3 (List.length (v5)))])), (3, (.frow 67 9 (List.map eRu (v5))))], [2, 3, 1]⟩ (by kernel_rfl) ?_
  obtain ⟨v6, hv6, h⟩ := Option.bind_eq_some_iff.1 h
  refine l_step (h_step (f := 75) (cap := []) (cs := [.one .keep, .one .keep, (.one (.sl 1)), (.one (.sl 1))]) (keys := [1, 2]) [(2, 1), (3, 2)] [(1, 2), (2, 3)] rfl (by kernel_rfl) (synthesisref16_writer_op_h_ok (((((⟨#[108, 105, 115, 116, 115]⟩ : ByteArray))))) (((([(5)] : List (Int))))) (((([(Sy.mk (((⟨#[108, 105, 115, 116]⟩ : ByteArray))) ((5))), (Sy.mk (((⟨#[110, 117, 109, 98, 101, 114]⟩ : ByteArray))) ((2)))] : List (Sy))))) (v5) (0) (([(⟨#[114, 101, 118, 101, 114, 115, 101]⟩ : ByteArray), (⟨#[115, 111, 114, 116]⟩ : ByteArray), (⟨#[117, 110, 105, 113, 117, 101]⟩ : ByteArray), (⟨#[101, 118, 101, 110]⟩ : ByteArray), (⟨#[114, 117, 110, 110, 105, 110, 103]⟩ : ByteArray)] : List (ByteArray))) (([0] : List (Int))) _ hv6) (by kernel_rfl) (by kernel_rfl) (by kernel_rfl) (by kernel_rfl)) (by kernel_rfl) (dst_of (by kernel_rfl)) ?_
  refine l_nil ?_
  refine awp_seq ?_
  refine awp_region ?_
  refine l_rk 3 tt_ok ⟨54, [(0, (.fz ((eL 1 eI) (a0)))), (2, (.ref 1 0 0)), (5, (.ref 2 0 0)), (25, (.ref 2 0 0)), (26, (.lim 1 (List.length (([(⟨#[122, 105, 112]⟩ : ByteArray), (⟨#[97, 112, 112, 101, 110, 100]⟩ : ByteArray)] : List (ByteArray)))) (List.map eS (([(⟨#[122, 105, 112]⟩ : ByteArray), (⟨#[97, 112, 112, 101, 110, 100]⟩ : ByteArray)] : List (ByteArray)))))), (27, (.lim 1 (List.length (([0, 0] : List (Int)))) (List.map eI (([0, 0] : List (Int))))))], [(1, (.box 27 [(fS ((⟨#[]⟩ : ByteArray))), (.fz (.atom (.slice none 0 0))), (.fz (.atom (.slice none 0 0))), (.fz (.atom (.slice none 0 0)))])), (2, (.box 91 [(fS ((((((⟨#[108, 105, 115, 116, 115]⟩ : ByteArray))))))), (.fz ((eL 1 eI) ((((([(5)] : List (Int)))))))), (.fz ((eL 2 eSy) ((((([(Sy.mk (((⟨#[108, 105, 115, 116]⟩ : ByteArray))) ((5))), (Sy.mk (((⟨#[110, 117, 109, 98, 101, 114]⟩ : ByteArray))) ((2)))] : List (Sy)))))))), (.row 3 (List.length (v6)))])), (3, (.frow 67 9 (List.map eRu (v6))))], [2, 3, 1]⟩ (by kernel_rfl) ?_
  obtain ⟨v7, hv7, h⟩ := Option.bind_eq_some_iff.1 h
  refine l_step (h_step (f := 75) (cap := []) (cs := [.one .keep, .one .keep, (.one (.sl 1)), (.one (.sl 1))]) (keys := [1, 2]) [(2, 1), (3, 2)] [(1, 2), (2, 3)] rfl (by kernel_rfl) (synthesisref16_writer_op_h_ok ((((((⟨#[108, 105, 115, 116, 115]⟩ : ByteArray)))))) ((((([(5)] : List (Int)))))) ((((([(Sy.mk (((⟨#[108, 105, 115, 116]⟩ : ByteArray))) ((5))), (Sy.mk (((⟨#[110, 117, 109, 98, 101, 114]⟩ : ByteArray))) ((2)))] : List (Sy)))))) (v6) (0) (([(⟨#[122, 105, 112]⟩ : ByteArray), (⟨#[97, 112, 112, 101, 110, 100]⟩ : ByteArray)] : List (ByteArray))) (([0, 0] : List (Int))) _ hv7) (by kernel_rfl) (by kernel_rfl) (by kernel_rfl) (by kernel_rfl)) (by kernel_rfl) (dst_of (by kernel_rfl)) ?_
  refine l_nil ?_
  refine awp_seq ?_
  refine awp_seq ?_
  refine awp_region ?_
  refine l_rk 1 tt_ok ⟨54, [(0, (.fz ((eL 1 eI) (a0)))), (2, (.ref 1 0 0)), (5, (.ref 2 0 0)), (6, (fI (0)))], [(1, (.box 27 [(fS ((⟨#[]⟩ : ByteArray))), (.fz (.atom (.slice none 0 0))), (.fz (.atom (.slice none 0 0))), (.fz (.atom (.slice none 0 0)))])), (2, (.box 91 [(fS (((((((⟨#[108, 105, 115, 116, 115]⟩ : ByteArray)))))))), (.fz ((eL 1 eI) (((((([(5)] : List (Int))))))))), (.fz ((eL 2 eSy) (((((([(Sy.mk (((⟨#[108, 105, 115, 116]⟩ : ByteArray))) ((5))), (Sy.mk (((⟨#[110, 117, 109, 98, 101, 114]⟩ : ByteArray))) ((2)))] : List (Sy))))))))), (.row 3 (List.length (v7)))])), (3, (.frow 67 9 (List.map eRu (v7))))], [2, 3, 1]⟩ (by kernel_rfl) ?_
  refine l_nil ?_
  refine awp_block ?_
  obtain ⟨v13, hj, h⟩ := Option.bind_eq_some_iff.1 h
  refine awp_join (Qa := fun e st => e = .exit 0 ∧ LeSt st ⟨54, [(2, (.ref 1 0 0)), (5, (.ref 2 0 0))], (synthesisref16_Lists_m3 v13), [2, 3, 1]⟩) ?_ ?_
  ·refine awp_loopS (stOf := fun v8 => ⟨54, [(0, (.fz ((eL 1 eI) (a0)))), (2, (.ref 1 0 0)), (5, (.ref 2 0 0)), (6, (fI (v8.1)))], (synthesisref16_Lists_m1 v8), [2, 3, 1]⟩) (Qb := fun j e st => e = .exit 0 ∧ LeSt st ⟨54, [(2, (.ref 1 0 0)), (5, (.ref 2 0 0))], [(1, (.box 27 [(fS ((⟨#[]⟩ : ByteArray))), (.fz (.atom (.slice none 0 0))), (.fz (.atom (.slice none 0 0))), (.fz (.atom (.slice none 0 0)))])), (2, (.box 91 [(fS (j.1)), (.fz ((eL 1 eI) (j.2.1))), (.fz ((eL 2 eSy) (j.2.2.1))), (.row 3 (List.length (j.2.2.2)))])), (3, (.frow 67 9 (List.map eRu (j.2.2.2))))], [2, 3, 1]⟩) hj (le_co (ids := [2, 3, 1]) (ts := [(0, .one .keep), (2, .one .keep), (5, .one .keep), (6, (.one (.keep)))]) (os := [(1, []), (2, [.keep, .sl 1, .sl 2]), (3, [])]) (by kernel_rfl)) ?_
   clear hj h
   intro v8 r h
   unfold synthesisref16_Lists_l1 at h
   refine awp_seq ?_
   refine awp_seq ?_
   refine awp_region ?_
   refine l_rk 4 tt_ok ⟨54, [(0, (.fz ((eL 1 eI) (a0)))), (2, (.ref 1 0 0)), (5, (.ref 2 0 0)), (6, (fI (v8.1))), (32, (fB ((decide (v8.1 < (List.length a0 : Int))))))], (synthesisref16_Lists_m1 v8), [2, 3, 1]⟩ (by kernel_rfl) ?_
   refine l_nil ?_
   rcases cond_some h with ⟨hb, h⟩ | ⟨hb, h⟩
   ·refine awp_cond_t (b := (decide (v8.1 < (List.length a0 : Int)))) (by kernel_rfl) hb ?_
    refine awp_skip ?_
    refine awp_seq ?_
    refine awp_block ?_
    refine awp_region ?_
    refine l_rk 3 tt_ok ⟨54, [(0, (.fz ((eL 1 eI) (a0)))), (2, (.ref 1 0 0)), (5, (.ref 2 0 0)), (6, (fI (v8.1))), (35, (.ref 2 0 0)), (36, (.fz ((eL 1 eI) (a0)))), (37, (fI (v8.1)))], (synthesisref16_Lists_m1 v8), [2, 3, 1]⟩ (by kernel_rfl) ?_
    obtain ⟨v9, hv9, h⟩ := Option.bind_eq_some_iff.1 h
    refine l_step ((s_index (k := .i64) (d := tt35) (e := 2) (de := tt2) (enc := eI) hv9 tt_ok rfl (by kernel_rfl) (by kernel_rfl) (by kernel_rfl) (by kernel_rfl) len_eI (by kernel_rfl) rfl).step) (by kernel_rfl) (dst_of (by kernel_rfl)) ?_
    refine l_rk 1 tt_ok ⟨54, [(0, (.fz ((eL 1 eI) (a0)))), (2, (.ref 1 0 0)), (5, (.ref 2 0 0)), (6, (fI (v8.1))), (35, (.ref 2 0 0)), (39, (fI (v9)))], (synthesisref16_Lists_m1 v8), [2, 3, 1]⟩ (by kernel_rfl) ?_
    obtain ⟨v10, hv10, h⟩ := Option.bind_eq_some_iff.1 h
    refine l_step ((n_call (ys := [eI (v9)]) (cs := [(.one (.keep))]) rfl (by kernel_rfl) (synthesisref01_OfInt_ok (v9) _ hv10)).step) (by kernel_rfl) (dst_of (by kernel_rfl)) ?_
    obtain ⟨v11, hv11, h⟩ := Option.bind_eq_some_iff.1 h
    refine l_step (h_step (f := 74) (cap := []) (cs := [.one .keep, .one .keep, .one .keep]) (keys := [1, 2]) [(2, 1), (3, 2)] [(1, 2), (2, 3)] rfl (by kernel_rfl) (synthesisref16_writer_constant_h_ok (v8.2.1) (v8.2.2.1) (v8.2.2.2.1) (v8.2.2.2.2) (1) (v10) _ hv11) (by kernel_rfl) (by kernel_rfl) (by kernel_rfl) (by kernel_rfl)) (by kernel_rfl) (dst_of (by kernel_rfl)) ?_
    refine l_nil ?_
    refine awp_region ?_
    refine l_rk 3 tt_ok ⟨54, [(0, (.fz ((eL 1 eI) (a0)))), (2, (.ref 1 0 0)), (5, (.ref 2 0 0)), (6, (fI ((w64 (v8.1 + 1)))))], [(1, (.box 27 [(fS ((⟨#[]⟩ : ByteArray))), (.fz (.atom (.slice none 0 0))), (.fz (.atom (.slice none 0 0))), (.fz (.atom (.slice none 0 0)))])), (2, (.box 91 [(fS ((v8.2.1))), (.fz ((eL 1 eI) ((v8.2.2.1)))), (.fz ((eL 2 eSy) ((v8.2.2.2.1)))), (.row 3 (List.length (v11)))])), (3, (.frow 67 9 (List.map eRu (v11))))], [2, 3, 1]⟩ (by kernel_rfl) ?_
    refine l_nil ?_
    obtain rfl := Option.some.inj h
    exact And.intro rfl (le_co (ids := [2, 3, 1]) (ts := [(0, .one .keep), (2, .one .keep), (5, .one .keep), (6, (.one (.keep)))]) (os := [(1, []), (2, [.keep, .sl 1, .sl 2]), (3, [])]) (by kernel_rfl))
   ·refine awp_cond_f (b := (decide (v8.1 < (List.length a0 : Int)))) (by kernel_rfl) hb ?_
    refine awp_exit ?_
    obtain rfl := Option.some.inj h
    exact And.intro (And.intro (fun h => nomatch h) (fun h => nomatch h)) (And.intro rfl (le_co (ids := [2, 3, 1]) (ts := [(2, .one .keep), (5, .one .keep)]) (os := [(1, []), (2, [.keep, .sl 1, .sl 2]), (3, [])]) (by kernel_rfl)))
  ·clear hj
   intro e st' hq
   obtain ⟨rfl, hle⟩ := hq
   refine ⟨_, hle, ?_⟩
   refine awp_seq ?_
   refine awp_region ?_
   refine l_rk 3 tt_ok ⟨54, [(2, (.ref 1 0 0)), (5, (.ref 2 0 0)), (42, (.ref 2 0 0)), (43, (.lim 1 (List.length (([(⟨#[104, 101, 97, 100]⟩ : ByteArray), (⟨#[108, 97, 115, 116]⟩ : ByteArray), (⟨#[115, 117, 109]⟩ : ByteArray), (⟨#[109, 97, 120, 105, 109, 117, 109]⟩ : ByteArray), (⟨#[109, 105, 110, 105, 109, 117, 109]⟩ : ByteArray), (⟨#[108, 101, 110, 103, 116, 104]⟩ : ByteArray)] : List (ByteArray)))) (List.map eS (([(⟨#[104, 101, 97, 100]⟩ : ByteArray), (⟨#[108, 97, 115, 116]⟩ : ByteArray), (⟨#[115, 117, 109]⟩ : ByteArray), (⟨#[109, 97, 120, 105, 109, 117, 109]⟩ : ByteArray), (⟨#[109, 105, 110, 105, 109, 117, 109]⟩ : ByteArray), (⟨#[108, 101, 110, 103, 116, 104]⟩ : ByteArray)] : List (ByteArray)))))), (44, (.lim 1 (List.length (([0] : List (Int)))) (List.map eI (([0] : List (Int))))))], (synthesisref16_Lists_m3 v13), [2, 3, 1]⟩ (by kernel_rfl) ?_
   obtain ⟨v14, hv14, h⟩ := Option.bind_eq_some_iff.1 h
   refine l_step (h_step (f := 75) (cap := []) (cs := [.one .keep, .one .keep, (.one (.sl 1)), (.one (.sl 1))]) (keys := [1, 2]) [(2, 1), (3, 2)] [(1, 2), (2, 3)] rfl (by kernel_rfl) (synthesisref16_writer_op_h_ok (v13.1) (v13.2.1) (v13.2.2.1) (v13.2.2.2) (1) (([(⟨#[104, 101, 97, 100]⟩ : ByteArray), (⟨#[108, 97, 115, 116]⟩ : ByteArray), (⟨#[115, 117, 109]⟩ : ByteArray), (⟨#[109, 97, 120, 105, 109, 117, 109]⟩ : ByteArray), (⟨#[109, 105, 110, 105, 109, 117, 109]⟩ : ByteArray), (⟨#[108, 101, 110, 103, 116, 104]⟩ : ByteArray)] : List (ByteArray))) (([0] : List (Int))) _ hv14) (by kernel_rfl) (by kernel_rfl) (by kernel_rfl) (by kernel_rfl)) (by kernel_rfl) (dst_of (by kernel_rfl)) ?_
   refine l_nil ?_
   refine awp_seq ?_
   refine awp_region ?_
   refine l_rk 3 tt_ok ⟨54, [(2, (.ref 1 0 0)), (5, (.ref 2 0 0)), (46, (.ref 2 0 0)), (47, (.lim 1 (List.length (([(⟨#[101, 108, 101, 109, 101, 110, 116]⟩ : ByteArray), (⟨#[99, 111, 117, 110, 116]⟩ : ByteArray)] : List (ByteArray)))) (List.map eS (([(⟨#[101, 108, 101, 109, 101, 110, 116]⟩ : ByteArray), (⟨#[99, 111, 117, 110, 116]⟩ : ByteArray)] : List (ByteArray)))))), (48, (.lim 1 (List.length (([0, 1] : List (Int)))) (List.map eI (([0, 1] : List (Int))))))], [(1, (.box 27 [(fS ((⟨#[]⟩ : ByteArray))), (.fz (.atom (.slice none 0 0))), (.fz (.atom (.slice none 0 0))), (.fz (.atom (.slice none 0 0)))])), (2, (.box 91 [(fS ((v13.1))), (.fz ((eL 1 eI) ((v13.2.1)))), (.fz ((eL 2 eSy) ((v13.2.2.1)))), (.row 3 (List.length (v14)))])), (3, (.frow 67 9 (List.map eRu (v14))))], [2, 3, 1]⟩ (by kernel_rfl) ?_
   obtain ⟨v15, hv15, h⟩ := Option.bind_eq_some_iff.1 h
   refine l_step (h_step (f := 75) (cap := []) (cs := [.one .keep, .one .keep, (.one (.sl 1)), (.one (.sl 1))]) (keys := [1, 2]) [(2, 1), (3, 2)] [(1, 2), (2, 3)] rfl (by kernel_rfl) (synthesisref16_writer_op_h_ok ((v13.1)) ((v13.2.1)) ((v13.2.2.1)) (v14) (1) (([(⟨#[101, 108, 101, 109, 101, 110, 116]⟩ : ByteArray), (⟨#[99, 111, 117, 110, 116]⟩ : ByteArray)] : List (ByteArray))) (([0, 1] : List (Int))) _ hv15) (by kernel_rfl) (by kernel_rfl) (by kernel_rfl) (by kernel_rfl)) (by kernel_rfl) (dst_of (by kernel_rfl)) ?_
   refine l_nil ?_
   refine awp_seq ?_
   refine awp_region ?_
   refine l_rk 6 tt_ok ⟨54, [(2, (.ref 1 0 0)), (3, (fI (0)))], [(1, (.box 27 [(fS (((v13.1)))), (.fz ((eL 1 eI) (((v13.2.1))))), (.fz ((eL 2 eSy) (((v13.2.2.1))))), (.row 3 (List.length (v15)))])), (3, (.frow 67 9 (List.map eRu (v15))))], [3, 1]⟩ (by kernel_rfl) ?_
   refine l_nil ?_
   refine awp_le (le_freezeCell (e2 := 27) (id2 := 1) (j := 3) (id := 3) (n := List.length (v15)) (e := 67) (size := 9) (xs := List.map eRu (v15)) (cells := [(fS (((v13.1)))), (.fz ((eL 1 eI) (((v13.2.1))))), (.fz ((eL 2 eSy) (((v13.2.2.1))))), (.row 3 (List.length (v15)))]) (by kernel_rfl) (by kernel_rfl) (by kernel_rfl) (by simp)) ?_
   refine awp_ret ?_
   obtain rfl := Option.some.inj h
   exact (show retX _ _ _ _ = some _ from by kernel_rfl)

def synthesisref01_OfBits (a0 : Int) : Option (Va) := (some (Va.mk (4) (a0) ((⟨#[]⟩ : ByteArray)) (([] : List Va))))
theorem synthesisref01_OfBits_ok (a0 : Int) (r : Va) (h : synthesisref01_OfBits a0 = some r) : PCall Try.prog 82 [eI a0] (eVa (r)) := by
 unfold synthesisref01_OfBits at h
 refine pcall_intro (T := TT) tt_ok [.ag [.keep, .keep, .keep, .sl 4]] Try.func82 rfl (by kernel_rfl) (by kernel_rfl) ?_
 refine awp_le (st' := ⟨5, [(0, (fI (a0)))], [], []⟩) (le_ck (by kernel_rfl)) ?_
 refine awp_seq ?_
 refine awp_region ?_
 refine l_rk 1 tt_ok ⟨5, [(0, (fI (a0))), (2, (.ref 1 0 0))], [(1, (.box 65 [(fI (0)), (fI (0)), (fS ((⟨#[]⟩ : ByteArray))), (.fz (.atom (.slice none 0 0)))]))], [1]⟩ (by kernel_rfl) ?_
 refine l_nil ?_
 refine awp_seq ?_
 refine awp_region ?_
 refine l_rk 3 tt_ok ⟨5, [(2, (.ref 1 0 0))], [(1, (.box 65 [(fI (4)), (fI (a0)), (fS ((⟨#[]⟩ : ByteArray))), (.fz (.atom (.slice none 0 0)))]))], [1]⟩ (by kernel_rfl) ?_
 refine l_nil ?_
 refine awp_ret ?_
 obtain rfl := Option.some.inj h
 exact (show retX _ _ _ _ = some _ from by kernel_rfl)
end Go.Proofs.Ytaeicmnimjfbaaa
