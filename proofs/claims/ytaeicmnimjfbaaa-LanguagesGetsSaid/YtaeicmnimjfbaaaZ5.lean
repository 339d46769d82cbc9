/- Typed programs and what computes them. -/
import Derived.Test.YtaeicmnimjfbaaaZ4
set_option linter.unusedVariables false
set_option linter.unusedSimpArgs false
set_option maxRecDepth 100000
namespace Go.Proofs.Ytaeicmnimjfbaaa
open Go Go.RowKit Go.Proofs
def synthesisref16_begin_h_m0 (p0 : Env) (q0 : Nat → Prop) (w0 : World) (a0 : ByteArray) (a1 : Int) (a2 : ByteArray) (a3 : Int) (a4 : ByteArray) (a5 : Int) : List (Nat × AObj) := [(0, (.was p0 [] q0 w0)), (1, (.box 91 [(fS (a0)), (.lim 1 (List.length (([a1] : List (Int)))) (List.map eI (([a1] : List (Int))))), (.lim 2 (List.length (([(Sy.mk (a2) (a3)), (Sy.mk (a4) (a5))] : List (Sy)))) (List.map eSy (([(Sy.mk (a2) (a3)), (Sy.mk (a4) (a5))] : List (Sy))))), (.row 2 (List.length (([] : List (Ru)))))])), (2, (.frow 67 9 (List.map eRu (([] : List (Ru))))))]
def synthesisref16_begin_h (a0 : ByteArray) (a1 : Int) (a2 : ByteArray) (a3 : Int) (a4 : ByteArray) (a5 : Int) : Option (Unit) := (some ())
theorem synthesisref16_begin_h_ok (a0 : ByteArray) (a1 : Int) (a2 : ByteArray) (a3 : Int) (a4 : ByteArray) (a5 : Int) (r : Unit) (h : synthesisref16_begin_h a0 a1 a2 a3 a4 a5 = some r) : HCall Try.prog 72 ([(fS (a0)), (fI (a1)), (fS (a2)), (fI (a3)), (fS (a4)), (fI (a5))] ++ []) [] [] (.ret (.ref 1 0 0)) [(1, (.box 91 [(fS (a0)), (.lim 1 (List.length (([a1] : List (Int)))) (List.map eI (([a1] : List (Int))))), (.lim 2 (List.length (([(Sy.mk (a2) (a3)), (Sy.mk (a4) (a5))] : List (Sy)))) (List.map eSy (([(Sy.mk (a2) (a3)), (Sy.mk (a4) (a5))] : List (Sy))))), (.row 2 (List.length (([] : List (Ru)))))])), (2, (.frow 67 9 (List.map eRu (([] : List (Ru))))))] [1, 2] := by
 unfold synthesisref16_begin_h at h
 refine hcall_introQ (g := 0) tt_ok Try.func72 rfl (by kernel_rfl) (by kernel_rfl) (by kernel_rfl) (by kernel_rfl) (by kernel_rfl) (by kernel_rfl) (by kernel_rfl) ?_
 intro p0 q0 w0
 refine awp_le (st' := ⟨26, [(0, (fS (a0))), (1, (fI (a1))), (2, (fS (a2))), (3, (fI (a3))), (4, (fS (a4))), (5, (fI (a5)))], [(0, (.was p0 [] q0 w0))], [0]⟩) (le_ck (by kernel_rfl)) ?_
 refine awp_seq ?_
 refine awp_region ?_
 refine l_rk 1 tt_ok ⟨26, [(0, (fS (a0))), (1, (fI (a1))), (2, (fS (a2))), (3, (fI (a3))), (4, (fS (a4))), (5, (fI (a5)))], [(0, (.was p0 [] q0 w0))], [0]⟩ (by kernel_rfl) ?_
 refine l_nil ?_
 refine awp_seq ?_
 refine awp_region ?_
 refine l_rk 13 tt_ok ⟨26, [(25, (.ref 1 0 0))], [(0, (.was p0 [] q0 w0)), (1, (.box 91 [(fS (a0)), (.lim 1 (List.length (([a1] : List (Int)))) (List.map eI (([a1] : List (Int))))), (.lim 2 (List.length (([(Sy.mk (a2) (a3)), (Sy.mk (a4) (a5))] : List (Sy)))) (List.map eSy (([(Sy.mk (a2) (a3)), (Sy.mk (a4) (a5))] : List (Sy))))), (.fz (.atom (.slice none 0 0)))]))], [1, 0]⟩ (by kernel_rfl) ?_
 refine l_le (le_nilcell (e := 67) (size := 9) (id2 := 1) (j := 3) (id := 2) (e2 := 91) (cells := [(fS (a0)), (.lim 1 (List.length (([a1] : List (Int)))) (List.map eI (([a1] : List (Int))))), (.lim 2 (List.length (([(Sy.mk (a2) (a3)), (Sy.mk (a4) (a5))] : List (Sy)))) (List.map eSy (([(Sy.mk (a2) (a3)), (Sy.mk (a4) (a5))] : List (Sy))))), (.fz (.atom (.slice none 0 0)))]) (by kernel_rfl) (by kernel_rfl) (by kernel_rfl) (by kernel_rfl)) ?_
 refine l_rk 1 tt_ok ⟨26, [(12, (.ref 1 0 0))], (synthesisref16_begin_h_m0 p0 q0 w0 a0 a1 a2 a3 a4 a5), [2, 1, 0]⟩ (by kernel_rfl) ?_
 refine l_nil ?_
 refine awp_ret ?_
 obtain rfl := Option.some.inj h
 exact hQ_ret (st2 := ⟨26, [(12, (.ref 1 0 0))], (synthesisref16_begin_h_m0 p0 q0 w0 a0 a1 a2 a3 a4 a5), [0, 1, 2]⟩) (le_ck (by kernel_rfl)) rfl rfl (.inr rfl) (by kernel_rfl)

def synthesisref16_writer_input_h_m0 (p0 : Env) (q0 : Nat → Prop) (w0 : World) (a0 : ByteArray) (a1 : List Int) (a2 : List Sy) (a3 : List Ru) : List (Nat × AObj) := [(0, (.was p0 [1, 2] q0 w0)), (1, (.box 91 [(fS (a0)), (.fz ((eL 1 eI) (a1))), (.fz ((eL 2 eSy) (a2))), (.row 2 (List.length (a3)))])), (2, (.frow 67 9 (List.map eRu (a3))))]
def synthesisref16_writer_input_h (a0 : ByteArray) (a1 : List Int) (a2 : List Sy) (a3 : List Ru) (a4 : Int) : Option ((List Ru)) := (Option.bind (app 120 a3 ([(Ru.mk (a4) (1) (0) ((Va.mk (0) (0) ((⟨#[]⟩ : ByteArray)) (([] : List Va)))) ((⟨#[]⟩ : ByteArray)) (([] : List Int)))] : List (Ru))) fun v1 => (some (v1)))
theorem synthesisref16_writer_input_h_ok (a0 : ByteArray) (a1 : List Int) (a2 : List Sy) (a3 : List Ru) (a4 : Int) (r : (List Ru)) (h : synthesisref16_writer_input_h a0 a1 a2 a3 a4 = some r) : HCall Try.prog 73 ([(.ref 1 0 0), (fI (a4))] ++ []) [(1, (.box 91 [(fS (a0)), (.fz ((eL 1 eI) (a1))), (.fz ((eL 2 eSy) (a2))), (.row 2 (List.length (a3)))])), (2, (.frow 67 9 (List.map eRu (a3))))] [1, 2] (.ret (.fz (.tup []))) [(1, (.box 91 [(fS (a0)), (.fz ((eL 1 eI) (a1))), (.fz ((eL 2 eSy) (a2))), (.row 2 (List.length (r)))])), (2, (.frow 67 9 (List.map eRu (r))))] [1, 2] := by
 unfold synthesisref16_writer_input_h at h
 refine hcall_introQ (g := 0) tt_ok Try.func73 rfl (by kernel_rfl) (by kernel_rfl) (by kernel_rfl) (by kernel_rfl) (by kernel_rfl) (by kernel_rfl) (by kernel_rfl) ?_
 intro p0 q0 w0
 refine awp_le (st' := ⟨17, [(0, (.ref 1 0 0)), (1, (fI (a4)))], (synthesisref16_writer_input_h_m0 p0 q0 w0 a0 a1 a2 a3), [0, 1, 2]⟩) (le_ck (by kernel_rfl)) ?_
 refine awp_region ?_
 refine l_rk 8 tt_ok ⟨17, [(4, (.ref 1 0 0)), (9, (.row 2 (List.length (a3)))), (11, (.fz (.agg [(eI (a4)), (eI (1)), (eI (0)), (eI (0)), (eI (0)), (eS ((⟨#[]⟩ : ByteArray))), (.atom (.slice none 0 0)), (eS ((⟨#[]⟩ : ByteArray))), (.atom (.slice none 0 0))])))], (synthesisref16_writer_input_h_m0 p0 q0 w0 a0 a1 a2 a3), [0, 1, 2]⟩ (by kernel_rfl) ?_
 refine l_le (le_co (ids := [0, 1, 2]) (ts := [(4, .one .keep), (9, .one .keep), (11, (.ag [.keep, .keep, .keep, .keep, .keep, .keep, .sl 4, .keep, .sl 1]))]) (os := [(0, []), (1, []), (2, [])]) (by kernel_rfl) : LeSt _ ⟨17, [(4, (.ref 1 0 0)), (9, (.row 2 (List.length (a3)))), (11, (.fz (eRu ((Ru.mk (a4) (1) (0) ((Va.mk (0) (0) ((⟨#[]⟩ : ByteArray)) (([] : List Va)))) ((⟨#[]⟩ : ByteArray)) (([] : List Int)))))))], (synthesisref16_writer_input_h_m0 p0 q0 w0 a0 a1 a2 a3), [0, 1, 2]⟩) ?_
 refine l_step (xstep_ok (c := .lim 9 1 [eRu ((Ru.mk (a4) (1) (0) ((Va.mk (0) (0) ((⟨#[]⟩ : ByteArray)) (([] : List Va)))) ((⟨#[]⟩ : ByteArray)) (([] : List Int))))]) (h := [(0, (.was p0 [1, 2] q0 w0)), (1, (.box 91 [(fS (a0)), (.fz ((eL 1 eI) (a1))), (.fz ((eL 2 eSy) (a2))), (.row 2 (List.length (a3)))])), (2, (.frow 67 9 (List.map eRu (a3))))]) (i := [0, 1, 2]) tt_ok (by kernel_rfl)) (by kernel_rfl) (dst_of (by kernel_rfl)) ?_
 obtain ⟨v1, hv1, h⟩ := Option.bind_eq_some_iff.1 h
 refine l_step (s_append (d := tt25) (e := 67) (de := tt67) (enc := eRu) (xs := a3) (ys := ([(Ru.mk (a4) (1) (0) ((Va.mk (0) (0) ((⟨#[]⟩ : ByteArray)) (([] : List Va)))) ((⟨#[]⟩ : ByteArray)) (([] : List Int)))] : List (Ru))) (m := List.length ([(Ru.mk (a4) (1) (0) ((Va.mk (0) (0) ((⟨#[]⟩ : ByteArray)) (([] : List Va)))) ((⟨#[]⟩ : ByteArray)) (([] : List Int)))] : List (Ru))) (id := 2) (n := List.length (a3)) hv1 tt_ok rfl (by kernel_rfl) (by kernel_rfl) (by kernel_rfl) (by kernel_rfl) (by kernel_rfl) (by kernel_rfl) (by kernel_rfl) (by kernel_rfl) rfl (.inr (by kernel_rfl))) (by kernel_rfl) (dst_of (by kernel_rfl)) ?_
 refine l_rk 4 tt_ok ⟨17, [], [(0, (.was p0 [1, 2] q0 w0)), (1, (.box 91 [(fS (a0)), (.fz ((eL 1 eI) (a1))), (.fz ((eL 2 eSy) (a2))), (.row 2 (List.length (v1)))])), (2, (.frow 67 9 (List.map eRu (v1))))], [0, 1, 2]⟩ (by kernel_rfl) ?_
 refine l_nil ?_
 obtain rfl := Option.some.inj h
 exact hQ_ret (st2 := ⟨17, [], [(0, (.was p0 [1, 2] q0 w0)), (1, (.box 91 [(fS (a0)), (.fz ((eL 1 eI) (a1))), (.fz ((eL 2 eSy) (a2))), (.row 2 (List.length (v1)))])), (2, (.frow 67 9 (List.map eRu (v1))))], [0, 1, 2]⟩) (le_ck (by kernel_rfl)) rfl rfl (.inl rfl) (by kernel_rfl)

def synthesisref16_writer_constant_h (a0 : ByteArray) (a1 : List Int) (a2 : List Sy) (a3 : List Ru) (a4 : Int) (a5 : Va) : Option ((List Ru)) := (Option.bind (app 120 a3 ([(Ru.mk (a4) (2) (0) (a5) ((⟨#[]⟩ : ByteArray)) (([] : List Int)))] : List (Ru))) fun v1 => (some (v1)))
theorem synthesisref16_writer_constant_h_ok (a0 : ByteArray) (a1 : List Int) (a2 : List Sy) (a3 : List Ru) (a4 : Int) (a5 : Va) (r : (List Ru)) (h : synthesisref16_writer_constant_h a0 a1 a2 a3 a4 a5 = some r) : HCall Try.prog 74 ([(.ref 1 0 0), (fI (a4)), (.fz (eVa (a5)))] ++ []) [(1, (.box 91 [(fS (a0)), (.fz ((eL 1 eI) (a1))), (.fz ((eL 2 eSy) (a2))), (.row 2 (List.length (a3)))])), (2, (.frow 67 9 (List.map eRu (a3))))] [1, 2] (.ret (.fz (.tup []))) [(1, (.box 91 [(fS (a0)), (.fz ((eL 1 eI) (a1))), (.fz ((eL 2 eSy) (a2))), (.row 2 (List.length (r)))])), (2, (.frow 67 9 (List.map eRu (r))))] [1, 2] := by
 unfold synthesisref16_writer_constant_h at h
 refine hcall_introQ (g := 0) tt_ok Try.func74 rfl (by kernel_rfl) (by kernel_rfl) (by kernel_rfl) (by kernel_rfl) (by kernel_rfl) (by kernel_rfl) (by kernel_rfl) ?_
 intro p0 q0 w0
 refine awp_le (st' := ⟨20, [(0, (.ref 1 0 0)), (1, (fI (a4))), (2, (.fz (eVa (a5))))], [(0, (.was p0 [1, 2] q0 w0)), (1, (.box 91 [(fS (a0)), (.fz ((eL 1 eI) (a1))), (.fz ((eL 2 eSy) (a2))), (.row 2 (List.length (a3)))])), (2, (.frow 67 9 (List.map eRu (a3))))], [0, 1, 2]⟩) (le_ck (by kernel_rfl)) ?_
 refine awp_seq ?_
 refine awp_region ?_
 refine l_rk 1 tt_ok ⟨20, [(0, (.ref 1 0 0)), (1, (fI (a4))), (5, (.ref 3 0 0))], [(0, (.was p0 [1, 2] q0 w0)), (1, (.box 91 [(fS (a0)), (.fz ((eL 1 eI) (a1))), (.fz ((eL 2 eSy) (a2))), (.row 2 (List.length (a3)))])), (2, (.frow 67 9 (List.map eRu (a3)))), (3, (.box 65 [(fI (a5.type)), (fI (a5.num)), (fS (a5.text)), (.fz ((eL 4 eVaR) (a5.items)))]))], [3, 0, 1, 2]⟩ (by kernel_rfl) ?_
 refine l_nil ?_
 obtain ⟨v1, hv1, h⟩ := Option.bind_eq_some_iff.1 h
 refine awp_drawnE (by kernel_rfl) 10 2 (.frow 67 9 (List.map eRu (a3))) (.frow 67 9 (List.map eRu (v1))) [(.ref 1 0 0), (.ref 1 0 0), (.ref 1 0 0), (.ref 1 0 0), (.ref 1 0 3), (.row 2 (List.length (a3))), (fI (a4)), (.fz (eVa (a5))), (.fz (.agg [(eI (a4)), (eI (2)), (eI (0)), (eI (a5.type)), (eI (a5.num)), (eS (a5.text)), ((eL 4 eVaR) (a5.items)), (eS ((⟨#[]⟩ : ByteArray))), (.atom (.slice none 0 0))])), (.lim 9 (List.length (([(Ru.mk (a4) (2) (0) (a5) ((⟨#[]⟩ : ByteArray)) (([] : List Int)))] : List (Ru)))) (List.map eRu (([(Ru.mk (a4) (2) (0) (a5) ((⟨#[]⟩ : ByteArray)) (([] : List Int)))] : List (Ru))))), (.row 2 (List.length (v1)))] (by kernel_rfl) (by kernel_rfl) (by kernel_rfl) ?_
 refine ⟨.inr ⟨by decide, .inl ⟨by kernel_rfl, (nstep_ok tt_ok (by kernel_rfl))⟩⟩, ?_⟩
 refine ⟨.inr ⟨by decide, .inl ⟨by kernel_rfl, (nstep_ok tt_ok (by kernel_rfl))⟩⟩, ?_⟩
 refine ⟨.inr ⟨by decide, .inl ⟨by kernel_rfl, (nstep_ok tt_ok (by kernel_rfl))⟩⟩, ?_⟩
 refine ⟨.inr ⟨by decide, .inl ⟨by kernel_rfl, (nstep_ok tt_ok (by kernel_rfl))⟩⟩, ?_⟩
 refine ⟨.inr ⟨by decide, .inl ⟨by kernel_rfl, (nstep_ok tt_ok (by kernel_rfl))⟩⟩, ?_⟩
 refine ⟨.inr ⟨by decide, .inl ⟨by kernel_rfl, (nstep_ok tt_ok (by kernel_rfl))⟩⟩, ?_⟩
 refine ⟨.inr ⟨by decide, .inl ⟨by kernel_rfl, (nstep_ok tt_ok (by kernel_rfl))⟩⟩, ?_⟩
 refine ⟨.inr ⟨by decide, .inl ⟨by kernel_rfl, (nstep_ok tt_ok (by kernel_rfl))⟩⟩, ?_⟩
 refine ⟨.inr ⟨by decide, .inl ⟨by kernel_rfl, (nstep_ok tt_ok (by kernel_rfl))⟩⟩, ?_⟩
 refine ⟨.inr ⟨by decide, .inl ⟨by kernel_rfl, (nstep_co (st' := ⟨20, [(14, (.fz (eRu ((Ru.mk (a4) (2) (0) (a5) ((⟨#[]⟩ : ByteArray)) (([] : List Int)))))))], [], []⟩) (ids := []) (ts := [(14, (.ag [.keep, .keep, .keep, .keep, .keep, .keep, .sl 4, .keep, .sl 1]))]) (by kernel_rfl) (nstep_ok (c := .lim 9 1 [eRu ((Ru.mk (a4) (2) (0) (a5) ((⟨#[]⟩ : ByteArray)) (([] : List Int))))]) tt_ok (by kernel_rfl)))⟩⟩, ?_⟩
 refine ⟨.inl ⟨rfl, by kernel_rfl, (s_appE (d := tt25) (e := 67) (de := tt67) (enc := eRu) (xs := a3) (ys := ([(Ru.mk (a4) (2) (0) (a5) ((⟨#[]⟩ : ByteArray)) (([] : List Int)))] : List (Ru))) (m := List.length ([(Ru.mk (a4) (2) (0) (a5) ((⟨#[]⟩ : ByteArray)) (([] : List Int)))] : List (Ru))) (id := 2) (n := List.length (a3)) hv1 tt_ok rfl (by kernel_rfl) (by kernel_rfl) (by kernel_rfl) (by kernel_rfl) (by kernel_rfl) (by kernel_rfl) (by kernel_rfl) rfl (.inr (by kernel_rfl)))⟩, ?_⟩
 refine l_rk 4 tt_ok ⟨20, [], [(0, (.was p0 [1, 2] q0 w0)), (1, (.box 91 [(fS (a0)), (.fz ((eL 1 eI) (a1))), (.fz ((eL 2 eSy) (a2))), (.row 2 (List.length (v1)))])), (2, (.frow 67 9 (List.map eRu (v1))))], [0, 1, 2]⟩ (by kernel_rfl) ?_
 refine l_nil ?_
 obtain rfl := Option.some.inj h
 exact hQ_ret (st2 := ⟨20, [], [(0, (.was p0 [1, 2] q0 w0)), (1, (.box 91 [(fS (a0)), (.fz ((eL 1 eI) (a1))), (.fz ((eL 2 eSy) (a2))), (.row 2 (List.length (v1)))])), (2, (.frow 67 9 (List.map eRu (v1))))], [0, 1, 2]⟩) (le_ck (by kernel_rfl)) rfl rfl (.inl rfl) (by kernel_rfl)

def synthesisref16_writer_op_h_l1 (a4 : Int) (a5 : List ByteArray) (a6 : List Int) (v1 : (Int) × (List Ru)) : Option (((Int) × (List Ru)) ⊕ ((List Ru))) := (bif (decide (v1.1 < (List.length a5 : Int))) then (Option.bind (idx a5 v1.1) fun v2 => (Option.bind (app 120 v1.2 ([(Ru.mk (a4) (3) (0) ((Va.mk (0) (0) ((⟨#[]⟩ : ByteArray)) (([] : List Va)))) (v2) (a6))] : List (Ru))) fun v3 => (some (.inl ((w64 (v1.1 + 1)), v3))))) else (some (.inr (v1.2))))
def synthesisref16_writer_op_h (a0 : ByteArray) (a1 : List Int) (a2 : List Sy) (a3 : List Ru) (a4 : Int) (a5 : List ByteArray) (a6 : List Int) : Option ((List Ru)) := (Option.bind (loopN (synthesisref16_writer_op_h_l1 a4 a5 a6) fuel (0, a3)) fun (v5 : (List Ru)) => (some (v5)))
theorem synthesisref16_writer_op_h_ok (a0 : ByteArray) (a1 : List Int) (a2 : List Sy) (a3 : List Ru) (a4 : Int) (a5 : List ByteArray) (a6 : List Int) (r : (List Ru)) (h : synthesisref16_writer_op_h a0 a1 a2 a3 a4 a5 a6 = some r) : HCall Try.prog 75 ([(.ref 1 0 0), (fI (a4)), (.fz ((eL 1 eS) (a5))), (.fz ((eL 1 eI) (a6)))] ++ []) [(1, (.box 91 [(fS (a0)), (.fz ((eL 1 eI) (a1))), (.fz ((eL 2 eSy) (a2))), (.row 2 (List.length (a3)))])), (2, (.frow 67 9 (List.map eRu (a3))))] [1, 2] (.ret (.fz (.tup []))) [(1, (.box 91 [(fS (a0)), (.fz ((eL 1 eI) (a1))), (.fz ((eL 2 eSy) (a2))), (.row 2 (List.length (r)))])), (2, (.frow 67 9 (List.map eRu (r))))] [1, 2] := by
 unfold synthesisref16_writer_op_h at h
 refine hcall_introQ (g := 0) tt_ok Try.func75 rfl (by kernel_rfl) (by kernel_rfl) (by kernel_rfl) (by kernel_rfl) (by kernel_rfl) (by kernel_rfl) (by kernel_rfl) ?_
 intro p0 q0 w0
 refine awp_le (st' := ⟨33, [(0, (.ref 1 0 0)), (1, (fI (a4))), (2, (.fz ((eL 1 eS) (a5)))), (3, (.fz ((eL 1 eI) (a6))))], [(0, (.was p0 [1, 2] q0 w0)), (1, (.box 91 [(fS (a0)), (.fz ((eL 1 eI) (a1))), (.fz ((eL 2 eSy) (a2))), (.row 2 (List.length (a3)))])), (2, (.frow 67 9 (List.map eRu (a3))))], [0, 1, 2]⟩) (le_ck (by kernel_rfl)) ?_
 refine awp_seq ?_
 refine awp_region ?_
 refine l_rk 1 tt_ok ⟨33, [(0, (.ref 1 0 0)), (1, (fI (a4))), (2, (.fz ((eL 1 eS) (a5)))), (3, (.fz ((eL 1 eI) (a6)))), (8, (fI (0)))], [(0, (.was p0 [1, 2] q0 w0)), (1, (.box 91 [(fS (a0)), (.fz ((eL 1 eI) (a1))), (.fz ((eL 2 eSy) (a2))), (.row 2 (List.length (a3)))])), (2, (.frow 67 9 (List.map eRu (a3))))], [0, 1, 2]⟩ (by kernel_rfl) ?_
 refine l_nil ?_
 refine awp_block ?_
 obtain ⟨v5, hj, h⟩ := Option.bind_eq_some_iff.1 h
 refine awp_join (Qa := fun e st => e = .exit 0 ∧ LeSt st ⟨33, [], [(0, (.was p0 [1, 2] q0 w0)), (1, (.box 91 [(fS (a0)), (.fz ((eL 1 eI) (a1))), (.fz ((eL 2 eSy) (a2))), (.row 2 (List.length (v5)))])), (2, (.frow 67 9 (List.map eRu (v5))))], [0, 1, 2]⟩) ?_ ?_
 ·refine awp_loopS (stOf := fun v1 => ⟨33, [(0, (.ref 1 0 0)), (1, (fI (a4))), (2, (.fz ((eL 1 eS) (a5)))), (3, (.fz ((eL 1 eI) (a6)))), (8, (fI (v1.1)))], [(0, (.was p0 [1, 2] q0 w0)), (1, (.box 91 [(fS (a0)), (.fz ((eL 1 eI) (a1))), (.fz ((eL 2 eSy) (a2))), (.row 2 (List.length (v1.2)))])), (2, (.frow 67 9 (List.map eRu (v1.2))))], [0, 1, 2]⟩) (Qb := fun j e st => e = .exit 0 ∧ LeSt st ⟨33, [], [(0, (.was p0 [1, 2] q0 w0)), (1, (.box 91 [(fS (a0)), (.fz ((eL 1 eI) (a1))), (.fz ((eL 2 eSy) (a2))), (.row 2 (List.length (j)))])), (2, (.frow 67 9 (List.map eRu (j))))], [0, 1, 2]⟩) hj (le_ck (by kernel_rfl)) ?_
  clear hj h
  intro v1 r h
  unfold synthesisref16_writer_op_h_l1 at h
  refine awp_seq ?_
  refine awp_seq ?_
  refine awp_region ?_
  refine l_rk 4 tt_ok ⟨33, [(0, (.ref 1 0 0)), (1, (fI (a4))), (2, (.fz ((eL 1 eS) (a5)))), (3, (.fz ((eL 1 eI) (a6)))), (8, (fI (v1.1))), (12, (fB ((decide (v1.1 < (List.length a5 : Int))))))], [(0, (.was p0 [1, 2] q0 w0)), (1, (.box 91 [(fS (a0)), (.fz ((eL 1 eI) (a1))), (.fz ((eL 2 eSy) (a2))), (.row 2 (List.length (v1.2)))])), (2, (.frow 67 9 (List.map eRu (v1.2))))], [0, 1, 2]⟩ (by kernel_rfl) ?_
  refine l_nil ?_
  rcases cond_some h with ⟨hb, h⟩ | ⟨hb, h⟩
  ·refine awp_cond_t (b := (decide (v1.1 < (List.length a5 : Int)))) (by kernel_rfl) hb ?_
   refine awp_skip ?_
   refine awp_seq ?_
   refine awp_block ?_
   obtain ⟨v2, hv2, h⟩ := Option.bind_eq_some_iff.1 h
   obtain ⟨v3, hv3, h⟩ := Option.bind_eq_some_iff.1 h
   refine awp_drawnE (by kernel_rfl) 14 2 (.frow 67 9 (List.map eRu (v1.2))) (.frow 67 9 (List.map eRu (v3))) [(.ref 1 0 0), (.ref 1 0 0), (.ref 1 0 0), (.ref 1 0 0), (.ref 1 0 3), (.row 2 (List.length (v1.2))), (fI (a4)), (.fz ((eL 1 eS) (a5))), (fI (v1.1)), (.fz (.fp [(eS (v2))])), (fS (v2)), (.fz ((eL 1 eI) (a6))), (.fz (.agg [(eI (a4)), (eI (3)), (eI (0)), (eI (0)), (eI (0)), (eS ((⟨#[]⟩ : ByteArray))), (.atom (.slice none 0 0)), (eS (v2)), ((eL 1 eI) (a6))])), (.lim 9 (List.length (([(Ru.mk (a4) (3) (0) ((Va.mk (0) (0) ((⟨#[]⟩ : ByteArray)) (([] : List Va)))) (v2) (a6))] : List (Ru)))) (List.map eRu (([(Ru.mk (a4) (3) (0) ((Va.mk (0) (0) ((⟨#[]⟩ : ByteArray)) (([] : List Va)))) (v2) (a6))] : List (Ru))))), (.row 2 (List.length (v3)))] (by kernel_rfl) (by kernel_rfl) (by kernel_rfl) ?_
   refine ⟨.inr ⟨by decide, .inl ⟨by kernel_rfl, (nstep_ok tt_ok (by kernel_rfl))⟩⟩, ?_⟩
   refine ⟨.inr ⟨by decide, .inl ⟨by kernel_rfl, (nstep_ok tt_ok (by kernel_rfl))⟩⟩, ?_⟩
   refine ⟨.inr ⟨by decide, .inl ⟨by kernel_rfl, (nstep_ok tt_ok (by kernel_rfl))⟩⟩, ?_⟩
   refine ⟨.inr ⟨by decide, .inl ⟨by kernel_rfl, (nstep_ok tt_ok (by kernel_rfl))⟩⟩, ?_⟩
   refine ⟨.inr ⟨by decide, .inl ⟨by kernel_rfl, (nstep_ok tt_ok (by kernel_rfl))⟩⟩, ?_⟩
   refine ⟨.inr ⟨by decide, .inl ⟨by kernel_rfl, (nstep_ok tt_ok (by kernel_rfl))⟩⟩, ?_⟩
   refine ⟨.inr ⟨by decide, .inl ⟨by kernel_rfl, (nstep_ok tt_ok (by kernel_rfl))⟩⟩, ?_⟩
   refine ⟨.inr ⟨by decide, .inl ⟨by kernel_rfl, (nstep_ok tt_ok (by kernel_rfl))⟩⟩, ?_⟩
   refine ⟨.inr ⟨by decide, .inl ⟨by kernel_rfl, (nstep_ok tt_ok (by kernel_rfl))⟩⟩, ?_⟩
   refine ⟨.inr ⟨by decide, .inl ⟨by kernel_rfl, (s_index (k := .i64) (d := tt32) (e := 9) (de := tt9) (enc := eS) hv2 tt_ok rfl (by kernel_rfl) (by kernel_rfl) (by kernel_rfl) (by kernel_rfl) len_eS (by kernel_rfl) rfl)⟩⟩, ?_⟩
   refine ⟨.inr ⟨by decide, .inl ⟨by kernel_rfl, (nstep_ok tt_ok (by kernel_rfl))⟩⟩, ?_⟩
   refine ⟨.inr ⟨by decide, .inl ⟨by kernel_rfl, (nstep_ok tt_ok (by kernel_rfl))⟩⟩, ?_⟩
   refine ⟨.inr ⟨by decide, .inl ⟨by kernel_rfl, (nstep_ok tt_ok (by kernel_rfl))⟩⟩, ?_⟩
   refine ⟨.inr ⟨by decide, .inl ⟨by kernel_rfl, (nstep_co (st' := ⟨33, [(27, (.fz (eRu ((Ru.mk (a4) (3) (0) ((Va.mk (0) (0) ((⟨#[]⟩ : ByteArray)) (([] : List Va)))) (v2) (a6))))))], [], []⟩) (ids := []) (ts := [(27, (.ag [.keep, .keep, .keep, .keep, .keep, .keep, .sl 4, .keep, .sl 1]))]) (by kernel_rfl) (nstep_ok (c := .lim 9 1 [eRu ((Ru.mk (a4) (3) (0) ((Va.mk (0) (0) ((⟨#[]⟩ : ByteArray)) (([] : List Va)))) (v2) (a6)))]) tt_ok (by kernel_rfl)))⟩⟩, ?_⟩
   refine ⟨.inl ⟨rfl, by kernel_rfl, (s_appE (d := tt25) (e := 67) (de := tt67) (enc := eRu) (xs := v1.2) (ys := ([(Ru.mk (a4) (3) (0) ((Va.mk (0) (0) ((⟨#[]⟩ : ByteArray)) (([] : List Va)))) (v2) (a6))] : List (Ru))) (m := List.length ([(Ru.mk (a4) (3) (0) ((Va.mk (0) (0) ((⟨#[]⟩ : ByteArray)) (([] : List Va)))) (v2) (a6))] : List (Ru))) (id := 2) (n := List.length (v1.2)) hv3 tt_ok rfl (by kernel_rfl) (by kernel_rfl) (by kernel_rfl) (by kernel_rfl) (by kernel_rfl) (by kernel_rfl) (by kernel_rfl) rfl (.inr (by kernel_rfl)))⟩, ?_⟩
   refine l_rk 4 tt_ok ⟨33, [(0, (.ref 1 0 0)), (1, (fI (a4))), (2, (.fz ((eL 1 eS) (a5)))), (3, (.fz ((eL 1 eI) (a6)))), (8, (fI (v1.1)))], [(0, (.was p0 [1, 2] q0 w0)), (1, (.box 91 [(fS (a0)), (.fz ((eL 1 eI) (a1))), (.fz ((eL 2 eSy) (a2))), (.row 2 (List.length (v3)))])), (2, (.frow 67 9 (List.map eRu (v3))))], [0, 1, 2]⟩ (by kernel_rfl) ?_
   refine l_nil ?_
   refine awp_region ?_
   refine l_rk 3 tt_ok ⟨33, [(0, (.ref 1 0 0)), (1, (fI (a4))), (2, (.fz ((eL 1 eS) (a5)))), (3, (.fz ((eL 1 eI) (a6)))), (8, (fI ((w64 (v1.1 + 1)))))], [(0, (.was p0 [1, 2] q0 w0)), (1, (.box 91 [(fS (a0)), (.fz ((eL 1 eI) (a1))), (.fz ((eL 2 eSy) (a2))), (.row 2 (List.length (v3)))])), (2, (.frow 67 9 (List.map eRu (v3))))], [0, 1, 2]⟩ (by kernel_rfl) ?_
   refine l_nil ?_
   obtain rfl := Option.some.inj h
   exact And.intro rfl (le_ck (by kernel_rfl))
  ·refine awp_cond_f (b := (decide (v1.1 < (List.length a5 : Int)))) (by kernel_rfl) hb ?_
   refine awp_exit ?_
   obtain rfl := Option.some.inj h
   exact And.intro (And.intro (fun h => nomatch h) (fun h => nomatch h)) (And.intro rfl (le_ck (by kernel_rfl)))
 ·clear hj
  intro e st' hq
  obtain ⟨rfl, hle⟩ := hq
  refine ⟨_, hle, ?_⟩
  obtain rfl := Option.some.inj h
  exact hQ_ret (st2 := ⟨33, [], [(0, (.was p0 [1, 2] q0 w0)), (1, (.box 91 [(fS (a0)), (.fz ((eL 1 eI) (a1))), (.fz ((eL 2 eSy) (a2))), (.row 2 (List.length (v5)))])), (2, (.frow 67 9 (List.map eRu (v5))))], [0, 1, 2]⟩) (le_ck (by kernel_rfl)) rfl rfl (.inl rfl) (by kernel_rfl)

def synthesisref16_Strings_m0 : List (Nat × AObj) := [(1, (.box 27 [(fS ((⟨#[]⟩ : ByteArray))), (.fz (.atom (.slice none 0 0))), (.fz (.atom (.slice none 0 0))), (.fz (.atom (.slice none 0 0)))])), (2, (.box 91 [(fS (((⟨#[115, 116, 114, 105, 110, 103, 115]⟩ : ByteArray)))), (.lim 1 (List.length (([(3)] : List (Int)))) (List.map eI (([(3)] : List (Int))))), (.lim 2 (List.length (([(Sy.mk (((⟨#[116, 101, 120, 116]⟩ : ByteArray))) ((3))), (Sy.mk (((⟨#[110, 117, 109, 98, 101, 114]⟩ : ByteArray))) ((2)))] : List (Sy)))) (List.map eSy (([(Sy.mk (((⟨#[116, 101, 120, 116]⟩ : ByteArray))) ((3))), (Sy.mk (((⟨#[110, 117, 109, 98, 101, 114]⟩ : ByteArray))) ((2)))] : List (Sy))))), (.row 3 (List.length (([] : List (Ru)))))])), (3, (.frow 67 9 (List.map eRu (([] : List (Ru))))))]
def synthesisref16_Strings_m1 : List (Nat × AObj) := [(1, (.box 27 [(fS ((⟨#[]⟩ : ByteArray))), (.fz (.atom (.slice none 0 0))), (.fz (.atom (.slice none 0 0))), (.fz (.atom (.slice none 0 0)))]))]
def synthesisref16_Strings_m2 (v14 : (Int) × (ByteArray) × (List Int) × (List Sy) × (List Ru)) : List (Nat × AObj) := [(1, (.box 27 [(fS ((⟨#[]⟩ : ByteArray))), (.fz (.atom (.slice none 0 0))), (.fz (.atom (.slice none 0 0))), (.fz (.atom (.slice none 0 0)))])), (2, (.box 91 [(fS (v14.2.1)), (.fz ((eL 1 eI) (v14.2.2.1))), (.fz ((eL 2 eSy) (v14.2.2.2.1))), (.row 3 (List.length (v14.2.2.2.2)))])), (3, (.frow 67 9 (List.map eRu (v14.2.2.2.2))))]
def synthesisref16_Strings_m3 (v24 : (Int) × (ByteArray) × (List Int) × (List Sy) × (List Ru)) : List (Nat × AObj) := [(1, (.box 27 [(fS ((⟨#[]⟩ : ByteArray))), (.fz (.atom (.slice none 0 0))), (.fz (.atom (.slice none 0 0))), (.fz (.atom (.slice none 0 0)))])), (2, (.box 91 [(fS (v24.2.1)), (.fz ((eL 1 eI) (v24.2.2.1))), (.fz ((eL 2 eSy) (v24.2.2.2.1))), (.row 3 (List.length (v24.2.2.2.2)))])), (3, (.frow 67 9 (List.map eRu (v24.2.2.2.2))))]
def synthesisref16_Strings_m4 (v1 : (Int) × (List Va)) : List (Nat × AObj) := [(1, (.box 27 [(fS ((⟨#[]⟩ : ByteArray))), (.fz (.atom (.slice none 0 0))), (.fz (.atom (.slice none 0 0))), (.fz (.atom (.slice none 0 0)))])), (2, (.frow 65 4 (List.map eVaR (v1.2))))]
def synthesisref16_Strings_m5 (v18 : (ByteArray) × (List Int) × (List Sy) × (List Ru)) : List (Nat × AObj) := [(1, (.box 27 [(fS ((⟨#[]⟩ : ByteArray))), (.fz (.atom (.slice none 0 0))), (.fz (.atom (.slice none 0 0))), (.fz (.atom (.slice none 0 0)))])), (2, (.box 91 [(fS (v18.1)), (.fz ((eL 1 eI) (v18.2.1))), (.fz ((eL 2 eSy) (v18.2.2.1))), (.row 3 (List.length (v18.2.2.2)))])), (3, (.frow 67 9 (List.map eRu (v18.2.2.2))))]
def synthesisref16_Strings_m6 (v29 : (ByteArray) × (List Int) × (List Sy) × (List Ru)) : List (Nat × AObj) := [(1, (.box 27 [(fS ((⟨#[]⟩ : ByteArray))), (.fz (.atom (.slice none 0 0))), (.fz (.atom (.slice none 0 0))), (.fz (.atom (.slice none 0 0)))])), (2, (.box 91 [(fS (v29.1)), (.fz ((eL 1 eI) (v29.2.1))), (.fz ((eL 2 eSy) (v29.2.2.1))), (.row 3 (List.length (v29.2.2.2)))])), (3, (.frow 67 9 (List.map eRu (v29.2.2.2))))]
def synthesisref16_Strings_m7 (v8 : List Va) : List (Nat × AObj) := [(1, (.box 27 [(fS ((⟨#[]⟩ : ByteArray))), (.fz (.atom (.slice none 0 0))), (.fz (.atom (.slice none 0 0))), (.fz (.atom (.slice none 0 0)))])), (2, (.frow 65 4 (List.map eVaR (v8))))]
def synthesisref16_Strings_l1 (a1 : List Int) (v24 : (Int) × (ByteArray) × (List Int) × (List Sy) × (List Ru)) : Option (((Int) × (ByteArray) × (List Int) × (List Sy) × (List Ru)) ⊕ ((ByteArray) × (List Int) × (List Sy) × (List Ru))) := (bif (decide (v24.1 < (List.length a1 : Int))) then (Option.bind (idx a1 v24.1) fun v25 => (Option.bind (synthesisref01_OfInt (v25)) fun v26 => (Option.bind (synthesisref16_writer_constant_h (v24.2.1) (v24.2.2.1) (v24.2.2.2.1) (v24.2.2.2.2) (1) (v26)) fun v27 => (some (.inl ((w64 (v24.1 + 1)), (v24.2.1), (v24.2.2.1), (v24.2.2.2.1), v27)))))) else (some (.inr (v24.2.1, v24.2.2.1, v24.2.2.2.1, v24.2.2.2.2))))
def synthesisref16_Strings_l2 (v8 : (List Va)) (v14 : (Int) × (ByteArray) × (List Int) × (List Sy) × (List Ru)) : Option (((Int) × (ByteArray) × (List Int) × (List Sy) × (List Ru)) ⊕ ((ByteArray) × (List Int) × (List Sy) × (List Ru))) := (bif (decide (v14.1 < (List.length v8 : Int))) then (Option.bind (idx v8 v14.1) fun v15 => (Option.bind (synthesisref16_writer_constant_h (v14.2.1) (v14.2.2.1) (v14.2.2.2.1) (v14.2.2.2.2) (0) (v15)) fun v16 => (some (.inl ((w64 (v14.1 + 1)), (v14.2.1), (v14.2.2.1), (v14.2.2.2.1), v16))))) else (some (.inr (v14.2.1, v14.2.2.1, v14.2.2.2.1, v14.2.2.2.2))))
def synthesisref16_Strings_l3 (a0 : List ByteArray) (v1 : (Int) × (List Va)) : Option (((Int) × (List Va)) ⊕ ((List Va))) := (Option.bind ((bif (decide (v1.1 < (List.length a0 : Int))) then (some ((decide (v1.1 < 17)))) else (some (false))) : Option ((Bool))) fun (v3 : (Bool)) => (bif v3 then (Option.bind (idx a0 v1.1) fun v4 => (Option.bind (synthesisref01_OfText (v4)) fun v5 => (Option.bind (app 56 v1.2 ([v5] : List (Va))) fun v6 => (some (.inl ((w64 (v1.1 + 1)), v6)))))) else (some (.inr (v1.2)))))
def synthesisref16_Strings (a0 : List ByteArray) (a1 : List Int) : Option ((La) × (Int)) := (Option.bind (loopN (synthesisref16_Strings_l3 a0) fuel (0, ([] : List (Va)))) fun (v8 : (List Va)) => (Option.bind (synthesisref16_check (v8)) fun v9 => (bif (v9 != 0) then (some ((La.mk ((⟨#[]⟩ : ByteArray)) (([] : List Int)) (([] : List Sy)) (([] : List Ru))), v9)) else (Option.bind (synthesisref16_values (a1) (2)) fun v10 => (Option.bind (synthesisref16_check (v10)) fun v11 => (bif (v11 != 0) then (some ((La.mk ((⟨#[]⟩ : ByteArray)) (([] : List Int)) (([] : List Sy)) (([] : List Ru))), v11)) else (Option.bind (synthesisref16_begin_h ((⟨#[115, 116, 114, 105, 110, 103, 115]⟩ : ByteArray)) (3) ((⟨#[116, 101, 120, 116]⟩ : ByteArray)) (3) ((⟨#[110, 117, 109, 98, 101, 114]⟩ : ByteArray)) (2)) fun v12 => (Option.bind (synthesisref16_writer_input_h (((⟨#[115, 116, 114, 105, 110, 103, 115]⟩ : ByteArray))) (([(3)] : List (Int))) (([(Sy.mk (((⟨#[116, 101, 120, 116]⟩ : ByteArray))) ((3))), (Sy.mk (((⟨#[110, 117, 109, 98, 101, 114]⟩ : ByteArray))) ((2)))] : List (Sy))) (([] : List (Ru))) (0)) fun v13 => (Option.bind (loopN (synthesisref16_Strings_l2 v8) fuel (0, (((⟨#[115, 116, 114, 105, 110, 103, 115]⟩ : ByteArray))), (([(3)] : List (Int))), (([(Sy.mk (((⟨#[116, 101, 120, 116]⟩ : ByteArray))) ((3))), (Sy.mk (((⟨#[110, 117, 109, 98, 101, 114]⟩ : ByteArray))) ((2)))] : List (Sy))), v13)) fun (v18 : (ByteArray) × (List Int) × (List Sy) × (List Ru)) => (Option.bind (synthesisref16_writer_op_h (v18.1) (v18.2.1) (v18.2.2.1) (v18.2.2.2) (0) (([(⟨#[99, 111, 110, 99, 97, 116]⟩ : ByteArray)] : List (ByteArray))) (([0, 0] : List (Int)))) fun v19 => (Option.bind (synthesisref16_writer_op_h ((v18.1)) ((v18.2.1)) ((v18.2.2.1)) (v19) (0) (([(⟨#[117, 112, 112, 101, 114]⟩ : ByteArray), (⟨#[108, 111, 119, 101, 114]⟩ : ByteArray), (⟨#[116, 114, 105, 109]⟩ : ByteArray)] : List (ByteArray))) (([0] : List (Int)))) fun v20 => (Option.bind (synthesisref16_writer_op_h (((v18.1))) (((v18.2.1))) (((v18.2.2.1))) (v20) (0) (([(⟨#[119, 111, 114, 100]⟩ : ByteArray), (⟨#[99, 104, 97, 114]⟩ : ByteArray), (⟨#[114, 101, 112, 101, 97, 116]⟩ : ByteArray)] : List (ByteArray))) (([0, 1] : List (Int)))) fun v21 => (Option.bind (synthesisref16_writer_op_h ((((v18.1)))) ((((v18.2.1)))) ((((v18.2.2.1)))) (v21) (0) (([(⟨#[115, 108, 105, 99, 101]⟩ : ByteArray)] : List (ByteArray))) (([0, 1, 1] : List (Int)))) fun v22 => (Option.bind (synthesisref16_writer_op_h (((((v18.1))))) (((((v18.2.1))))) (((((v18.2.2.1))))) (v22) (0) (([(⟨#[114, 101, 112, 108, 97, 99, 101]⟩ : ByteArray)] : List (ByteArray))) (([0, 0, 0] : List (Int)))) fun v23 => (Option.bind (loopN (synthesisref16_Strings_l1 a1) fuel (0, (((((v18.1))))), (((((v18.2.1))))), (((((v18.2.2.1))))), v23)) fun (v29 : (ByteArray) × (List Int) × (List Sy) × (List Ru)) => (Option.bind (synthesisref16_writer_op_h (v29.1) (v29.2.1) (v29.2.2.1) (v29.2.2.2) (1) (([(⟨#[108, 101, 110]⟩ : ByteArray)] : List (ByteArray))) (([0] : List (Int)))) fun v30 => (Option.bind (synthesisref16_writer_op_h ((v29.1)) ((v29.2.1)) ((v29.2.2.1)) (v30) (1) (([(⟨#[102, 105, 110, 100]⟩ : ByteArray)] : List (ByteArray))) (([0, 0] : List (Int)))) fun v31 => (some ((La.mk (((v29.1))) (((v29.2.1))) (((v29.2.2.1))) (v31)), 0)))))))))))))))))))
theorem synthesisref16_Strings_ok (a0 : List ByteArray) (a1 : List Int) (r : (La) × (Int)) (h : synthesisref16_Strings a0 a1 = some r) : PCall Try.prog 25 [(eL 1 eS) a0, (eL 1 eI) a1] (.tup [eLa (r.1), eI (r.2)]) := by
 unfold synthesisref16_Strings at h
 refine pcall_intro (T := TT) tt_ok [.ag [.keep, .sl 1, .sl 2, .sl 9], .one .keep] Try.func25 rfl (by kernel_rfl) (by kernel_rfl) ?_
 refine awp_le (st' := ⟨104, [(0, (.fz ((eL 1 eS) (a0)))), (1, (.fz ((eL 1 eI) (a1))))], [], []⟩) (le_ck (by kernel_rfl)) ?_
 refine awp_seq ?_
 refine awp_region ?_
 refine l_rk 2 tt_ok ⟨104, [(0, (.fz ((eL 1 eS) (a0)))), (1, (.fz ((eL 1 eI) (a1)))), (4, (.ref 1 0 0))], (synthesisref16_Strings_m1), [1]⟩ (by kernel_rfl) ?_
 refine l_nil ?_
 refine awp_seq ?_
 refine awp_region ?_
 refine l_rk 1 tt_ok ⟨104, [(0, (.fz ((eL 1 eS) (a0)))), (1, (.fz ((eL 1 eI) (a1)))), (4, (.ref 1 0 0)), (6, (.fz (.atom (.slice none 0 0))))], (synthesisref16_Strings_m1), [1]⟩ (by kernel_rfl) ?_
 refine l_nil ?_
 refine awp_seq ?_
 refine awp_seq ?_
 refine awp_region ?_
 refine l_rk 1 tt_ok ⟨104, [(0, (.fz ((eL 1 eS) (a0)))), (1, (.fz ((eL 1 eI) (a1)))), (4, (.ref 1 0 0)), (6, (.fz (.atom (.slice none 0 0)))), (7, (fI (0)))], (synthesisref16_Strings_m1), [1]⟩ (by kernel_rfl) ?_
 refine l_nil ?_
 refine awp_block ?_
 refine awp_le (le_nilrow (e := 65) (size := 4) (t := 6) (id := 2) (by decide) (by kernel_rfl) (by kernel_rfl)) ?_
 obtain ⟨v8, hj, h⟩ := Option.bind_eq_some_iff.1 h
 refine awp_join (Qa := fun e st => e = .exit 0 ∧ LeSt st ⟨104, [(1, (.fz ((eL 1 eI) (a1)))), (4, (.ref 1 0 0)), (6, (.row 2 (List.length (v8))))], (synthesisref16_Strings_m7 v8), [2, 1]⟩) ?_ ?_
 ·refine awp_loopS (stOf := fun v1 => ⟨104, [(0, (.fz ((eL 1 eS) (a0)))), (1, (.fz ((eL 1 eI) (a1)))), (4, (.ref 1 0 0)), (6, (.row 2 (List.length (v1.2)))), (7, (fI (v1.1)))], (synthesisref16_Strings_m4 v1), [2, 1]⟩) (Qb := fun j e st => e = .exit 0 ∧ LeSt st ⟨104, [(1, (.fz ((eL 1 eI) (a1)))), (4, (.ref 1 0 0)), (6, (.row 2 (List.length (j))))], [(1, (.box 27 [(fS ((⟨#[]⟩ : ByteArray))), (.fz (.atom (.slice none 0 0))), (.fz (.atom (.slice none 0 0))), (.fz (.atom (.slice none 0 0)))])), (2, (.frow 65 4 (List.map eVaR (j))))], [2, 1]⟩) hj (le_ck (by kernel_rfl)) ?_
  clear hj h
  intro v1 r h
  unfold synthesisref16_Strings_l3 at h
  refine awp_seq ?_
  refine awp_seq ?_
  obtain ⟨v3, hj, h⟩ := Option.bind_eq_some_iff.1 h
  refine awp_join (Qa := fun e st => e = .normal ∧ LeSt st ⟨104, [(0, (.fz ((eL 1 eS) (a0)))), (1, (.fz ((eL 1 eI) (a1)))), (4, (.ref 1 0 0)), (6, (.row 2 (List.length (v1.2)))), (7, (fI (v1.1))), (20, (fB (v3)))], (synthesisref16_Strings_m4 v1), [2, 1]⟩) ?_ ?_
  ·replace h := hj
   clear hj
   refine awp_region ?_
   refine l_rk 5 tt_ok ⟨104, [(0, (.fz ((eL 1 eS) (a0)))), (1, (.fz ((eL 1 eI) (a1)))), (4, (.ref 1 0 0)), (6, (.row 2 (List.length (v1.2)))), (7, (fI (v1.1))), (17, (fB ((decide (v1.1 < (List.length a0 : Int))))))], (synthesisref16_Strings_m4 v1), [2, 1]⟩ (by kernel_rfl) ?_
   rcases cond_some h with ⟨hb, h⟩ | ⟨hb, h⟩
   ·refine l_le (le_eq (t := 17) (x := .fz (eB (decide (v1.1 < (List.length a0 : Int))))) (y := .fz (eB true)) (by kernel_rfl) (congrArg (fun b => AV.fz (eB b)) hb)) ?_
    refine l_rk 3 tt_ok ⟨104, [(0, (.fz ((eL 1 eS) (a0)))), (1, (.fz ((eL 1 eI) (a1)))), (4, (.ref 1 0 0)), (6, (.row 2 (List.length (v1.2)))), (7, (fI (v1.1))), (20, (fB ((decide (v1.1 < 17)))))], (synthesisref16_Strings_m4 v1), [2, 1]⟩ (by kernel_rfl) ?_
    refine l_nil ?_
    obtain rfl := Option.some.inj h
    exact And.intro rfl (le_ck (by kernel_rfl))
   ·refine l_le (le_eq (t := 17) (x := .fz (eB (decide (v1.1 < (List.length a0 : Int))))) (y := .fz (eB false)) (by kernel_rfl) (congrArg (fun b => AV.fz (eB b)) hb)) ?_
    refine l_rk 3 tt_ok ⟨104, [(0, (.fz ((eL 1 eS) (a0)))), (1, (.fz ((eL 1 eI) (a1)))), (4, (.ref 1 0 0)), (6, (.row 2 (List.length (v1.2)))), (7, (fI (v1.1))), (20, (fB (false)))], (synthesisref16_Strings_m4 v1), [2, 1]⟩ (by kernel_rfl) ?_
    refine l_nil ?_
    obtain rfl := Option.some.inj h
    exact And.intro rfl (le_ck (by kernel_rfl))
  ·clear hj
   intro e st' hq
   obtain ⟨rfl, hle⟩ := hq
   refine ⟨_, hle, ?_⟩
   rcases cond_some h with ⟨hb, h⟩ | ⟨hb, h⟩
   ·refine awp_cond_t (b := v3) (by kernel_rfl) hb ?_
    refine awp_skip ?_
    refine awp_seq ?_
    refine awp_block ?_
    refine awp_region ?_
    refine l_rk 3 tt_ok ⟨104, [(0, (.fz ((eL 1 eS) (a0)))), (1, (.fz ((eL 1 eI) (a1)))), (4, (.ref 1 0 0)), (7, (fI (v1.1))), (23, (.row 2 (List.length (v1.2)))), (24, (.fz ((eL 1 eS) (a0)))), (25, (fI (v1.1)))], (synthesisref16_Strings_m4 v1), [2, 1]⟩ (by kernel_rfl) ?_
    obtain ⟨v4, hv4, h⟩ := Option.bind_eq_some_iff.1 h
    refine l_step ((s_index (k := .i64) (d := tt32) (e := 9) (de := tt9) (enc := eS) hv4 tt_ok rfl (by kernel_rfl) (by kernel_rfl) (by kernel_rfl) (by kernel_rfl) len_eS (by kernel_rfl) rfl).step) (by kernel_rfl) (dst_of (by kernel_rfl)) ?_
    refine l_rk 1 tt_ok ⟨104, [(0, (.fz ((eL 1 eS) (a0)))), (1, (.fz ((eL 1 eI) (a1)))), (4, (.ref 1 0 0)), (7, (fI (v1.1))), (23, (.row 2 (List.length (v1.2)))), (27, (fS (v4)))], (synthesisref16_Strings_m4 v1), [2, 1]⟩ (by kernel_rfl) ?_
    obtain ⟨v5, hv5, h⟩ := Option.bind_eq_some_iff.1 h
    refine l_step ((n_call (ys := [eS (v4)]) (cs := [(.one (.keep))]) rfl (by kernel_rfl) (synthesisref01_OfText_ok (v4) _ hv5)).step) (by kernel_rfl) (dst_of (by kernel_rfl)) ?_
    refine l_step (xstep_ok (c := .lim 4 1 [eVa (v5)]) (h := [(1, (.box 27 [(fS ((⟨#[]⟩ : ByteArray))), (.fz (.atom (.slice none 0 0))), (.fz (.atom (.slice none 0 0))), (.fz (.atom (.slice none 0 0)))])), (2, (.frow 65 4 (List.map eVaR (v1.2))))]) (i := [2, 1]) tt_ok (by kernel_rfl)) (by kernel_rfl) (dst_of (by kernel_rfl)) ?_
    refine l_le (le_eq (t := 29) (x := .lim 4 1 [eVa (v5)]) (y := .lim 4 1 (List.map eVaR ([v5] : List (Va)))) (by kernel_rfl) (by simp only [List.map, eVaR_eq])) ?_
    obtain ⟨v6, hv6, h⟩ := Option.bind_eq_some_iff.1 h
    refine l_step (s_append (d := tt63) (e := 65) (de := tt65) (enc := eVaR) (xs := v1.2) (ys := ([v5] : List (Va))) (m := List.length ([v5] : List (Va))) (id := 2) (n := List.length (v1.2)) hv6 tt_ok rfl (by kernel_rfl) (by kernel_rfl) (by kernel_rfl) (by kernel_rfl) (by kernel_rfl) (by kernel_rfl) (by kernel_rfl) (by kernel_rfl) rfl (.inr (by kernel_rfl))) (by kernel_rfl) (dst_of (by kernel_rfl)) ?_
    refine l_rk 1 tt_ok ⟨104, [(0, (.fz ((eL 1 eS) (a0)))), (1, (.fz ((eL 1 eI) (a1)))), (4, (.ref 1 0 0)), (6, (.row 2 (List.length (v6)))), (7, (fI (v1.1)))], [(1, (.box 27 [(fS ((⟨#[]⟩ : ByteArray))), (.fz (.atom (.slice none 0 0))), (.fz (.atom (.slice none 0 0))), (.fz (.atom (.slice none 0 0)))])), (2, (.frow 65 4 (List.map eVaR (v6))))], [2, 1]⟩ (by kernel_rfl) ?_
    refine l_nil ?_
    refine awp_region ?_
    refine l_rk 3 tt_ok ⟨104, [(0, (.fz ((eL 1 eS) (a0)))), (1, (.fz ((eL 1 eI) (a1)))), (4, (.ref 1 0 0)), (6, (.row 2 (List.length (v6)))), (7, (fI ((w64 (v1.1 + 1)))))], [(1, (.box 27 [(fS ((⟨#[]⟩ : ByteArray))), (.fz (.atom (.slice none 0 0))), (.fz (.atom (.slice none 0 0))), (.fz (.atom (.slice none 0 0)))])), (2, (.frow 65 4 (List.map eVaR (v6))))], [2, 1]⟩ (by kernel_rfl) ?_
    refine l_nil ?_
    obtain rfl := Option.some.inj h
    exact And.intro rfl (le_ck (by kernel_rfl))
   ·refine awp_cond_f (b := v3) (by kernel_rfl) hb ?_
    refine awp_exit ?_
    obtain rfl := Option.some.inj h
    exact And.intro (And.intro (fun h => nomatch h) (fun h => nomatch h)) (And.intro rfl (le_ck (by kernel_rfl)))
 ·clear hj
  intro e st' hq
  obtain ⟨rfl, hle⟩ := hq
  refine ⟨_, hle, ?_⟩
  refine awp_seq ?_
  refine awp_seq ?_
  refine awp_region ?_
  refine l_rk 1 tt_ok ⟨104, [(1, (.fz ((eL 1 eI) (a1)))), (4, (.ref 1 0 0)), (6, (.row 2 (List.length (v8)))), (31, (.row 2 (List.length (v8))))], (synthesisref16_Strings_m7 v8), [2, 1]⟩ (by kernel_rfl) ?_
  refine l_le (le_freezeTs (id := 2) (n := List.length (v8)) (e := 65) (size := 4) (xs := List.map eVaR (v8)) [6, 31] ⟨by kernel_rfl, by kernel_rfl, trivial⟩ (by kernel_rfl) (by simp)) ?_
  obtain ⟨v9, hv9, h⟩ := Option.bind_eq_some_iff.1 h
  refine l_step ((n_call (ys := [(eL 4 eVaR) (v8)]) (cs := [(.one (.sl 4))]) rfl (by kernel_rfl) (synthesisref16_check_ok (v8) _ hv9)).step) (by kernel_rfl) (dst_of (by kernel_rfl)) ?_
  refine l_rk 1 tt_ok ⟨104, [(1, (.fz ((eL 1 eI) (a1)))), (4, (.ref 1 0 0)), (6, (.fz ((eL 4 eVaR) (v8)))), (8, (fI (v9)))], (synthesisref16_Strings_m1), [1]⟩ (by kernel_rfl) ?_
  refine l_nil ?_
  refine awp_seq ?_
  refine awp_region ?_
  refine l_rk 2 tt_ok ⟨104, [(1, (.fz ((eL 1 eI) (a1)))), (4, (.ref 1 0 0)), (6, (.fz ((eL 4 eVaR) (v8)))), (8, (fI (v9))), (34, (fB ((v9 != 0))))], (synthesisref16_Strings_m1), [1]⟩ (by kernel_rfl) ?_
  refine l_nil ?_
  rcases cond_some h with ⟨hb, h⟩ | ⟨hb, h⟩
  ·refine awp_cond_t (b := (v9 != 0)) (by kernel_rfl) hb ?_
   refine awp_seq ?_
   refine awp_region ?_
   refine l_rk 4 tt_ok ⟨104, [(4, (.ref 1 0 0)), (5, (fI (v9)))], (synthesisref16_Strings_m1), [1]⟩ (by kernel_rfl) ?_
   refine l_nil ?_
   refine awp_ret ?_
   obtain rfl := Option.some.inj h
   exact (show retX _ _ _ _ = some _ from by kernel_rfl)
  ·refine awp_cond_f (b := (v9 != 0)) (by kernel_rfl) hb ?_
   refine awp_skip ?_
   refine awp_seq ?_
   refine awp_seq ?_
   refine awp_region ?_
   refine l_rk 1 tt_ok ⟨104, [(1, (.fz ((eL 1 eI) (a1)))), (4, (.ref 1 0 0)), (6, (.fz ((eL 4 eVaR) (v8)))), (37, (.fz ((eL 1 eI) (a1))))], (synthesisref16_Strings_m1), [1]⟩ (by kernel_rfl) ?_
   obtain ⟨v10, hv10, h⟩ := Option.bind_eq_some_iff.1 h
   refine l_step ((n_call (ys := [(eL 1 eI) (a1), eI (2)]) (cs := [(.one (.sl 1)), (.one (.keep))]) rfl (by kernel_rfl) (synthesisref16_values_ok (a1) (2) _ hv10)).step) (by kernel_rfl) (dst_of (by kernel_rfl)) ?_
   obtain ⟨v11, hv11, h⟩ := Option.bind_eq_some_iff.1 h
   refine l_step ((n_call (ys := [(eL 4 eVaR) (v10)]) (cs := [(.one (.sl 4))]) rfl (by kernel_rfl) (synthesisref16_check_ok (v10) _ hv11)).step) (by kernel_rfl) (dst_of (by kernel_rfl)) ?_
   refine l_rk 1 tt_ok ⟨104, [(1, (.fz ((eL 1 eI) (a1)))), (4, (.ref 1 0 0)), (6, (.fz ((eL 4 eVaR) (v8)))), (9, (fI (v11)))], (synthesisref16_Strings_m1), [1]⟩ (by kernel_rfl) ?_
   refine l_nil ?_
   refine awp_seq ?_
   refine awp_region ?_
   refine l_rk 2 tt_ok ⟨104, [(1, (.fz ((eL 1 eI) (a1)))), (4, (.ref 1 0 0)), (6, (.fz ((eL 4 eVaR) (v8)))), (9, (fI (v11))), (41, (fB ((v11 != 0))))], (synthesisref16_Strings_m1), [1]⟩ (by kernel_rfl) ?_
   refine l_nil ?_
   rcases cond_some h with ⟨hb, h⟩ | ⟨hb, h⟩
   ·refine awp_cond_t (b := (v11 != 0)) (by kernel_rfl) hb ?_
    refine awp_seq ?_
    refine awp_region ?_
    refine l_rk 4 tt_ok ⟨104, [(4, (.ref 1 0 0)), (5, (fI (v11)))], (synthesisref16_Strings_m1), [1]⟩ (by kernel_rfl) ?_
    refine l_nil ?_
    refine awp_ret ?_
    obtain rfl := Option.some.inj h
    exact (show retX _ _ _ _ = some _ from by kernel_rfl)
   ·refine awp_cond_f (b := (v11 != 0)) (by kernel_rfl) hb ?_
    refine awp_skip ?_
    refine awp_seq ?_
    refine awp_region ?_
    obtain ⟨v12, hv12, h⟩ := Option.bind_eq_some_iff.1 h
    refine l_step (h_step (f := 72) (cap := []) (cs := [.one .keep, .one .keep, .one .keep, .one .keep, .one .keep, .one .keep]) (keys := []) [] [(1, 2), (2, 3)] rfl (by kernel_rfl) (synthesisref16_begin_h_ok ((⟨#[115, 116, 114, 105, 110, 103, 115]⟩ : ByteArray)) (3) ((⟨#[116, 101, 120, 116]⟩ : ByteArray)) (3) ((⟨#[110, 117, 109, 98, 101, 114]⟩ : ByteArray)) (2) _ hv12) (by kernel_rfl) (by kernel_rfl) (by kernel_rfl) (by kernel_rfl)) (by kernel_rfl) (dst_of (by kernel_rfl)) ?_
    refine l_rk 1 tt_ok ⟨104, [(1, (.fz ((eL 1 eI) (a1)))), (4, (.ref 1 0 0)), (6, (.fz ((eL 4 eVaR) (v8)))), (10, (.ref 2 0 0))], (synthesisref16_Strings_m0), [2, 3, 1]⟩ (by kernel_rfl) ?_
    refine l_nil ?_
    refine awp_seq ?_
    refine awp_region ?_
    refine l_rk 1 tt_ok ⟨104, [(1, (.fz ((eL 1 eI) (a1)))), (4, (.ref 1 0 0)), (6, (.fz ((eL 4 eVaR) (v8)))), (10, (.ref 2 0 0)), (45, (.ref 2 0 0))], (synthesisref16_Strings_m0), [2, 3, 1]⟩ (by kernel_rfl) ?_
    obtain ⟨v13, hv13, h⟩ := Option.bind_eq_some_iff.1 h
    refine l_le (le_co (ids := [2, 3, 1]) (ts := [(1, .one .keep), (4, .one .keep), (6, .one .keep), (10, .one .keep), (45, .one .keep)]) (os := [(1, []), (2, [.keep, .sl 1, .sl 2]), (3, [])]) (by kernel_rfl) : LeSt _ ⟨104, [(1, (.fz ((eL 1 eI) (a1)))), (4, (.ref 1 0 0)), (6, (.fz ((eL 4 eVaR) (v8)))), (10, (.ref 2 0 0)), (45, (.ref 2 0 0))], [(1, (.box 27 [(fS ((⟨#[]⟩ : ByteArray))), (.fz (.atom (.slice none 0 0))), (.fz (.atom (.slice none 0 0))), (.fz (.atom (.slice none 0 0)))])), (2, (.box 91 [(fS (((⟨#[115, 116, 114, 105, 110, 103, 115]⟩ : ByteArray)))), (.fz ((eL 1 eI) (([(3)] : List (Int))))), (.fz ((eL 2 eSy) (([(Sy.mk (((⟨#[116, 101, 120, 116]⟩ : ByteArray))) ((3))), (Sy.mk (((⟨#[110, 117, 109, 98, 101, 114]⟩ : ByteArray))) ((2)))] : List (Sy))))), (.row 3 (List.length (([] : List (Ru)))))])), (3, (.frow 67 9 (List.map eRu (([] : List (Ru))))))], [2, 3, 1]⟩) ?_
    refine l_step (h_step (f := 73) (cap := []) (cs := [.one .keep, .one .keep]) (keys := [1, 2]) [(2, 1), (3, 2)] [(1, 2), (2, 3)] rfl (by kernel_rfl) (synthesisref16_writer_input_h_ok (((⟨#[115, 116, 114, 105, 110, 103, 115]⟩ : ByteArray))) (([(3)] : List (Int))) (([(Sy.mk (((⟨#[116, 101, 120, 116]⟩ : ByteArray))) ((3))), (Sy.mk (((⟨#[110, 117, 109, 98, 101, 114]⟩ : ByteArray))) ((2)))] : List (Sy))) (([] : List (Ru))) (0) _ hv13) (by kernel_rfl) (by kernel_rfl) (by kernel_rfl) (by kernel_rfl)) (by kernel_rfl) (dst_of (by kernel_rfl)) ?_
    refine l_nil ?_
    refine awp_seq ?_
    refine awp_seq ?_
    refine awp_region ?_
    refine l_rk 1 tt_ok ⟨104, [(1, (.fz ((eL 1 eI) (a1)))), (4, (.ref 1 0 0)), (6, (.fz ((eL 4 eVaR) (v8)))), (10, (.ref 2 0 0)), (11, (fI (0)))], [(1, (.box 27 [(fS ((⟨#[]⟩ : ByteArray))), (.fz (.atom (.slice none 0 0))), (.fz (.atom (.slice none 0 0))), (.fz (.atom (.slice none 0 0)))])), (2, (.box 91 [(fS ((((⟨#[115, 116, 114, 105, 110, 103, 115]⟩ : ByteArray))))), (.fz ((eL 1 eI) ((([(3)] : List (Int)))))), (.fz ((eL 2 eSy) ((([(Sy.mk (((⟨#[116, 101, 120, 116]⟩ : ByteArray))) ((3))), (Sy.mk (((⟨#[110, 117, 109, 98, 101, 114]⟩ : ByteArray))) ((2)))] : List (Sy)))))), (.row 3 (List.length (v13)))])), (3, (.frow 67 9 (List.map eRu (v13))))], [2, 3, 1]⟩ (by kernel_rfl) ?_
    refine l_nil ?_
    refine awp_block ?_
    obtain ⟨v18, hj, h⟩ := Option.bind_eq_some_iff.1 h
    refine awp_join (Qa := fun e st => e = .exit 2 ∧ LeSt st ⟨104, [(1, (.fz ((eL 1 eI) (a1)))), (4, (.ref 1 0 0)), (10, (.ref 2 0 0))], (synthesisref16_Strings_m5 v18), [2, 3, 1]⟩) ?_ ?_
    ·refine awp_loopS (stOf := fun v14 => ⟨104, [(1, (.fz ((eL 1 eI) (a1)))), (4, (.ref 1 0 0)), (6, (.fz ((eL 4 eVaR) (v8)))), (10, (.ref 2 0 0)), (11, (fI (v14.1)))], (synthesisref16_Strings_m2 v14), [2, 3, 1]⟩) (Qb := fun j e st => e = .exit 2 ∧ LeSt st ⟨104, [(1, (.fz ((eL 1 eI) (a1)))), (4, (.ref 1 0 0)), (10, (.ref 2 0 0))], [(1, (.box 27 [(fS ((⟨#[]⟩ : ByteArray))), (.fz (.atom (.slice none 0 0))), (.fz (.atom (.slice none 0 0))), (.fz (.atom (.slice none 0 0)))])), (2, (.box 91 [(fS (j.1)), (.fz ((eL 1 eI) (j.2.1))), (.fz ((eL 2 eSy) (j.2.2.1))), (.row 3 (List.length (j.2.2.2)))])), (3, (.frow 67 9 (List.map eRu (j.2.2.2))))], [2, 3, 1]⟩) hj (le_co (ids := [2, 3, 1]) (ts := [(1, .one .keep), (4, .one .keep), (6, .one .keep), (10, .one .keep), (11, (.one (.keep)))]) (os := [(1, []), (2, [.keep, .sl 1, .sl 2]), (3, [])]) (by kernel_rfl)) ?_
     clear hj h
     intro v14 r h
     unfold synthesisref16_Strings_l2 at h
     refine awp_seq ?_
     refine awp_seq ?_
     refine awp_region ?_
     refine l_rk 4 tt_ok ⟨104, [(1, (.fz ((eL 1 eI) (a1)))), (4, (.ref 1 0 0)), (6, (.fz ((eL 4 eVaR) (v8)))), (10, (.ref 2 0 0)), (11, (fI (v14.1))), (50, (fB ((decide (v14.1 < (List.length v8 : Int))))))], (synthesisref16_Strings_m2 v14), [2, 3, 1]⟩ (by kernel_rfl) ?_
     refine l_nil ?_
     rcases cond_some h with ⟨hb, h⟩ | ⟨hb, h⟩
     ·refine awp_cond_t (b := (decide (v14.1 < (List.length v8 : Int)))) (by kernel_rfl) hb ?_
      refine awp_skip ?_
      refine awp_seq ?_
      refine awp_block ?_
      refine awp_region ?_
      refine l_rk 3 tt_ok ⟨104, [(1, (.fz ((eL 1 eI) (a1)))), (4, (.ref 1 0 0)), (6, (.fz ((eL 4 eVaR) (v8)))), (10, (.ref 2 0 0)), (11, (fI (v14.1))), (53, (.ref 2 0 0)), (54, (.fz ((eL 4 eVaR) (v8)))), (55, (fI (v14.1)))], (synthesisref16_Strings_m2 v14), [2, 3, 1]⟩ (by kernel_rfl) ?_
      obtain ⟨v15, hv15, h⟩ := Option.bind_eq_some_iff.1 h
      refine l_step ((s_index (k := .i64) (d := tt63) (e := 65) (de := tt65) (enc := eVaR) hv15 tt_ok rfl (by kernel_rfl) (by kernel_rfl) (by kernel_rfl) (by kernel_rfl) len_eVaR (by kernel_rfl) (cells_eVaR v15)).step) (by kernel_rfl) (dst_of (by kernel_rfl)) ?_
      refine l_rk 1 tt_ok ⟨104, [(1, (.fz ((eL 1 eI) (a1)))), (4, (.ref 1 0 0)), (6, (.fz ((eL 4 eVaR) (v8)))), (10, (.ref 2 0 0)), (11, (fI (v14.1))), (53, (.ref 2 0 0)), (57, (.fz (eVa (v15))))], (synthesisref16_Strings_m2 v14), [2, 3, 1]⟩ (by kernel_rfl) ?_
      obtain ⟨v16, hv16, h⟩ := Option.bind_eq_some_iff.1 h
      refine l_step (h_step (f := 74) (cap := []) (cs := [.one .keep, .one .keep, .one .keep]) (keys := [1, 2]) [(2, 1), (3, 2)] [(1, 2), (2, 3)] rfl (by kernel_rfl) (synthesisref16_writer_constant_h_ok (v14.2.1) (v14.2.2.1) (v14.2.2.2.1) (v14.2.2.2.2) (0) (v15) _ hv16) (by kernel_rfl) (by kernel_rfl) (by kernel_rfl) (by kernel_rfl)) (by kernel_rfl) (dst_of (by kernel_rfl)) ?_
      refine l_nil ?_
      refine awp_region ?_
      refine l_rk 3 tt_ok ⟨104, [(1, (.fz ((eL 1 eI) (a1)))), (4, (.ref 1 0 0)), (6, (.fz ((eL 4 eVaR) (v8)))), (10, (.ref 2 0 0)), (11, (fI ((w64 (v14.1 + 1)))))], [(1, (.box 27 [(fS ((⟨#[]⟩ : ByteArray))), (.fz (.atom (.slice none 0 0))), (.fz (.atom (.slice none 0 0))), (.fz (.atom (.slice none 0 0)))])), (2, (.box 91 [(fS ((v14.2.1))), (.fz ((eL 1 eI) ((v14.2.2.1)))), (.fz ((eL 2 eSy) ((v14.2.2.2.1)))), (.row 3 (List.length (v16)))])), (3, (.frow 67 9 (List.map eRu (v16))))], [2, 3, 1]⟩ (by kernel_rfl) ?_
      refine l_nil ?_
      obtain rfl := Option.some.inj h
      exact And.intro rfl (le_co (ids := [2, 3, 1]) (ts := [(1, .one .keep), (4, .one .keep), (6, .one .keep), (10, .one .keep), (11, (.one (.keep)))]) (os := [(1, []), (2, [.keep, .sl 1, .sl 2]), (3, [])]) (by kernel_rfl))
     ·refine awp_cond_f (b := (decide (v14.1 < (List.length v8 : Int)))) (by kernel_rfl) hb ?_
      refine awp_exit ?_
      obtain rfl := Option.some.inj h
      exact And.intro (And.intro (fun h => nomatch h) (fun h => nomatch h)) (And.intro rfl (le_co (ids := [2, 3, 1]) (ts := [(1, .one .keep), (4, .one .keep), (10, .one .keep)]) (os := [(1, []), (2, [.keep, .sl 1, .sl 2]), (3, [])]) (by kernel_rfl)))
    ·clear hj
     intro e st' hq
     obtain ⟨rfl, hle⟩ := hq
     refine ⟨_, hle, ?_⟩
     refine awp_seq ?_
     refine awp_region ?_
     refine l_rk 3 tt_ok ⟨104, [(1, (.fz ((eL 1 eI) (a1)))), (4, (.ref 1 0 0)), (10, (.ref 2 0 0)), (59, (.ref 2 0 0)), (60, (.lim 1 (List.length (([(⟨#[99, 111, 110, 99, 97, 116]⟩ : ByteArray)] : List (ByteArray)))) (List.map eS (([(⟨#[99, 111, 110, 99, 97, 116]⟩ : ByteArray)] : List (ByteArray)))))), (61, (.lim 1 (List.length (([0, 0] : List (Int)))) (List.map eI (([0, 0] : List (Int))))))], (synthesisref16_Strings_m5 v18), [2, 3, 1]⟩ (by kernel_rfl) ?_
     obtain ⟨v19, hv19, h⟩ := Option.bind_eq_some_iff.1 h
     refine l_step (h_step (f := 75) (cap := []) (cs := [.one .keep, .one .keep, (.one (.sl 1)), (.one (.sl 1))]) (keys := [1, 2]) [(2, 1), (3, 2)] [(1, 2), (2, 3)] rfl (by kernel_rfl) (synthesisref16_writer_op_h_ok (v18.1) (v18.2.1) (v18.2.2.1) (v18.2.2.2) (0) (([(⟨#[99, 111, 110, 99, 97, 116]⟩ : ByteArray)] : List (ByteArray))) (([0, 0] : List (Int))) _ hv19) (by kernel_rfl) (by kernel_rfl) (by kernel_rfl) (by kernel_rfl)) (by kernel_rfl) (dst_of (by kernel_rfl)) ?_
     refine l_nil ?_
     refine awp_seq ?_
     refine awp_region ?_
     refine l_rk 3 tt_ok ⟨104, [(1, (.fz ((eL 1 eI) (a1)))), (4, (.ref 1 0 0)), (10, (.ref 2 0 0)), (63, (.ref 2 0 0)), (64, (.lim 1 (List.length (([(⟨#[117, 112, 112, 101, 114]⟩ : ByteArray), (⟨#[108, 111, 119, 101, 114]⟩ : ByteArray), (⟨#[116, 114, 105, 109]⟩ : ByteArray)] : List (ByteArray)))) (List.map eS (([(⟨#[117, 112, 112, 101, 114]⟩ : ByteArray), (⟨#[108, 111, 119, 101, 114]⟩ : ByteArray), (⟨#[116, 114, 105, 109]⟩ : ByteArray)] : List (ByteArray)))))), (65, (.lim 1 (List.length (([0] : List (Int)))) (List.map eI (([0] : List (Int))))))], [(1, (.box 27 [(fS ((⟨#[]⟩ : ByteArray))), (.fz (.atom (.slice none 0 0))), (.fz (.atom (.slice none 0 0))), (.fz (.atom (.slice none 0 0)))])), (2, (.box 91 [(fS ((v18.1))), (.fz ((eL 1 eI) ((v18.2.1)))), (.fz ((eL 2 eSy) ((v18.2.2.1)))), (.row 3 (List.length (v19)))])), (3, (.frow 67 9 (List.map eRu (v19))))], [2, 3, 1]⟩ (by kernel_rfl) ?_
     obtain ⟨v20, hv20, h⟩ := Option.bind_eq_some_iff.1 h
     refine l_step (h_step (f := 75) (cap := []) (cs := [.one .keep, .one .keep, (.one (.sl 1)), (.one (.sl 1))]) (keys := [1, 2]) [(2, 1), (3, 2)] [(1, 2), (2, 3)] rfl (by kernel_rfl) (synthesisref16_writer_op_h_ok ((v18.1)) ((v18.2.1)) ((v18.2.2.1)) (v19) (0) (([(⟨#[117, 112, 112, 101, 114]⟩ : ByteArray), (⟨#[108, 111, 119, 101, 114]⟩ : ByteArray), (⟨#[116, 114, 105, 109]⟩ : ByteArray)] : List (ByteArray))) (([0] : List (Int))) _ hv20) (by kernel_rfl) (by kernel_rfl) (by kernel_rfl) (by kernel_rfl)) (by kernel_rfl) (dst_of (by kernel_rfl)) ?_
     refine l_nil ?_
     refine awp_seq ?_
     refine awp_region ?_
     refine l_rk 3 tt_ok ⟨104, [(1, (.fz ((eL 1 eI) (a1)))), (4, (.ref 1 0 0)), (10, (.ref 2 0 0)), (67, (.ref 2 0 0)), (68, (.lim 1 (List.length (([(⟨#[119, 111, 114, 100]⟩ : ByteArray), (⟨#[99, 104, 97, 114]⟩ : ByteArray), (⟨#[114, 101, 112, 101, 97, 116]⟩ : ByteArray)] : List (ByteArray)))) (List.map eS (([(⟨#[119, 111, 114, 100]⟩ : ByteArray), (⟨#[99, 104, 97, 114]⟩ : ByteArray), (⟨#[114, 101, 112, 101, 97, 116]⟩ : ByteArray)] : List (ByteArray)))))), (69, (.lim 1 (List.length (([0, 1] : List (Int)))) (List.map eI (([0, 1] : List (Int))))))], [(1, (.box 27 [(fS ((⟨#[]⟩ : ByteArray))), (.fz (.atom (.slice none 0 0))), (.fz (.atom (.slice none 0 0))), (.fz (.atom (.slice none 0 0)))])), (2, (.box 91 [(fS (((v18.1)))), (.fz ((eL 1 eI) (((v18.2.1))))), (.fz ((eL 2 eSy) (((v18.2.2.1))))), (.row 3 (List.length (v20)))])), (3, (.frow 67 9 (List.map eRu (v20))))], [2, 3, 1]⟩ (by kernel_rfl) ?_
     obtain ⟨v21, hv21, h⟩ := Option.bind_eq_some_iff.1 h
     refine l_step (h_step (f := 75) (cap := []) (cs := [.one .keep, .one .keep, (.one (.sl 1)), (.one (.sl 1))]) (keys := [1, 2]) [(2, 1), (3, 2)] [(1, 2), (2, 3)] rfl (by kernel_rfl) (synthesisref16_writer_op_h_ok (((v18.1))) (((v18.2.1))) (((v18.2.2.1))) (v20) (0) (([(⟨#[119, 111, 114, 100]⟩ : ByteArray), (⟨#[99, 104, 97, 114]⟩ : ByteArray), (⟨#[114, 101, 112, 101, 97, 116]⟩ : ByteArray)] : List (ByteArray))) (([0, 1] : List (Int))) _ hv21) (by kernel_rfl) (by kernel_rfl) (by kernel_rfl) (by kernel_rfl)) (by kernel_rfl) (dst_of (by kernel_rfl)) ?_
     refine l_nil ?_
     refine awp_seq ?_
     refine awp_region ?_
     refine l_rk 3 tt_ok ⟨104, [(1, (.fz ((eL 1 eI) (a1)))), (4, (.ref 1 0 0)), (10, (.ref 2 0 0)), (71, (.ref 2 0 0)), (72, (.lim 1 (List.length (([(⟨#[115, 108, 105, 99, 101]⟩ : ByteArray)] : List (ByteArray)))) (List.map eS (([(⟨#[115, 108, 105, 99, 101]⟩ : ByteArray)] : List (ByteArray)))))), (73, (.lim 1 (List.length (([0, 1, 1] : List (Int)))) (List.map eI (([0, 1, 1] : List (Int))))))], [(1, (.box 27 [(fS ((⟨#[]⟩ : ByteArray))), (.fz (.atom (.slice none 0 0))), (.fz (.atom (.slice none 0 0))), (.fz (.atom (.slice none 0 0)))])), (2, (.box 91 [(fS ((((v18.1))))), (.fz ((eL 1 eI) ((((v18.2.1)))))), (.fz ((eL 2 eSy) ((((v18.2.2.1)))))), (.row 3 (List.length (v21)))])), (3, (.frow 67 9 (List.map eRu (v21))))], [2, 3, 1]⟩ (by kernel_rfl) ?_
     obtain ⟨v22, hv22, h⟩ := Option.bind_eq_some_iff.1 h
     refine l_step (h_step (f := 75) (cap := []) (cs := [.one .keep, .one .keep, (.one (.sl 1)), (.one (.sl 1))]) (keys := [1, 2]) [(2, 1), (3, 2)] [(1, 2), (2, 3)] rfl (by kernel_rfl) (synthesisref16_writer_op_h_ok ((((v18.1)))) ((((v18.2.1)))) ((((v18.2.2.1)))) (v21) (0) (([(⟨#[115, 108, 105, 99, 101]⟩ : ByteArray)] : List (ByteArray))) (([0, 1, 1] : List (Int))) _ hv22) (by kernel_rfl) (by kernel_rfl) (by kernel_rfl) (by kernel_rfl)) (by kernel_rfl) (dst_of (by kernel_rfl)) ?_
     refine l_nil ?_
     refine awp_seq ?_
     refine awp_region ?_
     refine l_rk 3 tt_ok ⟨104, [(1, (.fz ((eL 1 eI) (a1)))), (4, (.ref 1 0 0)), (10, (.ref 2 0 0)), (75, (.ref 2 0 0)), (76, (.lim 1 (List.length (([(⟨#[114, 101, 112, 108, 97, 99, 101]⟩ : ByteArray)] : List (ByteArray)))) (List.map eS (([(⟨#[114, 101, 112, 108, 97, 99, 101]⟩ : ByteArray)] : List (ByteArray)))))), (77, (.lim 1 (List.length (([0, 0, 0] : List (Int)))) (List.map eI (([0, 0, 0] : List (Int))))))], [(1, (.box 27 [(fS ((⟨#[]⟩ : ByteArray))), (.fz (.atom (.slice none 0 0))), (.fz (.atom (.slice none 0 0))), (.fz (.atom (.slice none 0 0)))])), (2, (.box 91 [(fS (((((v18.1)))))), (.fz ((eL 1 eI) (((((v18.2.1))))))), (.fz ((eL 2 eSy) (((((v18.2.2.1))))))), (.row 3 (List.length (v22)))])), (3, (.frow 67 9 (List.map eRu (v22))))], [2, 3, 1]⟩ (by kernel_rfl) ?_
     obtain ⟨v23, hv23, h⟩ := Option.bind_eq_some_iff.1 h
     refine l_step (h_step (f := 75) (cap := []) (cs := [.one .keep, .one .keep, (.one (.sl 1)), (.one (.sl 1))]) (keys := [1, 2]) [(2, 1), (3, 2)] [(1, 2), (2, 3)] rfl (by kernel_rfl) (synthesisref16_writer_op_h_ok (((((v18.1))))) (((((v18.2.1))))) (((((v18.2.2.1))))) (v22) (0) (([(⟨#[114, 101, 112, 108, 97, 99, 101]⟩ : ByteArray)] : List (ByteArray))) (([0, 0, 0] : List (Int))) _ hv23) (by kernel_rfl) (by kernel_rfl) (by kernel_rfl) (by kernel_rfl)) (by kernel_rfl) (dst_of (by kernel_rfl)) ?_
     refine l_nil ?_
     refine awp_seq ?_
     refine awp_seq ?_
     refine awp_region ?_
     refine l_rk 1 tt_ok ⟨104, [(1, (.fz ((eL 1 eI) (a1)))), (4, (.ref 1 0 0)), (10, (.ref 2 0 0)), (12, (fI (0)))], [(1, (.box 27 [(fS ((⟨#[]⟩ : ByteArray))), (.fz (.atom (.slice none 0 0))), (.fz (.atom (.slice none 0 0))), (.fz (.atom (.slice none 0 0)))])), (2, (.box 91 [(fS ((((((v18.1))))))), (.fz ((eL 1 eI) ((((((v18.2.1)))))))), (.fz ((eL 2 eSy) ((((((v18.2.2.1)))))))), (.row 3 (List.length (v23)))])), (3, (.frow 67 9 (List.map eRu (v23))))], [2, 3, 1]⟩ (by kernel_rfl) ?_
     refine l_nil ?_
     refine awp_block ?_
     obtain ⟨v29, hj, h⟩ := Option.bind_eq_some_iff.1 h
     refine awp_join (Qa := fun e st => e = .exit 4 ∧ LeSt st ⟨104, [(4, (.ref 1 0 0)), (10, (.ref 2 0 0))], (synthesisref16_Strings_m6 v29), [2, 3, 1]⟩) ?_ ?_
     ·refine awp_loopS (stOf := fun v24 => ⟨104, [(1, (.fz ((eL 1 eI) (a1)))), (4, (.ref 1 0 0)), (10, (.ref 2 0 0)), (12, (fI (v24.1)))], (synthesisref16_Strings_m3 v24), [2, 3, 1]⟩) (Qb := fun j e st => e = .exit 4 ∧ LeSt st ⟨104, [(4, (.ref 1 0 0)), (10, (.ref 2 0 0))], [(1, (.box 27 [(fS ((⟨#[]⟩ : ByteArray))), (.fz (.atom (.slice none 0 0))), (.fz (.atom (.slice none 0 0))), (.fz (.atom (.slice none 0 0)))])), (2, (.box 91 [(fS (j.1)), (.fz ((eL 1 eI) (j.2.1))), (.fz ((eL 2 eSy) (j.2.2.1))), (.row 3 (List.length (j.2.2.2)))])), (3, (.frow 67 9 (List.map eRu (j.2.2.2))))], [2, 3, 1]⟩) hj (le_co (ids := [2, 3, 1]) (ts := [(1, .one .keep), (4, .one .keep), (10, .one .keep), (12, (.one (.keep)))]) (os := [(1, []), (2, [.keep, .sl 1, .sl 2]), (3, [])]) (by kernel_rfl)) ?_
      clear hj h
      intro v24 r h
      unfold synthesisref16_Strings_l1 at h
      refine awp_seq ?_
      refine awp_seq ?_
      refine awp_region ?_
      refine l_rk 4 tt_ok ⟨104, [(1, (.fz ((eL 1 eI) (a1)))), (4, (.ref 1 0 0)), (10, (.ref 2 0 0)), (12, (fI (v24.1))), (82, (fB ((decide (v24.1 < (List.length a1 : Int))))))], (synthesisref16_Strings_m3 v24), [2, 3, 1]⟩ (by kernel_rfl) ?_
      refine l_nil ?_
      rcases cond_some h with ⟨hb, h⟩ | ⟨hb, h⟩
      ·refine awp_cond_t (b := (decide (v24.1 < (List.length a1 : Int)))) (by kernel_rfl) hb ?_
       refine awp_skip ?_
       refine awp_seq ?_
       refine awp_block ?_
       refine awp_region ?_
       refine l_rk 3 tt_ok ⟨104, [(1, (.fz ((eL 1 eI) (a1)))), (4, (.ref 1 0 0)), (10, (.ref 2 0 0)), (12, (fI (v24.1))), (85, (.ref 2 0 0)), (86, (.fz ((eL 1 eI) (a1)))), (87, (fI (v24.1)))], (synthesisref16_Strings_m3 v24), [2, 3, 1]⟩ (by kernel_rfl) ?_
       obtain ⟨v25, hv25, h⟩ := Option.bind_eq_some_iff.1 h
       refine l_step ((s_index (k := .i64) (d := tt35) (e := 2) (de := tt2) (enc := eI) hv25 tt_ok rfl (by kernel_rfl) (by kernel_rfl) (by kernel_rfl) (by kernel_rfl) len_eI (by kernel_rfl) rfl).step) (by kernel_rfl) (dst_of (by kernel_rfl)) ?_
       refine l_rk 1 tt_ok ⟨104, [(1, (.fz ((eL 1 eI) (a1)))), (4, (.ref 1 0 0)), (10, (.ref 2 0 0)), (12, (fI (v24.1))), (85, (.ref 2 0 0)), (89, (fI (v25)))], (synthesisref16_Strings_m3 v24), [2, 3, 1]⟩ (by kernel_rfl) ?_
       obtain ⟨v26, hv26, h⟩ := Option.bind_eq_some_iff.1 h
       refine l_step ((n_call (ys := [eI (v25)]) (cs := [(.one (.keep))]) rfl (by kernel_rfl) (synthesisref01_OfInt_ok (v25) _ hv26)).step) (by kernel_rfl) (dst_of (by kernel_rfl)) ?_
       obtain ⟨v27, hv27, h⟩ := Option.bind_eq_some_iff.1 h
       refine l_step (h_step (f := 74) (cap := []) (cs := [.one .keep, .one .keep, .one .keep]) (keys := [1, 2]) [(2, 1), (3, 2)] [(1, 2), (2, 3)] rfl (by kernel_rfl) (synthesisref16_writer_constant_h_ok (v24.2.1) (v24.2.2.1) (v24.2.2.2.1) (v24.2.2.2.2) (1) (v26) _ hv27) (by kernel_rfl) (by kernel_rfl) (by kernel_rfl) (by kernel_rfl)) (by kernel_rfl) (dst_of (by kernel_rfl)) ?_
       refine l_nil ?_
       refine awp_region ?_
       refine l_rk 3 tt_ok ⟨104, [(1, (.fz ((eL 1 eI) (a1)))), (4, (.ref 1 0 0)), (10, (.ref 2 0 0)), (12, (fI ((w64 (v24.1 + 1)))))], [(1, (.box 27 [(fS ((⟨#[]⟩ : ByteArray))), (.fz (.atom (.slice none 0 0))), (.fz (.atom (.slice none 0 0))), (.fz (.atom (.slice none 0 0)))])), (2, (.box 91 [(fS ((v24.2.1))), (.fz ((eL 1 eI) ((v24.2.2.1)))), (.fz ((eL 2 eSy) ((v24.2.2.2.1)))), (.row 3 (List.length (v27)))])), (3, (.frow 67 9 (List.map eRu (v27))))], [2, 3, 1]⟩ (by kernel_rfl) ?_
       refine l_nil ?_
       obtain rfl := Option.some.inj h
       exact And.intro rfl (le_co (ids := [2, 3, 1]) (ts := [(1, .one .keep), (4, .one .keep), (10, .one .keep), (12, (.one (.keep)))]) (os := [(1, []), (2, [.keep, .sl 1, .sl 2]), (3, [])]) (by kernel_rfl))
      ·refine awp_cond_f (b := (decide (v24.1 < (List.length a1 : Int)))) (by kernel_rfl) hb ?_
       refine awp_exit ?_
       obtain rfl := Option.some.inj h
       exact And.intro (And.intro (fun h => nomatch h) (fun h => nomatch h)) (And.intro rfl (le_co (ids := [2, 3, 1]) (ts := [(4, .one .keep), (10, .one .keep)]) (os := [(1, []), (2, [.keep, .sl 1, .sl 2]), (3, [])]) (by kernel_rfl)))
     ·clear hj
      intro e st' hq
      obtain ⟨rfl, hle⟩ := hq
      refine ⟨_, hle, ?_⟩
      refine awp_seq ?_
      refine awp_region ?_
      refine l_rk 3 tt_ok ⟨104, [(4, (.ref 1 0 0)), (10, (.ref 2 0 0)), (92, (.ref 2 0 0)), (93, (.lim 1 (List.length (([(⟨#[108, 101, 110]⟩ : ByteArray)] : List (ByteArray)))) (List.map eS (([(⟨#[108, 101, 110]⟩ : ByteArray)] : List (ByteArray)))))), (94, (.lim 1 (List.length (([0] : List (Int)))) (List.map eI (([0] : List (Int))))))], (synthesisref16_Strings_m6 v29), [2, 3, 1]⟩ (by kernel_rfl) ?_
      obtain ⟨v30, hv30, h⟩ := Option.bind_eq_some_iff.1 h
      refine l_step (h_step (f := 75) (cap := []) (cs := [.one .keep, .one .keep, (.one (.sl 1)), (.one (.sl 1))]) (keys := [1, 2]) [(2, 1), (3, 2)] [(1, 2), (2, 3)] rfl (by kernel_rfl) (synthesisref16_writer_op_h_ok (v29.1) (v29.2.1) (v29.2.2.1) (v29.2.2.2) (1) (([(⟨#[108, 101, 110]⟩ : ByteArray)] : List (ByteArray))) (([0] : List (Int))) _ hv30) (by kernel_rfl) (by kernel_rfl) (by kernel_rfl) (by kernel_rfl)) (by kernel_rfl) (dst_of (by kernel_rfl)) ?_
      refine l_nil ?_
      refine awp_seq ?_
      refine awp_region ?_
      refine l_rk 3 tt_ok ⟨104, [(4, (.ref 1 0 0)), (10, (.ref 2 0 0)), (96, (.ref 2 0 0)), (97, (.lim 1 (List.length (([(⟨#[102, 105, 110, 100]⟩ : ByteArray)] : List (ByteArray)))) (List.map eS (([(⟨#[102, 105, 110, 100]⟩ : ByteArray)] : List (ByteArray)))))), (98, (.lim 1 (List.length (([0, 0] : List (Int)))) (List.map eI (([0, 0] : List (Int))))))], [(1, (.box 27 [(fS ((⟨#[]⟩ : ByteArray))), (.fz (.atom (.slice none 0 0))), (.fz (.atom (.slice none 0 0))), (.fz (.atom (.slice none 0 0)))])), (2, (.box 91 [(fS ((v29.1))), (.fz ((eL 1 eI) ((v29.2.1)))), (.fz ((eL 2 eSy) ((v29.2.2.1)))), (.row 3 (List.length (v30)))])), (3, (.frow 67 9 (List.map eRu (v30))))], [2, 3, 1]⟩ (by kernel_rfl) ?_
      obtain ⟨v31, hv31, h⟩ := Option.bind_eq_some_iff.1 h
      refine l_step (h_step (f := 75) (cap := []) (cs := [.one .keep, .one .keep, (.one (.sl 1)), (.one (.sl 1))]) (keys := [1, 2]) [(2, 1), (3, 2)] [(1, 2), (2, 3)] rfl (by kernel_rfl) (synthesisref16_writer_op_h_ok ((v29.1)) ((v29.2.1)) ((v29.2.2.1)) (v30) (1) (([(⟨#[102, 105, 110, 100]⟩ : ByteArray)] : List (ByteArray))) (([0, 0] : List (Int))) _ hv31) (by kernel_rfl) (by kernel_rfl) (by kernel_rfl) (by kernel_rfl)) (by kernel_rfl) (dst_of (by kernel_rfl)) ?_
      refine l_nil ?_
      refine awp_seq ?_
      refine awp_region ?_
      refine l_rk 6 tt_ok ⟨104, [(4, (.ref 1 0 0)), (5, (fI (0)))], [(1, (.box 27 [(fS (((v29.1)))), (.fz ((eL 1 eI) (((v29.2.1))))), (.fz ((eL 2 eSy) (((v29.2.2.1))))), (.row 3 (List.length (v31)))])), (3, (.frow 67 9 (List.map eRu (v31))))], [3, 1]⟩ (by kernel_rfl) ?_
      refine l_nil ?_
      refine awp_le (le_freezeCell (e2 := 27) (id2 := 1) (j := 3) (id := 3) (n := List.length (v31)) (e := 67) (size := 9) (xs := List.map eRu (v31)) (cells := [(fS (((v29.1)))), (.fz ((eL 1 eI) (((v29.2.1))))), (.fz ((eL 2 eSy) (((v29.2.2.1))))), (.row 3 (List.length (v31)))]) (by kernel_rfl) (by kernel_rfl) (by kernel_rfl) (by simp)) ?_
      refine awp_ret ?_
      obtain rfl := Option.some.inj h
      exact (show retX _ _ _ _ = some _ from by kernel_rfl)

def synthesisref01_OfPattern (a0 : ByteArray) : Option (Va) := (some (Va.mk (8) (0) (a0) (([] : List Va))))
theorem synthesisref01_OfPattern_ok (a0 : ByteArray) (r : Va) (h : synthesisref01_OfPattern a0 = some r) : PCall Try.prog 79 [eS a0] (eVa (r)) := by
 unfold synthesisref01_OfPattern at h
 refine pcall_intro (T := TT) tt_ok [.ag [.keep, .keep, .keep, .sl 4]] Try.func79 rfl (by kernel_rfl) (by kernel_rfl) ?_
 refine awp_le (st' := ⟨5, [(0, (fS (a0)))], [], []⟩) (le_ck (by kernel_rfl)) ?_
 refine awp_seq ?_
 refine awp_region ?_
 refine l_rk 1 tt_ok ⟨5, [(0, (fS (a0))), (2, (.ref 1 0 0))], [(1, (.box 65 [(fI (0)), (fI (0)), (fS ((⟨#[]⟩ : ByteArray))), (.fz (.atom (.slice none 0 0)))]))], [1]⟩ (by kernel_rfl) ?_
 refine l_nil ?_
 refine awp_seq ?_
 refine awp_region ?_
 refine l_rk 3 tt_ok ⟨5, [(2, (.ref 1 0 0))], [(1, (.box 65 [(fI (8)), (fI (0)), (fS (a0)), (.fz (.atom (.slice none 0 0)))]))], [1]⟩ (by kernel_rfl) ?_
 refine l_nil ?_
 refine awp_ret ?_
 obtain rfl := Option.some.inj h
 exact (show retX _ _ _ _ = some _ from by kernel_rfl)

def synthesisref05_in (a0 : Int) : Option (Bool) := (Option.bind ((bif (decide (32 ≤ a0)) then (some ((decide (a0 ≤ 126)))) else (some (false))) : Option ((Bool))) fun (v2 : (Bool)) => (some v2))
theorem synthesisref05_in_ok (a0 : Int) (r : Bool) (h : synthesisref05_in a0 = some r) : PCall Try.prog 137 [eU8 a0] (eB (r)) := by
 unfold synthesisref05_in at h
 refine pcall_intro (T := TT) tt_ok [.one .keep] Try.func137 rfl (by kernel_rfl) (by kernel_rfl) ?_
 refine awp_le (st' := ⟨9, [(0, (.fz (eU8 (a0))))], [], []⟩) (le_ck (by kernel_rfl)) ?_
 refine awp_seq ?_
 refine awp_region ?_
 refine l_rk 1 tt_ok ⟨9, [(0, (.fz (eU8 (a0))))], [], []⟩ (by kernel_rfl) ?_
 refine l_nil ?_
 refine awp_seq ?_
 obtain ⟨v2, hj, h⟩ := Option.bind_eq_some_iff.1 h
 refine awp_join (Qa := fun e st => e = .normal ∧ LeSt st ⟨9, [(2, (fB (v2)))], [], []⟩) ?_ ?_
 ·replace h := hj
  clear hj
  refine awp_region ?_
  refine l_rk 3 tt_ok ⟨9, [(0, (.fz (eU8 (a0)))), (5, (fB ((decide (32 ≤ a0)))))], [], []⟩ (by kernel_rfl) ?_
  rcases cond_some h with ⟨hb, h⟩ | ⟨hb, h⟩
  ·refine l_le (le_eq (t := 5) (x := .fz (eB (decide (32 ≤ a0)))) (y := .fz (eB true)) (by kernel_rfl) (congrArg (fun b => AV.fz (eB b)) hb)) ?_
   refine l_rk 4 tt_ok ⟨9, [(2, (fB ((decide (a0 ≤ 126)))))], [], []⟩ (by kernel_rfl) ?_
   refine l_nil ?_
   obtain rfl := Option.some.inj h
   exact And.intro rfl (le_ck (by kernel_rfl))
  ·refine l_le (le_eq (t := 5) (x := .fz (eB (decide (32 ≤ a0)))) (y := .fz (eB false)) (by kernel_rfl) (congrArg (fun b => AV.fz (eB b)) hb)) ?_
   refine l_rk 4 tt_ok ⟨9, [(2, (fB (false)))], [], []⟩ (by kernel_rfl) ?_
   refine l_nil ?_
   obtain rfl := Option.some.inj h
   exact And.intro rfl (le_ck (by kernel_rfl))
 ·clear hj
  intro e st' hq
  obtain ⟨rfl, hle⟩ := hq
  refine ⟨_, hle, ?_⟩
  refine awp_ret ?_
  obtain rfl := Option.some.inj h
  exact (show retX _ _ _ _ = some _ from by kernel_rfl)

def synthesisref05_shown (a0 : Int) (a1 : Bool) : Option (ByteArray) := (bif a1 then (Option.bind (cat (⟨#[92]⟩ : ByteArray) (toBA ([(wu8 a0)] : List (Int)))) fun v1 => (some v1)) else (some (toBA ([(wu8 a0)] : List (Int)))))
theorem synthesisref05_shown_ok (a0 : Int) (a1 : Bool) (r : ByteArray) (h : synthesisref05_shown a0 a1 = some r) : PCall Try.prog 138 [eI a0, eB a1] (eS (r)) := by
 unfold synthesisref05_shown at h
 refine pcall_intro (T := TT) tt_ok [.one .keep] Try.func138 rfl (by kernel_rfl) (by kernel_rfl) ?_
 refine awp_le (st' := ⟨15, [(0, (fI (a0))), (1, (fB (a1)))], [], []⟩) (le_ck (by kernel_rfl)) ?_
 refine awp_seq ?_
 refine awp_region ?_
 refine l_rk 1 tt_ok ⟨15, [(0, (fI (a0))), (1, (fB (a1)))], [], []⟩ (by kernel_rfl) ?_
 refine l_nil ?_
 refine awp_seq ?_
 refine awp_seq ?_
 refine awp_region ?_
 refine l_rk 1 tt_ok ⟨15, [(0, (fI (a0))), (5, (fB (a1)))], [], []⟩ (by kernel_rfl) ?_
 refine l_nil ?_
 rcases cond_some h with ⟨hb, h⟩ | ⟨hb, h⟩
 ·refine awp_cond_t (b := a1) (by kernel_rfl) hb ?_
  refine awp_seq ?_
  refine awp_region ?_
  refine l_rk 1 tt_ok ⟨15, [(6, (fI (a0)))], [], []⟩ (by kernel_rfl) ?_
  refine l_step ((s_conv (ds := tt3) (d := tt5) (k := .u8) (k' := .i64) (n := a0) tt_ok rfl (by kernel_rfl) (by kernel_rfl) rfl (by kernel_rfl)).step) (by kernel_rfl) (dst_of (by kernel_rfl)) ?_
  refine l_rk 1 tt_ok ⟨15, [(8, (.lim 1 (List.length (([(wu8 a0)] : List (Int)))) (List.map eU8 (([(wu8 a0)] : List (Int))))))], [], []⟩ (by kernel_rfl) ?_
  refine l_step ((s_b2s (e := 5) (de := tt5) (ds := tt136) (d := tt9) (xs := ([(wu8 a0)] : List (Int))) tt_ok rfl (by kernel_rfl) rfl (by kernel_rfl) rfl (by kernel_rfl) rfl (by kernel_rfl)).step) (by kernel_rfl) (dst_of (by kernel_rfl)) ?_
  obtain ⟨v1, hv1, h⟩ := Option.bind_eq_some_iff.1 h
  refine l_step ((s_cat (s := (⟨#[92]⟩ : ByteArray)) (u := (toBA ([(wu8 a0)] : List (Int)))) hv1 rfl (by kernel_rfl) (by kernel_rfl)).step) (by kernel_rfl) (dst_of (by kernel_rfl)) ?_
  refine l_rk 1 tt_ok ⟨15, [(4, (fS (v1)))], [], []⟩ (by kernel_rfl) ?_
  refine l_nil ?_
  refine awp_ret ?_
  obtain rfl := Option.some.inj h
  exact (show retX _ _ _ _ = some _ from by kernel_rfl)
 ·refine awp_cond_f (b := a1) (by kernel_rfl) hb ?_
  refine awp_skip ?_
  refine awp_seq ?_
  refine awp_region ?_
  refine l_rk 1 tt_ok ⟨15, [(11, (fI (a0)))], [], []⟩ (by kernel_rfl) ?_
  refine l_step ((s_conv (ds := tt3) (d := tt5) (k := .u8) (k' := .i64) (n := a0) tt_ok rfl (by kernel_rfl) (by kernel_rfl) rfl (by kernel_rfl)).step) (by kernel_rfl) (dst_of (by kernel_rfl)) ?_
  refine l_rk 1 tt_ok ⟨15, [(13, (.lim 1 (List.length (([(wu8 a0)] : List (Int)))) (List.map eU8 (([(wu8 a0)] : List (Int))))))], [], []⟩ (by kernel_rfl) ?_
  refine l_step ((s_b2s (e := 5) (de := tt5) (ds := tt136) (d := tt9) (xs := ([(wu8 a0)] : List (Int))) tt_ok rfl (by kernel_rfl) rfl (by kernel_rfl) rfl (by kernel_rfl) rfl (by kernel_rfl)).step) (by kernel_rfl) (dst_of (by kernel_rfl)) ?_
  refine l_rk 1 tt_ok ⟨15, [(4, (fS ((toBA ([(wu8 a0)] : List (Int))))))], [], []⟩ (by kernel_rfl) ?_
  refine l_nil ?_
  refine awp_ret ?_
  obtain rfl := Option.some.inj h
  exact (show retX _ _ _ _ = some _ from by kernel_rfl)

def synthesisref05_special (a0 : Int) : Option (Bool) := (Option.bind ((bif (a0 == 40) then (some (true)) else (bif (a0 == 41) then (some (true)) else (bif (a0 == 91) then (some (true)) else (bif (a0 == 93) then (some (true)) else (bif (a0 == 46) then (some (true)) else (bif (a0 == 42) then (some (true)) else (bif (a0 == 124) then (some (true)) else (some ((a0 == 92)))))))))) : Option ((Bool))) fun (v2 : (Bool)) => (some v2))
theorem synthesisref05_special_ok (a0 : Int) (r : Bool) (h : synthesisref05_special a0 = some r) : PCall Try.prog 139 [eU8 a0] (eB (r)) := by
 unfold synthesisref05_special at h
 refine pcall_intro (T := TT) tt_ok [.one .keep] Try.func139 rfl (by kernel_rfl) (by kernel_rfl) ?_
 refine awp_le (st' := ⟨33, [(0, (.fz (eU8 (a0))))], [], []⟩) (le_ck (by kernel_rfl)) ?_
 refine awp_seq ?_
 refine awp_region ?_
 refine l_rk 1 tt_ok ⟨33, [(0, (.fz (eU8 (a0))))], [], []⟩ (by kernel_rfl) ?_
 refine l_nil ?_
 refine awp_seq ?_
 obtain ⟨v2, hj, h⟩ := Option.bind_eq_some_iff.1 h
 refine awp_join (Qa := fun e st => e = .normal ∧ LeSt st ⟨33, [(2, (fB (v2)))], [], []⟩) ?_ ?_
 ·replace h := hj
  clear hj
  refine awp_region ?_
  refine l_rk 3 tt_ok ⟨33, [(0, (.fz (eU8 (a0)))), (5, (fB ((a0 == 40))))], [], []⟩ (by kernel_rfl) ?_
  rcases cond_some h with ⟨hb, h⟩ | ⟨hb, h⟩
  ·refine l_le (le_eq (t := 5) (x := .fz (eB (a0 == 40))) (y := .fz (eB true)) (by kernel_rfl) (congrArg (fun b => AV.fz (eB b)) hb)) ?_
   refine l_rk 28 tt_ok ⟨33, [(2, (fB (true)))], [], []⟩ (by kernel_rfl) ?_
   refine l_nil ?_
   obtain rfl := Option.some.inj h
   exact And.intro rfl (le_ck (by kernel_rfl))
  ·refine l_le (le_eq (t := 5) (x := .fz (eB (a0 == 40))) (y := .fz (eB false)) (by kernel_rfl) (congrArg (fun b => AV.fz (eB b)) hb)) ?_
   refine l_rk 4 tt_ok ⟨33, [(0, (.fz (eU8 (a0)))), (9, (fB ((a0 == 41))))], [], []⟩ (by kernel_rfl) ?_
   rcases cond_some h with ⟨hb, h⟩ | ⟨hb, h⟩
   ·refine l_le (le_eq (t := 9) (x := .fz (eB (a0 == 41))) (y := .fz (eB true)) (by kernel_rfl) (congrArg (fun b => AV.fz (eB b)) hb)) ?_
    refine l_rk 24 tt_ok ⟨33, [(2, (fB (true)))], [], []⟩ (by kernel_rfl) ?_
    refine l_nil ?_
    obtain rfl := Option.some.inj h
    exact And.intro rfl (le_ck (by kernel_rfl))
   ·refine l_le (le_eq (t := 9) (x := .fz (eB (a0 == 41))) (y := .fz (eB false)) (by kernel_rfl) (congrArg (fun b => AV.fz (eB b)) hb)) ?_
    refine l_rk 4 tt_ok ⟨33, [(0, (.fz (eU8 (a0)))), (13, (fB ((a0 == 91))))], [], []⟩ (by kernel_rfl) ?_
    rcases cond_some h with ⟨hb, h⟩ | ⟨hb, h⟩
    ·refine l_le (le_eq (t := 13) (x := .fz (eB (a0 == 91))) (y := .fz (eB true)) (by kernel_rfl) (congrArg (fun b => AV.fz (eB b)) hb)) ?_
     refine l_rk 20 tt_ok ⟨33, [(2, (fB (true)))], [], []⟩ (by kernel_rfl) ?_
     refine l_nil ?_
     obtain rfl := Option.some.inj h
     exact And.intro rfl (le_ck (by kernel_rfl))
    ·refine l_le (le_eq (t := 13) (x := .fz (eB (a0 == 91))) (y := .fz (eB false)) (by kernel_rfl) (congrArg (fun b => AV.fz (eB b)) hb)) ?_
     refine l_rk 4 tt_ok ⟨33, [(0, (.fz (eU8 (a0)))), (17, (fB ((a0 == 93))))], [], []⟩ (by kernel_rfl) ?_
     rcases cond_some h with ⟨hb, h⟩ | ⟨hb, h⟩
     ·refine l_le (le_eq (t := 17) (x := .fz (eB (a0 == 93))) (y := .fz (eB true)) (by kernel_rfl) (congrArg (fun b => AV.fz (eB b)) hb)) ?_
      refine l_rk 16 tt_ok ⟨33, [(2, (fB (true)))], [], []⟩ (by kernel_rfl) ?_
      refine l_nil ?_
      obtain rfl := Option.some.inj h
      exact And.intro rfl (le_ck (by kernel_rfl))
     ·refine l_le (le_eq (t := 17) (x := .fz (eB (a0 == 93))) (y := .fz (eB false)) (by kernel_rfl) (congrArg (fun b => AV.fz (eB b)) hb)) ?_
      refine l_rk 4 tt_ok ⟨33, [(0, (.fz (eU8 (a0)))), (21, (fB ((a0 == 46))))], [], []⟩ (by kernel_rfl) ?_
      rcases cond_some h with ⟨hb, h⟩ | ⟨hb, h⟩
      ·refine l_le (le_eq (t := 21) (x := .fz (eB (a0 == 46))) (y := .fz (eB true)) (by kernel_rfl) (congrArg (fun b => AV.fz (eB b)) hb)) ?_
       refine l_rk 12 tt_ok ⟨33, [(2, (fB (true)))], [], []⟩ (by kernel_rfl) ?_
       refine l_nil ?_
       obtain rfl := Option.some.inj h
       exact And.intro rfl (le_ck (by kernel_rfl))
      ·refine l_le (le_eq (t := 21) (x := .fz (eB (a0 == 46))) (y := .fz (eB false)) (by kernel_rfl) (congrArg (fun b => AV.fz (eB b)) hb)) ?_
       refine l_rk 4 tt_ok ⟨33, [(0, (.fz (eU8 (a0)))), (25, (fB ((a0 == 42))))], [], []⟩ (by kernel_rfl) ?_
       rcases cond_some h with ⟨hb, h⟩ | ⟨hb, h⟩
       ·refine l_le (le_eq (t := 25) (x := .fz (eB (a0 == 42))) (y := .fz (eB true)) (by kernel_rfl) (congrArg (fun b => AV.fz (eB b)) hb)) ?_
        refine l_rk 8 tt_ok ⟨33, [(2, (fB (true)))], [], []⟩ (by kernel_rfl) ?_
        refine l_nil ?_
        obtain rfl := Option.some.inj h
        exact And.intro rfl (le_ck (by kernel_rfl))
       ·refine l_le (le_eq (t := 25) (x := .fz (eB (a0 == 42))) (y := .fz (eB false)) (by kernel_rfl) (congrArg (fun b => AV.fz (eB b)) hb)) ?_
        refine l_rk 4 tt_ok ⟨33, [(0, (.fz (eU8 (a0)))), (29, (fB ((a0 == 124))))], [], []⟩ (by kernel_rfl) ?_
        rcases cond_some h with ⟨hb, h⟩ | ⟨hb, h⟩
        ·refine l_le (le_eq (t := 29) (x := .fz (eB (a0 == 124))) (y := .fz (eB true)) (by kernel_rfl) (congrArg (fun b => AV.fz (eB b)) hb)) ?_
         refine l_rk 4 tt_ok ⟨33, [(2, (fB (true)))], [], []⟩ (by kernel_rfl) ?_
         refine l_nil ?_
         obtain rfl := Option.some.inj h
         exact And.intro rfl (le_ck (by kernel_rfl))
        ·refine l_le (le_eq (t := 29) (x := .fz (eB (a0 == 124))) (y := .fz (eB false)) (by kernel_rfl) (congrArg (fun b => AV.fz (eB b)) hb)) ?_
         refine l_rk 4 tt_ok ⟨33, [(2, (fB ((a0 == 92))))], [], []⟩ (by kernel_rfl) ?_
         refine l_nil ?_
         obtain rfl := Option.some.inj h
         exact And.intro rfl (le_ck (by kernel_rfl))
 ·clear hj
  intro e st' hq
  obtain ⟨rfl, hle⟩ := hq
  refine ⟨_, hle, ?_⟩
  refine awp_ret ?_
  obtain rfl := Option.some.inj h
  exact (show retX _ _ _ _ = some _ from by kernel_rfl)

def synthesisref05_Literal_l1 (a0 : ByteArray) (v1 : (ByteArray) × (Int)) : Option (((ByteArray) × (Int)) ⊕ ((((ByteArray)) ⊕ (ByteArray)))) := (Option.bind ((bif (decide (v1.2 < (a0.size : Int))) then (some ((decide (v1.2 ≤ 40)))) else (some (false))) : Option ((Bool))) fun (v3 : (Bool)) => (bif v3 then (Option.bind (byt a0 v1.2) fun v4 => (Option.bind (synthesisref05_in (v4)) fun v5 => (bif (!v5) then (some (.inr (.inr (⟨#[]⟩ : ByteArray)))) else (Option.bind (byt a0 v1.2) fun v6 => (Option.bind (byt a0 v1.2) fun v7 => (Option.bind (synthesisref05_special (v7)) fun v8 => (Option.bind (synthesisref05_shown ((w64 v6)) (v8)) fun v9 => (Option.bind (cat v1.1 v9) fun v10 => (some (.inl (v10, (w64 (v1.2 + 1))))))))))))) else (some (.inr (.inl (v1.1))))))
def synthesisref05_Literal (a0 : ByteArray) : Option (ByteArray) := (Option.bind (loopN (synthesisref05_Literal_l1 a0) fuel ((⟨#[]⟩ : ByteArray), 0)) fun (v11 : (((ByteArray)) ⊕ (ByteArray))) => Sum.elim (fun v12 => (bif (a0.toList == (⟨#[]⟩ : ByteArray).toList) then (some (⟨#[40, 41]⟩ : ByteArray)) else (bif (decide (40 < (v12.size : Int))) then (some (⟨#[]⟩ : ByteArray)) else (some v12)))) (fun v13 => (some v13)) v11)
theorem synthesisref05_Literal_ok (a0 : ByteArray) (r : ByteArray) (h : synthesisref05_Literal a0 = some r) : PCall Try.prog 80 [eS a0] (eS (r)) := by
 unfold synthesisref05_Literal at h
 refine pcall_intro (T := TT) tt_ok [.one .keep] Try.func80 rfl (by kernel_rfl) (by kernel_rfl) ?_
 refine awp_le (st' := ⟨37, [(0, (fS (a0)))], [], []⟩) (le_ck (by kernel_rfl)) ?_
 refine awp_seq ?_
 refine awp_region ?_
 refine l_rk 1 tt_ok ⟨37, [(0, (fS (a0)))], [], []⟩ (by kernel_rfl) ?_
 refine l_nil ?_
 refine awp_seq ?_
 refine awp_region ?_
 refine l_rk 1 tt_ok ⟨37, [(0, (fS (a0))), (3, (fS ((⟨#[]⟩ : ByteArray))))], [], []⟩ (by kernel_rfl) ?_
 refine l_nil ?_
 refine awp_seq ?_
 refine awp_seq ?_
 refine awp_region ?_
 refine l_rk 1 tt_ok ⟨37, [(0, (fS (a0))), (3, (fS ((⟨#[]⟩ : ByteArray)))), (4, (fI (0)))], [], []⟩ (by kernel_rfl) ?_
 refine l_nil ?_
 refine awp_block ?_
 obtain ⟨v11, hj, h⟩ := Option.bind_eq_some_iff.1 h
 refine awp_join (Qa := fun e st => Sum.elim (fun p => e = .exit 0 ∧ LeSt st ⟨37, [(0, (fS (a0))), (3, (fS (p)))], [], []⟩) (fun p => e = .ret ∧ retX TT st Try.f80.results.toList [.one .keep] = some (eS (p))) v11) ?_ ?_
 ·refine awp_loopS (stOf := fun v1 => ⟨37, [(0, (fS (a0))), (3, (fS (v1.1))), (4, (fI (v1.2)))], [], []⟩) (Qb := fun j e st => Sum.elim (fun p => e = .exit 0 ∧ LeSt st ⟨37, [(0, (fS (a0))), (3, (fS (p)))], [], []⟩) (fun p => e = .ret ∧ retX TT st Try.f80.results.toList [.one .keep] = some (eS (p))) j) hj (le_ck (by kernel_rfl)) ?_
  clear hj h
  intro v1 r h
  unfold synthesisref05_Literal_l1 at h
  refine awp_seq ?_
  refine awp_seq ?_
  obtain ⟨v3, hj, h⟩ := Option.bind_eq_some_iff.1 h
  refine awp_join (Qa := fun e st => e = .normal ∧ LeSt st ⟨37, [(0, (fS (a0))), (3, (fS (v1.1))), (4, (fI (v1.2))), (12, (fB (v3)))], [], []⟩) ?_ ?_
  ·replace h := hj
   clear hj
   refine awp_region ?_
   refine l_rk 5 tt_ok ⟨37, [(0, (fS (a0))), (3, (fS (v1.1))), (4, (fI (v1.2))), (9, (fB ((decide (v1.2 < (a0.size : Int))))))], [], []⟩ (by kernel_rfl) ?_
   rcases cond_some h with ⟨hb, h⟩ | ⟨hb, h⟩
   ·refine l_le (le_eq (t := 9) (x := .fz (eB (decide (v1.2 < (a0.size : Int))))) (y := .fz (eB true)) (by kernel_rfl) (congrArg (fun b => AV.fz (eB b)) hb)) ?_
    refine l_rk 3 tt_ok ⟨37, [(0, (fS (a0))), (3, (fS (v1.1))), (4, (fI (v1.2))), (12, (fB ((decide (v1.2 ≤ 40)))))], [], []⟩ (by kernel_rfl) ?_
    refine l_nil ?_
    obtain rfl := Option.some.inj h
    exact And.intro rfl (le_ck (by kernel_rfl))
   ·refine l_le (le_eq (t := 9) (x := .fz (eB (decide (v1.2 < (a0.size : Int))))) (y := .fz (eB false)) (by kernel_rfl) (congrArg (fun b => AV.fz (eB b)) hb)) ?_
    refine l_rk 3 tt_ok ⟨37, [(0, (fS (a0))), (3, (fS (v1.1))), (4, (fI (v1.2))), (12, (fB (false)))], [], []⟩ (by kernel_rfl) ?_
    refine l_nil ?_
    obtain rfl := Option.some.inj h
    exact And.intro rfl (le_ck (by kernel_rfl))
  ·clear hj
   intro e st' hq
   obtain ⟨rfl, hle⟩ := hq
   refine ⟨_, hle, ?_⟩
   rcases cond_some h with ⟨hb, h⟩ | ⟨hb, h⟩
   ·refine awp_cond_t (b := v3) (by kernel_rfl) hb ?_
    refine awp_skip ?_
    refine awp_seq ?_
    refine awp_block ?_
    refine awp_seq ?_
    refine awp_seq ?_
    refine awp_region ?_
    refine l_rk 2 tt_ok ⟨37, [(0, (fS (a0))), (3, (fS (v1.1))), (4, (fI (v1.2))), (15, (fS (a0))), (16, (fI (v1.2)))], [], []⟩ (by kernel_rfl) ?_
    obtain ⟨v4, hv4, h⟩ := Option.bind_eq_some_iff.1 h
    refine l_step ((s_byte (k := .i64) (d := tt9) (s := a0) hv4 tt_ok rfl (by kernel_rfl) (by kernel_rfl) (by kernel_rfl) (by kernel_rfl)).step) (by kernel_rfl) (dst_of (by kernel_rfl)) ?_
    obtain ⟨v5, hv5, h⟩ := Option.bind_eq_some_iff.1 h
    refine l_step ((n_call (ys := [eU8 (v4)]) (cs := [(.one (.keep))]) rfl (by kernel_rfl) (synthesisref05_in_ok (v4) _ hv5)).step) (by kernel_rfl) (dst_of (by kernel_rfl)) ?_
    refine l_rk 1 tt_ok ⟨37, [(0, (fS (a0))), (3, (fS (v1.1))), (4, (fI (v1.2))), (19, (fB ((!v5))))], [], []⟩ (by kernel_rfl) ?_
    refine l_nil ?_
    rcases cond_some h with ⟨hb, h⟩ | ⟨hb, h⟩
    ·refine awp_cond_t (b := (!v5)) (by kernel_rfl) hb ?_
     refine awp_seq ?_
     refine awp_region ?_
     refine l_rk 1 tt_ok ⟨37, [(2, (fS ((⟨#[]⟩ : ByteArray))))], [], []⟩ (by kernel_rfl) ?_
     refine l_nil ?_
     refine awp_ret ?_
     obtain rfl := Option.some.inj h
     exact And.intro (And.intro (fun h => nomatch h) (fun h => nomatch h)) (And.intro rfl (show retX _ _ _ _ = some _ from by kernel_rfl))
    ·refine awp_cond_f (b := (!v5)) (by kernel_rfl) hb ?_
     refine awp_skip ?_
     obtain ⟨v6, hv6, h⟩ := Option.bind_eq_some_iff.1 h
     obtain ⟨v7, hv7, h⟩ := Option.bind_eq_some_iff.1 h
     obtain ⟨v8, hv8, h⟩ := Option.bind_eq_some_iff.1 h
     obtain ⟨v9, hv9, h⟩ := Option.bind_eq_some_iff.1 h
     refine awp_drawn (by kernel_rfl) [(fS (v1.1)), (fS (a0)), (fI (v1.2)), (.fz (eU8 (v6))), (fI ((w64 v6))), (fS (a0)), (fI (v1.2)), (.fz (eU8 (v7))), (fB (v8)), (fS (v9))] (by kernel_rfl) ?_
     refine ⟨.inl ⟨by kernel_rfl, (nstep_ok tt_ok (by kernel_rfl))⟩, ?_⟩
     refine ⟨.inl ⟨by kernel_rfl, (nstep_ok tt_ok (by kernel_rfl))⟩, ?_⟩
     refine ⟨.inl ⟨by kernel_rfl, (nstep_ok tt_ok (by kernel_rfl))⟩, ?_⟩
     refine ⟨.inl ⟨by kernel_rfl, (s_byte (k := .i64) (d := tt9) (s := a0) hv6 tt_ok rfl (by kernel_rfl) (by kernel_rfl) (by kernel_rfl) (by kernel_rfl))⟩, ?_⟩
     refine ⟨.inl ⟨by kernel_rfl, (s_conv (ds := tt5) (d := tt3) (k := .i64) (k' := .u8) (n := v6) tt_ok rfl (by kernel_rfl) (by kernel_rfl) rfl (by kernel_rfl))⟩, ?_⟩
     refine ⟨.inl ⟨by kernel_rfl, (nstep_ok tt_ok (by kernel_rfl))⟩, ?_⟩
     refine ⟨.inl ⟨by kernel_rfl, (nstep_ok tt_ok (by kernel_rfl))⟩, ?_⟩
     refine ⟨.inl ⟨by kernel_rfl, (s_byte (k := .i64) (d := tt9) (s := a0) hv7 tt_ok rfl (by kernel_rfl) (by kernel_rfl) (by kernel_rfl) (by kernel_rfl))⟩, ?_⟩
     refine ⟨.inl ⟨by kernel_rfl, (n_call (ys := [eU8 (v7)]) (cs := [(.one (.keep))]) rfl (by kernel_rfl) (synthesisref05_special_ok (v7) _ hv8))⟩, ?_⟩
     refine ⟨.inl ⟨by kernel_rfl, (n_call (ys := [eI ((w64 v6)), eB (v8)]) (cs := [(.one (.keep)), (.one (.keep))]) rfl (by kernel_rfl) (synthesisref05_shown_ok ((w64 v6)) (v8) _ hv9))⟩, ?_⟩
     refine l_rk 0 tt_ok ⟨37, [(0, (fS (a0))), (4, (fI (v1.2))), (20, (fS (v1.1))), (29, (fS (v9)))], [], []⟩ (by kernel_rfl) ?_
     obtain ⟨v10, hv10, h⟩ := Option.bind_eq_some_iff.1 h
     refine l_step ((s_cat (s := v1.1) (u := v9) hv10 rfl (by kernel_rfl) (by kernel_rfl)).step) (by kernel_rfl) (dst_of (by kernel_rfl)) ?_
     refine l_rk 1 tt_ok ⟨37, [(0, (fS (a0))), (3, (fS (v10))), (4, (fI (v1.2)))], [], []⟩ (by kernel_rfl) ?_
     refine l_nil ?_
     refine awp_region ?_
     refine l_rk 3 tt_ok ⟨37, [(0, (fS (a0))), (3, (fS (v10))), (4, (fI ((w64 (v1.2 + 1)))))], [], []⟩ (by kernel_rfl) ?_
     refine l_nil ?_
     obtain rfl := Option.some.inj h
     exact And.intro rfl (le_ck (by kernel_rfl))
   ·refine awp_cond_f (b := v3) (by kernel_rfl) hb ?_
    refine awp_exit ?_
    obtain rfl := Option.some.inj h
    exact And.intro (And.intro (fun h => nomatch h) (fun h => nomatch h)) (And.intro rfl (le_ck (by kernel_rfl)))
 ·clear hj
  intro e st' hq
  rcases v11 with v12 | v13
  ·try simp only [Sum.elim_inl, Sum.elim_inr] at h
   obtain ⟨rfl, hle⟩ := hq
   refine ⟨_, hle, ?_⟩
   refine awp_seq ?_
   refine awp_seq ?_
   refine awp_region ?_
   refine l_rk 2 tt_ok ⟨37, [(3, (fS (v12))), (32, (fB ((a0.toList == (⟨#[]⟩ : ByteArray).toList))))], [], []⟩ (by kernel_rfl) ?_
   refine l_nil ?_
   rcases cond_some h with ⟨hb, h⟩ | ⟨hb, h⟩
   ·refine awp_cond_t (b := (a0.toList == (⟨#[]⟩ : ByteArray).toList)) (by kernel_rfl) hb ?_
    refine awp_seq ?_
    refine awp_region ?_
    refine l_rk 1 tt_ok ⟨37, [(2, (fS ((⟨#[40, 41]⟩ : ByteArray))))], [], []⟩ (by kernel_rfl) ?_
    refine l_nil ?_
    refine awp_ret ?_
    obtain rfl := Option.some.inj h
    exact (show retX _ _ _ _ = some _ from by kernel_rfl)
   ·refine awp_cond_f (b := (a0.toList == (⟨#[]⟩ : ByteArray).toList)) (by kernel_rfl) hb ?_
    refine awp_skip ?_
    refine awp_seq ?_
    refine awp_seq ?_
    refine awp_region ?_
    refine l_rk 3 tt_ok ⟨37, [(3, (fS (v12))), (35, (fB ((decide (40 < (v12.size : Int))))))], [], []⟩ (by kernel_rfl) ?_
    refine l_nil ?_
    rcases cond_some h with ⟨hb, h⟩ | ⟨hb, h⟩
    ·refine awp_cond_t (b := (decide (40 < (v12.size : Int)))) (by kernel_rfl) hb ?_
     refine awp_seq ?_
     refine awp_region ?_
     refine l_rk 1 tt_ok ⟨37, [(2, (fS ((⟨#[]⟩ : ByteArray))))], [], []⟩ (by kernel_rfl) ?_
     refine l_nil ?_
     refine awp_ret ?_
     obtain rfl := Option.some.inj h
     exact (show retX _ _ _ _ = some _ from by kernel_rfl)
    ·refine awp_cond_f (b := (decide (40 < (v12.size : Int)))) (by kernel_rfl) hb ?_
     refine awp_skip ?_
     refine awp_seq ?_
     refine awp_region ?_
     refine l_rk 2 tt_ok ⟨37, [(2, (fS (v12)))], [], []⟩ (by kernel_rfl) ?_
     refine l_nil ?_
     refine awp_ret ?_
     obtain rfl := Option.some.inj h
     exact (show retX _ _ _ _ = some _ from by kernel_rfl)
  ·try simp only [Sum.elim_inl, Sum.elim_inr] at h
   obtain ⟨rfl, hret⟩ := hq
   refine ⟨_, LeSt.refl, ?_⟩
   obtain rfl := Option.some.inj h
   exact hret
end Go.Proofs.Ytaeicmnimjfbaaa
