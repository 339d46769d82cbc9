/- Typed programs and what computes them. -/
import Derived.Test.YtaeicmnimjfbaaaZ1
set_option linter.unusedVariables false
set_option linter.unusedSimpArgs false
set_option maxRecDepth 100000
namespace Go.Proofs.Ytaeicmnimjfbaaa
open Go Go.RowKit Go.Proofs
attribute [local irreducible] NStep StepA EStep LeSt
def synthesisref16_writer_op_h2_l1 (a4 : Int) (a5 : List ByteArray) (a6 : List Int) (v1 : (Int) × (List Ru)) : Option (((Int) × (List Ru)) ⊕ ((List Ru))) := (bif (decide (v1.1 < (List.length a5 : Int))) then (Option.bind (idx a5 v1.1) fun v2 => (Option.bind (app 120 v1.2 ([(Ru.mk (a4) (3) (0) ((Va.mk (0) (0) ((⟨#[]⟩ : ByteArray)) (([] : List Va)))) (v2) (a6))] : List (Ru))) fun v3 => (some (.inl ((w64 (v1.1 + 1)), v3))))) else (some (.inr (v1.2))))
def synthesisref16_writer_op_h2 (a0 : ByteArray) (a1 : List Int) (a2 : List Sy) (a3 : List Ru) (a4 : Int) (a5 : List ByteArray) (a6 : List Int) : Option ((List Ru)) := (Option.bind (loopN (synthesisref16_writer_op_h2_l1 a4 a5 a6) fuel (0, a3)) fun (v5 : (List Ru)) => (some (v5)))
theorem synthesisref16_writer_op_h2_ok (a0 : ByteArray) (a1 : List Int) (a2 : List Sy) (a3 : List Ru) (a4 : Int) (a5 : List ByteArray) (a6 : List Int) (r : (List Ru)) (h : synthesisref16_writer_op_h2 a0 a1 a2 a3 a4 a5 a6 = some r) : HCall Try.prog 75 ([(.ref 1 0 0), (fI (a4)), (.fz ((eL 1 eS) (a5))), (.fz ((eL 1 eI) (a6)))] ++ []) [(1, (.box 91 [(fS (a0)), (.fz ((eL 1 eI) (a1))), (.row 2 (List.length (a2))), (.row 3 (List.length (a3)))])), (2, (.frow 72 2 (List.map eSy (a2)))), (3, (.frow 67 9 (List.map eRu (a3))))] [1, 2, 3] (.ret (.fz (.tup []))) [(1, (.box 91 [(fS (a0)), (.fz ((eL 1 eI) (a1))), (.row 2 (List.length (a2))), (.row 3 (List.length (r)))])), (2, (.frow 72 2 (List.map eSy (a2)))), (3, (.frow 67 9 (List.map eRu (r))))] [1, 2, 3] := by
 unfold synthesisref16_writer_op_h2 at h
 refine hcx (gi := 0) Try.func75 (by kernel_rfl) (by kernel_rfl) (by kernel_rfl) (by kernel_rfl) (by kernel_rfl) (by kernel_rfl) (by kernel_rfl) (by kernel_rfl) ?_
 intro p0 q0 w0
 refine lp1 5 (fun v1 => ⟨33, [(0, (.ref 1 0 0)), (1, (fI (a4))), (2, (.fz ((eL 1 eS) (a5)))), (3, (.fz ((eL 1 eI) (a6)))), (8, (fI (v1.1)))], [(0, (.was p0 [1, 2, 3] q0 w0)), (1, (.box 91 [(fS (a0)), (.fz ((eL 1 eI) (a1))), (.row 2 (List.length (a2))), (.row 3 (List.length (v1.2)))])), (2, (.frow 72 2 (List.map eSy (a2)))), (3, (.frow 67 9 (List.map eRu (v1.2))))], [0, 1, 2, 3], []⟩) (.exit 0) (fun v5 => ⟨33, [], [(0, (.was p0 [1, 2, 3] q0 w0)), (1, (.box 91 [(fS (a0)), (.fz ((eL 1 eI) (a1))), (.row 2 (List.length (a2))), (.row 3 (List.length (v5)))])), (2, (.frow 72 2 (List.map eSy (a2)))), (3, (.frow 67 9 (List.map eRu (v5))))], [0, 1, 2, 3], []⟩) h (by kernel_rfl) (by kernel_rfl) (fun v1 r h => ?_) fun v5 h => ?_
 ·unfold synthesisref16_writer_op_h2_l1 at h
  refine cd 8 h (by kernel_rfl) (fun h => ?_) fun h => ?_
  ·refine dz 3 15 [14] [3] (List.range 4) (by kernel_rfl) ?_
   refine ix nS 9 h (by kernel_rfl) fun v2 h => ?_
   refine nst 3 (nstep_co (st' := ⟨33, [(27, (.fz (eRu ((Ru.mk (a4) (3) (0) ((Va.mk (0) (0) ((⟨#[]⟩ : ByteArray)) (([] : List Va)))) (v2) (a6))))))], [], [], []⟩) (ids := []) (ts := [(27, (.ag [.keep, .keep, .keep, .keep, .keep, .keep, .sl 4, .keep, .sl 1]))]) (by kernel_rfl) (nstep_ok (c := .lim 9 1 [eRu ((Ru.mk (a4) (3) (0) ((Va.mk (0) (0) ((⟨#[]⟩ : ByteArray)) (([] : List Va)))) (v2) (a6)))]) tt_ok (by kernel_rfl))) (by kernel_rfl) ?_
   refine apZ nRu 0 h (by kernel_rfl) (by kernel_rfl) (fun _ => by kernel_rfl) fun v3 h => ?_
   cases h; exact lj 11 (by kernel_rfl)
  cases h; exact lo 1 (by kernel_rfl)
 obtain rfl := Option.some.inj h; exact lh 0 ⟨33, [], [(0, (.was p0 [1, 2, 3] q0 w0)), (1, (.box 91 [(fS (a0)), (.fz ((eL 1 eI) (a1))), (.row 2 (List.length (a2))), (.row 3 (List.length (v5)))])), (2, (.frow 72 2 (List.map eSy (a2)))), (3, (.frow 67 9 (List.map eRu (v5))))], [0, 1, 2, 3], []⟩ (le_a (by kernel_rfl)) rfl rfl (by kernel_rfl) (by kernel_rfl)

def synthesisref16_writer_input_h2 (a0 : ByteArray) (a1 : List Int) (a2 : List Sy) (a3 : List Ru) (a4 : Int) : Option ((List Ru)) := (Option.bind (app 120 a3 ([(Ru.mk (a4) (1) (0) ((Va.mk (0) (0) ((⟨#[]⟩ : ByteArray)) (([] : List Va)))) ((⟨#[]⟩ : ByteArray)) (([] : List Int)))] : List (Ru))) fun v1 => (some (v1)))
theorem synthesisref16_writer_input_h2_ok (a0 : ByteArray) (a1 : List Int) (a2 : List Sy) (a3 : List Ru) (a4 : Int) (r : (List Ru)) (h : synthesisref16_writer_input_h2 a0 a1 a2 a3 a4 = some r) : HCall Try.prog 73 ([(.ref 1 0 0), (fI (a4))] ++ []) [(1, (.box 91 [(fS (a0)), (.fz ((eL 1 eI) (a1))), (.row 2 (List.length (a2))), (.row 3 (List.length (a3)))])), (2, (.frow 72 2 (List.map eSy (a2)))), (3, (.frow 67 9 (List.map eRu (a3))))] [1, 2, 3] (.ret (.fz (.tup []))) [(1, (.box 91 [(fS (a0)), (.fz ((eL 1 eI) (a1))), (.row 2 (List.length (a2))), (.row 3 (List.length (r)))])), (2, (.frow 72 2 (List.map eSy (a2)))), (3, (.frow 67 9 (List.map eRu (r))))] [1, 2, 3] := by
 unfold synthesisref16_writer_input_h2 at h
 refine hcx (gi := 0) Try.func73 (by kernel_rfl) (by kernel_rfl) (by kernel_rfl) (by kernel_rfl) (by kernel_rfl) (by kernel_rfl) (by kernel_rfl) (by kernel_rfl) ?_
 intro p0 q0 w0
 refine wle 9 ((le_a (by kernel_rfl) : LeSt _ ⟨17, [(4, (.ref 1 0 0)), (9, (.row 3 (List.length (a3)))), (11, (.fz (eRu ((Ru.mk (a4) (1) (0) ((Va.mk (0) (0) ((⟨#[]⟩ : ByteArray)) (([] : List Va)))) ((⟨#[]⟩ : ByteArray)) (([] : List Int)))))))], [(0, (.was p0 [1, 2, 3] q0 w0)), (1, (.box 91 [(fS (a0)), (.fz ((eL 1 eI) (a1))), (.row 2 (List.length (a2))), (.row 3 (List.length (a3)))])), (2, (.frow 72 2 (List.map eSy (a2)))), (3, (.frow 67 9 (List.map eRu (a3))))], [0, 1, 2, 3], []⟩)) (by kernel_rfl) ?_
 refine ap nRu 1 h (by kernel_rfl) fun v1 h => ?_
 obtain rfl := Option.some.inj h; exact lh 5 ⟨17, [], [(0, (.was p0 [1, 2, 3] q0 w0)), (1, (.box 91 [(fS (a0)), (.fz ((eL 1 eI) (a1))), (.row 2 (List.length (a2))), (.row 3 (List.length (v1)))])), (2, (.frow 72 2 (List.map eSy (a2)))), (3, (.frow 67 9 (List.map eRu (v1))))], [0, 1, 2, 3], []⟩ (le_a (by kernel_rfl)) rfl rfl (by kernel_rfl) (by kernel_rfl)

def synthesisref16_writer_constant_h2 (a0 : ByteArray) (a1 : List Int) (a2 : List Sy) (a3 : List Ru) (a4 : Int) (a5 : Va) : Option ((List Ru)) := (Option.bind (app 120 a3 ([(Ru.mk (a4) (2) (0) (a5) ((⟨#[]⟩ : ByteArray)) (([] : List Int)))] : List (Ru))) fun v1 => (some (v1)))
theorem synthesisref16_writer_constant_h2_ok (a0 : ByteArray) (a1 : List Int) (a2 : List Sy) (a3 : List Ru) (a4 : Int) (a5 : Va) (r : (List Ru)) (h : synthesisref16_writer_constant_h2 a0 a1 a2 a3 a4 a5 = some r) : HCall Try.prog 74 ([(.ref 1 0 0), (fI (a4)), (.fz (eVa (a5)))] ++ []) [(1, (.box 91 [(fS (a0)), (.fz ((eL 1 eI) (a1))), (.row 2 (List.length (a2))), (.row 3 (List.length (a3)))])), (2, (.frow 72 2 (List.map eSy (a2)))), (3, (.frow 67 9 (List.map eRu (a3))))] [1, 2, 3] (.ret (.fz (.tup []))) [(1, (.box 91 [(fS (a0)), (.fz ((eL 1 eI) (a1))), (.row 2 (List.length (a2))), (.row 3 (List.length (r)))])), (2, (.frow 72 2 (List.map eSy (a2)))), (3, (.frow 67 9 (List.map eRu (r))))] [1, 2, 3] := by
 unfold synthesisref16_writer_constant_h2 at h
 refine hcx (gi := 0) Try.func74 (by kernel_rfl) (by kernel_rfl) (by kernel_rfl) (by kernel_rfl) (by kernel_rfl) (by kernel_rfl) (by kernel_rfl) (by kernel_rfl) ?_
 intro p0 q0 w0
 refine dz 4 11 [10] [3] (List.range 5) (by kernel_rfl) ?_
 refine nst 9 (nstep_co (st' := ⟨20, [(14, (.fz (eRu ((Ru.mk (a4) (2) (0) (a5) ((⟨#[]⟩ : ByteArray)) (([] : List Int)))))))], [], [], []⟩) (ids := []) (ts := [(14, (.ag [.keep, .keep, .keep, .keep, .keep, .keep, .sl 4, .keep, .sl 1]))]) (by kernel_rfl) (nstep_ok (c := .lim 9 1 [eRu ((Ru.mk (a4) (2) (0) (a5) ((⟨#[]⟩ : ByteArray)) (([] : List Int))))]) tt_ok (by kernel_rfl))) (by kernel_rfl) ?_
 refine apZ nRu 0 h (by kernel_rfl) (by kernel_rfl) (fun _ => by kernel_rfl) fun v1 h => ?_
 obtain rfl := Option.some.inj h; exact lh 6 ⟨20, [], [(0, (.was p0 [1, 2, 3] q0 w0)), (1, (.box 91 [(fS (a0)), (.fz ((eL 1 eI) (a1))), (.row 2 (List.length (a2))), (.row 3 (List.length (v1)))])), (2, (.frow 72 2 (List.map eSy (a2)))), (3, (.frow 67 9 (List.map eRu (v1))))], [0, 1, 2, 3], []⟩ (le_a (by kernel_rfl)) rfl rfl (by kernel_rfl) (by kernel_rfl)

def synthesisref16_Patterns_m0 : List (Nat × AObj) := [(1, (.box 27 [(fS ((⟨#[]⟩ : ByteArray))), (.fz (.atom (.slice none 0 0))), (.fz (.atom (.slice none 0 0))), (.fz (.atom (.slice none 0 0)))]))]
def synthesisref16_Patterns_l1 (a0 : ByteArray) (v3 : (Int)) (v8 : (Int)) : Option (((Int)) ⊕ (((Unit) ⊕ ((La) × (Int))))) := (bif (decide (v8 < v3)) then (Option.bind (byt a0 v8) fun v9 => (Option.bind (byt a0 v3) fun v10 => (bif (v9 == v10) then (some (.inr (.inr ((La.mk ((⟨#[]⟩ : ByteArray)) (([] : List Int)) (([] : List Sy)) (([] : List Ru))), 6)))) else (some (.inl ((w64 (v8 + 1)))))))) else (some (.inr (.inl ()))))
def synthesisref16_Patterns_l2 (a0 : ByteArray) (v17 : List (Sy)) (v20 : (Int) × (ByteArray) × (List Int) × (List Ru)) : Option (((Int) × (ByteArray) × (List Int) × (List Ru)) ⊕ ((ByteArray) × (List Int) × (List Ru))) := (bif (decide (v20.1 < (a0.size : Int))) then (Option.bind (cutS a0 v20.1 (w64 (v20.1 + 1))) fun v21 => (Option.bind (synthesisref05_Literal (v21)) fun v22 => (Option.bind (synthesisref01_OfPattern (v22)) fun v23 => (Option.bind (synthesisref16_writer_constant_h2 (v20.2.1) (v20.2.2.1) (v17) (v20.2.2.2) (2) (v23)) fun v24 => (some (.inl ((w64 (v20.1 + 1)), v20.2.1, v20.2.2.1, v24))))))) else (some (.inr (v20.2.1, v20.2.2.1, v20.2.2.2))))
def synthesisref16_Patterns_l3 (a0 : ByteArray) (v3 : (Int)) : Option (((Int)) ⊕ (((Unit) ⊕ ((La) × (Int))))) := (bif (decide (v3 < (a0.size : Int))) then (Option.bind ((Option.bind (byt a0 v3) fun v4 => (bif (decide (v4 < 32)) then (some (true)) else (Option.bind (byt a0 v3) fun v5 => (some ((decide (126 < v5))))))) : Option ((Bool))) fun (v7 : (Bool)) => (bif v7 then (some (.inr (.inr ((La.mk ((⟨#[]⟩ : ByteArray)) (([] : List Int)) (([] : List Sy)) (([] : List Ru))), 1)))) else (Option.bind (loopN (synthesisref16_Patterns_l1 a0 v3) fuel (0)) fun (v11 : ((Unit) ⊕ ((La) × (Int)))) => Sum.elim (fun v12 => (some (.inl ((w64 (v3 + 1)))))) (fun v13 => (some (.inr (.inr v13)))) v11))) else (some (.inr (.inl ()))))
def synthesisref16_Patterns (a0 : ByteArray) : Option ((La) × (Int)) := (Option.bind ((bif (a0.toList == (⟨#[]⟩ : ByteArray).toList) then (some (true)) else (some ((decide (16 < (a0.size : Int)))))) : Option ((Bool))) fun (v2 : (Bool)) => (bif v2 then (some ((La.mk ((⟨#[]⟩ : ByteArray)) (([] : List Int)) (([] : List Sy)) (([] : List Ru))), 2)) else (Option.bind (loopN (synthesisref16_Patterns_l3 a0) fuel (0)) fun (v14 : ((Unit) ⊕ ((La) × (Int)))) => Sum.elim (fun v15 => (Option.bind (synthesisref16_begin_h ((⟨#[112, 97, 116, 116, 101, 114, 110, 115]⟩ : ByteArray)) (3) ((⟨#[116, 101, 115, 116]⟩ : ByteArray)) (1) ((⟨#[116, 101, 120, 116]⟩ : ByteArray)) (3)) fun v16 => (Option.bind (appN 24 ([(Sy.mk (((⟨#[116, 101, 115, 116]⟩ : ByteArray))) ((1))), (Sy.mk (((⟨#[116, 101, 120, 116]⟩ : ByteArray))) ((3)))] : List (Sy)) ([(Sy.mk ((⟨#[112, 97, 116, 116, 101, 114, 110]⟩ : ByteArray)) (8))] : List (Sy))) fun v17 => (Option.bind (synthesisref16_writer_op_h2 (((⟨#[112, 97, 116, 116, 101, 114, 110, 115]⟩ : ByteArray))) (([(3)] : List (Int))) (v17) (([] : List (Ru))) (0) (([(⟨#[109, 97, 116, 99, 104, 101, 115]⟩ : ByteArray)] : List (ByteArray))) (([1, 2] : List (Int)))) fun v18 => (Option.bind (synthesisref16_writer_input_h2 ((((⟨#[112, 97, 116, 116, 101, 114, 110, 115]⟩ : ByteArray)))) ((([(3)] : List (Int)))) (v17) (v18) (1)) fun v19 => (Option.bind (loopN (synthesisref16_Patterns_l2 a0 v17) fuel (0, ((((⟨#[112, 97, 116, 116, 101, 114, 110, 115]⟩ : ByteArray)))), ((([(3)] : List (Int)))), v19)) fun (v26 : (ByteArray) × (List Int) × (List Ru)) => (Option.bind (synthesisref16_writer_op_h2 (v26.1) (v26.2.1) (v17) (v26.2.2) (2) (([(⟨#[112, 99, 97, 116]⟩ : ByteArray), (⟨#[112, 97, 108, 116]⟩ : ByteArray)] : List (ByteArray))) (([2, 2] : List (Int)))) fun v27 => (Option.bind (synthesisref16_writer_op_h2 (v26.1) (v26.2.1) (v17) (v27) (2) (([(⟨#[112, 115, 116, 97, 114]⟩ : ByteArray)] : List (ByteArray))) (([2] : List (Int)))) fun v28 => (some ((La.mk (v26.1) (v26.2.1) (v17) (v28)), 0)))))))))) (fun v29 => (some v29)) v14)))
theorem synthesisref16_Patterns_ok (a0 : ByteArray) (r : (La) × (Int)) (h : synthesisref16_Patterns a0 = some r) : PCall Try.prog 27 [eS a0] (.tup [eLa (r.1), eI (r.2)]) := by
 unfold synthesisref16_Patterns at h
 refine pcl [.ag [.keep, .sl 1, .sl 2, .sl 9], .one .keep] Try.func27 (by kernel_rfl) (by kernel_rfl) (by kernel_rfl) ?_
 refine jn1 7 .normal (fun v2 => ⟨92, [(0, (fS (a0))), (2, (.ref 1 0 0)), (14, (fB (v2)))], (synthesisref16_Patterns_m0), [1], []⟩) h (by kernel_rfl) (fun v2 h => ?_) fun v2 h => ?_
 ·refine gd 4 h (by kernel_rfl) (fun h => ?_) fun h => ?_
  ·cases h; exact lj 5 (by kernel_rfl)
  cases h; exact lj 5 (by kernel_rfl)
 refine cd 0 h (by kernel_rfl) (fun h => ?_) fun h => ?_
 ·cases h; exact lq 7 (by kernel_rfl)
 refine lpx 7 (fun v3 => ⟨92, [(0, (fS (a0))), (2, (.ref 1 0 0)), (4, (fI (v3)))], (synthesisref16_Patterns_m0), [1], []⟩) (fun v14 e st => Sum.elim (fun p => e = .exit 0 ∧ LeSt st ⟨92, [(0, (fS (a0))), (2, (.ref 1 0 0))], (synthesisref16_Patterns_m0), [1], []⟩) (fun p => e = .ret ∧ retX TT st Try.f27.results.toList [.ag [.keep, .sl 1, .sl 2, .sl 9], .one .keep] = some (.tup [eLa (p.1), eI (p.2)])) v14) h (by kernel_rfl) (le_a (by kernel_rfl)) (fun v3 r h => ?_) fun v14 h e st' hq => ?_
 ·unfold synthesisref16_Patterns_l3 at h
  refine cd 8 h (by kernel_rfl) (fun h => ?_) fun h => ?_
  ·refine jn1 5 .normal (fun v7 => ⟨92, [(0, (fS (a0))), (2, (.ref 1 0 0)), (4, (fI (v3))), (31, (fB (v7)))], (synthesisref16_Patterns_m0), [1], []⟩) h (by kernel_rfl) (fun v7 h => ?_) fun v7 h => ?_
   ·refine byx 3 h (by kernel_rfl) fun v4 h => ?_
    refine gd 2 h (by kernel_rfl) (fun h => ?_) fun h => ?_
    ·cases h; exact lj 6 (by kernel_rfl)
    refine byx 2 h (by kernel_rfl) fun v5 h => ?_
    cases h; exact lj 3 (by kernel_rfl)
   refine cd 0 h (by kernel_rfl) (fun h => ?_) fun h => ?_
   ·cases h; exact lor 7 (by kernel_rfl)
   refine lpx 6 (fun v8 => ⟨92, [(0, (fS (a0))), (2, (.ref 1 0 0)), (4, (fI (v3))), (5, (fI (v8)))], (synthesisref16_Patterns_m0), [1], []⟩) (fun v11 e st => Sum.elim (fun p => e = .exit 2 ∧ LeSt st ⟨92, [(0, (fS (a0))), (2, (.ref 1 0 0)), (4, (fI (v3)))], (synthesisref16_Patterns_m0), [1], []⟩) (fun p => e = .ret ∧ retX TT st Try.f27.results.toList [.ag [.keep, .sl 1, .sl 2, .sl 9], .one .keep] = some (.tup [eLa (p.1), eI (p.2)])) v11) h (by kernel_rfl) (le_a (by kernel_rfl)) (fun v8 r h => ?_) fun v11 h e st' hq => ?_
   ·unfold synthesisref16_Patterns_l1 at h
    refine cd 7 h (by kernel_rfl) (fun h => ?_) fun h => ?_
    ·refine dw 4 6 (by kernel_rfl) ?_
     refine byx 2 h (by kernel_rfl) fun v9 h => ?_
     refine byx 2 h (by kernel_rfl) fun v10 h => ?_
     refine cd 3 h (by kernel_rfl) (fun h => ?_) fun h => ?_
     ·cases h; exact lor 7 (by kernel_rfl)
     cases h; exact lj 6 (by kernel_rfl)
    cases h; exact lo 1 (by kernel_rfl)
   rcases v11 with v12 | v13
   ·try simp only [Sum.elim_inl, Sum.elim_inr] at h
    obtain ⟨rfl, hle⟩ := hq
    refine ⟨_, hle, ?_⟩
    cases h; exact lj 5 (by kernel_rfl)
   ·try simp only [Sum.elim_inl, Sum.elim_inr] at h
    obtain ⟨rfl, hret⟩ := hq
    refine ⟨_, LeSt.refl, ?_⟩
    cases h; exact lvo hret
  cases h; exact lo 1 (by kernel_rfl)
 rcases v14 with v15 | v29
 ·try simp only [Sum.elim_inl, Sum.elim_inr] at h
  obtain ⟨rfl, hle⟩ := hq
  refine ⟨_, hle, ?_⟩
  refine hcl 2 [.one .keep, .one .keep, .one .keep, .one .keep, .one .keep, .one .keep] [] [(1, 2), (2, 3)] [] h (synthesisref16_begin_h_ok _ _ _ _ _ _) (fun _ => by kernel_rfl) fun v16 h => ?_
  obtain ⟨v17, hv17, h⟩ := Option.bind_eq_some_iff.1 h
  refine sst 12 (s_appLit (t := 24) (X := (.tmp 52)) (Y := (.tmp 54)) (d := tt24) (e := 72) (de := tt72) (enc := eSy) (xs := ([(Sy.mk (((⟨#[116, 101, 115, 116]⟩ : ByteArray))) ((1))), (Sy.mk (((⟨#[116, 101, 120, 116]⟩ : ByteArray))) ((3)))] : List (Sy))) (ys := ([(Sy.mk ((⟨#[112, 97, 116, 116, 101, 114, 110]⟩ : ByteArray)) (8))] : List (Sy))) (n := List.length ([(Sy.mk (((⟨#[116, 101, 115, 116]⟩ : ByteArray))) ((1))), (Sy.mk (((⟨#[116, 101, 120, 116]⟩ : ByteArray))) ((3)))] : List (Sy))) (m := List.length ([(Sy.mk ((⟨#[112, 97, 116, 116, 101, 114, 110]⟩ : ByteArray)) (8))] : List (Sy))) (id := 4) hv17 tt_ok (by kernel_rfl) (by kernel_rfl) (by kernel_rfl) (by kernel_rfl) (by kernel_rfl) (by kernel_rfl) (by kernel_rfl) (by kernel_rfl) (.inr (by kernel_rfl)) (by kernel_rfl)) (by kernel_rfl) ?_
  refine wle 10 ((le_a (by kernel_rfl) : LeSt _ ⟨92, [(0, (fS (a0))), (2, (.ref 1 0 0)), (6, (.ref 2 0 0)), (59, (.ref 2 0 0)), (60, (.lim 1 (List.length (([(⟨#[109, 97, 116, 99, 104, 101, 115]⟩ : ByteArray)] : List (ByteArray)))) (List.map eS (([(⟨#[109, 97, 116, 99, 104, 101, 115]⟩ : ByteArray)] : List (ByteArray)))))), (61, (.lim 1 (List.length (([1, 2] : List (Int)))) (List.map eI (([1, 2] : List (Int))))))], [(1, (.box 27 [(fS ((⟨#[]⟩ : ByteArray))), (.fz (.atom (.slice none 0 0))), (.fz (.atom (.slice none 0 0))), (.fz (.atom (.slice none 0 0)))])), (2, (.box 91 [(fS (((⟨#[112, 97, 116, 116, 101, 114, 110, 115]⟩ : ByteArray)))), (.fz ((eL 1 eI) (([(3)] : List (Int))))), (.row 4 (List.length (v17))), (.row 3 (List.length (([] : List (Ru)))))])), (3, (.frow 67 9 (List.map eRu (([] : List (Ru)))))), (4, (.frow 72 2 (List.map eSy (v17))))], [4, 2, 3, 1], []⟩)) (by kernel_rfl) ?_
  refine hcl 0 [.one .keep, .one .keep, (.one (.sl 1)), (.one (.sl 1))] [(2, 1), (4, 2), (3, 3)] [(1, 2), (2, 4), (3, 3)] [1, 2, 3] h (synthesisref16_writer_op_h2_ok _ _ _ _ _ _ _) (fun _ => by kernel_rfl) fun v18 h => ?_
  refine hcl 4 [.one .keep, .one .keep] [(2, 1), (4, 2), (3, 3)] [(1, 2), (2, 4), (3, 3)] [1, 2, 3] h (synthesisref16_writer_input_h2_ok _ _ _ _ _) (fun _ => by kernel_rfl) fun v19 h => ?_
  refine lp1 7 (fun v20 => ⟨92, [(0, (fS (a0))), (2, (.ref 1 0 0)), (6, (.ref 2 0 0)), (7, (fI (v20.1)))], [(1, (.box 27 [(fS ((⟨#[]⟩ : ByteArray))), (.fz (.atom (.slice none 0 0))), (.fz (.atom (.slice none 0 0))), (.fz (.atom (.slice none 0 0)))])), (2, (.box 91 [(fS (v20.2.1)), (.fz ((eL 1 eI) (v20.2.2.1))), (.row 4 (List.length (v17))), (.row 3 (List.length (v20.2.2.2)))])), (3, (.frow 67 9 (List.map eRu (v20.2.2.2)))), (4, (.frow 72 2 (List.map eSy (v17))))], [4, 2, 3, 1], []⟩) (.exit 4) (fun v26 => ⟨92, [(2, (.ref 1 0 0)), (6, (.ref 2 0 0))], [(1, (.box 27 [(fS ((⟨#[]⟩ : ByteArray))), (.fz (.atom (.slice none 0 0))), (.fz (.atom (.slice none 0 0))), (.fz (.atom (.slice none 0 0)))])), (2, (.box 91 [(fS (v26.1)), (.fz ((eL 1 eI) (v26.2.1))), (.row 4 (List.length (v17))), (.row 3 (List.length (v26.2.2)))])), (3, (.frow 67 9 (List.map eRu (v26.2.2)))), (4, (.frow 72 2 (List.map eSy (v17))))], [4, 2, 3, 1], []⟩) h (by kernel_rfl) (by kernel_rfl) (fun v20 r h => ?_) fun v26 h => ?_
  ·unfold synthesisref16_Patterns_l2 at h
   refine cd 8 h (by kernel_rfl) (fun h => ?_) fun h => ?_
   ·obtain ⟨v21, hv21, h⟩ := Option.bind_eq_some_iff.1 h
    refine nst 9 (s_cutS (t := 9) (x := (.tmp 72)) (lo := (some (.tmp 73))) (hi := (some (.tmp 75))) (d := tt9) (s := a0) (l := (some v20.1)) (h := (some (w64 (v20.1 + 1)))) hv21 tt_ok (by kernel_rfl) (by kernel_rfl) (by kernel_rfl) (by kernel_rfl) (by kernel_rfl) (by kernel_rfl)) (by kernel_rfl) ?_
    refine cl 0 h (synthesisref05_Literal_ok _) (by kernel_rfl) fun v22 h => ?_
    refine cl 0 h (synthesisref01_OfPattern_ok _) (by kernel_rfl) fun v23 h => ?_
    refine hcl 0 [.one .keep, .one .keep, .one .keep] [(2, 1), (4, 2), (3, 3)] [(1, 2), (2, 4), (3, 3)] [1, 2, 3] h (synthesisref16_writer_constant_h2_ok _ _ _ _ _ _) (fun _ => by kernel_rfl) fun v24 h => ?_
    cases h; exact lj 6 (by kernel_rfl)
   cases h; exact lo 1 (by kernel_rfl)
  refine hcl 5 [.one .keep, .one .keep, (.one (.sl 1)), (.one (.sl 1))] [(2, 1), (4, 2), (3, 3)] [(1, 2), (2, 4), (3, 3)] [1, 2, 3] h (synthesisref16_writer_op_h2_ok _ _ _ _ _ _ _) (fun _ => by kernel_rfl) fun v27 h => ?_
  refine hcl 6 [.one .keep, .one .keep, (.one (.sl 1)), (.one (.sl 1))] [(2, 1), (4, 2), (3, 3)] [(1, 2), (2, 4), (3, 3)] [1, 2, 3] h (synthesisref16_writer_op_h2_ok _ _ _ _ _ _ _) (fun _ => by kernel_rfl) fun v28 h => ?_
  refine wle 10 (le_freezeCell (e2 := 27) (id2 := 1) (j := 2) (id := 4) (n := List.length (v17)) (e := 72) (size := 2) (xs := List.map eSy (v17)) (cells := [(fS (v26.1)), (.fz ((eL 1 eI) (v26.2.1))), (.row 4 (List.length (v17))), (.row 3 (List.length (v28)))]) (by kernel_rfl) (by kernel_rfl) (by kernel_rfl) (by simp)) (by kernel_rfl) ?_
  refine wle 0 (le_freezeCell (e2 := 27) (id2 := 1) (j := 3) (id := 3) (n := List.length (v28)) (e := 67) (size := 9) (xs := List.map eRu (v28)) (cells := [(fS (v26.1)), (.fz ((eL 1 eI) (v26.2.1))), (.fz ((eL 2 eSy) (v17))), (.row 3 (List.length (v28)))]) (by kernel_rfl) (by kernel_rfl) (by kernel_rfl) (by simp)) (by kernel_rfl) ?_
  cases h; exact lq 1 (by kernel_rfl)
 ·try simp only [Sum.elim_inl, Sum.elim_inr] at h
  obtain ⟨rfl, hret⟩ := hq
  refine ⟨_, LeSt.refl, ?_⟩
  cases h; exact lv hret

def synthesisref16_Lists_l1 (a0 : List Int) (v8 : (Int) × (ByteArray) × (List Int) × (List Sy) × (List Ru)) : Option (((Int) × (ByteArray) × (List Int) × (List Sy) × (List Ru)) ⊕ ((ByteArray) × (List Int) × (List Sy) × (List Ru))) := (bif (decide (v8.1 < (List.length a0 : Int))) then (Option.bind (idx a0 v8.1) fun v9 => (Option.bind (synthesisref01_OfInt (v9)) fun v10 => (Option.bind (synthesisref16_writer_constant_h (v8.2.1) (v8.2.2.1) (v8.2.2.2.1) (v8.2.2.2.2) (1) (v10)) fun v11 => (some (.inl ((w64 (v8.1 + 1)), v8.2.1, v8.2.2.1, v8.2.2.2.1, v11)))))) else (some (.inr (v8.2.1, v8.2.2.1, v8.2.2.2.1, v8.2.2.2.2))))
def synthesisref16_Lists (a0 : List Int) : Option ((La) × (Int)) := (Option.bind (synthesisref16_values (a0) (2)) fun v1 => (Option.bind (synthesisref16_check (v1)) fun v2 => (bif (v2 != 0) then (some ((La.mk ((⟨#[]⟩ : ByteArray)) (([] : List Int)) (([] : List Sy)) (([] : List Ru))), v2)) else (Option.bind (synthesisref16_begin_h ((⟨#[108, 105, 115, 116, 115]⟩ : ByteArray)) (5) ((⟨#[108, 105, 115, 116]⟩ : ByteArray)) (5) ((⟨#[110, 117, 109, 98, 101, 114]⟩ : ByteArray)) (2)) fun v3 => (Option.bind (synthesisref16_writer_input_h (((⟨#[108, 105, 115, 116, 115]⟩ : ByteArray))) (([(5)] : List (Int))) (([(Sy.mk (((⟨#[108, 105, 115, 116]⟩ : ByteArray))) ((5))), (Sy.mk (((⟨#[110, 117, 109, 98, 101, 114]⟩ : ByteArray))) ((2)))] : List (Sy))) (([] : List (Ru))) (0)) fun v4 => (Option.bind (synthesisref16_writer_op_h ((((⟨#[108, 105, 115, 116, 115]⟩ : ByteArray)))) ((([(5)] : List (Int)))) ((([(Sy.mk (((⟨#[108, 105, 115, 116]⟩ : ByteArray))) ((5))), (Sy.mk (((⟨#[110, 117, 109, 98, 101, 114]⟩ : ByteArray))) ((2)))] : List (Sy)))) (v4) (0) (([(⟨#[116, 97, 107, 101]⟩ : ByteArray), (⟨#[100, 114, 111, 112]⟩ : ByteArray), (⟨#[115, 104, 105, 102, 116]⟩ : ByteArray), (⟨#[115, 99, 97, 108, 101]⟩ : ByteArray), (⟨#[97, 98, 111, 118, 101]⟩ : ByteArray)] : List (ByteArray))) (([0, 1] : List (Int)))) fun v5 => (Option.bind (synthesisref16_writer_op_h (((((⟨#[108, 105, 115, 116, 115]⟩ : ByteArray))))) (((([(5)] : List (Int))))) (((([(Sy.mk (((⟨#[108, 105, 115, 116]⟩ : ByteArray))) ((5))), (Sy.mk (((⟨#[110, 117, 109, 98, 101, 114]⟩ : ByteArray))) ((2)))] : List (Sy))))) (v5) (0) (([(⟨#[114, 101, 118, 101, 114, 115, 101]⟩ : ByteArray), (⟨#[115, 111, 114, 116]⟩ : ByteArray), (⟨#[117, 110, 105, 113, 117, 101]⟩ : ByteArray), (⟨#[101, 118, 101, 110]⟩ : ByteArray), (⟨#[114, 117, 110, 110, 105, 110, 103]⟩ : ByteArray)] : List (ByteArray))) (([0] : List (Int)))) fun v6 => (Option.bind (synthesisref16_writer_op_h ((((((⟨#[108, 105, 115, 116, 115]⟩ : ByteArray)))))) ((((([(5)] : List (Int)))))) ((((([(Sy.mk (((⟨#[108, 105, 115, 116]⟩ : ByteArray))) ((5))), (Sy.mk (((⟨#[110, 117, 109, 98, 101, 114]⟩ : ByteArray))) ((2)))] : List (Sy)))))) (v6) (0) (([(⟨#[122, 105, 112]⟩ : ByteArray), (⟨#[97, 112, 112, 101, 110, 100]⟩ : ByteArray)] : List (ByteArray))) (([0, 0] : List (Int)))) fun v7 => (Option.bind (loopN (synthesisref16_Lists_l1 a0) fuel (0, ((((((⟨#[108, 105, 115, 116, 115]⟩ : ByteArray)))))), ((((([(5)] : List (Int)))))), ((((([(Sy.mk (((⟨#[108, 105, 115, 116]⟩ : ByteArray))) ((5))), (Sy.mk (((⟨#[110, 117, 109, 98, 101, 114]⟩ : ByteArray))) ((2)))] : List (Sy)))))), v7)) fun (v13 : (ByteArray) × (List Int) × (List Sy) × (List Ru)) => (Option.bind (synthesisref16_writer_op_h (v13.1) (v13.2.1) (v13.2.2.1) (v13.2.2.2) (1) (([(⟨#[104, 101, 97, 100]⟩ : ByteArray), (⟨#[108, 97, 115, 116]⟩ : ByteArray), (⟨#[115, 117, 109]⟩ : ByteArray), (⟨#[109, 97, 120, 105, 109, 117, 109]⟩ : ByteArray), (⟨#[109, 105, 110, 105, 109, 117, 109]⟩ : ByteArray), (⟨#[108, 101, 110, 103, 116, 104]⟩ : ByteArray)] : List (ByteArray))) (([0] : List (Int)))) fun v14 => (Option.bind (synthesisref16_writer_op_h (v13.1) (v13.2.1) (v13.2.2.1) (v14) (1) (([(⟨#[101, 108, 101, 109, 101, 110, 116]⟩ : ByteArray), (⟨#[99, 111, 117, 110, 116]⟩ : ByteArray)] : List (ByteArray))) (([0, 1] : List (Int)))) fun v15 => (some ((La.mk (v13.1) (v13.2.1) (v13.2.2.1) (v15)), 0)))))))))))))
theorem synthesisref16_Lists_ok (a0 : List Int) (r : (La) × (Int)) (h : synthesisref16_Lists a0 = some r) : PCall Try.prog 29 [(eL 1 eI) a0] (.tup [eLa (r.1), eI (r.2)]) := by
 unfold synthesisref16_Lists at h
 refine pcl [.ag [.keep, .sl 1, .sl 2, .sl 9], .one .keep] Try.func29 (by kernel_rfl) (by kernel_rfl) (by kernel_rfl) ?_
 refine cl 9 h (synthesisref16_values_ok _ _) (by kernel_rfl) fun v1 h => ?_
 refine cl 0 h (synthesisref16_check_ok _) (by kernel_rfl) fun v2 h => ?_
 refine cd 7 h (by kernel_rfl) (fun h => ?_) fun h => ?_
 ·cases h; exact lq 8 (by kernel_rfl)
 refine hcl 3 [.one .keep, .one .keep, .one .keep, .one .keep, .one .keep, .one .keep] [] [(1, 2), (2, 3)] [] h (synthesisref16_begin_h_ok _ _ _ _ _ _) (fun _ => by kernel_rfl) fun v3 h => ?_
 refine wle 5 ((le_a (by kernel_rfl) : LeSt _ ⟨54, [(0, (.fz ((eL 1 eI) (a0)))), (2, (.ref 1 0 0)), (5, (.ref 2 0 0)), (15, (.ref 2 0 0))], [(1, (.box 27 [(fS ((⟨#[]⟩ : ByteArray))), (.fz (.atom (.slice none 0 0))), (.fz (.atom (.slice none 0 0))), (.fz (.atom (.slice none 0 0)))])), (2, (.box 91 [(fS (((⟨#[108, 105, 115, 116, 115]⟩ : ByteArray)))), (.fz ((eL 1 eI) (([(5)] : List (Int))))), (.fz ((eL 2 eSy) (([(Sy.mk (((⟨#[108, 105, 115, 116]⟩ : ByteArray))) ((5))), (Sy.mk (((⟨#[110, 117, 109, 98, 101, 114]⟩ : ByteArray))) ((2)))] : List (Sy))))), (.row 3 (List.length (([] : List (Ru)))))])), (3, (.frow 67 9 (List.map eRu (([] : List (Ru))))))], [2, 3, 1], []⟩)) (by kernel_rfl) ?_
 refine hcl 0 [.one .keep, .one .keep] [(2, 1), (3, 2)] [(1, 2), (2, 3)] [1, 2] h (synthesisref16_writer_input_h_ok _ _ _ _ _) (fun _ => by kernel_rfl) fun v4 h => ?_
 refine hcl 6 [.one .keep, .one .keep, (.one (.sl 1)), (.one (.sl 1))] [(2, 1), (3, 2)] [(1, 2), (2, 3)] [1, 2] h (synthesisref16_writer_op_h_ok _ _ _ _ _ _ _) (fun _ => by kernel_rfl) fun v5 h => ?_
 refine hcl 6 [.one .keep, .one .keep, (.one (.sl 1)), (.one (.sl 1))] [(2, 1), (3, 2)] [(1, 2), (2, 3)] [1, 2] h (synthesisref16_writer_op_h_ok _ _ _ _ _ _ _) (fun _ => by kernel_rfl) fun v6 h => ?_
 refine hcl 6 [.one .keep, .one .keep, (.one (.sl 1)), (.one (.sl 1))] [(2, 1), (3, 2)] [(1, 2), (2, 3)] [1, 2] h (synthesisref16_writer_op_h_ok _ _ _ _ _ _ _) (fun _ => by kernel_rfl) fun v7 h => ?_
 refine lp1 7 (fun v8 => ⟨54, [(0, (.fz ((eL 1 eI) (a0)))), (2, (.ref 1 0 0)), (5, (.ref 2 0 0)), (6, (fI (v8.1)))], [(1, (.box 27 [(fS ((⟨#[]⟩ : ByteArray))), (.fz (.atom (.slice none 0 0))), (.fz (.atom (.slice none 0 0))), (.fz (.atom (.slice none 0 0)))])), (2, (.box 91 [(fS (v8.2.1)), (.fz ((eL 1 eI) (v8.2.2.1))), (.fz ((eL 2 eSy) (v8.2.2.2.1))), (.row 3 (List.length (v8.2.2.2.2)))])), (3, (.frow 67 9 (List.map eRu (v8.2.2.2.2))))], [2, 3, 1], []⟩) (.exit 0) (fun v13 => ⟨54, [(2, (.ref 1 0 0)), (5, (.ref 2 0 0))], [(1, (.box 27 [(fS ((⟨#[]⟩ : ByteArray))), (.fz (.atom (.slice none 0 0))), (.fz (.atom (.slice none 0 0))), (.fz (.atom (.slice none 0 0)))])), (2, (.box 91 [(fS (v13.1)), (.fz ((eL 1 eI) (v13.2.1))), (.fz ((eL 2 eSy) (v13.2.2.1))), (.row 3 (List.length (v13.2.2.2)))])), (3, (.frow 67 9 (List.map eRu (v13.2.2.2))))], [2, 3, 1], []⟩) h (by kernel_rfl) (by kernel_rfl) (fun v8 r h => ?_) fun v13 h => ?_
 ·unfold synthesisref16_Lists_l1 at h
  refine cd 8 h (by kernel_rfl) (fun h => ?_) fun h => ?_
  ·refine ix nI 7 h (by kernel_rfl) fun v9 h => ?_
   refine cl 1 h (synthesisref01_OfInt_ok _) (by kernel_rfl) fun v10 h => ?_
   refine hcl 0 [.one .keep, .one .keep, .one .keep] [(2, 1), (3, 2)] [(1, 2), (2, 3)] [1, 2] h (synthesisref16_writer_constant_h_ok _ _ _ _ _ _) (fun _ => by kernel_rfl) fun v11 h => ?_
   cases h; exact lj 6 (by kernel_rfl)
  cases h; exact lo 1 (by kernel_rfl)
 refine hcl 5 [.one .keep, .one .keep, (.one (.sl 1)), (.one (.sl 1))] [(2, 1), (3, 2)] [(1, 2), (2, 3)] [1, 2] h (synthesisref16_writer_op_h_ok _ _ _ _ _ _ _) (fun _ => by kernel_rfl) fun v14 h => ?_
 refine hcl 6 [.one .keep, .one .keep, (.one (.sl 1)), (.one (.sl 1))] [(2, 1), (3, 2)] [(1, 2), (2, 3)] [1, 2] h (synthesisref16_writer_op_h_ok _ _ _ _ _ _ _) (fun _ => by kernel_rfl) fun v15 h => ?_
 refine wle 10 (le_freezeCell (e2 := 27) (id2 := 1) (j := 3) (id := 3) (n := List.length (v15)) (e := 67) (size := 9) (xs := List.map eRu (v15)) (cells := [(fS (v13.1)), (.fz ((eL 1 eI) (v13.2.1))), (.fz ((eL 2 eSy) (v13.2.2.1))), (.row 3 (List.length (v15)))]) (by kernel_rfl) (by kernel_rfl) (by kernel_rfl) (by simp)) (by kernel_rfl) ?_
 cases h; exact lq 1 (by kernel_rfl)

def synthesisref01_OfBits (a0 : Int) : Option (Va) := (some (Va.mk (4) (a0) ((⟨#[]⟩ : ByteArray)) (([] : List Va))))
theorem synthesisref01_OfBits_ok (a0 : Int) (r : Va) (h : synthesisref01_OfBits a0 = some r) : PCall Try.prog 82 [eI a0] (eVa (r)) := by
 unfold synthesisref01_OfBits at h
 refine pcl [.ag [.keep, .keep, .keep, .sl 4]] Try.func82 (by kernel_rfl) (by kernel_rfl) (by kernel_rfl) ?_
 cases h; exact lq 11 (by kernel_rfl)

def synthesisref16_Vectors_l1 (v10 : (ByteArray) × (List Int) × (List Sy) × (List Ru)) (v14 : (Int) × (List Ru)) : Option (((Int) × (List Ru)) ⊕ ((List Ru))) := (bif (decide (v14.1 ≤ 4)) then (Option.bind (synthesisref01_OfInt (v14.1)) fun v15 => (Option.bind (synthesisref16_writer_constant_h (v10.1) (v10.2.1) (v10.2.2.1) (v14.2) (1) (v15)) fun v16 => (some (.inl ((w64 (2 * v14.1)), v16))))) else (some (.inr (v14.2))))
def synthesisref16_Vectors_l2 (a0 : List Int) (v5 : (Int) × (ByteArray) × (List Int) × (List Sy) × (List Ru)) : Option (((Int) × (ByteArray) × (List Int) × (List Sy) × (List Ru)) ⊕ ((ByteArray) × (List Int) × (List Sy) × (List Ru))) := (bif (decide (v5.1 < (List.length a0 : Int))) then (Option.bind (idx a0 v5.1) fun v6 => (Option.bind (synthesisref01_OfBits (v6)) fun v7 => (Option.bind (synthesisref16_writer_constant_h (v5.2.1) (v5.2.2.1) (v5.2.2.2.1) (v5.2.2.2.2) (0) (v7)) fun v8 => (some (.inl ((w64 (v5.1 + 1)), v5.2.1, v5.2.2.1, v5.2.2.2.1, v8)))))) else (some (.inr (v5.2.1, v5.2.2.1, v5.2.2.2.1, v5.2.2.2.2))))
def synthesisref16_Vectors (a0 : List Int) : Option ((La) × (Int)) := (Option.bind (synthesisref16_values (a0) (4)) fun v1 => (Option.bind (synthesisref16_check (v1)) fun v2 => (bif (v2 != 0) then (some ((La.mk ((⟨#[]⟩ : ByteArray)) (([] : List Int)) (([] : List Sy)) (([] : List Ru))), v2)) else (Option.bind (synthesisref16_begin_h ((⟨#[118, 101, 99, 116, 111, 114, 115]⟩ : ByteArray)) (4) ((⟨#[98, 105, 116, 115]⟩ : ByteArray)) (4) ((⟨#[110, 117, 109, 98, 101, 114]⟩ : ByteArray)) (2)) fun v3 => (Option.bind (synthesisref16_writer_input_h (((⟨#[118, 101, 99, 116, 111, 114, 115]⟩ : ByteArray))) (([(4)] : List (Int))) (([(Sy.mk (((⟨#[98, 105, 116, 115]⟩ : ByteArray))) ((4))), (Sy.mk (((⟨#[110, 117, 109, 98, 101, 114]⟩ : ByteArray))) ((2)))] : List (Sy))) (([] : List (Ru))) (0)) fun v4 => (Option.bind (loopN (synthesisref16_Vectors_l2 a0) fuel (0, (((⟨#[118, 101, 99, 116, 111, 114, 115]⟩ : ByteArray))), (([(4)] : List (Int))), (([(Sy.mk (((⟨#[98, 105, 116, 115]⟩ : ByteArray))) ((4))), (Sy.mk (((⟨#[110, 117, 109, 98, 101, 114]⟩ : ByteArray))) ((2)))] : List (Sy))), v4)) fun (v10 : (ByteArray) × (List Int) × (List Sy) × (List Ru)) => (Option.bind (synthesisref16_writer_op_h (v10.1) (v10.2.1) (v10.2.2.1) (v10.2.2.2) (0) (([(⟨#[98, 97, 110, 100]⟩ : ByteArray), (⟨#[98, 111, 114]⟩ : ByteArray), (⟨#[98, 120, 111, 114]⟩ : ByteArray), (⟨#[98, 97, 100, 100]⟩ : ByteArray), (⟨#[98, 115, 117, 98]⟩ : ByteArray), (⟨#[98, 109, 117, 108]⟩ : ByteArray)] : List (ByteArray))) (([0, 0] : List (Int)))) fun v11 => (Option.bind (synthesisref16_writer_op_h (v10.1) (v10.2.1) (v10.2.2.1) (v11) (0) (([(⟨#[98, 110, 111, 116]⟩ : ByteArray)] : List (ByteArray))) (([0] : List (Int)))) fun v12 => (Option.bind (synthesisref16_writer_op_h (v10.1) (v10.2.1) (v10.2.2.1) (v12) (0) (([(⟨#[98, 108, 101, 102, 116]⟩ : ByteArray), (⟨#[98, 114, 105, 103, 104, 116]⟩ : ByteArray), (⟨#[98, 97, 114, 105, 116, 104]⟩ : ByteArray)] : List (ByteArray))) (([0, 1] : List (Int)))) fun v13 => (Option.bind (loopN (synthesisref16_Vectors_l1 v10) fuel (1, v13)) fun (v18 : (List Ru)) => (Option.bind (synthesisref16_writer_op_h (v10.1) (v10.2.1) (v10.2.2.1) (v18) (1) (([(⟨#[111, 110, 101, 115]⟩ : ByteArray)] : List (ByteArray))) (([0] : List (Int)))) fun v19 => (some ((La.mk (v10.1) (v10.2.1) (v10.2.2.1) (v19)), 0)))))))))))))
theorem synthesisref16_Vectors_ok (a0 : List Int) (r : (La) × (Int)) (h : synthesisref16_Vectors a0 = some r) : PCall Try.prog 31 [(eL 1 eI) a0] (.tup [eLa (r.1), eI (r.2)]) := by
 unfold synthesisref16_Vectors at h
 refine pcl [.ag [.keep, .sl 1, .sl 2, .sl 9], .one .keep] Try.func31 (by kernel_rfl) (by kernel_rfl) (by kernel_rfl) ?_
 refine cl 9 h (synthesisref16_values_ok _ _) (by kernel_rfl) fun v1 h => ?_
 refine cl 0 h (synthesisref16_check_ok _) (by kernel_rfl) fun v2 h => ?_
 refine cd 7 h (by kernel_rfl) (fun h => ?_) fun h => ?_
 ·cases h; exact lq 8 (by kernel_rfl)
 refine hcl 3 [.one .keep, .one .keep, .one .keep, .one .keep, .one .keep, .one .keep] [] [(1, 2), (2, 3)] [] h (synthesisref16_begin_h_ok _ _ _ _ _ _) (fun _ => by kernel_rfl) fun v3 h => ?_
 refine wle 5 ((le_a (by kernel_rfl) : LeSt _ ⟨59, [(0, (.fz ((eL 1 eI) (a0)))), (2, (.ref 1 0 0)), (5, (.ref 2 0 0)), (16, (.ref 2 0 0))], [(1, (.box 27 [(fS ((⟨#[]⟩ : ByteArray))), (.fz (.atom (.slice none 0 0))), (.fz (.atom (.slice none 0 0))), (.fz (.atom (.slice none 0 0)))])), (2, (.box 91 [(fS (((⟨#[118, 101, 99, 116, 111, 114, 115]⟩ : ByteArray)))), (.fz ((eL 1 eI) (([(4)] : List (Int))))), (.fz ((eL 2 eSy) (([(Sy.mk (((⟨#[98, 105, 116, 115]⟩ : ByteArray))) ((4))), (Sy.mk (((⟨#[110, 117, 109, 98, 101, 114]⟩ : ByteArray))) ((2)))] : List (Sy))))), (.row 3 (List.length (([] : List (Ru)))))])), (3, (.frow 67 9 (List.map eRu (([] : List (Ru))))))], [2, 3, 1], []⟩)) (by kernel_rfl) ?_
 refine hcl 0 [.one .keep, .one .keep] [(2, 1), (3, 2)] [(1, 2), (2, 3)] [1, 2] h (synthesisref16_writer_input_h_ok _ _ _ _ _) (fun _ => by kernel_rfl) fun v4 h => ?_
 refine lp1 7 (fun v5 => ⟨59, [(0, (.fz ((eL 1 eI) (a0)))), (2, (.ref 1 0 0)), (5, (.ref 2 0 0)), (6, (fI (v5.1)))], [(1, (.box 27 [(fS ((⟨#[]⟩ : ByteArray))), (.fz (.atom (.slice none 0 0))), (.fz (.atom (.slice none 0 0))), (.fz (.atom (.slice none 0 0)))])), (2, (.box 91 [(fS (v5.2.1)), (.fz ((eL 1 eI) (v5.2.2.1))), (.fz ((eL 2 eSy) (v5.2.2.2.1))), (.row 3 (List.length (v5.2.2.2.2)))])), (3, (.frow 67 9 (List.map eRu (v5.2.2.2.2))))], [2, 3, 1], []⟩) (.exit 0) (fun v10 => ⟨59, [(2, (.ref 1 0 0)), (5, (.ref 2 0 0))], [(1, (.box 27 [(fS ((⟨#[]⟩ : ByteArray))), (.fz (.atom (.slice none 0 0))), (.fz (.atom (.slice none 0 0))), (.fz (.atom (.slice none 0 0)))])), (2, (.box 91 [(fS (v10.1)), (.fz ((eL 1 eI) (v10.2.1))), (.fz ((eL 2 eSy) (v10.2.2.1))), (.row 3 (List.length (v10.2.2.2)))])), (3, (.frow 67 9 (List.map eRu (v10.2.2.2))))], [2, 3, 1], []⟩) h (by kernel_rfl) (by kernel_rfl) (fun v5 r h => ?_) fun v10 h => ?_
 ·unfold synthesisref16_Vectors_l2 at h
  refine cd 8 h (by kernel_rfl) (fun h => ?_) fun h => ?_
  ·refine ix nI 7 h (by kernel_rfl) fun v6 h => ?_
   refine cl 1 h (synthesisref01_OfBits_ok _) (by kernel_rfl) fun v7 h => ?_
   refine hcl 0 [.one .keep, .one .keep, .one .keep] [(2, 1), (3, 2)] [(1, 2), (2, 3)] [1, 2] h (synthesisref16_writer_constant_h_ok _ _ _ _ _ _) (fun _ => by kernel_rfl) fun v8 h => ?_
   cases h; exact lj 6 (by kernel_rfl)
  cases h; exact lo 1 (by kernel_rfl)
 refine hcl 5 [.one .keep, .one .keep, (.one (.sl 1)), (.one (.sl 1))] [(2, 1), (3, 2)] [(1, 2), (2, 3)] [1, 2] h (synthesisref16_writer_op_h_ok _ _ _ _ _ _ _) (fun _ => by kernel_rfl) fun v11 h => ?_
 refine hcl 6 [.one .keep, .one .keep, (.one (.sl 1)), (.one (.sl 1))] [(2, 1), (3, 2)] [(1, 2), (2, 3)] [1, 2] h (synthesisref16_writer_op_h_ok _ _ _ _ _ _ _) (fun _ => by kernel_rfl) fun v12 h => ?_
 refine hcl 6 [.one .keep, .one .keep, (.one (.sl 1)), (.one (.sl 1))] [(2, 1), (3, 2)] [(1, 2), (2, 3)] [1, 2] h (synthesisref16_writer_op_h_ok _ _ _ _ _ _ _) (fun _ => by kernel_rfl) fun v13 h => ?_
 refine lp1 7 (fun v14 => ⟨59, [(2, (.ref 1 0 0)), (5, (.ref 2 0 0)), (7, (fI (v14.1)))], [(1, (.box 27 [(fS ((⟨#[]⟩ : ByteArray))), (.fz (.atom (.slice none 0 0))), (.fz (.atom (.slice none 0 0))), (.fz (.atom (.slice none 0 0)))])), (2, (.box 91 [(fS (v10.1)), (.fz ((eL 1 eI) (v10.2.1))), (.fz ((eL 2 eSy) (v10.2.2.1))), (.row 3 (List.length (v14.2)))])), (3, (.frow 67 9 (List.map eRu (v14.2))))], [2, 3, 1], []⟩) (.exit 2) (fun v18 => ⟨59, [(2, (.ref 1 0 0)), (5, (.ref 2 0 0))], [(1, (.box 27 [(fS ((⟨#[]⟩ : ByteArray))), (.fz (.atom (.slice none 0 0))), (.fz (.atom (.slice none 0 0))), (.fz (.atom (.slice none 0 0)))])), (2, (.box 91 [(fS (v10.1)), (.fz ((eL 1 eI) (v10.2.1))), (.fz ((eL 2 eSy) (v10.2.2.1))), (.row 3 (List.length (v18)))])), (3, (.frow 67 9 (List.map eRu (v18))))], [2, 3, 1], []⟩) h (by kernel_rfl) (by kernel_rfl) (fun v14 r h => ?_) fun v18 h => ?_
 ·unfold synthesisref16_Vectors_l1 at h
  refine cd 6 h (by kernel_rfl) (fun h => ?_) fun h => ?_
  ·refine cl 6 h (synthesisref01_OfInt_ok _) (by kernel_rfl) fun v15 h => ?_
   refine hcl 0 [.one .keep, .one .keep, .one .keep] [(2, 1), (3, 2)] [(1, 2), (2, 3)] [1, 2] h (synthesisref16_writer_constant_h_ok _ _ _ _ _ _) (fun _ => by kernel_rfl) fun v16 h => ?_
   cases h; exact lj 6 (by kernel_rfl)
  cases h; exact lo 1 (by kernel_rfl)
 refine hcl 5 [.one .keep, .one .keep, (.one (.sl 1)), (.one (.sl 1))] [(2, 1), (3, 2)] [(1, 2), (2, 3)] [1, 2] h (synthesisref16_writer_op_h_ok _ _ _ _ _ _ _) (fun _ => by kernel_rfl) fun v19 h => ?_
 refine wle 10 (le_freezeCell (e2 := 27) (id2 := 1) (j := 3) (id := 3) (n := List.length (v19)) (e := 67) (size := 9) (xs := List.map eRu (v19)) (cells := [(fS (v10.1)), (.fz ((eL 1 eI) (v10.2.1))), (.fz ((eL 2 eSy) (v10.2.2.1))), (.row 3 (List.length (v19)))]) (by kernel_rfl) (by kernel_rfl) (by kernel_rfl) (by simp)) (by kernel_rfl) ?_
 cases h; exact lq 1 (by kernel_rfl)

def synthesisref16_Reshaping_l1 (a0 : List Int) (v8 : (Int) × (ByteArray) × (List Int) × (List Sy) × (List Ru)) : Option (((Int) × (ByteArray) × (List Int) × (List Sy) × (List Ru)) ⊕ ((ByteArray) × (List Int) × (List Sy) × (List Ru))) := (bif (decide (v8.1 < (List.length a0 : Int))) then (Option.bind (idx a0 v8.1) fun v9 => (Option.bind (synthesisref01_OfInt (v9)) fun v10 => (Option.bind (synthesisref16_writer_constant_h (v8.2.1) (v8.2.2.1) (v8.2.2.2.1) (v8.2.2.2.2) (1) (v10)) fun v11 => (some (.inl ((w64 (v8.1 + 1)), v8.2.1, v8.2.2.1, v8.2.2.2.1, v11)))))) else (some (.inr (v8.2.1, v8.2.2.1, v8.2.2.2.1, v8.2.2.2.2))))
def synthesisref16_Reshaping (a0 : List Int) : Option ((La) × (Int)) := (Option.bind (synthesisref16_values (a0) (2)) fun v1 => (Option.bind (synthesisref16_check (v1)) fun v2 => (bif (v2 != 0) then (some ((La.mk ((⟨#[]⟩ : ByteArray)) (([] : List Int)) (([] : List Sy)) (([] : List Ru))), v2)) else (Option.bind (synthesisref16_begin_h ((⟨#[116, 97, 98, 108, 101, 115]⟩ : ByteArray)) (7) ((⟨#[116, 97, 98, 108, 101]⟩ : ByteArray)) (7) ((⟨#[110, 117, 109, 98, 101, 114]⟩ : ByteArray)) (2)) fun v3 => (Option.bind (synthesisref16_writer_input_h (((⟨#[116, 97, 98, 108, 101, 115]⟩ : ByteArray))) (([(7)] : List (Int))) (([(Sy.mk (((⟨#[116, 97, 98, 108, 101]⟩ : ByteArray))) ((7))), (Sy.mk (((⟨#[110, 117, 109, 98, 101, 114]⟩ : ByteArray))) ((2)))] : List (Sy))) (([] : List (Ru))) (0)) fun v4 => (Option.bind (synthesisref16_writer_op_h ((((⟨#[116, 97, 98, 108, 101, 115]⟩ : ByteArray)))) ((([(7)] : List (Int)))) ((([(Sy.mk (((⟨#[116, 97, 98, 108, 101]⟩ : ByteArray))) ((7))), (Sy.mk (((⟨#[110, 117, 109, 98, 101, 114]⟩ : ByteArray))) ((2)))] : List (Sy)))) (v4) (0) (([(⟨#[116, 114, 97, 110, 115, 112, 111, 115, 101]⟩ : ByteArray), (⟨#[102, 105, 108, 108]⟩ : ByteArray), (⟨#[112, 105, 118, 111, 116]⟩ : ByteArray)] : List (ByteArray))) (([0] : List (Int)))) fun v5 => (Option.bind (synthesisref16_writer_op_h (((((⟨#[116, 97, 98, 108, 101, 115]⟩ : ByteArray))))) (((([(7)] : List (Int))))) (((([(Sy.mk (((⟨#[116, 97, 98, 108, 101]⟩ : ByteArray))) ((7))), (Sy.mk (((⟨#[110, 117, 109, 98, 101, 114]⟩ : ByteArray))) ((2)))] : List (Sy))))) (v5) (0) (([(⟨#[100, 114, 111, 112, 114, 111, 119]⟩ : ByteArray), (⟨#[100, 114, 111, 112, 99, 111, 108, 117, 109, 110]⟩ : ByteArray), (⟨#[115, 111, 114, 116, 116, 97, 98, 108, 101]⟩ : ByteArray), (⟨#[117, 110, 112, 105, 118, 111, 116]⟩ : ByteArray)] : List (ByteArray))) (([0, 1] : List (Int)))) fun v6 => (Option.bind (synthesisref16_writer_op_h ((((((⟨#[116, 97, 98, 108, 101, 115]⟩ : ByteArray)))))) ((((([(7)] : List (Int)))))) ((((([(Sy.mk (((⟨#[116, 97, 98, 108, 101]⟩ : ByteArray))) ((7))), (Sy.mk (((⟨#[110, 117, 109, 98, 101, 114]⟩ : ByteArray))) ((2)))] : List (Sy)))))) (v6) (0) (([(⟨#[115, 116, 97, 99, 107]⟩ : ByteArray), (⟨#[98, 101, 115, 105, 100, 101]⟩ : ByteArray)] : List (ByteArray))) (([0, 0] : List (Int)))) fun v7 => (Option.bind (loopN (synthesisref16_Reshaping_l1 a0) fuel (0, ((((((⟨#[116, 97, 98, 108, 101, 115]⟩ : ByteArray)))))), ((((([(7)] : List (Int)))))), ((((([(Sy.mk (((⟨#[116, 97, 98, 108, 101]⟩ : ByteArray))) ((7))), (Sy.mk (((⟨#[110, 117, 109, 98, 101, 114]⟩ : ByteArray))) ((2)))] : List (Sy)))))), v7)) fun (v13 : (ByteArray) × (List Int) × (List Sy) × (List Ru)) => (some ((La.mk (v13.1) (v13.2.1) (v13.2.2.1) (v13.2.2.2)), 0)))))))))))
theorem synthesisref16_Reshaping_ok (a0 : List Int) (r : (La) × (Int)) (h : synthesisref16_Reshaping a0 = some r) : PCall Try.prog 33 [(eL 1 eI) a0] (.tup [eLa (r.1), eI (r.2)]) := by
 unfold synthesisref16_Reshaping at h
 refine pcl [.ag [.keep, .sl 1, .sl 2, .sl 9], .one .keep] Try.func33 (by kernel_rfl) (by kernel_rfl) (by kernel_rfl) ?_
 refine cl 9 h (synthesisref16_values_ok _ _) (by kernel_rfl) fun v1 h => ?_
 refine cl 0 h (synthesisref16_check_ok _) (by kernel_rfl) fun v2 h => ?_
 refine cd 7 h (by kernel_rfl) (fun h => ?_) fun h => ?_
 ·cases h; exact lq 8 (by kernel_rfl)
 refine hcl 3 [.one .keep, .one .keep, .one .keep, .one .keep, .one .keep, .one .keep] [] [(1, 2), (2, 3)] [] h (synthesisref16_begin_h_ok _ _ _ _ _ _) (fun _ => by kernel_rfl) fun v3 h => ?_
 refine wle 5 ((le_a (by kernel_rfl) : LeSt _ ⟨46, [(0, (.fz ((eL 1 eI) (a0)))), (2, (.ref 1 0 0)), (5, (.ref 2 0 0)), (15, (.ref 2 0 0))], [(1, (.box 27 [(fS ((⟨#[]⟩ : ByteArray))), (.fz (.atom (.slice none 0 0))), (.fz (.atom (.slice none 0 0))), (.fz (.atom (.slice none 0 0)))])), (2, (.box 91 [(fS (((⟨#[116, 97, 98, 108, 101, 115]⟩ : ByteArray)))), (.fz ((eL 1 eI) (([(7)] : List (Int))))), (.fz ((eL 2 eSy) (([(Sy.mk (((⟨#[116, 97, 98, 108, 101]⟩ : ByteArray))) ((7))), (Sy.mk (((⟨#[110, 117, 109, 98, 101, 114]⟩ : ByteArray))) ((2)))] : List (Sy))))), (.row 3 (List.length (([] : List (Ru)))))])), (3, (.frow 67 9 (List.map eRu (([] : List (Ru))))))], [2, 3, 1], []⟩)) (by kernel_rfl) ?_
 refine hcl 0 [.one .keep, .one .keep] [(2, 1), (3, 2)] [(1, 2), (2, 3)] [1, 2] h (synthesisref16_writer_input_h_ok _ _ _ _ _) (fun _ => by kernel_rfl) fun v4 h => ?_
 refine hcl 6 [.one .keep, .one .keep, (.one (.sl 1)), (.one (.sl 1))] [(2, 1), (3, 2)] [(1, 2), (2, 3)] [1, 2] h (synthesisref16_writer_op_h_ok _ _ _ _ _ _ _) (fun _ => by kernel_rfl) fun v5 h => ?_
 refine hcl 6 [.one .keep, .one .keep, (.one (.sl 1)), (.one (.sl 1))] [(2, 1), (3, 2)] [(1, 2), (2, 3)] [1, 2] h (synthesisref16_writer_op_h_ok _ _ _ _ _ _ _) (fun _ => by kernel_rfl) fun v6 h => ?_
 refine hcl 6 [.one .keep, .one .keep, (.one (.sl 1)), (.one (.sl 1))] [(2, 1), (3, 2)] [(1, 2), (2, 3)] [1, 2] h (synthesisref16_writer_op_h_ok _ _ _ _ _ _ _) (fun _ => by kernel_rfl) fun v7 h => ?_
 refine lp1 7 (fun v8 => ⟨46, [(0, (.fz ((eL 1 eI) (a0)))), (2, (.ref 1 0 0)), (5, (.ref 2 0 0)), (6, (fI (v8.1)))], [(1, (.box 27 [(fS ((⟨#[]⟩ : ByteArray))), (.fz (.atom (.slice none 0 0))), (.fz (.atom (.slice none 0 0))), (.fz (.atom (.slice none 0 0)))])), (2, (.box 91 [(fS (v8.2.1)), (.fz ((eL 1 eI) (v8.2.2.1))), (.fz ((eL 2 eSy) (v8.2.2.2.1))), (.row 3 (List.length (v8.2.2.2.2)))])), (3, (.frow 67 9 (List.map eRu (v8.2.2.2.2))))], [2, 3, 1], []⟩) (.exit 0) (fun v13 => ⟨46, [(2, (.ref 1 0 0)), (5, (.ref 2 0 0))], [(1, (.box 27 [(fS ((⟨#[]⟩ : ByteArray))), (.fz (.atom (.slice none 0 0))), (.fz (.atom (.slice none 0 0))), (.fz (.atom (.slice none 0 0)))])), (2, (.box 91 [(fS (v13.1)), (.fz ((eL 1 eI) (v13.2.1))), (.fz ((eL 2 eSy) (v13.2.2.1))), (.row 3 (List.length (v13.2.2.2)))])), (3, (.frow 67 9 (List.map eRu (v13.2.2.2))))], [2, 3, 1], []⟩) h (by kernel_rfl) (by kernel_rfl) (fun v8 r h => ?_) fun v13 h => ?_
 ·unfold synthesisref16_Reshaping_l1 at h
  refine cd 8 h (by kernel_rfl) (fun h => ?_) fun h => ?_
  ·refine ix nI 7 h (by kernel_rfl) fun v9 h => ?_
   refine cl 1 h (synthesisref01_OfInt_ok _) (by kernel_rfl) fun v10 h => ?_
   refine hcl 0 [.one .keep, .one .keep, .one .keep] [(2, 1), (3, 2)] [(1, 2), (2, 3)] [1, 2] h (synthesisref16_writer_constant_h_ok _ _ _ _ _ _) (fun _ => by kernel_rfl) fun v11 h => ?_
   cases h; exact lj 6 (by kernel_rfl)
  cases h; exact lo 1 (by kernel_rfl)
 refine wle 9 (le_freezeCell (e2 := 27) (id2 := 1) (j := 3) (id := 3) (n := List.length (v13.2.2.2)) (e := 67) (size := 9) (xs := List.map eRu (v13.2.2.2)) (cells := [(fS (v13.1)), (.fz ((eL 1 eI) (v13.2.1))), (.fz ((eL 2 eSy) (v13.2.2.1))), (.row 3 (List.length (v13.2.2.2)))]) (by kernel_rfl) (by kernel_rfl) (by kernel_rfl) (by simp)) (by kernel_rfl) ?_
 cases h; exact lq 1 (by kernel_rfl)

def synthesisref16_Get (a0 : ByteArray) : Option ((La) × (Int)) := (bif (a0.toList == (⟨#[115, 116, 114, 105, 110, 103, 115]⟩ : ByteArray).toList) then (Option.bind (synthesisref16_Strings (([(⟨#[32]⟩ : ByteArray), (⟨#[45]⟩ : ByteArray), (⟨#[46]⟩ : ByteArray)] : List (ByteArray))) (([0, 1, (-1)] : List (Int)))) fun v1 => (some (v1.1, v1.2))) else (bif (a0.toList == (⟨#[112, 97, 116, 116, 101, 114, 110, 115]⟩ : ByteArray).toList) then (Option.bind (synthesisref16_Patterns ((⟨#[97, 98]⟩ : ByteArray))) fun v2 => (some (v2.1, v2.2))) else (bif (a0.toList == (⟨#[108, 105, 115, 116, 115]⟩ : ByteArray).toList) then (Option.bind (synthesisref16_Lists (([0, 1, 2] : List (Int)))) fun v3 => (some (v3.1, v3.2))) else (bif (a0.toList == (⟨#[118, 101, 99, 116, 111, 114, 115]⟩ : ByteArray).toList) then (Option.bind (synthesisref16_Vectors (([1, 15, 128] : List (Int)))) fun v4 => (some (v4.1, v4.2))) else (bif (a0.toList == (⟨#[116, 97, 98, 108, 101, 115]⟩ : ByteArray).toList) then (Option.bind (synthesisref16_Reshaping (([0, 1] : List (Int)))) fun v5 => (some (v5.1, v5.2))) else (some ((La.mk ((⟨#[]⟩ : ByteArray)) (([] : List Int)) (([] : List Sy)) (([] : List Ru))), 5)))))))
theorem synthesisref16_Get_ok (a0 : ByteArray) (r : (La) × (Int)) (h : synthesisref16_Get a0 = some r) : PCall Try.prog 20 [eS a0] (.tup [eLa (r.1), eI (r.2)]) := by
 unfold synthesisref16_Get at h
 refine pcl [.ag [.keep, .sl 1, .sl 2, .sl 9], .one .keep] Try.func20 (by kernel_rfl) (by kernel_rfl) (by kernel_rfl) ?_
 refine cd 16 h (by kernel_rfl) (fun h => ?_) fun h => ?_
 ·refine cl 4 h (synthesisref16_Strings_ok _ _) (by kernel_rfl) fun v1 h => ?_
  cases h; exact lq 6 (by kernel_rfl)
 refine cd 5 h (by kernel_rfl) (fun h => ?_) fun h => ?_
 ·refine cl 2 h (synthesisref16_Patterns_ok _) (by kernel_rfl) fun v2 h => ?_
  cases h; exact lq 6 (by kernel_rfl)
 refine cd 5 h (by kernel_rfl) (fun h => ?_) fun h => ?_
 ·refine cl 3 h (synthesisref16_Lists_ok _) (by kernel_rfl) fun v3 h => ?_
  cases h; exact lq 6 (by kernel_rfl)
 refine cd 5 h (by kernel_rfl) (fun h => ?_) fun h => ?_
 ·refine cl 3 h (synthesisref16_Vectors_ok _) (by kernel_rfl) fun v4 h => ?_
  cases h; exact lq 6 (by kernel_rfl)
 refine cd 5 h (by kernel_rfl) (fun h => ?_) fun h => ?_
 ·refine cl 3 h (synthesisref16_Reshaping_ok _) (by kernel_rfl) fun v5 h => ?_
  cases h; exact lq 6 (by kernel_rfl)
 cases h; exact lq 8 (by kernel_rfl)

def synthesisref11_SameInts_l1 (a0 : List Int) (a1 : List Int) (v1 : (Int)) : Option (((Int)) ⊕ (((Unit) ⊕ (Bool)))) := (bif (decide (v1 < (List.length a0 : Int))) then (Option.bind (idx a0 v1) fun v2 => (Option.bind (idx a1 v1) fun v3 => (bif (v2 != v3) then (some (.inr (.inr false))) else (some (.inl ((w64 (v1 + 1)))))))) else (some (.inr (.inl ()))))
def synthesisref11_SameInts (a0 : List Int) (a1 : List Int) : Option (Bool) := (bif ((List.length a0 : Int) != (List.length a1 : Int)) then (some false) else (Option.bind (loopN (synthesisref11_SameInts_l1 a0 a1) fuel (0)) fun (v4 : ((Unit) ⊕ (Bool))) => Sum.elim (fun v5 => (some true)) (fun v6 => (some v6)) v4))
theorem synthesisref11_SameInts_ok (a0 : List Int) (a1 : List Int) (r : Bool) (h : synthesisref11_SameInts a0 a1 = some r) : PCall Try.prog 60 [(eL 1 eI) a0, (eL 1 eI) a1] (eB (r)) := by
 unfold synthesisref11_SameInts at h
 refine pcl [.one .keep] Try.func60 (by kernel_rfl) (by kernel_rfl) (by kernel_rfl) ?_
 refine cd 13 h (by kernel_rfl) (fun h => ?_) fun h => ?_
 ·cases h; exact lq 5 (by kernel_rfl)
 refine lpx 7 (fun v1 => ⟨26, [(0, (.fz ((eL 1 eI) (a0)))), (1, (.fz ((eL 1 eI) (a1)))), (5, (fI (v1)))], [], [], []⟩) (fun v4 e st => Sum.elim (fun p => e = .exit 0 ∧ LeSt st ⟨26, [], [], [], []⟩) (fun p => e = .ret ∧ retX TT st Try.f60.results.toList [.one .keep] = some (eB (p))) v4) h (by kernel_rfl) (le_a (by kernel_rfl)) (fun v1 r h => ?_) fun v4 h e st' hq => ?_
 ·unfold synthesisref11_SameInts_l1 at h
  refine cd 8 h (by kernel_rfl) (fun h => ?_) fun h => ?_
  ·refine dw 4 8 (by kernel_rfl) ?_
   refine ix nI 2 h (by kernel_rfl) fun v2 h => ?_
   refine ix nI 3 h (by kernel_rfl) fun v3 h => ?_
   refine cd 4 h (by kernel_rfl) (fun h => ?_) fun h => ?_
   ·cases h; exact lor 5 (by kernel_rfl)
   cases h; exact lj 6 (by kernel_rfl)
  cases h; exact lo 1 (by kernel_rfl)
 rcases v4 with v5 | v6
 ·try simp only [Sum.elim_inl, Sum.elim_inr] at h
  obtain ⟨rfl, hle⟩ := hq
  refine ⟨_, hle, ?_⟩
  cases h; exact lq 5 (by kernel_rfl)
 ·try simp only [Sum.elim_inl, Sum.elim_inr] at h
  obtain ⟨rfl, hret⟩ := hq
  refine ⟨_, LeSt.refl, ?_⟩
  cases h; exact lv hret

def synthesisref11_SameRule (a0 : Ru) (a1 : Ru) : Option (Bool) := (Option.bind ((bif (a0.symbol == a1.symbol) then (bif (a0.kind == a1.kind) then (bif (a0.input == a1.input) then (bif (a0.op.toList == a1.op.toList) then (Option.bind (synthesisref11_SameInts (a0.args) (a1.args)) fun v1 => (bif v1 then (Option.bind (synthesisref01_Equal (a0.const) (a1.const)) fun v2 => (some (v2))) else (some (false)))) else (some (false))) else (some (false))) else (some (false))) else (some (false))) : Option ((Bool))) fun (v4 : (Bool)) => (some v4))
theorem synthesisref11_SameRule_ok (a0 : Ru) (a1 : Ru) (r : Bool) (h : synthesisref11_SameRule a0 a1 = some r) : PCall Try.prog 61 [eRu a0, eRu a1] (eB (r)) := by
 unfold synthesisref11_SameRule at h
 refine pcl [.one .keep] Try.func61 (by kernel_rfl) (by kernel_rfl) (by kernel_rfl) ?_
 refine jn1 7 .normal (fun v4 => ⟨45, [(4, (fB (v4)))], [], [], []⟩) h (by kernel_rfl) (fun v4 h => ?_) fun v4 h => ?_
 ·refine gd 7 h (by kernel_rfl) (fun h => ?_) fun h => ?_
  ·refine gd 7 h (by kernel_rfl) (fun h => ?_) fun h => ?_
   ·refine gd 7 h (by kernel_rfl) (fun h => ?_) fun h => ?_
    ·refine gd 7 h (by kernel_rfl) (fun h => ?_) fun h => ?_
     ·refine cl 4 h (synthesisref11_SameInts_ok _ _) (by kernel_rfl) fun v1 h => ?_
      refine gd 2 h (by kernel_rfl) (fun h => ?_) fun h => ?_
      ·refine cl 4 h (synthesisref01_Equal_ok _ _) (by kernel_rfl) fun v2 h => ?_
       cases h; exact lj 3 (by kernel_rfl)
      cases h; exact lj 8 (by kernel_rfl)
     cases h; exact lj 15 (by kernel_rfl)
    cases h; exact lj 22 (by kernel_rfl)
   cases h; exact lj 29 (by kernel_rfl)
  cases h; exact lj 36 (by kernel_rfl)
 cases h; exact lq 1 (by kernel_rfl)

def synthesisref11_Same_m0 (a0 : La) (a1 : La) : List (Nat × AObj) := [(1, (.box 27 [(fS (a0.name)), (.fz ((eL 1 eI) (a0.inputs))), (.fz ((eL 2 eSy) (a0.symbols))), (.fz ((eL 9 eRu) (a0.rules)))])), (2, (.box 27 [(fS (a1.name)), (.fz ((eL 1 eI) (a1.inputs))), (.fz ((eL 2 eSy) (a1.symbols))), (.fz ((eL 9 eRu) (a1.rules)))]))]
def synthesisref11_Same_l1 (a0 : La) (a1 : La) (v9 : (Int)) : Option (((Int)) ⊕ (((Unit) ⊕ (Bool)))) := (bif (decide (v9 < (List.length a0.rules : Int))) then (Option.bind (idx a0.rules v9) fun v10 => (Option.bind (idx a1.rules v9) fun v11 => (Option.bind (synthesisref11_SameRule (v10) (v11)) fun v12 => (bif (!v12) then (some (.inr (.inr false))) else (some (.inl ((w64 (v9 + 1))))))))) else (some (.inr (.inl ()))))
def synthesisref11_Same_l2 (a0 : La) (a1 : La) (v4 : (Int)) : Option (((Int)) ⊕ (((Unit) ⊕ (Bool)))) := (bif (decide (v4 < (List.length a0.symbols : Int))) then (Option.bind (idx a0.symbols v4) fun v5 => (Option.bind (idx a1.symbols v4) fun v6 => (bif (!((v5.name.toList == v6.name.toList) && ((v5.type == v6.type) && true))) then (some (.inr (.inr false))) else (some (.inl ((w64 (v4 + 1)))))))) else (some (.inr (.inl ()))))
def synthesisref11_Same (a0 : La) (a1 : La) : Option (Bool) := (Option.bind ((bif (!(a0.name.toList == a1.name.toList)) then (some (true)) else (Option.bind (synthesisref11_SameInts (a0.inputs) (a1.inputs)) fun v1 => (bif (!v1) then (some (true)) else (bif ((List.length a0.symbols : Int) != (List.length a1.symbols : Int)) then (some (true)) else (some (((List.length a0.rules : Int) != (List.length a1.rules : Int)))))))) : Option ((Bool))) fun (v3 : (Bool)) => (bif v3 then (some false) else (Option.bind (loopN (synthesisref11_Same_l2 a0 a1) fuel (0)) fun (v7 : ((Unit) ⊕ (Bool))) => Sum.elim (fun v8 => (Option.bind (loopN (synthesisref11_Same_l1 a0 a1) fuel (0)) fun (v13 : ((Unit) ⊕ (Bool))) => Sum.elim (fun v14 => (some true)) (fun v15 => (some v15)) v13)) (fun v16 => (some v16)) v7)))
theorem synthesisref11_Same_ok (a0 : La) (a1 : La) (r : Bool) (h : synthesisref11_Same a0 a1 = some r) : PCall Try.prog 21 [eLa a0, eLa a1] (eB (r)) := by
 unfold synthesisref11_Same at h
 refine pcl [.one .keep] Try.func21 (by kernel_rfl) (by kernel_rfl) (by kernel_rfl) ?_
 refine jn1 8 .normal (fun v3 => ⟨75, [(2, (.ref 1 0 0)), (3, (.ref 2 0 0)), (37, (fB (v3)))], (synthesisref11_Same_m0 a0 a1), [2, 1], []⟩) h (by kernel_rfl) (fun v3 h => ?_) fun v3 h => ?_
 ·refine gd 7 h (by kernel_rfl) (fun h => ?_) fun h => ?_
  ·cases h; exact lj 26 (by kernel_rfl)
  refine cl 4 h (synthesisref11_SameInts_ok _ _) (by kernel_rfl) fun v1 h => ?_
  refine gd 3 h (by kernel_rfl) (fun h => ?_) fun h => ?_
  ·cases h; exact lj 18 (by kernel_rfl)
  refine gd 9 h (by kernel_rfl) (fun h => ?_) fun h => ?_
  ·cases h; exact lj 9 (by kernel_rfl)
  cases h; exact lj 9 (by kernel_rfl)
 refine cd 0 h (by kernel_rfl) (fun h => ?_) fun h => ?_
 ·cases h; exact lq 5 (by kernel_rfl)
 refine lpx 7 (fun v4 => ⟨75, [(2, (.ref 1 0 0)), (3, (.ref 2 0 0)), (5, (fI (v4)))], (synthesisref11_Same_m0 a0 a1), [2, 1], []⟩) (fun v7 e st => Sum.elim (fun p => e = .exit 0 ∧ LeSt st ⟨75, [(2, (.ref 1 0 0)), (3, (.ref 2 0 0))], (synthesisref11_Same_m0 a0 a1), [2, 1], []⟩) (fun p => e = .ret ∧ retX TT st Try.f21.results.toList [.one .keep] = some (eB (p))) v7) h (by kernel_rfl) (le_a (by kernel_rfl)) (fun v4 r h => ?_) fun v7 h e st' hq => ?_
 ·unfold synthesisref11_Same_l2 at h
  refine cd 9 h (by kernel_rfl) (fun h => ?_) fun h => ?_
  ·refine dw 4 10 (by kernel_rfl) ?_
   refine ix nSy 3 h (by kernel_rfl) fun v5 h => ?_
   refine ix nSy 4 h (by kernel_rfl) fun v6 h => ?_
   refine nst 2 (n_structeq (t := 72) (x := (.tmp 49)) (y := (.tmp 54)) (yt := 72) (d := tt72) (xs := [(eS (v5.name)), (eI (v5.type))]) (ys := [(eS (v6.name)), (eI (v6.type))]) (r := ((v5.name.toList == v6.name.toList) && ((v5.type == v6.type) && true))) true tt_ok (by kernel_rfl) (by kernel_rfl) rfl (by kernel_rfl) (by kernel_rfl) (by kernel_rfl) (by kernel_rfl) (by kernel_rfl) (by kernel_rfl)) (by kernel_rfl) ?_
   refine cd 1 h (by kernel_rfl) (fun h => ?_) fun h => ?_
   ·cases h; exact lor 5 (by kernel_rfl)
   cases h; exact lj 6 (by kernel_rfl)
  cases h; exact lo 1 (by kernel_rfl)
 rcases v7 with v8 | v16
 ·try simp only [Sum.elim_inl, Sum.elim_inr] at h
  obtain ⟨rfl, hle⟩ := hq
  refine ⟨_, hle, ?_⟩
  refine lpx 6 (fun v9 => ⟨75, [(2, (.ref 1 0 0)), (3, (.ref 2 0 0)), (6, (fI (v9)))], (synthesisref11_Same_m0 a0 a1), [2, 1], []⟩) (fun v13 e st => Sum.elim (fun p => e = .exit 2 ∧ LeSt st ⟨75, [], [], [], []⟩) (fun p => e = .ret ∧ retX TT st Try.f21.results.toList [.one .keep] = some (eB (p))) v13) h (by kernel_rfl) (le_a (by kernel_rfl)) (fun v9 r h => ?_) fun v13 h e st' hq => ?_
  ·unfold synthesisref11_Same_l1 at h
   refine cd 9 h (by kernel_rfl) (fun h => ?_) fun h => ?_
   ·refine dw 4 10 (by kernel_rfl) ?_
    refine ix nRu 3 h (by kernel_rfl) fun v10 h => ?_
    refine ix nRu 4 h (by kernel_rfl) fun v11 h => ?_
    refine cl 2 h (synthesisref11_SameRule_ok _ _) (by kernel_rfl) fun v12 h => ?_
    refine cd 2 h (by kernel_rfl) (fun h => ?_) fun h => ?_
    ·cases h; exact lor 5 (by kernel_rfl)
    cases h; exact lj 6 (by kernel_rfl)
   cases h; exact lo 1 (by kernel_rfl)
  rcases v13 with v14 | v15
  ·try simp only [Sum.elim_inl, Sum.elim_inr] at h
   obtain ⟨rfl, hle⟩ := hq
   refine ⟨_, hle, ?_⟩
   cases h; exact lq 5 (by kernel_rfl)
  ·try simp only [Sum.elim_inl, Sum.elim_inr] at h
   obtain ⟨rfl, hret⟩ := hq
   refine ⟨_, LeSt.refl, ?_⟩
   cases h; exact lv hret
 ·try simp only [Sum.elim_inl, Sum.elim_inr] at h
  obtain ⟨rfl, hret⟩ := hq
  refine ⟨_, LeSt.refl, ?_⟩
  cases h; exact lv hret

def synthesisref16_Names  : Option (List ByteArray) := (some ([(⟨#[115, 116, 114, 105, 110, 103, 115]⟩ : ByteArray), (⟨#[112, 97, 116, 116, 101, 114, 110, 115]⟩ : ByteArray), (⟨#[108, 105, 115, 116, 115]⟩ : ByteArray), (⟨#[118, 101, 99, 116, 111, 114, 115]⟩ : ByteArray), (⟨#[116, 97, 98, 108, 101, 115]⟩ : ByteArray)] : List (ByteArray)))
theorem synthesisref16_Names_ok  (r : List ByteArray) (h : synthesisref16_Names  = some r) : PCall Try.prog 23 [] ((eL 1 eS) (r)) := by
 unfold synthesisref16_Names at h
 refine pcl [.one (.sl 1)] Try.func23 (by kernel_rfl) (by kernel_rfl) (by kernel_rfl) ?_
 cases h; exact lq 10 (by kernel_rfl)

def synthesislaw16_LanguagesGets_l1 (v7 : List ByteArray) (v8 : List ByteArray) (v9 : (Int)) : Option (((Int)) ⊕ (((Unit) ⊕ (Bool)))) := (Option.bind ((bif (decide (v9 < (List.length v7 : Int))) then (some ((decide (v9 < (List.length v8 : Int))))) else (some (false))) : Option ((Bool))) fun (v11 : (Bool)) => (bif v11 then (Option.bind (idx v7 v9) fun v12 => (Option.bind (idx v8 v9) fun v13 => (bif (!(v12.toList == v13.toList)) then (some (.inr (.inr false))) else (some (.inl ((w64 (v9 + 1)))))))) else (some (.inr (.inl ())))))
def synthesislaw16_LanguagesGets (a0 : ByteArray) : Option (Bool) := (bif (decide (60 < (a0.size : Int))) then (Option.bind (synthesislaw16_alive ) fun v1 => (some v1)) else (Option.bind (languages_Get (a0)) fun v2 => (Option.bind (synthesisref16_Get (a0)) fun v3 => (Option.bind ((Option.bind (synthesisref11_Same (v2.1) (v3.1)) fun v4 => (bif (!v4) then (some (true)) else (some ((v2.2 != v3.2))))) : Option ((Bool))) fun (v6 : (Bool)) => (bif v6 then (some false) else (Option.bind (languages_Names ) fun v7 => (Option.bind (synthesisref16_Names ) fun v8 => (Option.bind (loopN (synthesislaw16_LanguagesGets_l1 v7 v8) fuel (0)) fun (v14 : ((Unit) ⊕ (Bool))) => Sum.elim (fun v15 => (Option.bind ((bif ((List.length v7 : Int) == (List.length v8 : Int)) then (Option.bind (synthesislaw16_alive ) fun v16 => (some (v16))) else (some (false))) : Option ((Bool))) fun (v18 : (Bool)) => (some v18))) (fun v19 => (some v19)) v14))))))))
theorem synthesislaw16_LanguagesGets_ok (a0 : ByteArray) (r : Bool) (h : synthesislaw16_LanguagesGets a0 = some r) : PCall Try.prog 3 [eS a0] (eB (r)) := by
 unfold synthesislaw16_LanguagesGets at h
 refine pcl [.one .keep] Try.func3 (by kernel_rfl) (by kernel_rfl) (by kernel_rfl) ?_
 refine cd 11 h (by kernel_rfl) (fun h => ?_) fun h => ?_
 ·refine cl 2 h (synthesislaw16_alive_ok) (by kernel_rfl) fun v1 h => ?_
  cases h; exact lq 3 (by kernel_rfl)
 refine cl 4 h (languages_Get_ok _) (by kernel_rfl) fun v2 h => ?_
 refine cl 10 h (synthesisref16_Get_ok _) (by kernel_rfl) fun v3 h => ?_
 refine jn1 9 .normal (fun v6 => ⟨64, [(32, (fB (v6)))], [], [], []⟩) h (by kernel_rfl) (fun v6 h => ?_) fun v6 h => ?_
 ·refine cl 3 h (synthesisref11_Same_ok _ _) (by kernel_rfl) fun v4 h => ?_
  refine gd 2 h (by kernel_rfl) (fun h => ?_) fun h => ?_
  ·cases h; exact lj 5 (by kernel_rfl)
  cases h; exact lj 5 (by kernel_rfl)
 refine cd 0 h (by kernel_rfl) (fun h => ?_) fun h => ?_
 ·cases h; exact lq 5 (by kernel_rfl)
 refine cl 3 h (languages_Names_ok) (by kernel_rfl) fun v7 h => ?_
 refine cl 0 h (synthesisref16_Names_ok) (by kernel_rfl) fun v8 h => ?_
 refine lpx 9 (fun v9 => ⟨64, [(7, (.fz ((eL 1 eS) (v7)))), (8, (.fz ((eL 1 eS) (v8)))), (9, (fI (v9)))], [], [], []⟩) (fun v14 e st => Sum.elim (fun p => e = .exit 0 ∧ LeSt st ⟨64, [(7, (.fz ((eL 1 eS) (v7)))), (8, (.fz ((eL 1 eS) (v8))))], [], [], []⟩) (fun p => e = .ret ∧ retX TT st Try.f3.results.toList [.one .keep] = some (eB (p))) v14) h (by kernel_rfl) (le_a (by kernel_rfl)) (fun v9 r h => ?_) fun v14 h e st' hq => ?_
 ·unfold synthesislaw16_LanguagesGets_l1 at h
  refine jn1 2 .normal (fun v11 => ⟨64, [(7, (.fz ((eL 1 eS) (v7)))), (8, (.fz ((eL 1 eS) (v8)))), (9, (fI (v9))), (44, (fB (v11)))], [], [], []⟩) h (by kernel_rfl) (fun v11 h => ?_) fun v11 h => ?_
  ·refine gd 6 h (by kernel_rfl) (fun h => ?_) fun h => ?_
   ·cases h; exact lj 6 (by kernel_rfl)
   cases h; exact lj 6 (by kernel_rfl)
  refine cd 0 h (by kernel_rfl) (fun h => ?_) fun h => ?_
  ·refine dw 4 8 (by kernel_rfl) ?_
   refine ix nS 2 h (by kernel_rfl) fun v12 h => ?_
   refine ix nS 3 h (by kernel_rfl) fun v13 h => ?_
   refine cd 4 h (by kernel_rfl) (fun h => ?_) fun h => ?_
   ·cases h; exact lor 5 (by kernel_rfl)
   cases h; exact lj 6 (by kernel_rfl)
  cases h; exact lo 1 (by kernel_rfl)
 rcases v14 with v15 | v19
 ·try simp only [Sum.elim_inl, Sum.elim_inr] at h
  obtain ⟨rfl, hle⟩ := hq
  refine ⟨_, hle, ?_⟩
  refine jn1 1 .normal (fun v18 => ⟨64, [(2, (fB (v18)))], [], [], []⟩) h (by kernel_rfl) (fun v18 h => ?_) fun v18 h => ?_
  ·refine gd 7 h (by kernel_rfl) (fun h => ?_) fun h => ?_
   ·refine cl 0 h (synthesislaw16_alive_ok) (by kernel_rfl) fun v16 h => ?_
    cases h; exact lj 3 (by kernel_rfl)
   cases h; exact lj 4 (by kernel_rfl)
  cases h; exact lq 1 (by kernel_rfl)
 ·try simp only [Sum.elim_inl, Sum.elim_inr] at h
  obtain ⟨rfl, hret⟩ := hq
  refine ⟨_, LeSt.refl, ?_⟩
  cases h; exact lv hret

def synthesislaw16_LanguagesStrings_l1 (a0 : List ByteArray) (v4 : (Int)) : Option (((Int)) ⊕ (((Unit) ⊕ (Bool)))) := (bif (decide (v4 < (List.length a0 : Int))) then (Option.bind (idx a0 v4) fun v5 => (bif (decide (100 < (v5.size : Int))) then (Option.bind (synthesislaw16_alive ) fun v6 => (some (.inr (.inr v6)))) else (some (.inl ((w64 (v4 + 1))))))) else (some (.inr (.inl ()))))
def synthesislaw16_LanguagesStrings (a0 : List ByteArray) (a1 : List Int) : Option (Bool) := (Option.bind ((bif (decide (30 < (List.length a0 : Int))) then (some (true)) else (some ((decide (30 < (List.length a1 : Int)))))) : Option ((Bool))) fun (v2 : (Bool)) => (bif v2 then (Option.bind (synthesislaw16_alive ) fun v3 => (some v3)) else (Option.bind (loopN (synthesislaw16_LanguagesStrings_l1 a0) fuel (0)) fun (v7 : ((Unit) ⊕ (Bool))) => Sum.elim (fun v8 => (Option.bind (languages_Strings (a0) (a1)) fun v9 => (Option.bind (synthesisref16_Strings (a0) (a1)) fun v10 => (Option.bind ((Option.bind (synthesisref11_Same (v9.1) (v10.1)) fun v11 => (bif v11 then (bif (v9.2 == v10.2) then (Option.bind (synthesislaw16_alive ) fun v12 => (some (v12))) else (some (false))) else (some (false)))) : Option ((Bool))) fun (v14 : (Bool)) => (some v14))))) (fun v15 => (some v15)) v7)))
theorem synthesislaw16_LanguagesStrings_ok (a0 : List ByteArray) (a1 : List Int) (r : Bool) (h : synthesislaw16_LanguagesStrings a0 a1 = some r) : PCall Try.prog 4 [(eL 1 eS) a0, (eL 1 eI) a1] (eB (r)) := by
 unfold synthesislaw16_LanguagesStrings at h
 refine pcl [.one .keep] Try.func4 (by kernel_rfl) (by kernel_rfl) (by kernel_rfl) ?_
 refine jn1 6 .normal (fun v2 => ⟨55, [(0, (.fz ((eL 1 eS) (a0)))), (1, (.fz ((eL 1 eI) (a1)))), (17, (fB (v2)))], [], [], []⟩) h (by kernel_rfl) (fun v2 h => ?_) fun v2 h => ?_
 ·refine gd 5 h (by kernel_rfl) (fun h => ?_) fun h => ?_
  ·cases h; exact lj 5 (by kernel_rfl)
  cases h; exact lj 5 (by kernel_rfl)
 refine cd 0 h (by kernel_rfl) (fun h => ?_) fun h => ?_
 ·refine cl 2 h (synthesislaw16_alive_ok) (by kernel_rfl) fun v3 h => ?_
  cases h; exact lq 3 (by kernel_rfl)
 refine lpx 7 (fun v4 => ⟨55, [(0, (.fz ((eL 1 eS) (a0)))), (1, (.fz ((eL 1 eI) (a1)))), (5, (fI (v4)))], [], [], []⟩) (fun v7 e st => Sum.elim (fun p => e = .exit 0 ∧ LeSt st ⟨55, [(0, (.fz ((eL 1 eS) (a0)))), (1, (.fz ((eL 1 eI) (a1))))], [], [], []⟩) (fun p => e = .ret ∧ retX TT st Try.f4.results.toList [.one .keep] = some (eB (p))) v7) h (by kernel_rfl) (le_a (by kernel_rfl)) (fun v4 r h => ?_) fun v7 h e st' hq => ?_
 ·unfold synthesislaw16_LanguagesStrings_l1 at h
  refine cd 8 h (by kernel_rfl) (fun h => ?_) fun h => ?_
  ·refine ix nS 7 h (by kernel_rfl) fun v5 h => ?_
   refine cd 4 h (by kernel_rfl) (fun h => ?_) fun h => ?_
   ·refine cl 2 h (synthesislaw16_alive_ok) (by kernel_rfl) fun v6 h => ?_
    cases h; exact lor 3 (by kernel_rfl)
   cases h; exact lj 6 (by kernel_rfl)
  cases h; exact lo 1 (by kernel_rfl)
 rcases v7 with v8 | v15
 ·try simp only [Sum.elim_inl, Sum.elim_inr] at h
  obtain ⟨rfl, hle⟩ := hq
  refine ⟨_, hle, ?_⟩
  refine cl 4 h (languages_Strings_ok _ _) (by kernel_rfl) fun v9 h => ?_
  refine cl 11 h (synthesisref16_Strings_ok _ _) (by kernel_rfl) fun v10 h => ?_
  refine jn1 8 .normal (fun v14 => ⟨55, [(4, (fB (v14)))], [], [], []⟩) h (by kernel_rfl) (fun v14 h => ?_) fun v14 h => ?_
  ·refine cl 3 h (synthesisref11_Same_ok _ _) (by kernel_rfl) fun v11 h => ?_
   refine gd 1 h (by kernel_rfl) (fun h => ?_) fun h => ?_
   ·refine gd 5 h (by kernel_rfl) (fun h => ?_) fun h => ?_
    ·refine cl 0 h (synthesislaw16_alive_ok) (by kernel_rfl) fun v12 h => ?_
     cases h; exact lj 3 (by kernel_rfl)
    cases h; exact lj 4 (by kernel_rfl)
   cases h; exact lj 9 (by kernel_rfl)
  cases h; exact lq 1 (by kernel_rfl)
 ·try simp only [Sum.elim_inl, Sum.elim_inr] at h
  obtain ⟨rfl, hret⟩ := hq
  refine ⟨_, LeSt.refl, ?_⟩
  cases h; exact lv hret

def synthesislaw16_LanguagesPatterns (a0 : ByteArray) : Option (Bool) := (bif (decide (60 < (a0.size : Int))) then (Option.bind (synthesislaw16_alive ) fun v1 => (some v1)) else (Option.bind (languages_Patterns (a0)) fun v2 => (Option.bind (synthesisref16_Patterns (a0)) fun v3 => (Option.bind ((Option.bind (synthesisref11_Same (v2.1) (v3.1)) fun v4 => (bif v4 then (bif (v2.2 == v3.2) then (Option.bind (synthesislaw16_alive ) fun v5 => (some (v5))) else (some (false))) else (some (false)))) : Option ((Bool))) fun (v7 : (Bool)) => (some v7)))))
theorem synthesislaw16_LanguagesPatterns_ok (a0 : ByteArray) (r : Bool) (h : synthesislaw16_LanguagesPatterns a0 = some r) : PCall Try.prog 5 [eS a0] (eB (r)) := by
 unfold synthesislaw16_LanguagesPatterns at h
 refine pcl [.one .keep] Try.func5 (by kernel_rfl) (by kernel_rfl) (by kernel_rfl) ?_
 refine cd 11 h (by kernel_rfl) (fun h => ?_) fun h => ?_
 ·refine cl 2 h (synthesislaw16_alive_ok) (by kernel_rfl) fun v1 h => ?_
  cases h; exact lq 3 (by kernel_rfl)
 refine cl 4 h (languages_Patterns_ok _) (by kernel_rfl) fun v2 h => ?_
 refine cl 10 h (synthesisref16_Patterns_ok _) (by kernel_rfl) fun v3 h => ?_
 refine jn1 8 .normal (fun v7 => ⟨32, [(2, (fB (v7)))], [], [], []⟩) h (by kernel_rfl) (fun v7 h => ?_) fun v7 h => ?_
 ·refine cl 3 h (synthesisref11_Same_ok _ _) (by kernel_rfl) fun v4 h => ?_
  refine gd 1 h (by kernel_rfl) (fun h => ?_) fun h => ?_
  ·refine gd 5 h (by kernel_rfl) (fun h => ?_) fun h => ?_
   ·refine cl 0 h (synthesislaw16_alive_ok) (by kernel_rfl) fun v5 h => ?_
    cases h; exact lj 3 (by kernel_rfl)
   cases h; exact lj 4 (by kernel_rfl)
  cases h; exact lj 9 (by kernel_rfl)
 cases h; exact lq 1 (by kernel_rfl)

def synthesislaw16_LanguagesLists (a0 : List Int) : Option (Bool) := (bif (decide (30 < (List.length a0 : Int))) then (Option.bind (synthesislaw16_alive ) fun v1 => (some v1)) else (Option.bind (languages_Lists (a0)) fun v2 => (Option.bind (synthesisref16_Lists (a0)) fun v3 => (Option.bind (languages_Vectors (a0)) fun v4 => (Option.bind (synthesisref16_Vectors (a0)) fun v5 => (Option.bind ((Option.bind (synthesisref11_Same (v2.1) (v3.1)) fun v6 => (bif (!v6) then (some (true)) else (bif (v2.2 != v3.2) then (some (true)) else (Option.bind (synthesisref11_Same (v4.1) (v5.1)) fun v7 => (bif (!v7) then (some (true)) else (some ((v4.2 != v5.2)))))))) : Option ((Bool))) fun (v9 : (Bool)) => (bif v9 then (some false) else (Option.bind (languages_Reshaping (a0)) fun v10 => (Option.bind (synthesisref16_Reshaping (a0)) fun v11 => (Option.bind ((Option.bind (synthesisref11_Same (v10.1) (v11.1)) fun v12 => (bif v12 then (bif (v10.2 == v11.2) then (Option.bind (synthesislaw16_alive ) fun v13 => (some (v13))) else (some (false))) else (some (false)))) : Option ((Bool))) fun (v15 : (Bool)) => (some v15)))))))))))
theorem synthesislaw16_LanguagesLists_ok (a0 : List Int) (r : Bool) (h : synthesislaw16_LanguagesLists a0 = some r) : PCall Try.prog 6 [(eL 1 eI) a0] (eB (r)) := by
 unfold synthesislaw16_LanguagesLists at h
 refine pcl [.one .keep] Try.func6 (by kernel_rfl) (by kernel_rfl) (by kernel_rfl) ?_
 refine cd 11 h (by kernel_rfl) (fun h => ?_) fun h => ?_
 ·refine cl 2 h (synthesislaw16_alive_ok) (by kernel_rfl) fun v1 h => ?_
  cases h; exact lq 3 (by kernel_rfl)
 refine cl 4 h (languages_Lists_ok _) (by kernel_rfl) fun v2 h => ?_
 refine cl 10 h (synthesisref16_Lists_ok _) (by kernel_rfl) fun v3 h => ?_
 refine cl 10 h (languages_Vectors_ok _) (by kernel_rfl) fun v4 h => ?_
 refine cl 10 h (synthesisref16_Vectors_ok _) (by kernel_rfl) fun v5 h => ?_
 refine jn1 9 .normal (fun v9 => ⟨76, [(0, (.fz ((eL 1 eI) (a0)))), (3, (.ref 1 0 0)), (5, (.ref 2 0 0)), (54, (fB (v9)))], [(1, (.box 27 [(fS (v2.1.name)), (.fz ((eL 1 eI) (v2.1.inputs))), (.fz ((eL 2 eSy) (v2.1.symbols))), (.fz ((eL 9 eRu) (v2.1.rules)))])), (2, (.box 27 [(fS (v3.1.name)), (.fz ((eL 1 eI) (v3.1.inputs))), (.fz ((eL 2 eSy) (v3.1.symbols))), (.fz ((eL 9 eRu) (v3.1.rules)))]))], [2, 1], []⟩) h (by kernel_rfl) (fun v9 h => ?_) fun v9 h => ?_
 ·refine cl 3 h (synthesisref11_Same_ok _ _) (by kernel_rfl) fun v6 h => ?_
  refine gd 2 h (by kernel_rfl) (fun h => ?_) fun h => ?_
  ·cases h; exact lj 16 (by kernel_rfl)
  refine gd 5 h (by kernel_rfl) (fun h => ?_) fun h => ?_
  ·cases h; exact lj 11 (by kernel_rfl)
  refine cl 2 h (synthesisref11_Same_ok _ _) (by kernel_rfl) fun v7 h => ?_
  refine gd 3 h (by kernel_rfl) (fun h => ?_) fun h => ?_
  ·cases h; exact lj 5 (by kernel_rfl)
  cases h; exact lj 5 (by kernel_rfl)
 refine cd 0 h (by kernel_rfl) (fun h => ?_) fun h => ?_
 ·cases h; exact lq 5 (by kernel_rfl)
 refine cl 4 h (languages_Reshaping_ok _) (by kernel_rfl) fun v10 h => ?_
 refine cl 9 h (synthesisref16_Reshaping_ok _) (by kernel_rfl) fun v11 h => ?_
 refine jn1 7 .normal (fun v15 => ⟨76, [(2, (fB (v15)))], [], [], []⟩) h (by kernel_rfl) (fun v15 h => ?_) fun v15 h => ?_
 ·refine cl 3 h (synthesisref11_Same_ok _ _) (by kernel_rfl) fun v12 h => ?_
  refine gd 1 h (by kernel_rfl) (fun h => ?_) fun h => ?_
  ·refine gd 5 h (by kernel_rfl) (fun h => ?_) fun h => ?_
   ·refine cl 0 h (synthesislaw16_alive_ok) (by kernel_rfl) fun v13 h => ?_
    cases h; exact lj 3 (by kernel_rfl)
   cases h; exact lj 4 (by kernel_rfl)
  cases h; exact lj 9 (by kernel_rfl)
 cases h; exact lq 1 (by kernel_rfl)

def grammar_named_l1 (a0 : ByteArray) (v3 : (Int)) : Option (((Int)) ⊕ (((Unit) ⊕ (Bool)))) := (bif (decide (v3 < (a0.size : Int))) then (Option.bind (byt a0 v3) fun v4 => (Option.bind ((bif (decide (97 ≤ (ior .u8 v4 32))) then (some ((decide ((ior .u8 v4 32) ≤ 122)))) else (some (false))) : Option ((Bool))) fun (v6 : (Bool)) => (Option.bind ((bif (!v6) then (bif (v3 == 0) then (some (true)) else (bif (v4 != 45) then (bif (decide (v4 < 48)) then (some (true)) else (some ((decide (57 < v4))))) else (some (false)))) else (some (false))) : Option ((Bool))) fun (v8 : (Bool)) => (bif v8 then (some (.inr (.inr false))) else (some (.inl ((w64 (v3 + 1))))))))) else (some (.inr (.inl ()))))
def grammar_named (a0 : ByteArray) : Option (Bool) := (Option.bind ((bif (decide ((a0.size : Int) < 1)) then (some (true)) else (some ((decide (24 < (a0.size : Int)))))) : Option ((Bool))) fun (v2 : (Bool)) => (bif v2 then (some false) else (Option.bind (loopN (grammar_named_l1 a0) fuel (0)) fun (v9 : ((Unit) ⊕ (Bool))) => Sum.elim (fun v10 => (some true)) (fun v11 => (some v11)) v9)))
theorem grammar_named_ok (a0 : ByteArray) (r : Bool) (h : grammar_named a0 = some r) : PCall Try.prog 143 [eS a0] (eB (r)) := by
 unfold grammar_named at h
 refine pcl [.one .keep] Try.func143 (by kernel_rfl) (by kernel_rfl) (by kernel_rfl) ?_
 refine jn1 6 .normal (fun v2 => ⟨49, [(0, (fS (a0))), (13, (fB (v2)))], [], [], []⟩) h (by kernel_rfl) (fun v2 h => ?_) fun v2 h => ?_
 ·refine gd 5 h (by kernel_rfl) (fun h => ?_) fun h => ?_
  ·cases h; exact lj 5 (by kernel_rfl)
  cases h; exact lj 5 (by kernel_rfl)
 refine cd 0 h (by kernel_rfl) (fun h => ?_) fun h => ?_
 ·cases h; exact lq 5 (by kernel_rfl)
 refine lpx 9 (fun v3 => ⟨49, [(0, (fS (a0))), (15, (fI ((a0.size : Int)))), (16, (fI (v3)))], [], [], []⟩) (fun v9 e st => Sum.elim (fun p => e = .exit 0 ∧ LeSt st ⟨49, [], [], [], []⟩) (fun p => e = .ret ∧ retX TT st Try.f143.results.toList [.one .keep] = some (eB (p))) v9) h (by kernel_rfl) (le_a (by kernel_rfl)) (fun v3 r h => ?_) fun v9 h e st' hq => ?_
 ·unfold grammar_named_l1 at h
  refine cd 5 h (by kernel_rfl) (fun h => ?_) fun h => ?_
  ·refine byx 12 h (by kernel_rfl) fun v4 h => ?_
   refine jn1 3 .normal (fun v6 => ⟨49, [(0, (fS (a0))), (3, (fI (v3))), (4, (.fz (eU8 (v4)))), (5, (fB (v6))), (15, (fI ((a0.size : Int)))), (16, (fI (v3)))], [], [], []⟩) h (by kernel_rfl) (fun v6 h => ?_) fun v6 h => ?_
   ·refine gd 5 h (by kernel_rfl) (fun h => ?_) fun h => ?_
    ·cases h; exact lj 6 (by kernel_rfl)
    cases h; exact lj 6 (by kernel_rfl)
   refine jn1 1 .normal (fun v8 => ⟨49, [(0, (fS (a0))), (15, (fI ((a0.size : Int)))), (16, (fI (v3))), (47, (fB (v8)))], [], [], []⟩) h (by kernel_rfl) (fun v8 h => ?_) fun v8 h => ?_
   ·refine gd 4 h (by kernel_rfl) (fun h => ?_) fun h => ?_
    ·refine gd 3 h (by kernel_rfl) (fun h => ?_) fun h => ?_
     ·cases h; exact lj 13 (by kernel_rfl)
     refine gd 3 h (by kernel_rfl) (fun h => ?_) fun h => ?_
     ·refine gd 3 h (by kernel_rfl) (fun h => ?_) fun h => ?_
      ·cases h; exact lj 7 (by kernel_rfl)
      cases h; exact lj 7 (by kernel_rfl)
     cases h; exact lj 10 (by kernel_rfl)
    cases h; exact lj 16 (by kernel_rfl)
   refine cd 0 h (by kernel_rfl) (fun h => ?_) fun h => ?_
   ·cases h; exact lor 5 (by kernel_rfl)
   cases h; exact lj 5 (by kernel_rfl)
  cases h; exact lo 1 (by kernel_rfl)
 rcases v9 with v10 | v11
 ·try simp only [Sum.elim_inl, Sum.elim_inr] at h
  obtain ⟨rfl, hle⟩ := hq
  refine ⟨_, hle, ?_⟩
  cases h; exact lq 5 (by kernel_rfl)
 ·try simp only [Sum.elim_inl, Sum.elim_inr] at h
  obtain ⟨rfl, hret⟩ := hq
  refine ⟨_, LeSt.refl, ?_⟩
  cases h; exact lv hret

def grammar_typed (a0 : Int) : Option (Bool) := (Option.bind ((bif (decide (1 ≤ a0)) then (some ((decide (a0 ≤ 8)))) else (some (false))) : Option ((Bool))) fun (v2 : (Bool)) => (some v2))
theorem grammar_typed_ok (a0 : Int) (r : Bool) (h : grammar_typed a0 = some r) : PCall Try.prog 144 [eI a0] (eB (r)) := by
 unfold grammar_typed at h
 refine pcl [.one .keep] Try.func144 (by kernel_rfl) (by kernel_rfl) (by kernel_rfl) ?_
 refine jn1 5 .normal (fun v2 => ⟨9, [(2, (fB (v2)))], [], [], []⟩) h (by kernel_rfl) (fun v2 h => ?_) fun v2 h => ?_
 ·refine gd 4 h (by kernel_rfl) (fun h => ?_) fun h => ?_
  ·cases h; exact lj 5 (by kernel_rfl)
  cases h; exact lj 5 (by kernel_rfl)
 cases h; exact lq 1 (by kernel_rfl)

def slices_Equal_int_int_l1 (a0 : List Int) (a1 : List Int) (v1 : (Int)) : Option (((Int)) ⊕ (((Unit) ⊕ (Bool)))) := (bif (decide (v1 < (List.length a0 : Int))) then (Option.bind (idx a0 v1) fun v2 => (Option.bind (idx a1 v1) fun v3 => (bif (v2 != v3) then (some (.inr (.inr false))) else (some (.inl ((w64 (v1 + 1)))))))) else (some (.inr (.inl ()))))
def slices_Equal_int_int (a0 : List Int) (a1 : List Int) : Option (Bool) := (bif ((List.length a0 : Int) != (List.length a1 : Int)) then (some false) else (Option.bind (loopN (slices_Equal_int_int_l1 a0 a1) fuel (0)) fun (v4 : ((Unit) ⊕ (Bool))) => Sum.elim (fun v5 => (some true)) (fun v6 => (some v6)) v4))
theorem slices_Equal_int_int_ok (a0 : List Int) (a1 : List Int) (r : Bool) (h : slices_Equal_int_int a0 a1 = some r) : PCall Try.prog 179 [(eL 1 eI) a0, (eL 1 eI) a1] (eB (r)) := by
 unfold slices_Equal_int_int at h
 refine pcl [.one .keep] Try.func179 (by kernel_rfl) (by kernel_rfl) (by kernel_rfl) ?_
 refine cd 13 h (by kernel_rfl) (fun h => ?_) fun h => ?_
 ·cases h; exact lq 5 (by kernel_rfl)
 refine lpx 9 (fun v1 => ⟨26, [(0, (.fz ((eL 1 eI) (a0)))), (1, (.fz ((eL 1 eI) (a1)))), (12, (fI ((List.length a0 : Int)))), (13, (fI (v1)))], [], [], []⟩) (fun v4 e st => Sum.elim (fun p => e = .exit 0 ∧ LeSt st ⟨26, [], [], [], []⟩) (fun p => e = .ret ∧ retX TT st Try.f179.results.toList [.one .keep] = some (eB (p))) v4) h (by kernel_rfl) (le_a (by kernel_rfl)) (fun v1 r h => ?_) fun v4 h e st' hq => ?_
 ·unfold slices_Equal_int_int_l1 at h
  refine cd 5 h (by kernel_rfl) (fun h => ?_) fun h => ?_
  ·refine dw 9 8 (by kernel_rfl) ?_
   refine ix nI 2 h (by kernel_rfl) fun v2 h => ?_
   refine ix nI 3 h (by kernel_rfl) fun v3 h => ?_
   refine cd 4 h (by kernel_rfl) (fun h => ?_) fun h => ?_
   ·cases h; exact lor 5 (by kernel_rfl)
   cases h; exact lj 5 (by kernel_rfl)
  cases h; exact lo 1 (by kernel_rfl)
 rcases v4 with v5 | v6
 ·try simp only [Sum.elim_inl, Sum.elim_inr] at h
  obtain ⟨rfl, hle⟩ := hq
  refine ⟨_, hle, ?_⟩
  cases h; exact lq 5 (by kernel_rfl)
 ·try simp only [Sum.elim_inl, Sum.elim_inr] at h
  obtain ⟨rfl, hret⟩ := hq
  refine ⟨_, LeSt.refl, ?_⟩
  cases h; exact lv hret

def grammar_sameRule (a0 : Ru) (a1 : Ru) : Option (Bool) := (Option.bind ((bif (a0.symbol == a1.symbol) then (bif (a0.kind == a1.kind) then (bif (a0.input == a1.input) then (bif (a0.op.toList == a1.op.toList) then (Option.bind (slices_Equal_int_int (a0.args) (a1.args)) fun v1 => (bif v1 then (Option.bind (value_Equal (a0.const) (a1.const)) fun v2 => (some (v2))) else (some (false)))) else (some (false))) else (some (false))) else (some (false))) else (some (false))) : Option ((Bool))) fun (v4 : (Bool)) => (some v4))
theorem grammar_sameRule_ok (a0 : Ru) (a1 : Ru) (r : Bool) (h : grammar_sameRule a0 a1 = some r) : PCall Try.prog 148 [eRu a0, eRu a1] (eB (r)) := by
 unfold grammar_sameRule at h
 refine pcl [.one .keep] Try.func148 (by kernel_rfl) (by kernel_rfl) (by kernel_rfl) ?_
 refine jn1 7 .normal (fun v4 => ⟨45, [(4, (fB (v4)))], [], [], []⟩) h (by kernel_rfl) (fun v4 h => ?_) fun v4 h => ?_
 ·refine gd 7 h (by kernel_rfl) (fun h => ?_) fun h => ?_
  ·refine gd 7 h (by kernel_rfl) (fun h => ?_) fun h => ?_
   ·refine gd 7 h (by kernel_rfl) (fun h => ?_) fun h => ?_
    ·refine gd 7 h (by kernel_rfl) (fun h => ?_) fun h => ?_
     ·refine cl 4 h (slices_Equal_int_int_ok _ _) (by kernel_rfl) fun v1 h => ?_
      refine gd 2 h (by kernel_rfl) (fun h => ?_) fun h => ?_
      ·refine cl 4 h (value_Equal_ok _ _) (by kernel_rfl) fun v2 h => ?_
       cases h; exact lj 3 (by kernel_rfl)
      cases h; exact lj 8 (by kernel_rfl)
     cases h; exact lj 15 (by kernel_rfl)
    cases h; exact lj 22 (by kernel_rfl)
   cases h; exact lj 29 (by kernel_rfl)
  cases h; exact lj 36 (by kernel_rfl)
 cases h; exact lq 1 (by kernel_rfl)

def grammar_symbol (a0 : La) (a1 : Int) : Option (Bool) := (Option.bind ((bif (decide (0 ≤ a1)) then (some ((decide (a1 < (List.length a0.symbols : Int))))) else (some (false))) : Option ((Bool))) fun (v2 : (Bool)) => (some v2))
theorem grammar_symbol_ok (a0 : La) (a1 : Int) (r : Bool) (h : grammar_symbol a0 a1 = some r) : PCall Try.prog 175 [eLa a0, eI a1] (eB (r)) := by
 unfold grammar_symbol at h
 refine pcl [.one .keep] Try.func175 (by kernel_rfl) (by kernel_rfl) (by kernel_rfl) ?_
 refine jn1 6 .normal (fun v2 => ⟨14, [(4, (fB (v2)))], [], [], []⟩) h (by kernel_rfl) (fun v2 h => ?_) fun v2 h => ?_
 ·refine gd 4 h (by kernel_rfl) (fun h => ?_) fun h => ?_
  ·cases h; exact lj 8 (by kernel_rfl)
  cases h; exact lj 8 (by kernel_rfl)
 cases h; exact lq 1 (by kernel_rfl)

def grammar_same (a0 : Int) (a1 : Int) : Option (Int) := (bif (a0 != a1) then (some 3) else (some 0))
theorem grammar_same_ok (a0 : Int) (a1 : Int) (r : Int) (h : grammar_same a0 a1 = some r) : PCall Try.prog 176 [eI a0, eI a1] (eI (r)) := by
 unfold grammar_same at h
 refine pcl [.one .keep] Try.func176 (by kernel_rfl) (by kernel_rfl) (by kernel_rfl) ?_
 refine cd 11 h (by kernel_rfl) (fun h => ?_) fun h => ?_
 ·cases h; exact lq 5 (by kernel_rfl)
 cases h; exact lq 6 (by kernel_rfl)

def internal_bytealg_Cutover (a0 : Int) : Option (Int) := (some (w64 (Int.tdiv (w64 (a0 + 16)) 8)))
theorem internal_bytealg_Cutover_ok (a0 : Int) (r : Int) (h : internal_bytealg_Cutover a0 = some r) : PCall Try.prog 204 [eI a0] (eI (r)) := by
 unfold internal_bytealg_Cutover at h
 refine pcl [.one .keep] Try.func204 (by kernel_rfl) (by kernel_rfl) (by kernel_rfl) ?_
 cases h; exact lq 12 (by kernel_rfl)

def internal_bytealg_IndexRabinKarp_string (a0 : ByteArray) (a1 : ByteArray) : Option (Int) := none
theorem internal_bytealg_IndexRabinKarp_string_ok (a0 : ByteArray) (a1 : ByteArray) (r : Int) (h : internal_bytealg_IndexRabinKarp_string a0 a1 = some r) : PCall Try.prog 205 [eS a0, eS a1] (eI (r)) := by
 unfold internal_bytealg_IndexRabinKarp_string at h
 refine pcl [.one .keep] Try.func205 (by kernel_rfl) (by kernel_rfl) (by kernel_rfl) ?_
 cases h

def internal_stringslite_Index (a0 : ByteArray) (a1 : ByteArray) : Option (Int) := (Option.bind ((bif ((a1.size : Int) == 0) then (some (true)) else (some ((a1.toList == a0.toList)))) : Option ((Bool))) fun (v2 : (Bool)) => (bif v2 then (some 0) else (bif ((a1.size : Int) == 1) then (Option.bind (byt a1 0) fun v3 => (Option.bind (internal_stringslite_IndexByte (a0) (v3)) fun v4 => (some v4))) else (bif (decide ((a0.size : Int) ≤ (a1.size : Int))) then (some (-1)) else none))))
theorem internal_stringslite_Index_ok (a0 : ByteArray) (a1 : ByteArray) (r : Int) (h : internal_stringslite_Index a0 a1 = some r) : PCall Try.prog 202 [eS a0, eS a1] (eI (r)) := by
 unfold internal_stringslite_Index at h
 refine pcl [.one .keep] Try.func202 (by kernel_rfl) (by kernel_rfl) (by kernel_rfl) ?_
 refine jn1 13 .normal (fun v2 => ⟨143, [(0, (fS (a0))), (1, (fS (a1))), (5, (fI ((a1.size : Int)))), (16, (fB (v2)))], [], [], []⟩) h (by kernel_rfl) (fun v2 h => ?_) fun v2 h => ?_
 ·refine gd 4 h (by kernel_rfl) (fun h => ?_) fun h => ?_
  ·cases h; exact lj 6 (by kernel_rfl)
  cases h; exact lj 6 (by kernel_rfl)
 refine cd 0 h (by kernel_rfl) (fun h => ?_) fun h => ?_
 ·cases h; exact lq 5 (by kernel_rfl)
 refine cd 6 h (by kernel_rfl) (fun h => ?_) fun h => ?_
 ·refine byx 4 h (by kernel_rfl) fun v3 h => ?_
  refine cl 0 h (internal_stringslite_IndexByte_ok _ _) (by kernel_rfl) fun v4 h => ?_
  cases h; exact lq 3 (by kernel_rfl)
 refine cd 8 h (by kernel_rfl) (fun h => ?_) fun h => ?_
 ·cases h; exact lq 5 (by kernel_rfl)
 cases h

def internal_stringslite_Cut (a0 : ByteArray) (a1 : ByteArray) : Option ((ByteArray) × (ByteArray) × (Bool)) := (Option.bind (internal_stringslite_Index (a0) (a1)) fun v1 => (bif (decide (0 ≤ v1)) then (Option.bind (cutS a0 0 v1) fun v2 => (Option.bind (cutS a0 (w64 (v1 + (a1.size : Int))) a0.size) fun v3 => (some (v2, v3, true)))) else (some (a0, (⟨#[]⟩ : ByteArray), false))))
theorem internal_stringslite_Cut_ok (a0 : ByteArray) (a1 : ByteArray) (r : (ByteArray) × (ByteArray) × (Bool)) (h : internal_stringslite_Cut a0 a1 = some r) : PCall Try.prog 201 [eS a0, eS a1] (.tup [eS (r.1), eS (r.2.1), eB (r.2.2)]) := by
 unfold internal_stringslite_Cut at h
 refine pcl [.one .keep, .one .keep, .one .keep] Try.func201 (by kernel_rfl) (by kernel_rfl) (by kernel_rfl) ?_
 refine cl 11 h (internal_stringslite_Index_ok _ _) (by kernel_rfl) fun v1 h => ?_
 refine cd 7 h (by kernel_rfl) (fun h => ?_) fun h => ?_
 ·refine dw 1 10 (by kernel_rfl) ?_
  obtain ⟨v2, hv2, h⟩ := Option.bind_eq_some_iff.1 h
  refine nst 2 (s_cutS (t := 9) (x := (.tmp 13)) (lo := none) (hi := (some (.tmp 14))) (d := tt9) (s := a0) (l := none) (h := (some v1)) hv2 tt_ok (by kernel_rfl) (by kernel_rfl) (by kernel_rfl) (by kernel_rfl) (by kernel_rfl) (by kernel_rfl)) (by kernel_rfl) ?_
  obtain ⟨v3, hv3, h⟩ := Option.bind_eq_some_iff.1 h
  refine nst 5 (s_cutS (t := 9) (x := (.tmp 16)) (lo := (some (.tmp 20))) (hi := none) (d := tt9) (s := a0) (l := (some (w64 (v1 + (a1.size : Int))))) (h := none) hv3 tt_ok (by kernel_rfl) (by kernel_rfl) (by kernel_rfl) (by kernel_rfl) (by kernel_rfl) (by kernel_rfl)) (by kernel_rfl) ?_
  cases h; exact lq 6 (by kernel_rfl)
 cases h; exact lq 9 (by kernel_rfl)

def strings_Cut (a0 : ByteArray) (a1 : ByteArray) : Option ((ByteArray) × (ByteArray) × (Bool)) := (Option.bind (internal_stringslite_Cut (a0) (a1)) fun v1 => (some (v1.1, v1.2.1, v1.2.2)))
theorem strings_Cut_ok (a0 : ByteArray) (a1 : ByteArray) (r : (ByteArray) × (ByteArray) × (Bool)) (h : strings_Cut a0 a1 = some r) : PCall Try.prog 199 [eS a0, eS a1] (.tup [eS (r.1), eS (r.2.1), eB (r.2.2)]) := by
 unfold strings_Cut at h
 refine pcl [.one .keep, .one .keep, .one .keep] Try.func199 (by kernel_rfl) (by kernel_rfl) (by kernel_rfl) ?_
 refine cl 10 h (internal_stringslite_Cut_ok _ _) (by kernel_rfl) fun v1 h => ?_
 cases h; exact lq 8 (by kernel_rfl)

def operator_typeOf (a0 : Int) : Option (Int) := (bif (a0 == 66) then (some 1) else (bif (a0 == 73) then (some 2) else (bif (a0 == 84) then (some 3) else (bif (a0 == 86) then (some 4) else (bif (a0 == 76) then (some 5) else (bif (a0 == 83) then (some 6) else (bif (a0 == 77) then (some 7) else (some 8))))))))
theorem operator_typeOf_ok (a0 : Int) (r : Int) (h : operator_typeOf a0 = some r) : PCall Try.prog 200 [eU8 a0] (eI (r)) := by
 unfold operator_typeOf at h
 refine pcl [.one .keep] Try.func200 (by kernel_rfl) (by kernel_rfl) (by kernel_rfl) ?_
 refine cd 15 h (by kernel_rfl) (fun h => ?_) fun h => ?_
 ·cases h; exact lq 5 (by kernel_rfl)
 refine cd 5 h (by kernel_rfl) (fun h => ?_) fun h => ?_
 ·cases h; exact lq 5 (by kernel_rfl)
 refine cd 5 h (by kernel_rfl) (fun h => ?_) fun h => ?_
 ·cases h; exact lq 5 (by kernel_rfl)
 refine cd 5 h (by kernel_rfl) (fun h => ?_) fun h => ?_
 ·cases h; exact lq 5 (by kernel_rfl)
 refine cd 5 h (by kernel_rfl) (fun h => ?_) fun h => ?_
 ·cases h; exact lq 5 (by kernel_rfl)
 refine cd 5 h (by kernel_rfl) (fun h => ?_) fun h => ?_
 ·cases h; exact lq 5 (by kernel_rfl)
 refine cd 5 h (by kernel_rfl) (fun h => ?_) fun h => ?_
 ·cases h; exact lq 5 (by kernel_rfl)
 cases h; exact lq 6 (by kernel_rfl)

structure S_api_Operator where
  f_Name : ByteArray
  f_Args : List Int
  f_Result : Int
def eS_api_Operator (x : S_api_Operator) : FV := .agg [eS (x.f_Name), (eL 1 eI) (x.f_Args), eI (x.f_Result)]
def nS_api_Operator : En S_api_Operator := ⟨eS_api_Operator, 3, fun x => (eS_api_Operator x).cells, fun _ => rfl, fun _ => rfl⟩
structure S_operator_entry where
  f_Operator : S_api_Operator
  f_family : ByteArray
def eS_operator_entry (x : S_operator_entry) : FV := .agg [eS (x.f_Operator.f_Name), (eL 1 eI) (x.f_Operator.f_Args), eI (x.f_Operator.f_Result), eS (x.f_family)]
def nS_operator_entry : En S_operator_entry := ⟨eS_operator_entry, 4, fun x => (eS_operator_entry x).cells, fun _ => rfl, fun _ => rfl⟩
def operator_family_l1 (v3 : (ByteArray) × (ByteArray) × (Bool)) (v4 : (Int) × (List Int)) : Option (((Int) × (List Int)) ⊕ ((List Int))) := (bif (decide (v4.1 < (w64 ((v3.2.1.size : Int) - 1)))) then (Option.bind (byt v3.2.1 v4.1) fun v5 => (Option.bind (operator_typeOf (v5)) fun v6 => (Option.bind (app 8 v4.2 ([v6] : List (Int))) fun v7 => (some (.inl ((w64 (v4.1 + 1)), v7)))))) else (some (.inr (v4.2))))
def operator_family_l2 (a0 : ByteArray) (a1 : List ByteArray) (v1 : (Int) × (List S_operator_entry)) : Option (((Int) × (List S_operator_entry)) ⊕ ((List S_operator_entry))) := (bif (decide (v1.1 < (List.length a1 : Int))) then (Option.bind (idx a1 v1.1) fun v2 => (Option.bind (strings_Cut (v2) ((⟨#[58]⟩ : ByteArray))) fun v3 => (Option.bind (loopN (operator_family_l1 v3) fuel (0, ([] : List (Int)))) fun (v9 : (List Int)) => (Option.bind (byt v3.2.1 (w64 ((v3.2.1.size : Int) - 1))) fun v10 => (Option.bind (operator_typeOf (v10)) fun v11 => (Option.bind (app 64 v1.2 ([(S_operator_entry.mk ((S_api_Operator.mk (v3.1) (v9) (v11))) (a0))] : List (S_operator_entry))) fun v12 => (some (.inl ((w64 (v1.1 + 1)), v12))))))))) else (some (.inr (v1.2))))
def operator_family (a0 : ByteArray) (a1 : List ByteArray) : Option (List S_operator_entry) := (Option.bind (loopN (operator_family_l2 a0 a1) fuel (0, ([] : List (S_operator_entry)))) fun (v14 : (List S_operator_entry)) => (some v14))
theorem operator_family_ok (a0 : ByteArray) (a1 : List ByteArray) (r : List S_operator_entry) (h : operator_family a0 a1 = some r) : PCall Try.prog 197 [eS a0, (eL 1 eS) a1] ((eL 4 eS_operator_entry) (r)) := by
 unfold operator_family at h
 refine pcl [.one (.sl 4)] Try.func197 (by kernel_rfl) (by kernel_rfl) (by kernel_rfl) ?_
 refine wle 16 (le_nilrow (e := 182) (size := 4) (t := 5) (id := 1) (by decide) (by kernel_rfl) (by kernel_rfl)) (by kernel_rfl) ?_
 refine lp1 0 (fun v1 => ⟨62, [(0, (fS (a0))), (5, (.row 1 (List.length (v1.2)))), (13, (.fz ((eL 1 eS) (a1)))), (14, (fI ((List.length a1 : Int)))), (15, (fI (v1.1)))], [(1, (.frow 182 4 (List.map eS_operator_entry (v1.2))))], [1], []⟩) (.exit 0) (fun v14 => ⟨62, [(5, (.row 1 (List.length (v14))))], [(1, (.frow 182 4 (List.map eS_operator_entry (v14))))], [1], []⟩) h (by kernel_rfl) (by kernel_rfl) (fun v1 r h => ?_) fun v14 h => ?_
 ·unfold operator_family_l2 at h
  refine cd 5 h (by kernel_rfl) (fun h => ?_) fun h => ?_
  ·refine ix nS 5 h (by kernel_rfl) fun v2 h => ?_
   refine cl 6 h (strings_Cut_ok _ _) (by kernel_rfl) fun v3 h => ?_
   refine wle 31 (le_nilcell (e2 := 182) (e := 3) (size := 1) (id2 := 2) (j := 1) (id := 3) (cells := [(fS (v3.1)), (.fz (.atom (.slice none 0 0))), (fI (0)), (fS (a0))]) (by kernel_rfl) (by kernel_rfl) (by kernel_rfl) (by kernel_rfl)) (by kernel_rfl) ?_
   refine lp1 0 (fun v4 => ⟨62, [(0, (fS (a0))), (5, (.row 1 (List.length (v1.2)))), (9, (fS (v3.2.1))), (11, (.ref 2 0 0)), (13, (.fz ((eL 1 eS) (a1)))), (14, (fI ((List.length a1 : Int)))), (15, (fI (v1.1))), (32, (fI ((w64 ((v3.2.1.size : Int) - 1))))), (33, (fI (v4.1)))], [(1, (.frow 182 4 (List.map eS_operator_entry (v1.2)))), (2, (.box 182 [(fS (v3.1)), (.row 3 (List.length (v4.2))), (fI (0)), (fS (a0))])), (3, (.frow 3 1 (List.map eI (v4.2))))], [3, 2, 1], []⟩) (.exit 2) (fun v9 => ⟨62, [(0, (fS (a0))), (5, (.row 1 (List.length (v1.2)))), (9, (fS (v3.2.1))), (11, (.ref 2 0 0)), (13, (.fz ((eL 1 eS) (a1)))), (14, (fI ((List.length a1 : Int)))), (15, (fI (v1.1)))], [(1, (.frow 182 4 (List.map eS_operator_entry (v1.2)))), (2, (.box 182 [(fS (v3.1)), (.row 3 (List.length (v9))), (fI (0)), (fS (a0))])), (3, (.frow 3 1 (List.map eI (v9))))], [3, 2, 1], []⟩) h (by kernel_rfl) (by kernel_rfl) (fun v4 r h => ?_) fun v9 h => ?_
   ·unfold operator_family_l1 at h
    refine cd 5 h (by kernel_rfl) (fun h => ?_) fun h => ?_
    ·refine dw 8 8 (by kernel_rfl) ?_
     refine byx 5 h (by kernel_rfl) fun v5 h => ?_
     refine cl 0 h (operator_typeOf_ok _) (by kernel_rfl) fun v6 h => ?_
     refine ap nI 2 h (by kernel_rfl) fun v7 h => ?_
     cases h; exact lj 8 (by kernel_rfl)
    cases h; exact lo 1 (by kernel_rfl)
   refine byx 6 h (by kernel_rfl) fun v10 h => ?_
   refine cl 0 h (operator_typeOf_ok _) (by kernel_rfl) fun v11 h => ?_
   refine wle 7 (LeSt.trans (show LeSt _ ⟨62, [(0, (fS (a0))), (13, (.fz ((eL 1 eS) (a1)))), (14, (fI ((List.length a1 : Int)))), (15, (fI (v1.1))), (56, (.row 1 (List.length (v1.2)))), (57, (.agg [(fS (v3.1)), (.row 3 (List.length (v9))), (fI (v11)), (fS (a0))]))], [(1, (.frow 182 4 (List.map eS_operator_entry (v1.2)))), (3, (.frow 3 1 (List.map eI (v9))))], [3, 1], []⟩ from le_a (by kernel_rfl)) (LeSt.trans (le_frz 3 (n := List.length (v9)) (k := 1) (e := 3) (size := 1) (xs := List.map eI (v9)) (by kernel_rfl) (by simp) (by kernel_rfl)) (show LeSt _ ⟨62, [(0, (fS (a0))), (13, (.fz ((eL 1 eS) (a1)))), (14, (fI ((List.length a1 : Int)))), (15, (fI (v1.1))), (56, (.row 1 (List.length (v1.2)))), (57, (.fz (.agg [(eS (v3.1)), ((eL 1 eI) (v9)), (eI (v11)), (eS (a0))])))], [(1, (.frow 182 4 (List.map eS_operator_entry (v1.2))))], [3, 1], []⟩ from le_a (by kernel_rfl)))) (by kernel_rfl) ?_
   refine ap nS_operator_entry 1 h (by kernel_rfl) fun v12 h => ?_
   cases h; exact lj 6 (by kernel_rfl)
  cases h; exact lo 1 (by kernel_rfl)
 refine wle 5 (le_freeze (t := 4) (id := 1) (n := List.length (v14)) (e := 182) (size := 4) (xs := List.map eS_operator_entry (v14)) (by kernel_rfl) (by kernel_rfl) (by simp)) (by kernel_rfl) ?_
 cases h; exact lq 1 (by kernel_rfl)
end Go.Proofs.Ytaeicmnimjfbaaa
