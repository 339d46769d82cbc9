/- Typed programs and what computes them. -/
import Derived.Test.YtfkddbccogakoaaZ0
set_option linter.unusedVariables false
set_option linter.unusedSimpArgs false
set_option maxRecDepth 100000
namespace Go.Proofs.Ytfkddbccogakoaa
open Go Go.RowKit Go.Proofs
attribute [local irreducible] NStep StepA EStep LeSt
def counting_open_h (a0 : La) : Option (Unit) := (some ())
theorem counting_open_h_ok (a0 : La) (r : Unit) (h : counting_open_h a0 = some r) : HCall Try.prog 31 ([(.fz (eLa (a0)))] ++ []) [] [] (.ret (.ref 3 0 0)) [(2, (.smap (List.map (fun p => (p.1, eI p.2)) (([] : List (ByteArray × Int)))))), (3, (.box 83 [(fS (a0.name)), (.fz ((eL 1 eI) (a0.inputs))), (.fz ((eL 2 eSy) (a0.symbols))), (.fz ((eL 9 eRu) (a0.rules))), (.mp 2)]))] [2, 3] := by
 unfold counting_open_h at h
 refine hcx (gi := 0) Try.func31 (by kernel_rfl) (by kernel_rfl) (by kernel_rfl) (by kernel_rfl) (by kernel_rfl) (by kernel_rfl) (by kernel_rfl) (by kernel_rfl) ?_
 intro p0 q0 w0
 refine sst 8 (e_makeMap (t := 81) (id := 2) (by kernel_rfl) (by kernel_rfl)) (by kernel_rfl) ?_
 obtain rfl := Option.some.inj h; exact lh 5 ⟨7, [(2, (.ref 3 0 0))], [(0, (.was p0 [] q0 w0)), (2, (.smap (List.map (fun p => (p.1, eI p.2)) (([] : List (ByteArray × Int)))))), (3, (.box 83 [(fS (a0.name)), (.fz ((eL 1 eI) (a0.inputs))), (.fz ((eL 2 eSy) (a0.symbols))), (.fz ((eL 9 eRu) (a0.rules))), (.mp 2)]))], [0, 2, 3], []⟩ (le_a (by kernel_rfl)) rfl rfl (by kernel_rfl) (by kernel_rfl)

def grammar_Of_h_l1 (a0 : La) (a1 : Int) (v1 : (Int) × (List Int)) : Option (((Int) × (List Int)) ⊕ ((List Int))) := (bif (decide (v1.1 < (List.length a0.rules : Int))) then (Option.bind ((Option.bind (idx a0.rules v1.1) fun v2 => (bif (v2.symbol == a1) then (Option.bind (app 8 v1.2 ([v1.1] : List (Int))) fun v3 => (some (v3))) else (some (v1.2)))) : Option ((List Int))) fun (v5 : (List Int)) => (some (.inl ((w64 (v1.1 + 1)), v5)))) else (some (.inr (v1.2))))
def grammar_Of_h (a0 : La) (a1 : Int) : Option ((List Int)) := (Option.bind (loopN (grammar_Of_h_l1 a0 a1) fuel (0, ([] : List (Int)))) fun (v7 : (List Int)) => (some (v7)))
theorem grammar_Of_h_ok (a0 : La) (a1 : Int) (r : (List Int)) (h : grammar_Of_h a0 a1 = some r) : HCall Try.prog 49 ([(.fz (eLa (a0))), (fI (a1))] ++ []) [] [] (.ret (.row 2 (List.length (r)))) [(2, (.frow 3 1 (List.map eI (r))))] [2] := by
 unfold grammar_Of_h at h
 refine hcx (gi := 0) Try.func49 (by kernel_rfl) (by kernel_rfl) (by kernel_rfl) (by kernel_rfl) (by kernel_rfl) (by kernel_rfl) (by kernel_rfl) (by kernel_rfl) ?_
 intro p0 q0 w0
 refine wle 18 (le_nilrow (e := 3) (size := 1) (t := 5) (id := 2) (by decide) (by kernel_rfl) (by kernel_rfl)) (by kernel_rfl) ?_
 refine lp1 0 (fun v1 => ⟨26, [(1, (fI (a1))), (5, (.row 2 (List.length (v1.2)))), (9, (.fz ((eL 9 eRu) (a0.rules)))), (10, (fI ((List.length a0.rules : Int)))), (11, (fI (v1.1)))], [(0, (.was p0 [] q0 w0)), (2, (.frow 3 1 (List.map eI (v1.2))))], [2, 0], []⟩) (.exit 0) (fun v7 => ⟨26, [(5, (.row 2 (List.length (v7))))], [(0, (.was p0 [] q0 w0)), (2, (.frow 3 1 (List.map eI (v7))))], [2, 0], []⟩) h (by kernel_rfl) (by kernel_rfl) (fun v1 r h => ?_) fun v7 h => ?_
 ·unfold grammar_Of_h_l1 at h
  refine cd 5 h (by kernel_rfl) (fun h => ?_) fun h => ?_
  ·refine jn1 3 .normal (fun v5 => ⟨26, [(1, (fI (a1))), (5, (.row 2 (List.length (v5)))), (9, (.fz ((eL 9 eRu) (a0.rules)))), (10, (fI ((List.length a0.rules : Int)))), (11, (fI (v1.1)))], [(0, (.was p0 [] q0 w0)), (2, (.frow 3 1 (List.map eI (v5))))], [2, 0], []⟩) h (by kernel_rfl) (fun v5 h => ?_) fun v5 h => ?_
   ·refine ix nRu 3 h (by kernel_rfl) fun v2 h => ?_
    refine cd 12 h (by kernel_rfl) (fun h => ?_) fun h => ?_
    ·refine ap nI 4 h (by kernel_rfl) fun v3 h => ?_
     cases h; exact lj 2 (by kernel_rfl)
    cases h; exact lj 1 (by kernel_rfl)
   cases h; exact lj 4 (by kernel_rfl)
  cases h; exact lo 1 (by kernel_rfl)
 obtain rfl := Option.some.inj h; exact lh 6 ⟨26, [(4, (.row 2 (List.length (v7))))], [(0, (.was p0 [] q0 w0)), (2, (.frow 3 1 (List.map eI (v7))))], [0, 2], []⟩ (le_a (by kernel_rfl)) rfl rfl (by kernel_rfl) (by kernel_rfl)

def counting_args_h (a0 : Ru) : Option ((List Int)) := (bif (a0.kind != 3) then (some (([] : List Int))) else (some (a0.args)))
theorem counting_args_h_ok (a0 : Ru) (r : (List Int)) (h : counting_args_h a0 = some r) : HCall Try.prog 51 ([(.fz (eRu (a0)))] ++ []) [] [] (.ret (.fz ((eL 1 eI) (r)))) [] [] := by
 unfold counting_args_h at h
 refine hcx (gi := 0) Try.func51 (by kernel_rfl) (by kernel_rfl) (by kernel_rfl) (by kernel_rfl) (by kernel_rfl) (by kernel_rfl) (by kernel_rfl) (by kernel_rfl) ?_
 intro p0 q0 w0
 refine cd 12 h (by kernel_rfl) (fun h => ?_) fun h => ?_
 ·obtain rfl := Option.some.inj h; exact lh 5 ⟨8, [(2, (.fz ((eL 1 eI) (([] : List Int)))))], [(0, (.was p0 [] q0 w0))], [0], []⟩ (le_a (by kernel_rfl)) rfl rfl (by kernel_rfl) (by kernel_rfl)
 obtain rfl := Option.some.inj h; exact lh 8 ⟨8, [(2, (.fz ((eL 1 eI) (a0.args))))], [(0, (.was p0 [] q0 w0))], [0], []⟩ (le_a (by kernel_rfl)) rfl rfl (by kernel_rfl) (by kernel_rfl)

def counting_key_h2_l1 (a0 : List Int) (v1 : (Int) × (List Int)) : Option (((Int) × (List Int)) ⊕ ((List Int))) := (bif (decide (v1.1 < (List.length a0 : Int))) then (Option.bind (idx a0 v1.1) fun v2 => (Option.bind (app 1 v1.2 ([(wu8 v2)] : List (Int))) fun v3 => (some (.inl ((w64 (v1.1 + 1)), v3))))) else (some (.inr (v1.2))))
def counting_key_h2 (a0 : List Int) (a1 : Int) : Option ((ByteArray)) := (Option.bind (loopN (counting_key_h2_l1 a0) fuel (0, ([(wu8 a1)] : List (Int)))) fun (v5 : (List Int)) => (some ((toBA v5))))
theorem counting_key_h2_ok (a0 : List Int) (a1 : Int) (r : (ByteArray)) (h : counting_key_h2 a0 a1 = some r) : HCall Try.prog 65 ([(.fz ((eL 1 eI) (a0))), (fI (a1))] ++ []) [] [] (.ret (fS (r))) [] [] := by
 unfold counting_key_h2 at h
 refine hcx (gi := 0) Try.func65 (by kernel_rfl) (by kernel_rfl) (by kernel_rfl) (by kernel_rfl) (by kernel_rfl) (by kernel_rfl) (by kernel_rfl) (by kernel_rfl) ?_
 intro p0 q0 w0
 refine sst 8 (s_litrow (t := 106) (n := 1) (parts := #[(0, (.tmp 9))]) (d := tt106) (e := 5) (de := tt5) (enc := eU8) (xs := ([(wu8 a1)] : List (Int))) (id := 1) tt_ok (by kernel_rfl) (by kernel_rfl) (by kernel_rfl) (by kernel_rfl) (by kernel_rfl) rfl (by kernel_rfl) (by kernel_rfl) (by kernel_rfl)) (by kernel_rfl) ?_
 refine lp1 10 (fun v1 => ⟨25, [(5, (.row 1 (List.length (v1.2)))), (11, (.fz ((eL 1 eI) (a0)))), (12, (fI ((List.length a0 : Int)))), (13, (fI (v1.1)))], [(0, (.was p0 [] q0 w0)), (1, (.frow 5 1 (List.map eU8 (v1.2))))], [1, 0], []⟩) (.exit 0) (fun v5 => ⟨25, [(5, (.row 1 (List.length (v5))))], [(0, (.was p0 [] q0 w0)), (1, (.frow 5 1 (List.map eU8 (v5))))], [1, 0], []⟩) h (by kernel_rfl) (by kernel_rfl) (fun v1 r h => ?_) fun v5 h => ?_
 ·unfold counting_key_h2_l1 at h
  refine cd 5 h (by kernel_rfl) (fun h => ?_) fun h => ?_
  ·refine ix nI 5 h (by kernel_rfl) fun v2 h => ?_
   refine ap nU8 8 h (by kernel_rfl) fun v3 h => ?_
   cases h; exact lj 6 (by kernel_rfl)
  cases h; exact lo 1 (by kernel_rfl)
 refine wle 3 (le_freezeTs (id := 1) (n := List.length (v5)) (e := 5) (size := 1) (xs := List.map eU8 (v5)) [23] ⟨by kernel_rfl, trivial⟩ (by kernel_rfl) (by simp)) (by kernel_rfl) ?_
 refine nst 0 (s_b2s (sr := 106) (t := 9) (x := (.tmp 23)) (e := 5) (de := tt5) (ds := tt106) (d := tt9) (xs := v5) tt_ok (by kernel_rfl) (by kernel_rfl) rfl (by kernel_rfl) rfl (by kernel_rfl) rfl (by kernel_rfl)) (by kernel_rfl) ?_
 obtain rfl := Option.some.inj h; exact lh 3 ⟨25, [(4, (fS ((toBA v5))))], [(0, (.was p0 [] q0 w0))], [0], []⟩ (le_a (by kernel_rfl)) rfl rfl (by kernel_rfl) (by kernel_rfl)

def counting_times_h (a0 : Int) (a1 : Int) : Option ((Int)) := (Option.bind ((bif (decide (0 < a0)) then (Option.bind (quo .i64 1152921504606846976 a0) fun v1 => (some ((decide (v1 < a1))))) else (some (false))) : Option ((Bool))) fun (v3 : (Bool)) => (bif v3 then (some (1152921504606846977)) else (some ((w64 (a0 * a1))))))
theorem counting_times_h_ok (a0 : Int) (a1 : Int) (r : (Int)) (h : counting_times_h a0 a1 = some r) : HCall Try.prog 66 ([(fI (a0)), (fI (a1))] ++ []) [] [] (.ret (fI (r))) [] [] := by
 unfold counting_times_h at h
 refine hcx (gi := 0) Try.func66 (by kernel_rfl) (by kernel_rfl) (by kernel_rfl) (by kernel_rfl) (by kernel_rfl) (by kernel_rfl) (by kernel_rfl) (by kernel_rfl) ?_
 intro p0 q0 w0
 refine jn1 6 .normal (fun v3 => ⟨16, [(0, (fI (a0))), (1, (fI (a1))), (12, (fB (v3)))], [(0, (.was p0 [] q0 w0))], [0], []⟩) h (by kernel_rfl) (fun v3 h => ?_) fun v3 h => ?_
 ·refine gd 4 h (by kernel_rfl) (fun h => ?_) fun h => ?_
  ·obtain ⟨v1, hv1, h⟩ := Option.bind_eq_some_iff.1 h
   refine nst 2 (s_quo (t := 2) (x := (.const (.int .i64 1152921504606846976))) (y := (.tmp 9)) (yt := 2) (k := .i64) (m := 1152921504606846976) (n := a0) hv1 (by kernel_rfl) (by kernel_rfl) (by kernel_rfl)) (by kernel_rfl) ?_
   cases h; exact lj 3 (by kernel_rfl)
  cases h; exact lj 6 (by kernel_rfl)
 refine cd 0 h (by kernel_rfl) (fun h => ?_) fun h => ?_
 ·obtain rfl := Option.some.inj h; exact lh 5 ⟨16, [(4, (fI (1152921504606846977)))], [(0, (.was p0 [] q0 w0))], [0], []⟩ (le_a (by kernel_rfl)) rfl rfl (by kernel_rfl) (by kernel_rfl)
 obtain rfl := Option.some.inj h; exact lh 9 ⟨16, [(4, (fI ((w64 (a0 * a1)))))], [(0, (.was p0 [] q0 w0))], [0], []⟩ (le_a (by kernel_rfl)) rfl rfl (by kernel_rfl) (by kernel_rfl)

def counting_plus_h (a0 : Int) (a1 : Int) : Option (Unit) := (some ())
theorem counting_plus_h_ok (a0 : Int) (a1 : Int) (r : Unit) (h : counting_plus_h a0 a1 = some r) : HCall Try.prog 36 ([(fI (a0)), (fI (a1))] ++ []) [] [] (.ret (fI ((imin (w64 (a0 + a1)) 1152921504606846977)))) [] [] := by
 unfold counting_plus_h at h
 refine hcx (gi := 0) Try.func36 (by kernel_rfl) (by kernel_rfl) (by kernel_rfl) (by kernel_rfl) (by kernel_rfl) (by kernel_rfl) (by kernel_rfl) (by kernel_rfl) ?_
 intro p0 q0 w0
 obtain rfl := Option.some.inj h; exact lh 13 ⟨9, [(4, (fI ((imin (w64 (a0 + a1)) 1152921504606846977))))], [(0, (.was p0 [] q0 w0))], [0], []⟩ (le_a (by kernel_rfl)) rfl rfl (by kernel_rfl) (by kernel_rfl)

def counting_counter_lists_h3_l1 (a0 : La) (a2 : List Int) (a3 : Int) (r19 : (La) → (List (ByteArray × Int)) → (List Int) → (Int) → Option ((Int) × (List (ByteArray × Int)))) (v8 : (Int) × (Int) × (List (ByteArray × Int))) : Option (((Int) × (Int) × (List (ByteArray × Int))) ⊕ ((Int) × (List (ByteArray × Int)))) := (bif (decide (v8.2.1 < (w64 ((w64 (a3 - (List.length a2 : Int))) + 1)))) then (Option.bind (cutL a2 0 1) fun v9 => (Option.bind (r19 (a0) (v8.2.2) (v9) ((w64 (v8.2.1 + 1)))) fun v10 => (Option.bind (cutL a2 1 (List.length a2)) fun v11 => (Option.bind (r19 (a0) (v10.2) (v11) ((w64 ((w64 (a3 - v8.2.1)) - 1)))) fun v12 => (Option.bind (counting_times_h (v10.1) (v12.1)) fun v13 => (Option.bind (counting_plus_h (v8.1) (v13)) fun v14 => (some (.inl ((imin (w64 ((v8.1) + (v13))) 1152921504606846977), (w64 (v8.2.1 + 1)), v12.2))))))))) else (some (.inr (v8.1, v8.2.2))))
def counting_counter_lists_h3_b (r14 : (La) → (List (ByteArray × Int)) → (Int) → (Int) → Option ((Int) × (List (ByteArray × Int)))) (r19 : (La) → (List (ByteArray × Int)) → (List Int) → (Int) → Option ((Int) × (List (ByteArray × Int)))) (a0 : La) (a1 : List (ByteArray × Int)) (a2 : List Int) (a3 : Int) : Option ((Int) × (List (ByteArray × Int))) := (Option.bind ((bif ((List.length a2 : Int) == 0) then (some (true)) else (some ((decide (a3 < (List.length a2 : Int)))))) : Option ((Bool))) fun (v2 : (Bool)) => (bif v2 then (Option.bind ((bif ((List.length a2 : Int) == 0) then (some ((a3 == 0))) else (some (false))) : Option ((Bool))) fun (v4 : (Bool)) => (bif v4 then (some (1, a1)) else (some (0, a1)))) else (Option.bind (counting_key_h2 (a2) (a3)) fun v5 => (bif (mhas a1 v5) then (some ((mget a1 v5 0), a1)) else (Option.bind ((bif ((List.length a2 : Int) == 1) then (Option.bind (idx a2 0) fun v6 => (Option.bind (r14 (a0) (a1) (v6) (a3)) fun v7 => (some (v7.1, v7.2)))) else (Option.bind (loopN (counting_counter_lists_h3_l1 a0 a2 a3 r19) fuel (0, 0, a1)) fun (v16 : (Int) × (List (ByteArray × Int))) => (some (v16.1, v16.2)))) : Option ((Int) × (List (ByteArray × Int)))) fun (v18 : (Int) × (List (ByteArray × Int))) => (some (v18.1, (mput v18.2 v5 v18.1))))))))
theorem counting_counter_lists_h3_b_ok (r14 : (La) → (List (ByteArray × Int)) → (Int) → (Int) → Option ((Int) × (List (ByteArray × Int)))) (r19 : (La) → (List (ByteArray × Int)) → (List Int) → (Int) → Option ((Int) × (List (ByteArray × Int)))) (ih14 : ∀ (x0 : La) (x1 : List (ByteArray × Int)) (x2 : Int) (x3 : Int) r, r14 x0 x1 x2 x3 = some r → HCall Try.prog 32 ([(.ref 1 0 0), (fI (x2)), (fI (x3))] ++ []) [(1, (.box 83 [(fS (x0.name)), (.fz ((eL 1 eI) (x0.inputs))), (.fz ((eL 2 eSy) (x0.symbols))), (.fz ((eL 9 eRu) (x0.rules))), (.mp 2)])), (2, (.smap (List.map (fun p => (p.1, eI p.2)) (x1))))] [1, 2] (.ret (fI (r.1))) [(1, (.box 83 [(fS (x0.name)), (.fz ((eL 1 eI) (x0.inputs))), (.fz ((eL 2 eSy) (x0.symbols))), (.fz ((eL 9 eRu) (x0.rules))), (.mp 2)])), (2, (.smap (List.map (fun p => (p.1, eI p.2)) (r.2))))] [1, 2]) (ih19 : ∀ (x0 : La) (x1 : List (ByteArray × Int)) (x2 : List Int) (x3 : Int) r, r19 x0 x1 x2 x3 = some r → HCall Try.prog 50 ([(.ref 1 0 0), (.fz ((eL 1 eI) (x2))), (fI (x3))] ++ []) [(1, (.box 83 [(fS (x0.name)), (.fz ((eL 1 eI) (x0.inputs))), (.fz ((eL 2 eSy) (x0.symbols))), (.fz ((eL 9 eRu) (x0.rules))), (.mp 2)])), (2, (.smap (List.map (fun p => (p.1, eI p.2)) (x1))))] [1, 2] (.ret (fI (r.1))) [(1, (.box 83 [(fS (x0.name)), (.fz ((eL 1 eI) (x0.inputs))), (.fz ((eL 2 eSy) (x0.symbols))), (.fz ((eL 9 eRu) (x0.rules))), (.mp 2)])), (2, (.smap (List.map (fun p => (p.1, eI p.2)) (r.2))))] [1, 2]) (a0 : La) (a1 : List (ByteArray × Int)) (a2 : List Int) (a3 : Int) (r : (Int) × (List (ByteArray × Int))) (h : counting_counter_lists_h3_b r14 r19 a0 a1 a2 a3 = some r) : HCall Try.prog 50 ([(.ref 1 0 0), (.fz ((eL 1 eI) (a2))), (fI (a3))] ++ []) [(1, (.box 83 [(fS (a0.name)), (.fz ((eL 1 eI) (a0.inputs))), (.fz ((eL 2 eSy) (a0.symbols))), (.fz ((eL 9 eRu) (a0.rules))), (.mp 2)])), (2, (.smap (List.map (fun p => (p.1, eI p.2)) (a1))))] [1, 2] (.ret (fI (r.1))) [(1, (.box 83 [(fS (a0.name)), (.fz ((eL 1 eI) (a0.inputs))), (.fz ((eL 2 eSy) (a0.symbols))), (.fz ((eL 9 eRu) (a0.rules))), (.mp 2)])), (2, (.smap (List.map (fun p => (p.1, eI p.2)) (r.2))))] [1, 2] := by
 unfold counting_counter_lists_h3_b at h
 refine hcx (gi := 0) Try.func50 (by kernel_rfl) (by kernel_rfl) (by kernel_rfl) (by kernel_rfl) (by kernel_rfl) (by kernel_rfl) (by kernel_rfl) (by kernel_rfl) ?_
 intro p0 q0 w0
 refine jn1 6 .normal (fun v2 => ⟨84, [(0, (.ref 1 0 0)), (1, (.fz ((eL 1 eI) (a2)))), (2, (fI (a3))), (20, (fB (v2)))], [(0, (.was p0 [1, 2] q0 w0)), (1, (.box 83 [(fS (a0.name)), (.fz ((eL 1 eI) (a0.inputs))), (.fz ((eL 2 eSy) (a0.symbols))), (.fz ((eL 9 eRu) (a0.rules))), (.mp 2)])), (2, (.smap (List.map (fun p => (p.1, eI p.2)) (a1))))], [0, 1, 2], []⟩) h (by kernel_rfl) (fun v2 h => ?_) fun v2 h => ?_
 ·refine gd 5 h (by kernel_rfl) (fun h => ?_) fun h => ?_
  ·cases h; exact lj 6 (by kernel_rfl)
  cases h; exact lj 6 (by kernel_rfl)
 refine cd 0 h (by kernel_rfl) (fun h => ?_) fun h => ?_
 ·refine jn1 2 .normal (fun v4 => ⟨84, [(27, (fB (v4)))], [(0, (.was p0 [1, 2] q0 w0)), (1, (.box 83 [(fS (a0.name)), (.fz ((eL 1 eI) (a0.inputs))), (.fz ((eL 2 eSy) (a0.symbols))), (.fz ((eL 9 eRu) (a0.rules))), (.mp 2)])), (2, (.smap (List.map (fun p => (p.1, eI p.2)) (a1))))], [0, 1, 2], []⟩) h (by kernel_rfl) (fun v4 h => ?_) fun v4 h => ?_
  ·refine gd 5 h (by kernel_rfl) (fun h => ?_) fun h => ?_
   ·cases h; exact lj 4 (by kernel_rfl)
   cases h; exact lj 4 (by kernel_rfl)
  refine cd 0 h (by kernel_rfl) (fun h => ?_) fun h => ?_
  ·obtain rfl := Option.some.inj h; exact lh 5 ⟨84, [(6, (fI (1)))], [(0, (.was p0 [1, 2] q0 w0)), (1, (.box 83 [(fS (a0.name)), (.fz ((eL 1 eI) (a0.inputs))), (.fz ((eL 2 eSy) (a0.symbols))), (.fz ((eL 9 eRu) (a0.rules))), (.mp 2)])), (2, (.smap (List.map (fun p => (p.1, eI p.2)) (a1))))], [0, 1, 2], []⟩ (le_a (by kernel_rfl)) rfl rfl (by kernel_rfl) (by kernel_rfl)
  obtain rfl := Option.some.inj h; exact lh 6 ⟨84, [(6, (fI (0)))], [(0, (.was p0 [1, 2] q0 w0)), (1, (.box 83 [(fS (a0.name)), (.fz ((eL 1 eI) (a0.inputs))), (.fz ((eL 2 eSy) (a0.symbols))), (.fz ((eL 9 eRu) (a0.rules))), (.mp 2)])), (2, (.smap (List.map (fun p => (p.1, eI p.2)) (a1))))], [0, 1, 2], []⟩ (le_a (by kernel_rfl)) rfl rfl (by kernel_rfl) (by kernel_rfl)
 refine hcl 5 [.one .keep, .one .keep] [] [] [] h (counting_key_h2_ok _ _) (fun _ => by kernel_rfl) fun v5 h => ?_
 refine nst 10 (n_lookup2 (t := 81) (x := (.tmp 35)) (y := (.tmp 36)) (enc := eI) (m := a1) (s := v5) (z := 0) (id := 2) (d := tt81) (kt := 9) (et := 2) (kd := tt9) (.int .i64 0) (by kernel_rfl) tt_ok rfl (by kernel_rfl) rfl (by kernel_rfl) Try.t2 (by kernel_rfl) (by kernel_rfl) (by kernel_rfl) rfl (by kernel_rfl) (by kernel_rfl) (by kernel_rfl)) (by kernel_rfl) ?_
 refine cd 10 h (by kernel_rfl) (fun h => ?_) fun h => ?_
 ·obtain rfl := Option.some.inj h; exact lh 6 ⟨84, [(6, (fI ((mget a1 v5 0))))], [(0, (.was p0 [1, 2] q0 w0)), (1, (.box 83 [(fS (a0.name)), (.fz ((eL 1 eI) (a0.inputs))), (.fz ((eL 2 eSy) (a0.symbols))), (.fz ((eL 9 eRu) (a0.rules))), (.mp 2)])), (2, (.smap (List.map (fun p => (p.1, eI p.2)) (a1))))], [0, 1, 2], []⟩ (le_a (by kernel_rfl)) rfl rfl (by kernel_rfl) (by kernel_rfl)
 refine jn1 6 .normal (fun v18 => ⟨84, [(0, (.ref 1 0 0)), (7, (fS (v5))), (10, (fI (v18.1)))], [(0, (.was p0 [1, 2] q0 w0)), (1, (.box 83 [(fS (a0.name)), (.fz ((eL 1 eI) (a0.inputs))), (.fz ((eL 2 eSy) (a0.symbols))), (.fz ((eL 9 eRu) (a0.rules))), (.mp 2)])), (2, (.smap (List.map (fun p => (p.1, eI p.2)) (v18.2))))], [0, 1, 2], []⟩) h (by kernel_rfl) (fun v18 h => ?_) fun v18 h => ?_
 ·refine cd 6 h (by kernel_rfl) (fun h => ?_) fun h => ?_
  ·refine ix nI 3 h (by kernel_rfl) fun v6 h => ?_
   refine hcl 2 [.one .keep, .one .keep, .one .keep] [(1, 1), (2, 2)] [(1, 1), (2, 2)] [1, 2] h (ih14 _ _ _ _) (fun _ => by kernel_rfl) fun v7 h => ?_
   cases h; exact lj 2 (by kernel_rfl)
  refine lp1 10 (fun v8 => ⟨84, [(0, (.ref 1 0 0)), (1, (.fz ((eL 1 eI) (a2)))), (2, (fI (a3))), (7, (fS (v5))), (10, (fI (v8.1))), (55, (fI ((w64 ((w64 (a3 - (List.length a2 : Int))) + 1))))), (56, (fI (v8.2.1)))], [(0, (.was p0 [1, 2] q0 w0)), (1, (.box 83 [(fS (a0.name)), (.fz ((eL 1 eI) (a0.inputs))), (.fz ((eL 2 eSy) (a0.symbols))), (.fz ((eL 9 eRu) (a0.rules))), (.mp 2)])), (2, (.smap (List.map (fun p => (p.1, eI p.2)) (v8.2.2))))], [0, 1, 2], []⟩) (.exit 0) (fun v16 => ⟨84, [(0, (.ref 1 0 0)), (7, (fS (v5))), (10, (fI (v16.1)))], [(0, (.was p0 [1, 2] q0 w0)), (1, (.box 83 [(fS (a0.name)), (.fz ((eL 1 eI) (a0.inputs))), (.fz ((eL 2 eSy) (a0.symbols))), (.fz ((eL 9 eRu) (a0.rules))), (.mp 2)])), (2, (.smap (List.map (fun p => (p.1, eI p.2)) (v16.2))))], [0, 1, 2], []⟩) h (by kernel_rfl) (by kernel_rfl) (fun v8 r h => ?_) fun v16 h => ?_
  ·unfold counting_counter_lists_h3_l1 at h
   refine cd 5 h (by kernel_rfl) (fun h => ?_) fun h => ?_
   ·refine dz 8 16 [6, 14] [2] (List.range 3) (by kernel_rfl) ?_
    obtain ⟨v9, hv9, h⟩ := Option.bind_eq_some_iff.1 h
    refine nst 3 (s_cutL (t := 22) (x := (.tmp 61)) (lo := none) (hi := (some (.const (.int .i64 1)))) (d := tt22) (e := 3) (de := tt3) (size := 1) (enc := eI) (xs := a2) (l := none) (h := (some 1)) hv9 tt_ok (by kernel_rfl) (by kernel_rfl) (by kernel_rfl) (by kernel_rfl) (by kernel_rfl) (by kernel_rfl) (by kernel_rfl) (by kernel_rfl)) (by kernel_rfl) ?_
    refine hclZ 2 [.one .keep, .one .keep, .one .keep] [(1, 1), (2, 2)] [(1, 1), (2, 2)] [1, 2] h (ih19 _ _ _ _) (fun _ => by kernel_rfl) (by kernel_rfl) (fun _ => by kernel_rfl) fun v10 h => ?_
    obtain ⟨v11, hv11, h⟩ := Option.bind_eq_some_iff.1 h
    refine nst 2 (s_cutL (t := 22) (x := (.tmp 67)) (lo := (some (.const (.int .i64 1)))) (hi := none) (d := tt22) (e := 3) (de := tt3) (size := 1) (enc := eI) (xs := a2) (l := (some 1)) (h := none) hv11 tt_ok (by kernel_rfl) (by kernel_rfl) (by kernel_rfl) (by kernel_rfl) (by kernel_rfl) (by kernel_rfl) (by kernel_rfl) (by kernel_rfl)) (by kernel_rfl) ?_
    refine hclZ 4 [.one .keep, .one .keep, .one .keep] [(1, 1), (2, 2)] [(1, 1), (2, 2)] [1, 2] h (ih19 _ _ _ _) (fun _ => by kernel_rfl) (by kernel_rfl) (fun _ => by kernel_rfl) fun v12 h => ?_
    obtain ⟨v13, hv13, h⟩ := Option.bind_eq_some_iff.1 h
    refine nst 0 (n_hcall (f := 66) (args := #[(.tmp 65), (.tmp 73)]) (ts := #[2, 2]) (cs := [.one .keep, .one .keep]) (by kernel_rfl) (by kernel_rfl) (counting_times_h_ok (v10.1) (v12.1) _ hv13) (.inl rfl)) (by kernel_rfl) ?_
    refine hcl 1 [.one .keep, .one .keep] [] [] [] h (counting_plus_h_ok _ _) (fun _ => by kernel_rfl) fun v14 h => ?_
    cases h; exact lj 6 (by kernel_rfl)
   cases h; exact lo 1 (by kernel_rfl)
  cases h; exact lj 0 (by kernel_rfl)
 refine sst 8 (e_mapUpdate (t := 81) (x := (.tmp 80)) (y := (.tmp 81)) (v := (.tmp 82)) (enc := eI) (m := v18.2) (s := v5) (z := v18.1) (id := 2) (d := tt81) (kt := 9) (et := 2) (kd := tt9) (by kernel_rfl) tt_ok rfl (by kernel_rfl) rfl (by kernel_rfl) (by kernel_rfl) (by kernel_rfl) (by kernel_rfl) (by kernel_rfl)) (by kernel_rfl) ?_
 obtain rfl := Option.some.inj h; exact lh 7 ⟨84, [(6, (fI (v18.1)))], [(0, (.was p0 [1, 2] q0 w0)), (1, (.box 83 [(fS (a0.name)), (.fz ((eL 1 eI) (a0.inputs))), (.fz ((eL 2 eSy) (a0.symbols))), (.fz ((eL 9 eRu) (a0.rules))), (.mp 2)])), (2, (.smap (List.map (fun p => (p.1, eI p.2)) ((mput v18.2 v5 v18.1)))))], [0, 1, 2], []⟩ (le_a (by kernel_rfl)) rfl rfl (by kernel_rfl) (by kernel_rfl)
def counting_counter_lists_h3 (r14 : (La) → (List (ByteArray × Int)) → (Int) → (Int) → Option ((Int) × (List (ByteArray × Int)))) : Nat → (La) → (List (ByteArray × Int)) → (List Int) → (Int) → Option ((Int) × (List (ByteArray × Int)))
  | 0 => fun _ _ _ _ => none
  | n + 1 => counting_counter_lists_h3_b r14 (counting_counter_lists_h3 r14 n)
theorem counting_counter_lists_h3_ok (r14 : (La) → (List (ByteArray × Int)) → (Int) → (Int) → Option ((Int) × (List (ByteArray × Int)))) (ih14 : ∀ (x0 : La) (x1 : List (ByteArray × Int)) (x2 : Int) (x3 : Int) r, r14 x0 x1 x2 x3 = some r → HCall Try.prog 32 ([(.ref 1 0 0), (fI (x2)), (fI (x3))] ++ []) [(1, (.box 83 [(fS (x0.name)), (.fz ((eL 1 eI) (x0.inputs))), (.fz ((eL 2 eSy) (x0.symbols))), (.fz ((eL 9 eRu) (x0.rules))), (.mp 2)])), (2, (.smap (List.map (fun p => (p.1, eI p.2)) (x1))))] [1, 2] (.ret (fI (r.1))) [(1, (.box 83 [(fS (x0.name)), (.fz ((eL 1 eI) (x0.inputs))), (.fz ((eL 2 eSy) (x0.symbols))), (.fz ((eL 9 eRu) (x0.rules))), (.mp 2)])), (2, (.smap (List.map (fun p => (p.1, eI p.2)) (r.2))))] [1, 2]) : ∀ n : Nat, ∀ (x0 : La) (x1 : List (ByteArray × Int)) (x2 : List Int) (x3 : Int) r, counting_counter_lists_h3 r14 n x0 x1 x2 x3 = some r → HCall Try.prog 50 ([(.ref 1 0 0), (.fz ((eL 1 eI) (x2))), (fI (x3))] ++ []) [(1, (.box 83 [(fS (x0.name)), (.fz ((eL 1 eI) (x0.inputs))), (.fz ((eL 2 eSy) (x0.symbols))), (.fz ((eL 9 eRu) (x0.rules))), (.mp 2)])), (2, (.smap (List.map (fun p => (p.1, eI p.2)) (x1))))] [1, 2] (.ret (fI (r.1))) [(1, (.box 83 [(fS (x0.name)), (.fz ((eL 1 eI) (x0.inputs))), (.fz ((eL 2 eSy) (x0.symbols))), (.fz ((eL 9 eRu) (x0.rules))), (.mp 2)])), (2, (.smap (List.map (fun p => (p.1, eI p.2)) (r.2))))] [1, 2]
  | 0 => fun _ _ _ _ _ h => by cases h
  | n + 1 => fun a0 a1 a2 a3 r h => counting_counter_lists_h3_b_ok r14 (counting_counter_lists_h3 r14 n) ih14 (counting_counter_lists_h3_ok r14 ih14 n) a0 a1 a2 a3 r h

def counting_counter_terms_h2_l1 (a0 : La) (a3 : Int) (r14 : (La) → (List (ByteArray × Int)) → (Int) → (Int) → Option ((Int) × (List (ByteArray × Int)))) (v1 : (List Int)) (v2 : (Int) × (Int) × (List (ByteArray × Int))) : Option (((Int) × (Int) × (List (ByteArray × Int))) ⊕ ((Int) × (List (ByteArray × Int)))) := (bif (decide (v2.2.1 < (List.length (v1) : Int))) then (Option.bind (idx v1 v2.2.1) fun v3 => (Option.bind (idx a0.rules v3) fun v4 => (Option.bind (counting_args_h (v4)) fun v5 => (Option.bind (counting_counter_lists_h3 (r14) fuel (a0) (v2.2.2) (v5) ((w64 (a3 - 1)))) fun v6 => (Option.bind (counting_plus_h (v2.1) (v6.1)) fun v7 => (some (.inl ((imin (w64 ((v2.1) + (v6.1))) 1152921504606846977), (w64 (v2.2.1 + 1)), v6.2)))))))) else (some (.inr (v2.1, v2.2.2))))
def counting_counter_terms_h2_b (r14 : (La) → (List (ByteArray × Int)) → (Int) → (Int) → Option ((Int) × (List (ByteArray × Int)))) (a0 : La) (a1 : List (ByteArray × Int)) (a2 : Int) (a3 : Int) : Option ((Int) × (List (ByteArray × Int))) := (Option.bind (grammar_Of_h (a0) (a2)) fun v1 => (Option.bind (loopN (counting_counter_terms_h2_l1 a0 a3 r14 v1) fuel (0, 0, a1)) fun (v9 : (Int) × (List (ByteArray × Int))) => (some (v9.1, v9.2))))
theorem counting_counter_terms_h2_b_ok (r14 : (La) → (List (ByteArray × Int)) → (Int) → (Int) → Option ((Int) × (List (ByteArray × Int)))) (ih14 : ∀ (x0 : La) (x1 : List (ByteArray × Int)) (x2 : Int) (x3 : Int) r, r14 x0 x1 x2 x3 = some r → HCall Try.prog 32 ([(.ref 1 0 0), (fI (x2)), (fI (x3))] ++ []) [(1, (.box 83 [(fS (x0.name)), (.fz ((eL 1 eI) (x0.inputs))), (.fz ((eL 2 eSy) (x0.symbols))), (.fz ((eL 9 eRu) (x0.rules))), (.mp 2)])), (2, (.smap (List.map (fun p => (p.1, eI p.2)) (x1))))] [1, 2] (.ret (fI (r.1))) [(1, (.box 83 [(fS (x0.name)), (.fz ((eL 1 eI) (x0.inputs))), (.fz ((eL 2 eSy) (x0.symbols))), (.fz ((eL 9 eRu) (x0.rules))), (.mp 2)])), (2, (.smap (List.map (fun p => (p.1, eI p.2)) (r.2))))] [1, 2]) (a0 : La) (a1 : List (ByteArray × Int)) (a2 : Int) (a3 : Int) (r : (Int) × (List (ByteArray × Int))) (h : counting_counter_terms_h2_b r14 a0 a1 a2 a3 = some r) : HCall Try.prog 32 ([(.ref 1 0 0), (fI (a2)), (fI (a3))] ++ []) [(1, (.box 83 [(fS (a0.name)), (.fz ((eL 1 eI) (a0.inputs))), (.fz ((eL 2 eSy) (a0.symbols))), (.fz ((eL 9 eRu) (a0.rules))), (.mp 2)])), (2, (.smap (List.map (fun p => (p.1, eI p.2)) (a1))))] [1, 2] (.ret (fI (r.1))) [(1, (.box 83 [(fS (a0.name)), (.fz ((eL 1 eI) (a0.inputs))), (.fz ((eL 2 eSy) (a0.symbols))), (.fz ((eL 9 eRu) (a0.rules))), (.mp 2)])), (2, (.smap (List.map (fun p => (p.1, eI p.2)) (r.2))))] [1, 2] := by
 unfold counting_counter_terms_h2_b at h
 refine hcx (gi := 0) Try.func32 (by kernel_rfl) (by kernel_rfl) (by kernel_rfl) (by kernel_rfl) (by kernel_rfl) (by kernel_rfl) (by kernel_rfl) (by kernel_rfl) ?_
 intro p0 q0 w0
 refine hcl 16 [.one .keep, .one .keep] [] [(2, 3)] [] h (grammar_Of_h_ok _ _) (fun _ => by kernel_rfl) fun v1 h => ?_
 refine nst 0 (n_len_row (t := 22) (x := (.tmp 15)) (d := tt22) (id := 3) (e2 := 3) (e := 3) (size := 1) (n := List.length (v1)) (xs := List.map eI (v1)) tt_ok (by kernel_rfl) (by kernel_rfl) rfl (by kernel_rfl) (by kernel_rfl) (by simp)) (by kernel_rfl) ?_
 refine lp1 3 (fun v2 => ⟨38, [(0, (.ref 1 0 0)), (2, (fI (a3))), (7, (fI (v2.1))), (15, (.row 3 (List.length (v1)))), (16, (fI ((List.length (v1) : Int)))), (17, (fI (v2.2.1)))], [(0, (.was p0 [1, 2] q0 w0)), (1, (.box 83 [(fS (a0.name)), (.fz ((eL 1 eI) (a0.inputs))), (.fz ((eL 2 eSy) (a0.symbols))), (.fz ((eL 9 eRu) (a0.rules))), (.mp 2)])), (2, (.smap (List.map (fun p => (p.1, eI p.2)) (v2.2.2)))), (3, (.frow 3 1 (List.map eI (v1))))], [3, 0, 1, 2], []⟩) (.exit 0) (fun v9 => ⟨38, [(7, (fI (v9.1)))], [(0, (.was p0 [1, 2] q0 w0)), (1, (.box 83 [(fS (a0.name)), (.fz ((eL 1 eI) (a0.inputs))), (.fz ((eL 2 eSy) (a0.symbols))), (.fz ((eL 9 eRu) (a0.rules))), (.mp 2)])), (2, (.smap (List.map (fun p => (p.1, eI p.2)) (v9.2))))], [0, 1, 2], []⟩) h (by kernel_rfl) (by kernel_rfl) (fun v2 r h => ?_) fun v9 h => ?_
 ·unfold counting_counter_terms_h2_l1 at h
  refine cd 5 h (by kernel_rfl) (fun h => ?_) fun h => ?_
  ·obtain ⟨v3, hv3, h⟩ := Option.bind_eq_some_iff.1 h
   refine nst 5 (n_rowAddr (t := 22) (X := (.tmp 15)) (Y := (.tmp 17)) (id := 3) (k := .i64) (d := tt22) (e := 3) (de := tt3) (enc := eI) (xs := v1) (n := List.length (v1)) hv3 tt_ok (by kernel_rfl) (by kernel_rfl) (by kernel_rfl) (by kernel_rfl) (by kernel_rfl) (by kernel_rfl) (by kernel_rfl) rfl (by kernel_rfl)) (by kernel_rfl) ?_
   refine nst 0 (n_rowLoad (t := 3) (X := (.tmp 19)) (id := 3) (d := tt3) (enc := eI) (xs := v1) (x := v3) (i := v2.2.1) (n := List.length (v1)) hv3 tt_ok (by kernel_rfl) (by kernel_rfl) (by kernel_rfl) (by kernel_rfl) (by kernel_rfl) rfl (fun _ => rfl)) (by kernel_rfl) ?_
   refine ix nRu 11 h (by kernel_rfl) fun v4 h => ?_
   refine hcl 1 [.one .keep] [] [] [] h (counting_args_h_ok _) (fun _ => by kernel_rfl) fun v5 h => ?_
   refine hcl 2 [.one .keep, .one .keep, .one .keep] [(1, 1), (2, 2)] [(1, 1), (2, 2)] [1, 2] h (counting_counter_lists_h3_ok (r14) (ih14) fuel _ _ _ _) (fun _ => by kernel_rfl) fun v6 h => ?_
   refine hcl 0 [.one .keep, .one .keep] [] [] [] h (counting_plus_h_ok _ _) (fun _ => by kernel_rfl) fun v7 h => ?_
   cases h; exact lj 6 (by kernel_rfl)
  cases h; exact lo 1 (by kernel_rfl)
 obtain rfl := Option.some.inj h; exact lh 6 ⟨38, [(6, (fI (v9.1)))], [(0, (.was p0 [1, 2] q0 w0)), (1, (.box 83 [(fS (a0.name)), (.fz ((eL 1 eI) (a0.inputs))), (.fz ((eL 2 eSy) (a0.symbols))), (.fz ((eL 9 eRu) (a0.rules))), (.mp 2)])), (2, (.smap (List.map (fun p => (p.1, eI p.2)) (v9.2))))], [0, 1, 2], []⟩ (le_a (by kernel_rfl)) rfl rfl (by kernel_rfl) (by kernel_rfl)
def counting_counter_terms_h2 : Nat → (La) → (List (ByteArray × Int)) → (Int) → (Int) → Option ((Int) × (List (ByteArray × Int)))
  | 0 => fun _ _ _ _ => none
  | n + 1 => counting_counter_terms_h2_b (counting_counter_terms_h2 n)
theorem counting_counter_terms_h2_ok : ∀ n : Nat, ∀ (x0 : La) (x1 : List (ByteArray × Int)) (x2 : Int) (x3 : Int) r, counting_counter_terms_h2 n x0 x1 x2 x3 = some r → HCall Try.prog 32 ([(.ref 1 0 0), (fI (x2)), (fI (x3))] ++ []) [(1, (.box 83 [(fS (x0.name)), (.fz ((eL 1 eI) (x0.inputs))), (.fz ((eL 2 eSy) (x0.symbols))), (.fz ((eL 9 eRu) (x0.rules))), (.mp 2)])), (2, (.smap (List.map (fun p => (p.1, eI p.2)) (x1))))] [1, 2] (.ret (fI (r.1))) [(1, (.box 83 [(fS (x0.name)), (.fz ((eL 1 eI) (x0.inputs))), (.fz ((eL 2 eSy) (x0.symbols))), (.fz ((eL 9 eRu) (x0.rules))), (.mp 2)])), (2, (.smap (List.map (fun p => (p.1, eI p.2)) (r.2))))] [1, 2]
  | 0 => fun _ _ _ _ _ h => by cases h
  | n + 1 => fun a0 a1 a2 a3 r h => counting_counter_terms_h2_b_ok (counting_counter_terms_h2 n) (counting_counter_terms_h2_ok n) a0 a1 a2 a3 r h

def counting_permitted_h (a0 : Int) : Option ((Unit) ⊕ (Unit)) := (bif (decide (1152921504606846976 < a0)) then (some (.inr ())) else (some (.inl ())))
theorem counting_permitted_h_ok (a0 : Int) (r : (Unit) ⊕ (Unit)) (h : counting_permitted_h a0 = some r) : Sum.elim (fun v => HCall Try.prog 30 ([(fI (a0))] ++ []) [] [] (.ret (fI (a0))) [] []) (fun v => HCall Try.prog 30 ([(fI (a0))] ++ []) [] [] (.pan (.iface 32 (.int .i64 (11)))) [] []) r := by
 unfold counting_permitted_h at h
 refine hcx2 (gi := 0) Try.func30 (by kernel_rfl) (by kernel_rfl) (by kernel_rfl) (by kernel_rfl) (by kernel_rfl) (fun _ => by kernel_rfl) (fun _ => by kernel_rfl) (fun _ => by kernel_rfl) (by kernel_rfl) (fun _ => by kernel_rfl) (fun _ => by kernel_rfl) (fun _ => by kernel_rfl) ?_
 intro p0 q0 w0
 refine cd 10 h (by kernel_rfl) (fun h => ?_) fun h => ?_
 ·refine pnc 2 (v := .iface 32 (.int .i64 (11))) (by kernel_rfl) ?_
  obtain rfl := Option.some.inj h; exact lhp 0 ⟨7, [], [(0, (.was p0 [] q0 w0))], [0], []⟩ (le_a (by kernel_rfl)) rfl rfl (by kernel_rfl) rfl
 obtain rfl := Option.some.inj h; exact lh 7 ⟨7, [(2, (fI (a0)))], [(0, (.was p0 [] q0 w0))], [0], []⟩ (le_a (by kernel_rfl)) rfl rfl (by kernel_rfl) (by kernel_rfl)

def counting_Count_1_h2_m0 (p0 : Env) (q0 : Nat → Prop) (w0 : World) (a0 : La) (a1 : Int) (a2 : Int) : List (Nat × AObj) := [(0, (.was p0 [1, 2, 3] q0 w0)), (1, (.box 26 [(fS (a0.name)), (.fz ((eL 1 eI) (a0.inputs))), (.fz ((eL 2 eSy) (a0.symbols))), (.fz ((eL 9 eRu) (a0.rules)))])), (2, (.box 3 [(fI (a1))])), (3, (.box 3 [(fI (a2))]))]
def counting_Count_1_h2 (a0 : La) (a1 : Int) (a2 : Int) : Option (((Int)) ⊕ (Unit)) := (Option.bind (counting_open_h (a0)) fun v1 => (Option.bind (counting_counter_terms_h2 fuel (a0) (([] : List (ByteArray × Int))) (a1) (a2)) fun v2 => (Option.bind (counting_permitted_h (v2.1)) fun v4 => Sum.elim (fun v3 => (some (.inl (v2.1)))) (fun v5 => (some (.inr ()))) v4)))
theorem counting_Count_1_h2_ok (a0 : La) (a1 : Int) (a2 : Int) (r : ((Int)) ⊕ (Unit)) (h : counting_Count_1_h2 a0 a1 a2 = some r) : Sum.elim (fun v => HCall Try.prog 29 ([] ++ [(.ref 1 0 0), (.ref 2 0 0), (.ref 3 0 0)]) [(1, (.box 26 [(fS (a0.name)), (.fz ((eL 1 eI) (a0.inputs))), (.fz ((eL 2 eSy) (a0.symbols))), (.fz ((eL 9 eRu) (a0.rules)))])), (2, (.box 3 [(fI (a1))])), (3, (.box 3 [(fI (a2))]))] [1, 2, 3] (.ret (fI (v))) [(1, (.box 26 [(fS (a0.name)), (.fz ((eL 1 eI) (a0.inputs))), (.fz ((eL 2 eSy) (a0.symbols))), (.fz ((eL 9 eRu) (a0.rules)))])), (2, (.box 3 [(fI (a1))])), (3, (.box 3 [(fI (a2))]))] [1, 2, 3]) (fun v => HCall Try.prog 29 ([] ++ [(.ref 1 0 0), (.ref 2 0 0), (.ref 3 0 0)]) [(1, (.box 26 [(fS (a0.name)), (.fz ((eL 1 eI) (a0.inputs))), (.fz ((eL 2 eSy) (a0.symbols))), (.fz ((eL 9 eRu) (a0.rules)))])), (2, (.box 3 [(fI (a1))])), (3, (.box 3 [(fI (a2))]))] [1, 2, 3] (.pan (.iface 32 (.int .i64 (11)))) [(1, (.box 26 [(fS (a0.name)), (.fz ((eL 1 eI) (a0.inputs))), (.fz ((eL 2 eSy) (a0.symbols))), (.fz ((eL 9 eRu) (a0.rules)))])), (2, (.box 3 [(fI (a1))])), (3, (.box 3 [(fI (a2))]))] [1, 2, 3]) r := by
 unfold counting_Count_1_h2 at h
 refine hcx2 (gi := 0) Try.func29 (by kernel_rfl) (by kernel_rfl) (by kernel_rfl) (by kernel_rfl) (by kernel_rfl) (fun _ => by kernel_rfl) (fun _ => by kernel_rfl) (fun _ => by kernel_rfl) (by kernel_rfl) (fun _ => by kernel_rfl) (fun _ => by kernel_rfl) (fun _ => by kernel_rfl) ?_
 intro p0 q0 w0
 refine dz 5 4 [1] [4, 5] (List.range 6) (by kernel_rfl) ?_
 refine hclZ 1 [.one .keep] [] [(2, 4), (3, 5)] [] h (counting_open_h_ok _) (fun _ => by kernel_rfl) (by kernel_rfl) (fun _ => by kernel_rfl) fun v1 h => ?_
 refine hcl 3 [.one .keep, .one .keep, .one .keep] [(5, 1), (4, 2)] [(1, 5), (2, 4)] [1, 2] h (counting_counter_terms_h2_ok fuel _ _ _ _) (fun _ => by kernel_rfl) fun v2 h => ?_
 refine hclS 0 [.one .keep] [] [] [] h (counting_permitted_h_ok _) (fun _ => by kernel_rfl) (fun _ => by kernel_rfl) (fun v5 h => ?_) fun v3 h => ?_
 ·obtain rfl := Option.some.inj h; exact lhp 0 ⟨10, [], (counting_Count_1_h2_m0 p0 q0 w0 a0 a1 a2), [0, 1, 2, 3], []⟩ (le_a (by kernel_rfl)) rfl rfl (by kernel_rfl) rfl
 obtain rfl := Option.some.inj h; exact lh 3 ⟨10, [(3, (fI (v2.1)))], (counting_Count_1_h2_m0 p0 q0 w0 a0 a1 a2), [0, 1, 2, 3], []⟩ (le_a (by kernel_rfl)) rfl rfl (by kernel_rfl) (by kernel_rfl)

def counting_counted_h2 (a0 : La) (a1 : Int) (a2 : Int) : Option ((Int) × (Int)) := (Option.bind (counting_Count_1_h2 (a0) (a1) (a2)) fun v2 => Sum.elim (fun v1 => (some (v1, 0))) (fun v3 => (some (0, 11))) v2)
theorem counting_counted_h2_ok (a0 : La) (a1 : Int) (a2 : Int) (r : (Int) × (Int)) (h : counting_counted_h2 a0 a1 a2 = some r) : HCall Try.prog 28 ([(.fn 29 [(.ref 1 0 0), (.ref 2 0 0), (.ref 3 0 0)])] ++ []) [(1, (.box 26 [(fS (a0.name)), (.fz ((eL 1 eI) (a0.inputs))), (.fz ((eL 2 eSy) (a0.symbols))), (.fz ((eL 9 eRu) (a0.rules)))])), (2, (.box 3 [(fI (a1))])), (3, (.box 3 [(fI (a2))]))] [1, 2, 3] (.ret (.fz (.tup [(eI (r.1)), (eI (r.2))]))) [(1, (.box 26 [(fS (a0.name)), (.fz ((eL 1 eI) (a0.inputs))), (.fz ((eL 2 eSy) (a0.symbols))), (.fz ((eL 9 eRu) (a0.rules)))])), (2, (.box 3 [(fI (a1))])), (3, (.box 3 [(fI (a2))])), (4, (.box 2 [(fI (r.1))])), (5, (.box 32 [(fI (r.2))]))] [1, 2, 3, 4, 5] := by
 unfold counting_counted_h2 at h
 refine hdx (gi := 0) Try.func28 (by kernel_rfl) (by kernel_rfl) (by kernel_rfl) (by kernel_rfl) (by kernel_rfl) (by kernel_rfl) (by kernel_rfl) (by kernel_rfl) ?_
 intro p0 q0 w0
 refine dfer 8 6 (f := 48) (vs := [(.ref 4 0 0), (.ref 5 0 0)]) (by kernel_rfl) (by kernel_rfl) ?_
 intro gs1 hgs1
 refine hclS 4 [] [(1, 1), (2, 2), (3, 3)] [(1, 1), (2, 2), (3, 3)] [1, 2, 3] h (counting_Count_1_h2_ok _ _ _) (fun _ => by kernel_rfl) (fun _ => by kernel_rfl) (fun v3 h => ?_) fun v1 h => ?_
 ·refine dfx 0 7 5 2 [2, 3] (.panic [pnE (.iface 32 (.int .i64 (11)))]) hgs1 Try.func48 (by kernel_rfl) (by kernel_rfl) (by kernel_rfl) (by kernel_rfl) (gi := 6) (pv := (.iface 32 (.int .i64 (11)))) (by kernel_rfl) (by kernel_rfl) (by kernel_rfl) (by kernel_rfl) ?_
  intro gs3
  obtain rfl := Option.some.inj h; exact ldx 29 (vs' := [(.ref 4 0 0), (.ref 5 0 0)]) ⟨7, [(2, (.ref 4 0 0)), (3, (.ref 5 0 0))], [(0, (.was p0 [1, 2, 3] q0 w0)), (1, (.box 26 [(fS (a0.name)), (.fz ((eL 1 eI) (a0.inputs))), (.fz ((eL 2 eSy) (a0.symbols))), (.fz ((eL 9 eRu) (a0.rules)))])), (2, (.box 3 [(fI (a1))])), (3, (.box 3 [(fI (a2))])), (4, (.box 2 [(fI (0))])), (5, (.box 32 [(fI (11))]))], [0, 1, 2, 3, 4, 5], []⟩ (by kernel_rfl) (by kernel_rfl) (le_a (by kernel_rfl)) rfl rfl (by kernel_rfl)
 refine dfx 4 7 5 2 [2, 3] .ret hgs1 Try.func48 (by kernel_rfl) (by kernel_rfl) (by kernel_rfl) (by kernel_rfl) (gi := 6) (pv := .nilIface) (by kernel_rfl) (by kernel_rfl) (by kernel_rfl) (by kernel_rfl) ?_
 intro gs2
 obtain rfl := Option.some.inj h; exact ldx 7 (vs' := [(.ref 4 0 0), (.ref 5 0 0)]) ⟨7, [(2, (.ref 4 0 0)), (3, (.ref 5 0 0))], [(0, (.was p0 [1, 2, 3] q0 w0)), (1, (.box 26 [(fS (a0.name)), (.fz ((eL 1 eI) (a0.inputs))), (.fz ((eL 2 eSy) (a0.symbols))), (.fz ((eL 9 eRu) (a0.rules)))])), (2, (.box 3 [(fI (a1))])), (3, (.box 3 [(fI (a2))])), (4, (.box 2 [(fI (v1))])), (5, (.box 32 [(fI (0))]))], [0, 1, 2, 3, 4, 5], []⟩ (by kernel_rfl) (by kernel_rfl) (le_a (by kernel_rfl)) rfl rfl (by kernel_rfl)

def counting_Count (a0 : La) (a1 : Int) (a2 : Int) : Option ((Int) × (Int)) := (Option.bind (counting_check (a0) (a1) (a2)) fun v1 => (bif (v1 != 0) then (some (0, v1)) else (Option.bind (counting_counted_h2 (a0) (a1) (a2)) fun v2 => (some (v2.1, v2.2)))))
theorem counting_Count_ok (a0 : La) (a1 : Int) (a2 : Int) (r : (Int) × (Int)) (h : counting_Count a0 a1 a2 = some r) : PCall Try.prog 12 [eLa a0, eI a1, eI a2] (.tup [eI (r.1), eI (r.2)]) := by
 unfold counting_Count at h
 refine pcl [.one .keep, .one .keep] Try.func12 (by kernel_rfl) (by kernel_rfl) (by kernel_rfl) ?_
 refine cl 14 h (counting_check_ok _ _ _) (by kernel_rfl) fun v1 h => ?_
 refine cd 7 h (by kernel_rfl) (fun h => ?_) fun h => ?_
 ·cases h; exact lq 7 (by kernel_rfl)
 refine hcl 4 [.one .keep] [(1, 1), (2, 2), (3, 3)] [(1, 1), (2, 2), (3, 3), (4, 4), (5, 5)] [1, 2, 3] h (counting_counted_h2_ok _ _ _) (fun _ => by kernel_rfl) fun v2 h => ?_
 cases h; exact lq 6 (by kernel_rfl)

def counting_Total_1_h_l1 (a0 : Int) (a1 : La) (a3 : Int) (v1 : (Int) × (Int) × (List (ByteArray × Int))) : Option (((Int) × (Int) × (List (ByteArray × Int))) ⊕ ((((Int) × (List (ByteArray × Int))) ⊕ ((List (ByteArray × Int)))))) := (bif (decide (v1.2.1 < a0)) then (Option.bind (counting_counter_terms_h2 fuel (a1) (v1.2.2) (a3) ((w64 (v1.2.1 + 1)))) fun v2 => (Option.bind (counting_plus_h (v1.1) (v2.1)) fun v3 => (Option.bind (counting_permitted_h ((imin (w64 ((v1.1) + (v2.1))) 1152921504606846977))) fun v5 => Sum.elim (fun v4 => (some (.inl (((imin (w64 ((v1.1) + (v2.1))) 1152921504606846977)), (w64 (v1.2.1 + 1)), v2.2)))) (fun v6 => (some (.inr (.inr (v2.2))))) v5))) else (some (.inr (.inl (v1.1, v1.2.2)))))
def counting_Total_1_h (a0 : Int) (a1 : La) (a2 : List (ByteArray × Int)) (a3 : Int) : Option (((Int) × (List (ByteArray × Int))) ⊕ ((List (ByteArray × Int)))) := (Option.bind (loopN (counting_Total_1_h_l1 a0 a1 a3) fuel (0, 0, a2)) fun (v7 : (((Int) × (List (ByteArray × Int))) ⊕ ((List (ByteArray × Int))))) => Sum.elim (fun v8 => (some (.inl (v8.1, v8.2)))) (fun v9 => (some (.inr (v9)))) v7)
theorem counting_Total_1_h_ok (a0 : Int) (a1 : La) (a2 : List (ByteArray × Int)) (a3 : Int) (r : ((Int) × (List (ByteArray × Int))) ⊕ ((List (ByteArray × Int)))) (h : counting_Total_1_h a0 a1 a2 a3 = some r) : Sum.elim (fun v => HCall Try.prog 35 ([] ++ [(.ref 1 0 0), (.ref 2 0 0), (.ref 5 0 0)]) [(1, (.box 3 [(fI (a0))])), (2, (.box 58 [(.ref 3 0 0)])), (3, (.box 83 [(fS (a1.name)), (.fz ((eL 1 eI) (a1.inputs))), (.fz ((eL 2 eSy) (a1.symbols))), (.fz ((eL 9 eRu) (a1.rules))), (.mp 4)])), (4, (.smap (List.map (fun p => (p.1, eI p.2)) (a2)))), (5, (.box 3 [(fI (a3))]))] [1, 2, 3, 4, 5] (.ret (fI (v.1))) [(1, (.box 3 [(fI (a0))])), (2, (.box 58 [(.ref 3 0 0)])), (3, (.box 83 [(fS (a1.name)), (.fz ((eL 1 eI) (a1.inputs))), (.fz ((eL 2 eSy) (a1.symbols))), (.fz ((eL 9 eRu) (a1.rules))), (.mp 4)])), (4, (.smap (List.map (fun p => (p.1, eI p.2)) (v.2)))), (5, (.box 3 [(fI (a3))]))] [1, 2, 3, 4, 5]) (fun v => HCall Try.prog 35 ([] ++ [(.ref 1 0 0), (.ref 2 0 0), (.ref 5 0 0)]) [(1, (.box 3 [(fI (a0))])), (2, (.box 58 [(.ref 3 0 0)])), (3, (.box 83 [(fS (a1.name)), (.fz ((eL 1 eI) (a1.inputs))), (.fz ((eL 2 eSy) (a1.symbols))), (.fz ((eL 9 eRu) (a1.rules))), (.mp 4)])), (4, (.smap (List.map (fun p => (p.1, eI p.2)) (a2)))), (5, (.box 3 [(fI (a3))]))] [1, 2, 3, 4, 5] (.pan (.iface 32 (.int .i64 (11)))) [(1, (.box 3 [(fI (a0))])), (2, (.box 58 [(.ref 3 0 0)])), (3, (.box 83 [(fS (a1.name)), (.fz ((eL 1 eI) (a1.inputs))), (.fz ((eL 2 eSy) (a1.symbols))), (.fz ((eL 9 eRu) (a1.rules))), (.mp 4)])), (4, (.smap (List.map (fun p => (p.1, eI p.2)) (v)))), (5, (.box 3 [(fI (a3))]))] [1, 2, 3, 4, 5]) r := by
 unfold counting_Total_1_h at h
 refine hcx2 (gi := 0) Try.func35 (by kernel_rfl) (by kernel_rfl) (by kernel_rfl) (by kernel_rfl) (by kernel_rfl) (fun _ => by kernel_rfl) (fun _ => by kernel_rfl) (fun _ => by kernel_rfl) (by kernel_rfl) (fun _ => by kernel_rfl) (fun _ => by kernel_rfl) (fun _ => by kernel_rfl) ?_
 intro p0 q0 w0
 refine lpx 15 (fun v1 => ⟨20, [(1, (.ref 2 0 0)), (2, (.ref 5 0 0)), (4, (fI (v1.1))), (6, (fI (a0))), (7, (fI (v1.2.1)))], [(0, (.was p0 [1, 2, 3, 4, 5] q0 w0)), (1, (.box 3 [(fI (a0))])), (2, (.box 58 [(.ref 3 0 0)])), (3, (.box 83 [(fS (a1.name)), (.fz ((eL 1 eI) (a1.inputs))), (.fz ((eL 2 eSy) (a1.symbols))), (.fz ((eL 9 eRu) (a1.rules))), (.mp 4)])), (4, (.smap (List.map (fun p => (p.1, eI p.2)) (v1.2.2)))), (5, (.box 3 [(fI (a3))]))], [0, 1, 2, 3, 4, 5], []⟩) (fun v7 e st => Sum.elim (fun p => e = .exit 0 ∧ LeSt st ⟨20, [(4, (fI (p.1)))], [(0, (.was p0 [1, 2, 3, 4, 5] q0 w0)), (1, (.box 3 [(fI (a0))])), (2, (.box 58 [(.ref 3 0 0)])), (3, (.box 83 [(fS (a1.name)), (.fz ((eL 1 eI) (a1.inputs))), (.fz ((eL 2 eSy) (a1.symbols))), (.fz ((eL 9 eRu) (a1.rules))), (.mp 4)])), (4, (.smap (List.map (fun p => (p.1, eI p.2)) (p.2)))), (5, (.box 3 [(fI (a3))]))], [0, 1, 2, 3, 4, 5], []⟩) (fun p => e = .panic [pnE (.iface 32 (.int .i64 (11)))] ∧ LeSt st ⟨20, [], [(0, (.was p0 [1, 2, 3, 4, 5] q0 w0)), (1, (.box 3 [(fI (a0))])), (2, (.box 58 [(.ref 3 0 0)])), (3, (.box 83 [(fS (a1.name)), (.fz ((eL 1 eI) (a1.inputs))), (.fz ((eL 2 eSy) (a1.symbols))), (.fz ((eL 9 eRu) (a1.rules))), (.mp 4)])), (4, (.smap (List.map (fun p => (p.1, eI p.2)) (p)))), (5, (.box 3 [(fI (a3))]))], [0, 1, 2, 3, 4, 5], []⟩) v7) h (by kernel_rfl) (le_a (by kernel_rfl)) (fun v1 r h => ?_) fun v7 h e st' hq => ?_
 ·unfold counting_Total_1_h_l1 at h
  refine cd 5 h (by kernel_rfl) (fun h => ?_) fun h => ?_
  ·refine hcl 14 [.one .keep, .one .keep, .one .keep] [(3, 1), (4, 2)] [(1, 3), (2, 4)] [1, 2] h (counting_counter_terms_h2_ok fuel _ _ _ _) (fun _ => by kernel_rfl) fun v2 h => ?_
   refine hcl 0 [.one .keep, .one .keep] [] [] [] h (counting_plus_h_ok _ _) (fun _ => by kernel_rfl) fun v3 h => ?_
   refine hclS 0 [.one .keep] [] [] [] h (counting_permitted_h_ok _) (fun _ => by kernel_rfl) (fun _ => by kernel_rfl) (fun v6 h => ?_) fun v4 h => ?_
   ·cases h; exact lop 0 (le_a (by kernel_rfl)) (by kernel_rfl)
   cases h; exact lj 6 (by kernel_rfl)
  cases h; exact lo 1 (by kernel_rfl)
 rcases v7 with v8 | v9
 ·try simp only [Sum.elim_inl, Sum.elim_inr] at h
  obtain ⟨rfl, hle⟩ := hq
  refine ⟨_, hle, ?_⟩
  obtain rfl := Option.some.inj h; exact lh 6 ⟨20, [(3, (fI (v8.1)))], [(0, (.was p0 [1, 2, 3, 4, 5] q0 w0)), (1, (.box 3 [(fI (a0))])), (2, (.box 58 [(.ref 3 0 0)])), (3, (.box 83 [(fS (a1.name)), (.fz ((eL 1 eI) (a1.inputs))), (.fz ((eL 2 eSy) (a1.symbols))), (.fz ((eL 9 eRu) (a1.rules))), (.mp 4)])), (4, (.smap (List.map (fun p => (p.1, eI p.2)) (v8.2)))), (5, (.box 3 [(fI (a3))]))], [0, 1, 2, 3, 4, 5], []⟩ (le_a (by kernel_rfl)) rfl rfl (by kernel_rfl) (by kernel_rfl)
 ·try simp only [Sum.elim_inl, Sum.elim_inr] at h
  obtain ⟨rfl, hle⟩ := hq
  refine ⟨_, hle, ?_⟩
  obtain rfl := Option.some.inj h; exact lhp 0 ⟨20, [], [(0, (.was p0 [1, 2, 3, 4, 5] q0 w0)), (1, (.box 3 [(fI (a0))])), (2, (.box 58 [(.ref 3 0 0)])), (3, (.box 83 [(fS (a1.name)), (.fz ((eL 1 eI) (a1.inputs))), (.fz ((eL 2 eSy) (a1.symbols))), (.fz ((eL 9 eRu) (a1.rules))), (.mp 4)])), (4, (.smap (List.map (fun p => (p.1, eI p.2)) (v9)))), (5, (.box 3 [(fI (a3))]))], [0, 1, 2, 3, 4, 5], []⟩ (le_a (by kernel_rfl)) rfl rfl (by kernel_rfl) rfl

def counting_counted_h3 (a0 : Int) (a1 : La) (a2 : List (ByteArray × Int)) (a3 : Int) : Option ((List (ByteArray × Int)) × (Int) × (Int)) := (Option.bind (counting_Total_1_h (a0) (a1) (a2) (a3)) fun v2 => Sum.elim (fun v1 => (some (v1.2, v1.1, 0))) (fun v3 => (some (v3, 0, 11))) v2)
theorem counting_counted_h3_ok (a0 : Int) (a1 : La) (a2 : List (ByteArray × Int)) (a3 : Int) (r : (List (ByteArray × Int)) × (Int) × (Int)) (h : counting_counted_h3 a0 a1 a2 a3 = some r) : HCall Try.prog 28 ([(.fn 35 [(.ref 1 0 0), (.ref 2 0 0), (.ref 5 0 0)])] ++ []) [(1, (.box 3 [(fI (a0))])), (2, (.box 58 [(.ref 3 0 0)])), (3, (.box 83 [(fS (a1.name)), (.fz ((eL 1 eI) (a1.inputs))), (.fz ((eL 2 eSy) (a1.symbols))), (.fz ((eL 9 eRu) (a1.rules))), (.mp 4)])), (4, (.smap (List.map (fun p => (p.1, eI p.2)) (a2)))), (5, (.box 3 [(fI (a3))]))] [1, 2, 3, 4, 5] (.ret (.fz (.tup [(eI (r.2.1)), (eI (r.2.2))]))) [(1, (.box 3 [(fI (a0))])), (2, (.box 58 [(.ref 3 0 0)])), (3, (.box 83 [(fS (a1.name)), (.fz ((eL 1 eI) (a1.inputs))), (.fz ((eL 2 eSy) (a1.symbols))), (.fz ((eL 9 eRu) (a1.rules))), (.mp 4)])), (4, (.smap (List.map (fun p => (p.1, eI p.2)) (r.1)))), (5, (.box 3 [(fI (a3))])), (6, (.box 2 [(fI (r.2.1))])), (7, (.box 32 [(fI (r.2.2))]))] [1, 2, 3, 4, 5, 6, 7] := by
 unfold counting_counted_h3 at h
 refine hdx (gi := 0) Try.func28 (by kernel_rfl) (by kernel_rfl) (by kernel_rfl) (by kernel_rfl) (by kernel_rfl) (by kernel_rfl) (by kernel_rfl) (by kernel_rfl) ?_
 intro p0 q0 w0
 refine dfer 8 8 (f := 48) (vs := [(.ref 6 0 0), (.ref 7 0 0)]) (by kernel_rfl) (by kernel_rfl) ?_
 intro gs1 hgs1
 refine hclS 4 [] [(1, 1), (2, 2), (3, 3), (4, 4), (5, 5)] [(1, 1), (2, 2), (3, 3), (4, 4), (5, 5)] [1, 2, 3, 4, 5] h (counting_Total_1_h_ok _ _ _ _) (fun _ => by kernel_rfl) (fun _ => by kernel_rfl) (fun v3 h => ?_) fun v1 h => ?_
 ·refine dfx 0 9 5 2 [2, 3] (.panic [pnE (.iface 32 (.int .i64 (11)))]) hgs1 Try.func48 (by kernel_rfl) (by kernel_rfl) (by kernel_rfl) (by kernel_rfl) (gi := 8) (pv := (.iface 32 (.int .i64 (11)))) (by kernel_rfl) (by kernel_rfl) (by kernel_rfl) (by kernel_rfl) ?_
  intro gs3
  obtain rfl := Option.some.inj h; exact ldx 29 (vs' := [(.ref 6 0 0), (.ref 7 0 0)]) ⟨7, [(2, (.ref 6 0 0)), (3, (.ref 7 0 0))], [(0, (.was p0 [1, 2, 3, 4, 5] q0 w0)), (1, (.box 3 [(fI (a0))])), (2, (.box 58 [(.ref 3 0 0)])), (3, (.box 83 [(fS (a1.name)), (.fz ((eL 1 eI) (a1.inputs))), (.fz ((eL 2 eSy) (a1.symbols))), (.fz ((eL 9 eRu) (a1.rules))), (.mp 4)])), (4, (.smap (List.map (fun p => (p.1, eI p.2)) (v3)))), (5, (.box 3 [(fI (a3))])), (6, (.box 2 [(fI (0))])), (7, (.box 32 [(fI (11))]))], [0, 1, 2, 3, 4, 5, 6, 7], []⟩ (by kernel_rfl) (by kernel_rfl) (le_a (by kernel_rfl)) rfl rfl (by kernel_rfl)
 refine dfx 4 9 5 2 [2, 3] .ret hgs1 Try.func48 (by kernel_rfl) (by kernel_rfl) (by kernel_rfl) (by kernel_rfl) (gi := 8) (pv := .nilIface) (by kernel_rfl) (by kernel_rfl) (by kernel_rfl) (by kernel_rfl) ?_
 intro gs2
 obtain rfl := Option.some.inj h; exact ldx 7 (vs' := [(.ref 6 0 0), (.ref 7 0 0)]) ⟨7, [(2, (.ref 6 0 0)), (3, (.ref 7 0 0))], [(0, (.was p0 [1, 2, 3, 4, 5] q0 w0)), (1, (.box 3 [(fI (a0))])), (2, (.box 58 [(.ref 3 0 0)])), (3, (.box 83 [(fS (a1.name)), (.fz ((eL 1 eI) (a1.inputs))), (.fz ((eL 2 eSy) (a1.symbols))), (.fz ((eL 9 eRu) (a1.rules))), (.mp 4)])), (4, (.smap (List.map (fun p => (p.1, eI p.2)) (v1.2)))), (5, (.box 3 [(fI (a3))])), (6, (.box 2 [(fI (v1.1))])), (7, (.box 32 [(fI (0))]))], [0, 1, 2, 3, 4, 5, 6, 7], []⟩ (by kernel_rfl) (by kernel_rfl) (le_a (by kernel_rfl)) rfl rfl (by kernel_rfl)

def counting_Total (a0 : La) (a1 : Int) (a2 : Int) : Option ((Int) × (Int)) := (Option.bind (counting_check (a0) (a1) (a2)) fun v1 => (bif (v1 != 0) then (some (0, v1)) else (Option.bind (counting_open_h (a0)) fun v2 => (Option.bind (counting_counted_h3 (a2) (a0) (([] : List (ByteArray × Int))) (a1)) fun v3 => (some (v3.2.1, v3.2.2))))))
theorem counting_Total_ok (a0 : La) (a1 : Int) (a2 : Int) (r : (Int) × (Int)) (h : counting_Total a0 a1 a2 = some r) : PCall Try.prog 14 [eLa a0, eI a1, eI a2] (.tup [eI (r.1), eI (r.2)]) := by
 unfold counting_Total at h
 refine pcl [.one .keep, .one .keep] Try.func14 (by kernel_rfl) (by kernel_rfl) (by kernel_rfl) ?_
 refine cl 14 h (counting_check_ok _ _ _) (by kernel_rfl) fun v1 h => ?_
 refine cd 7 h (by kernel_rfl) (fun h => ?_) fun h => ?_
 ·cases h; exact lq 7 (by kernel_rfl)
 refine hcl 4 [.one .keep] [] [(2, 4), (3, 5)] [] h (counting_open_h_ok _) (fun _ => by kernel_rfl) fun v2 h => ?_
 refine hcl 6 [.one .keep] [(3, 1), (6, 2), (5, 3), (4, 4), (2, 5)] [(1, 3), (2, 6), (3, 5), (4, 4), (5, 2), (6, 7), (7, 8)] [1, 2, 3, 4, 5] h (counting_counted_h3_ok _ _ _ _) (fun _ => by kernel_rfl) fun v3 h => ?_
 cases h; exact lq 6 (by kernel_rfl)

def counting_args (a0 : Ru) : Option (List Int) := (bif (a0.kind != 3) then (some ([] : List Int)) else (some a0.args))
theorem counting_args_ok (a0 : Ru) (r : List Int) (h : counting_args a0 = some r) : PCall Try.prog 51 [eRu a0] ((eL 1 eI) (r)) := by
 unfold counting_args at h
 refine pcl [.one (.sl 1)] Try.func51 (by kernel_rfl) (by kernel_rfl) (by kernel_rfl) ?_
 refine cd 12 h (by kernel_rfl) (fun h => ?_) fun h => ?_
 ·cases h; exact lq 5 (by kernel_rfl)
 cases h; exact lq 8 (by kernel_rfl)

def counting_cost_l1 (a1 : List Int) (v1 : List Int) (v2 : (Int) × (Int)) : Option (((Int) × (Int)) ⊕ ((((Int)) ⊕ (Int)))) := (bif (decide (v2.2 < (List.length v1 : Int))) then (Option.bind (idx v1 v2.2) fun v3 => (Option.bind (idx a1 v3) fun v4 => (bif (v4 == 0) then (some (.inr (.inr 0))) else (Option.bind (idx a1 v3) fun v5 => (some (.inl ((w64 (v2.1 + v5)), (w64 (v2.2 + 1))))))))) else (some (.inr (.inl (v2.1)))))
def counting_cost (a0 : Ru) (a1 : List Int) : Option (Int) := (Option.bind (counting_args (a0)) fun v1 => (Option.bind (loopN (counting_cost_l1 a1 v1) fuel (1, 0)) fun (v6 : (((Int)) ⊕ (Int))) => Sum.elim (fun v7 => (some v7)) (fun v8 => (some v8)) v6))
theorem counting_cost_ok (a0 : Ru) (a1 : List Int) (r : Int) (h : counting_cost a0 a1 = some r) : PCall Try.prog 39 [eRu a0, (eL 1 eI) a1] (eI (r)) := by
 unfold counting_cost at h
 refine pcl [.one .keep] Try.func39 (by kernel_rfl) (by kernel_rfl) (by kernel_rfl) ?_
 refine cl 13 h (counting_args_ok _) (by kernel_rfl) fun v1 h => ?_
 refine lpx 4 (fun v2 => ⟨28, [(1, (.fz ((eL 1 eI) (a1)))), (5, (fI (v2.1))), (9, (.fz ((eL 1 eI) (v1)))), (10, (fI ((List.length v1 : Int)))), (11, (fI (v2.2)))], [], [], []⟩) (fun v6 e st => Sum.elim (fun p => e = .exit 0 ∧ LeSt st ⟨28, [(5, (fI (p)))], [], [], []⟩) (fun p => e = .ret ∧ retX TT st Try.f39.results.toList [.one .keep] = some (eI (p))) v6) h (by kernel_rfl) (le_a (by kernel_rfl)) (fun v2 r h => ?_) fun v6 h e st' hq => ?_
 ·unfold counting_cost_l1 at h
  refine cd 5 h (by kernel_rfl) (fun h => ?_) fun h => ?_
  ·refine ix nI 5 h (by kernel_rfl) fun v3 h => ?_
   refine ix nI 8 h (by kernel_rfl) fun v4 h => ?_
   refine cd 3 h (by kernel_rfl) (fun h => ?_) fun h => ?_
   ·cases h; exact lor 5 (by kernel_rfl)
   refine ix nI 5 h (by kernel_rfl) fun v5 h => ?_
   cases h; exact lj 8 (by kernel_rfl)
  cases h; exact lo 1 (by kernel_rfl)
 rcases v6 with v7 | v8
 ·try simp only [Sum.elim_inl, Sum.elim_inr] at h
  obtain ⟨rfl, hle⟩ := hq
  refine ⟨_, hle, ?_⟩
  cases h; exact lq 6 (by kernel_rfl)
 ·try simp only [Sum.elim_inl, Sum.elim_inr] at h
  obtain ⟨rfl, hret⟩ := hq
  refine ⟨_, LeSt.refl, ?_⟩
  cases h; exact lv hret

def counting_Least_l1 (a0 : La) (v4 : (Bool) × (Int) × (List Int)) : Option (((Bool) × (Int) × (List Int)) ⊕ ((Bool) × (List Int))) := (bif (decide (v4.2.1 < (List.length a0.rules : Int))) then (Option.bind ((Option.bind (idx a0.rules v4.2.1) fun v5 => (Option.bind (counting_cost (v5) (v4.2.2)) fun v6 => (Option.bind ((bif (decide (0 < v6)) then (Option.bind (idx v4.2.2 v5.symbol) fun v7 => (bif (v7 == 0) then (some (true)) else (Option.bind (idx v4.2.2 v5.symbol) fun v8 => (some ((decide (v6 < v8))))))) else (some (false))) : Option ((Bool))) fun (v10 : (Bool)) => (bif v10 then (Option.bind (idx v4.2.2 v5.symbol) fun v11 => (some (true, (List.set v4.2.2 (Int.toNat v5.symbol) v6)))) else (some (v4.1, v4.2.2)))))) : Option ((Bool) × (List Int))) fun (v13 : (Bool) × (List Int)) => (some (.inl (v13.1, (w64 (v4.2.1 + 1)), v13.2)))) else (some (.inr (v4.1, v4.2.2))))
def counting_Least_l2 (a0 : La) (v3 : (Bool) × (List Int)) : Option (((Bool) × (List Int)) ⊕ ((List Int))) := (bif v3.1 then (Option.bind (loopN (counting_Least_l1 a0) fuel (false, 0, v3.2)) fun (v15 : (Bool) × (List Int)) => (some (.inl (v15.1, v15.2)))) else (some (.inr (v3.2))))
def counting_Least (a0 : La) : Option ((List Int) × (Int)) := (Option.bind (grammar_Check (a0)) fun v1 => (bif (v1 != 0) then (some (([] : List Int), v1)) else (Option.bind (mkL 8 0 (List.length a0.symbols : Int)) fun v2 => (Option.bind (loopN (counting_Least_l2 a0) fuel (true, v2)) fun (v17 : (List Int)) => (some (v17, 0))))))
theorem counting_Least_ok (a0 : La) (r : (List Int) × (Int)) (h : counting_Least a0 = some r) : PCall Try.prog 16 [eLa a0] (.tup [(eL 1 eI) (r.1), eI (r.2)]) := by
 unfold counting_Least at h
 refine pcl [.one (.sl 1), .one .keep] Try.func16 (by kernel_rfl) (by kernel_rfl) (by kernel_rfl) ?_
 refine cl 10 h (grammar_Check_ok _) (by kernel_rfl) fun v1 h => ?_
 refine cd 7 h (by kernel_rfl) (fun h => ?_) fun h => ?_
 ·cases h; exact lq 7 (by kernel_rfl)
 obtain ⟨v2, hv2, h⟩ := Option.bind_eq_some_iff.1 h
 refine sst 6 (s_make (t := 22) (X := (.tmp 17)) (Y := (.tmp 17)) (id := 2) (k := .i64) (k' := .i64) (d := tt22) (e := 3) (de := tt3) (enc := eI) (zv := .int .i64 0) hv2 (by kernel_rfl) tt_ok (by kernel_rfl) (by kernel_rfl) (by kernel_rfl) rfl rfl rfl rfl rfl (by kernel_rfl) (by kernel_rfl) (by kernel_rfl)) (by kernel_rfl) ?_
 refine lp1 8 (fun v3 => ⟨56, [(1, (.ref 1 0 0)), (5, (.row 2 (List.length (v3.2)))), (6, (fB (v3.1)))], [(1, (.box 26 [(fS (a0.name)), (.fz ((eL 1 eI) (a0.inputs))), (.fz ((eL 2 eSy) (a0.symbols))), (.fz ((eL 9 eRu) (a0.rules)))])), (2, (.frow 3 1 (List.map eI (v3.2))))], [2, 1], []⟩) (.exit 0) (fun v17 => ⟨56, [(5, (.row 2 (List.length (v17))))], [(2, (.frow 3 1 (List.map eI (v17))))], [2], []⟩) h (by kernel_rfl) (by kernel_rfl) (fun v3 r h => ?_) fun v17 h => ?_
 ·unfold counting_Least_l2 at h
  refine cd 5 h (by kernel_rfl) (fun h => ?_) fun h => ?_
  ·refine lp1 14 (fun v4 => ⟨56, [(1, (.ref 1 0 0)), (5, (.row 2 (List.length (v4.2.2)))), (6, (fB (v4.1))), (21, (.fz ((eL 9 eRu) (a0.rules)))), (22, (fI ((List.length a0.rules : Int)))), (23, (fI (v4.2.1)))], [(1, (.box 26 [(fS (a0.name)), (.fz ((eL 1 eI) (a0.inputs))), (.fz ((eL 2 eSy) (a0.symbols))), (.fz ((eL 9 eRu) (a0.rules)))])), (2, (.frow 3 1 (List.map eI (v4.2.2))))], [2, 1], []⟩) (.exit 2) (fun v15 => ⟨56, [(1, (.ref 1 0 0)), (5, (.row 2 (List.length (v15.2)))), (6, (fB (v15.1)))], [(1, (.box 26 [(fS (a0.name)), (.fz ((eL 1 eI) (a0.inputs))), (.fz ((eL 2 eSy) (a0.symbols))), (.fz ((eL 9 eRu) (a0.rules)))])), (2, (.frow 3 1 (List.map eI (v15.2))))], [2, 1], []⟩) h (by kernel_rfl) (by kernel_rfl) (fun v4 r h => ?_) fun v15 h => ?_
   ·unfold counting_Least_l1 at h
    refine cd 5 h (by kernel_rfl) (fun h => ?_) fun h => ?_
    ·refine jn1 3 .normal (fun v13 => ⟨56, [(1, (.ref 1 0 0)), (5, (.row 2 (List.length (v13.2)))), (6, (fB (v13.1))), (21, (.fz ((eL 9 eRu) (a0.rules)))), (22, (fI ((List.length a0.rules : Int)))), (23, (fI (v4.2.1)))], [(1, (.box 26 [(fS (a0.name)), (.fz ((eL 1 eI) (a0.inputs))), (.fz ((eL 2 eSy) (a0.symbols))), (.fz ((eL 9 eRu) (a0.rules)))])), (2, (.frow 3 1 (List.map eI (v13.2))))], [2, 1], []⟩) h (by kernel_rfl) (fun v13 h => ?_) fun v13 h => ?_
     ·refine ix nRu 2 h (by kernel_rfl) fun v5 h => ?_
      refine clL 8 [(.row 28 2 (List.length (v4.2.2)) 3 1 (List.map eI (v4.2.2)))] h (counting_cost_ok _ _) (lend_cons (lend_row (by kernel_rfl) (by kernel_rfl) (by simp)) (lend_nil)) (by kernel_rfl) (fun _ => by kernel_rfl) fun v6 h => ?_
      refine jn1 3 .normal (fun v10 => ⟨56, [(1, (.ref 1 0 0)), (5, (.row 2 (List.length (v4.2.2)))), (6, (fB (v4.1))), (8, (.ref 3 0 0)), (9, (fI (v6))), (21, (.fz ((eL 9 eRu) (a0.rules)))), (22, (fI ((List.length a0.rules : Int)))), (23, (fI (v4.2.1))), (48, (fB (v10)))], [(1, (.box 26 [(fS (a0.name)), (.fz ((eL 1 eI) (a0.inputs))), (.fz ((eL 2 eSy) (a0.symbols))), (.fz ((eL 9 eRu) (a0.rules)))])), (2, (.frow 3 1 (List.map eI (v4.2.2)))), (3, (.box 50 [(fI (v5.symbol)), (fI (v5.kind)), (fI (v5.input)), (fI (v5.const.type)), (fI (v5.const.num)), (fS (v5.const.text)), (.fz ((eL 4 eVaR) (v5.const.items))), (fS (v5.op)), (.fz ((eL 1 eI) (v5.args)))]))], [3, 2, 1], []⟩) h (by kernel_rfl) (fun v10 h => ?_) fun v10 h => ?_
      ·refine gd 4 h (by kernel_rfl) (fun h => ?_) fun h => ?_
       ·obtain ⟨v7, hv7, h⟩ := Option.bind_eq_some_iff.1 h
        refine nst 3 (n_rowAddr (t := 22) (X := (.tmp 33)) (Y := (.tmp 35)) (id := 2) (k := .i64) (d := tt22) (e := 3) (de := tt3) (enc := eI) (xs := v4.2.2) (n := List.length (v4.2.2)) hv7 tt_ok (by kernel_rfl) (by kernel_rfl) (by kernel_rfl) (by kernel_rfl) (by kernel_rfl) (by kernel_rfl) (by kernel_rfl) rfl (by kernel_rfl)) (by kernel_rfl) ?_
        refine nst 0 (n_rowLoad (t := 3) (X := (.tmp 36)) (id := 2) (d := tt3) (enc := eI) (xs := v4.2.2) (x := v7) (i := v5.symbol) (n := List.length (v4.2.2)) hv7 tt_ok (by kernel_rfl) (by kernel_rfl) (by kernel_rfl) (by kernel_rfl) (by kernel_rfl) rfl (fun _ => rfl)) (by kernel_rfl) ?_
        refine gd 2 h (by kernel_rfl) (fun h => ?_) fun h => ?_
        ·cases h; exact lj 10 (by kernel_rfl)
        obtain ⟨v8, hv8, h⟩ := Option.bind_eq_some_iff.1 h
        refine nst 4 (n_rowAddr (t := 22) (X := (.tmp 41)) (Y := (.tmp 43)) (id := 2) (k := .i64) (d := tt22) (e := 3) (de := tt3) (enc := eI) (xs := v4.2.2) (n := List.length (v4.2.2)) hv8 tt_ok (by kernel_rfl) (by kernel_rfl) (by kernel_rfl) (by kernel_rfl) (by kernel_rfl) (by kernel_rfl) (by kernel_rfl) rfl (by kernel_rfl)) (by kernel_rfl) ?_
        refine nst 0 (n_rowLoad (t := 3) (X := (.tmp 44)) (id := 2) (d := tt3) (enc := eI) (xs := v4.2.2) (x := v8) (i := v5.symbol) (n := List.length (v4.2.2)) hv8 tt_ok (by kernel_rfl) (by kernel_rfl) (by kernel_rfl) (by kernel_rfl) (by kernel_rfl) rfl (fun _ => rfl)) (by kernel_rfl) ?_
        cases h; exact lj 4 (by kernel_rfl)
       cases h; exact lj 17 (by kernel_rfl)
      refine cd 0 h (by kernel_rfl) (fun h => ?_) fun h => ?_
      ·obtain ⟨v11, hv11, h⟩ := Option.bind_eq_some_iff.1 h
       refine nst 6 (n_rowAddr (t := 22) (X := (.tmp 49)) (Y := (.tmp 51)) (id := 2) (k := .i64) (d := tt22) (e := 3) (de := tt3) (enc := eI) (xs := v4.2.2) (n := List.length (v4.2.2)) hv11 tt_ok (by kernel_rfl) (by kernel_rfl) (by kernel_rfl) (by kernel_rfl) (by kernel_rfl) (by kernel_rfl) (by kernel_rfl) rfl (by kernel_rfl)) (by kernel_rfl) ?_
       refine sst 0 (e_rowStore (t := 3) (X := (.tmp 53)) (Y := (.tmp 52)) (id := 2) (d := tt3) (enc := eI) (xs := v4.2.2) (x := v11) (i := v5.symbol) (y := v6) (n := List.length (v4.2.2)) hv11 tt_ok (by kernel_rfl) (by kernel_rfl) (by kernel_rfl) (by kernel_rfl) (by kernel_rfl) rfl (by kernel_rfl) (fun _ => ⟨_, rfl, rfl⟩)) (by kernel_rfl) ?_
       refine wle 0 (LeSt.trans (show LeSt _ ⟨56, [(1, (.ref 1 0 0)), (5, (.row 2 (List.length (v4.2.2)))), (21, (.fz ((eL 9 eRu) (a0.rules)))), (22, (fI ((List.length a0.rules : Int)))), (23, (fI (v4.2.1))), (49, (.row 2 (List.length (v4.2.2)))), (51, (fI (v5.symbol))), (52, (fI (v6)))], [(1, (.box 26 [(fS (a0.name)), (.fz ((eL 1 eI) (a0.inputs))), (.fz ((eL 2 eSy) (a0.symbols))), (.fz ((eL 9 eRu) (a0.rules)))])), (2, (.frow 3 1 (List.map eI ((List.set v4.2.2 (Int.toNat v5.symbol) v6)))))], [2, 1], []⟩ from le_a (by kernel_rfl)) (LeSt.trans (le_relen 2 (k := 2) (m := List.length (v4.2.2)) (n := List.length ((List.set v4.2.2 (Int.toNat v5.symbol) v6))) (by kernel_rfl) (by simp)) (show LeSt _ ⟨56, [(1, (.ref 1 0 0)), (5, (.row 2 (List.length ((List.set v4.2.2 (Int.toNat v5.symbol) v6))))), (21, (.fz ((eL 9 eRu) (a0.rules)))), (22, (fI ((List.length a0.rules : Int)))), (23, (fI (v4.2.1))), (49, (.row 2 (List.length ((List.set v4.2.2 (Int.toNat v5.symbol) v6))))), (51, (fI (v5.symbol))), (52, (fI (v6)))], [(1, (.box 26 [(fS (a0.name)), (.fz ((eL 1 eI) (a0.inputs))), (.fz ((eL 2 eSy) (a0.symbols))), (.fz ((eL 9 eRu) (a0.rules)))])), (2, (.frow 3 1 (List.map eI ((List.set v4.2.2 (Int.toNat v5.symbol) v6)))))], [2, 1], []⟩ from le_a (by kernel_rfl)))) (by kernel_rfl) ?_
       cases h; exact lj 4 (by kernel_rfl)
      cases h; exact lj 1 (by kernel_rfl)
     cases h; exact lj 4 (by kernel_rfl)
    cases h; exact lo 1 (by kernel_rfl)
   cases h; exact lj 0 (by kernel_rfl)
  cases h; exact lo 1 (by kernel_rfl)
 refine wle 6 (le_freeze (t := 2) (id := 2) (n := List.length (v17)) (e := 3) (size := 1) (xs := List.map eI (v17)) (by kernel_rfl) (by kernel_rfl) (by simp)) (by kernel_rfl) ?_
 cases h; exact lq 1 (by kernel_rfl)

def grammar_Of_l1 (a0 : La) (a1 : Int) (v1 : (Int) × (List Int)) : Option (((Int) × (List Int)) ⊕ ((List Int))) := (bif (decide (v1.1 < (List.length a0.rules : Int))) then (Option.bind ((Option.bind (idx a0.rules v1.1) fun v2 => (bif (v2.symbol == a1) then (Option.bind (app 8 v1.2 ([v1.1] : List (Int))) fun v3 => (some (v3))) else (some (v1.2)))) : Option ((List Int))) fun (v5 : (List Int)) => (some (.inl ((w64 (v1.1 + 1)), v5)))) else (some (.inr (v1.2))))
def grammar_Of (a0 : La) (a1 : Int) : Option (List Int) := (Option.bind (loopN (grammar_Of_l1 a0 a1) fuel (0, ([] : List (Int)))) fun (v7 : (List Int)) => (some v7))
theorem grammar_Of_ok (a0 : La) (a1 : Int) (r : List Int) (h : grammar_Of a0 a1 = some r) : PCall Try.prog 49 [eLa a0, eI a1] ((eL 1 eI) (r)) := by
 unfold grammar_Of at h
 refine pcl [.one (.sl 1)] Try.func49 (by kernel_rfl) (by kernel_rfl) (by kernel_rfl) ?_
 refine wle 18 (le_nilrow (e := 3) (size := 1) (t := 5) (id := 2) (by decide) (by kernel_rfl) (by kernel_rfl)) (by kernel_rfl) ?_
 refine lp1 0 (fun v1 => ⟨26, [(1, (fI (a1))), (5, (.row 2 (List.length (v1.2)))), (9, (.fz ((eL 9 eRu) (a0.rules)))), (10, (fI ((List.length a0.rules : Int)))), (11, (fI (v1.1)))], [(2, (.frow 3 1 (List.map eI (v1.2))))], [2], []⟩) (.exit 0) (fun v7 => ⟨26, [(5, (.row 2 (List.length (v7))))], [(2, (.frow 3 1 (List.map eI (v7))))], [2], []⟩) h (by kernel_rfl) (by kernel_rfl) (fun v1 r h => ?_) fun v7 h => ?_
 ·unfold grammar_Of_l1 at h
  refine cd 5 h (by kernel_rfl) (fun h => ?_) fun h => ?_
  ·refine jn1 3 .normal (fun v5 => ⟨26, [(1, (fI (a1))), (5, (.row 2 (List.length (v5)))), (9, (.fz ((eL 9 eRu) (a0.rules)))), (10, (fI ((List.length a0.rules : Int)))), (11, (fI (v1.1)))], [(2, (.frow 3 1 (List.map eI (v5))))], [2], []⟩) h (by kernel_rfl) (fun v5 h => ?_) fun v5 h => ?_
   ·refine ix nRu 3 h (by kernel_rfl) fun v2 h => ?_
    refine cd 12 h (by kernel_rfl) (fun h => ?_) fun h => ?_
    ·refine ap nI 4 h (by kernel_rfl) fun v3 h => ?_
     cases h; exact lj 2 (by kernel_rfl)
    cases h; exact lj 1 (by kernel_rfl)
   cases h; exact lj 4 (by kernel_rfl)
  cases h; exact lo 1 (by kernel_rfl)
 refine wle 5 (le_freeze (t := 4) (id := 2) (n := List.length (v7)) (e := 3) (size := 1) (xs := List.map eI (v7)) (by kernel_rfl) (by kernel_rfl) (by simp)) (by kernel_rfl) ?_
 cases h; exact lq 1 (by kernel_rfl)

def counting_joined (a0 : List Int) (a1 : List Int) : Option (List Int) := (Option.bind (mkC 8 (w64 ((List.length a0 : Int) + (List.length a1 : Int)))) fun v1 => (Option.bind (app 8 ([] : List (Int)) a0) fun v2 => (Option.bind (app 8 v2 a1) fun v3 => (some v3))))
theorem counting_joined_ok (a0 : List Int) (a1 : List Int) (r : List Int) (h : counting_joined a0 a1 = some r) : PCall Try.prog 63 [(eL 1 eI) a0, (eL 1 eI) a1] ((eL 1 eI) (r)) := by
 unfold counting_joined at h
 refine pcl [.one (.sl 1)] Try.func63 (by kernel_rfl) (by kernel_rfl) (by kernel_rfl) ?_
 obtain ⟨v1, hv1, h⟩ := Option.bind_eq_some_iff.1 h
 refine sst 11 (s_makeC (t := 22) (X := (.const (.int .i64 0))) (Y := (.tmp 10)) (id := 1) (k := .i64) (k' := .i64) (d := tt22) (e := 3) (de := tt3) hv1 (by kernel_rfl) tt_ok (by kernel_rfl) (by kernel_rfl) (by kernel_rfl) rfl rfl (by kernel_rfl) (by kernel_rfl) (by kernel_rfl)) (by kernel_rfl) ?_
 refine ap nI 6 h (by kernel_rfl) fun v2 h => ?_
 refine ap nI 1 h (by kernel_rfl) fun v3 h => ?_
 refine wle 2 (le_freeze (t := 4) (id := 1) (n := List.length (v3)) (e := 3) (size := 1) (xs := List.map eI (v3)) (by kernel_rfl) (by kernel_rfl) (by simp)) (by kernel_rfl) ?_
 cases h; exact lq 1 (by kernel_rfl)

def counting_counter_choose_h2_l1 (a0 : La) (a2 : List Int) (a3 : Int) (r24 : (La) → (List (ByteArray × Int)) → (List Int) → (Int) → (Int) → Option ((List Tm) × (List (ByteArray × Int)))) (v2 : List Int) (v3 : (Int) × (Int) × (List (ByteArray × Int))) : Option (((Int) × (Int) × (List (ByteArray × Int))) ⊕ ((((List (ByteArray × Int))) ⊕ ((List Tm) × (List (ByteArray × Int)))))) := (bif (decide (v3.2.1 < (List.length v2 : Int))) then (Option.bind (idx v2 v3.2.1) fun v4 => (Option.bind (idx a0.rules v4) fun v5 => (Option.bind (counting_args (v5)) fun v6 => (Option.bind (cutL a2 1 (List.length a2)) fun v7 => (Option.bind (counting_joined (v6) (v7)) fun v8 => (Option.bind (counting_counter_lists_h3 (counting_counter_terms_h2 fuel) fuel (a0) (v3.2.2) (v8) ((w64 (a3 - 1)))) fun v9 => (bif (decide (v9.1 ≤ v3.1)) then (some (.inl ((w64 (v3.1 - v9.1)), (w64 (v3.2.1 + 1)), v9.2))) else (Option.bind (r24 (a0) (v9.2) (v8) ((w64 (a3 - 1))) (v3.1)) fun v10 => (Option.bind (cut3 v10.1 0 (List.length v6 : Int) (List.length v6 : Int)) fun v11 => (Option.bind ((Option.bind (cutL v10.1 (List.length v6 : Int) (List.length v10.1)) fun v12 => (bif List.isEmpty v12 then (some (([(Tm.mk (v4) (v11))] : List (Tm)))) else (Option.bind (appN 32 ([(Tm.mk (v4) (v11))] : List (Tm)) v12) fun v13 => (some (v13))))) : Option ((List Tm))) fun (v16 : (List Tm)) => (some (.inr (.inr (v16, v10.2)))))))))))))) else (some (.inr (.inl (v3.2.2)))))
def counting_counter_choose_h2_b (r24 : (La) → (List (ByteArray × Int)) → (List Int) → (Int) → (Int) → Option ((List Tm) × (List (ByteArray × Int)))) (a0 : La) (a1 : List (ByteArray × Int)) (a2 : List Int) (a3 : Int) (a4 : Int) : Option ((List Tm) × (List (ByteArray × Int))) := (bif ((List.length a2 : Int) == 0) then (some (([] : List Tm), a1)) else (Option.bind (idx a2 0) fun v1 => (Option.bind (grammar_Of (a0) (v1)) fun v2 => (Option.bind (loopN (counting_counter_choose_h2_l1 a0 a2 a3 r24 v2) fuel (a4, 0, a1)) fun (v17 : (((List (ByteArray × Int))) ⊕ ((List Tm) × (List (ByteArray × Int))))) => Sum.elim (fun v18 => (some (([] : List Tm), v18))) (fun v19 => (some (v19.1, v19.2))) v17))))
theorem counting_counter_choose_h2_b_ok (r24 : (La) → (List (ByteArray × Int)) → (List Int) → (Int) → (Int) → Option ((List Tm) × (List (ByteArray × Int)))) (ih24 : ∀ (x0 : La) (x1 : List (ByteArray × Int)) (x2 : List Int) (x3 : Int) (x4 : Int) r, r24 x0 x1 x2 x3 x4 = some r → HCall Try.prog 41 ([(.ref 1 0 0), (.fz ((eL 1 eI) (x2))), (fI (x3)), (fI (x4))] ++ []) [(1, (.box 83 [(fS (x0.name)), (.fz ((eL 1 eI) (x0.inputs))), (.fz ((eL 2 eSy) (x0.symbols))), (.fz ((eL 9 eRu) (x0.rules))), (.mp 2)])), (2, (.smap (List.map (fun p => (p.1, eI p.2)) (x1))))] [1, 2] (.ret (.fz ((eL 2 eTmR) (r.1)))) [(1, (.box 83 [(fS (x0.name)), (.fz ((eL 1 eI) (x0.inputs))), (.fz ((eL 2 eSy) (x0.symbols))), (.fz ((eL 9 eRu) (x0.rules))), (.mp 2)])), (2, (.smap (List.map (fun p => (p.1, eI p.2)) (r.2))))] [1, 2]) (a0 : La) (a1 : List (ByteArray × Int)) (a2 : List Int) (a3 : Int) (a4 : Int) (r : (List Tm) × (List (ByteArray × Int))) (h : counting_counter_choose_h2_b r24 a0 a1 a2 a3 a4 = some r) : HCall Try.prog 41 ([(.ref 1 0 0), (.fz ((eL 1 eI) (a2))), (fI (a3)), (fI (a4))] ++ []) [(1, (.box 83 [(fS (a0.name)), (.fz ((eL 1 eI) (a0.inputs))), (.fz ((eL 2 eSy) (a0.symbols))), (.fz ((eL 9 eRu) (a0.rules))), (.mp 2)])), (2, (.smap (List.map (fun p => (p.1, eI p.2)) (a1))))] [1, 2] (.ret (.fz ((eL 2 eTmR) (r.1)))) [(1, (.box 83 [(fS (a0.name)), (.fz ((eL 1 eI) (a0.inputs))), (.fz ((eL 2 eSy) (a0.symbols))), (.fz ((eL 9 eRu) (a0.rules))), (.mp 2)])), (2, (.smap (List.map (fun p => (p.1, eI p.2)) (r.2))))] [1, 2] := by
 unfold counting_counter_choose_h2_b at h
 refine hcx (gi := 0) Try.func41 (by kernel_rfl) (by kernel_rfl) (by kernel_rfl) (by kernel_rfl) (by kernel_rfl) (by kernel_rfl) (by kernel_rfl) (by kernel_rfl) ?_
 intro p0 q0 w0
 refine cd 11 h (by kernel_rfl) (fun h => ?_) fun h => ?_
 ·obtain rfl := Option.some.inj h; exact lh 5 ⟨78, [(8, (.fz ((eL 2 eTmR) (([] : List Tm)))))], [(0, (.was p0 [1, 2] q0 w0)), (1, (.box 83 [(fS (a0.name)), (.fz ((eL 1 eI) (a0.inputs))), (.fz ((eL 2 eSy) (a0.symbols))), (.fz ((eL 9 eRu) (a0.rules))), (.mp 2)])), (2, (.smap (List.map (fun p => (p.1, eI p.2)) (a1))))], [0, 1, 2], []⟩ (le_a (by kernel_rfl)) rfl rfl (by kernel_rfl) (by kernel_rfl)
 refine dw 3 10 (by kernel_rfl) ?_
 refine ix nI 5 h (by kernel_rfl) fun v1 h => ?_
 refine cl 1 h (grammar_Of_ok _ _) (by kernel_rfl) fun v2 h => ?_
 refine lpx 5 (fun v3 => ⟨78, [(0, (.ref 1 0 0)), (1, (.fz ((eL 1 eI) (a2)))), (2, (fI (a3))), (3, (fI (v3.1))), (26, (.fz ((eL 1 eI) (v2)))), (27, (fI ((List.length v2 : Int)))), (28, (fI (v3.2.1)))], [(0, (.was p0 [1, 2] q0 w0)), (1, (.box 83 [(fS (a0.name)), (.fz ((eL 1 eI) (a0.inputs))), (.fz ((eL 2 eSy) (a0.symbols))), (.fz ((eL 9 eRu) (a0.rules))), (.mp 2)])), (2, (.smap (List.map (fun p => (p.1, eI p.2)) (v3.2.2))))], [0, 1, 2], []⟩) (fun v17 e st => Sum.elim (fun p => e = .exit 0 ∧ LeSt st ⟨78, [], [(0, (.was p0 [1, 2] q0 w0)), (1, (.box 83 [(fS (a0.name)), (.fz ((eL 1 eI) (a0.inputs))), (.fz ((eL 2 eSy) (a0.symbols))), (.fz ((eL 9 eRu) (a0.rules))), (.mp 2)])), (2, (.smap (List.map (fun p => (p.1, eI p.2)) (p))))], [0, 1, 2], []⟩) (fun p => e = .ret ∧ LeSt st ⟨78, [(8, (.fz ((eL 2 eTmR) (p.1))))], [(0, (.was p0 [1, 2] q0 w0)), (1, (.box 83 [(fS (a0.name)), (.fz ((eL 1 eI) (a0.inputs))), (.fz ((eL 2 eSy) (a0.symbols))), (.fz ((eL 9 eRu) (a0.rules))), (.mp 2)])), (2, (.smap (List.map (fun p => (p.1, eI p.2)) (p.2))))], [0, 1, 2], []⟩) v17) h (by kernel_rfl) (le_a (by kernel_rfl)) (fun v3 r h => ?_) fun v17 h e st' hq => ?_
 ·unfold counting_counter_choose_h2_l1 at h
  refine cd 5 h (by kernel_rfl) (fun h => ?_) fun h => ?_
  ·refine ix nI 5 h (by kernel_rfl) fun v4 h => ?_
   refine ix nRu 11 h (by kernel_rfl) fun v5 h => ?_
   refine cl 1 h (counting_args_ok _) (by kernel_rfl) fun v6 h => ?_
   obtain ⟨v7, hv7, h⟩ := Option.bind_eq_some_iff.1 h
   refine nst 6 (s_cutL (t := 22) (x := (.tmp 42)) (lo := (some (.const (.int .i64 1)))) (hi := none) (d := tt22) (e := 3) (de := tt3) (size := 1) (enc := eI) (xs := a2) (l := (some 1)) (h := none) hv7 tt_ok (by kernel_rfl) (by kernel_rfl) (by kernel_rfl) (by kernel_rfl) (by kernel_rfl) (by kernel_rfl) (by kernel_rfl) (by kernel_rfl)) (by kernel_rfl) ?_
   refine cl 0 h (counting_joined_ok _ _) (by kernel_rfl) fun v8 h => ?_
   refine hcl 9 [.one .keep, .one .keep, .one .keep] [(1, 1), (2, 2)] [(1, 1), (2, 2)] [1, 2] h (counting_counter_lists_h3_ok (counting_counter_terms_h2 fuel) (counting_counter_terms_h2_ok fuel) fuel _ _ _ _) (fun _ => by kernel_rfl) fun v9 h => ?_
   refine cd 8 h (by kernel_rfl) (fun h => ?_) fun h => ?_
   ·cases h; exact lj 12 (by kernel_rfl)
   refine hcl 8 [.one .keep, .one .keep, .one .keep, .one .keep] [(1, 1), (2, 2)] [(1, 1), (2, 2)] [1, 2] h (ih24 _ _ _ _ _) (fun _ => by kernel_rfl) fun v10 h => ?_
   obtain ⟨v11, hv11, h⟩ := Option.bind_eq_some_iff.1 h
   refine nst 10 (s_cut3 (t := 28) (x := (.tmp 63)) (lo := none) (y := (.tmp 65)) (m := (.tmp 67)) (d := tt28) (e := 30) (de := tt30) (size := 2) (enc := eTmR) (xs := v10.1) (l := none) (h := (List.length v6 : Int)) (k := (List.length v6 : Int)) (k1 := .i64) (k2 := .i64) hv11 tt_ok (by kernel_rfl) (by kernel_rfl) (by kernel_rfl) (by kernel_rfl) (by kernel_rfl) (by kernel_rfl) (by kernel_rfl) (by kernel_rfl) (by kernel_rfl)) (by kernel_rfl) ?_
   refine jn1 5 .normal (fun v16 => ⟨78, [(8, (.fz ((eL 2 eTmR) (v16))))], [(0, (.was p0 [1, 2] q0 w0)), (1, (.box 83 [(fS (a0.name)), (.fz ((eL 1 eI) (a0.inputs))), (.fz ((eL 2 eSy) (a0.symbols))), (.fz ((eL 9 eRu) (a0.rules))), (.mp 2)])), (2, (.smap (List.map (fun p => (p.1, eI p.2)) (v10.2))))], [0, 1, 2], []⟩) h (by kernel_rfl) (fun v16 h => ?_) fun v16 h => ?_
   ·refine dw 0 6 (by kernel_rfl) ?_
    refine nst 1 ((nstep_co (st' := ⟨78, [(70, (.fz (eTm ((Tm.mk (v4) (v11))))))], [], [], []⟩) (ids := []) (ts := [(70, (.ag [.keep, .sl 2]))]) (by kernel_rfl) (nstep_ok (c := .lim 2 1 [eTm ((Tm.mk (v4) (v11)))]) tt_ok (by kernel_rfl))).eqv (show AV.lim 2 1 [eTm ((Tm.mk (v4) (v11)))] = .lim 2 1 (List.map eTmR ([(Tm.mk (v4) (v11))] : List (Tm))) by simp only [List.map, eTmR_eq])) (by kernel_rfl) ?_
    obtain ⟨v12, hv12, h⟩ := Option.bind_eq_some_iff.1 h
    refine nst 3 (s_cutL (t := 28) (x := (.tmp 72)) (lo := (some (.tmp 74))) (hi := none) (d := tt28) (e := 30) (de := tt30) (size := 2) (enc := eTmR) (xs := v10.1) (l := (some (List.length v6 : Int))) (h := none) hv12 tt_ok (by kernel_rfl) (by kernel_rfl) (by kernel_rfl) (by kernel_rfl) (by kernel_rfl) (by kernel_rfl) (by kernel_rfl) (by kernel_rfl)) (by kernel_rfl) ?_
    refine gdb 1 h (fun hE14 h => ?_) fun hE14 h => ?_
    ·refine nst 0 (s_appLit0 (t := 28) (X := (.tmp 71)) (Y := (.tmp 75)) (d := tt28) (e := 30) (de := tt30) (enc := eTmR) (xs := ([(Tm.mk (v4) (v11))] : List (Tm))) (ys := v12) (n := List.length ([(Tm.mk (v4) (v11))] : List (Tm))) (m := List.length v12) hE14 tt_ok (by kernel_rfl) (by kernel_rfl) (by kernel_rfl) (by kernel_rfl) (by kernel_rfl) (.inl (by kernel_rfl))) (by kernel_rfl) ?_
     cases h; exact lj 2 (by kernel_rfl)
    obtain ⟨v13, hv13, h⟩ := Option.bind_eq_some_iff.1 h
    refine sst 0 (s_appLit (t := 28) (X := (.tmp 71)) (Y := (.tmp 75)) (d := tt28) (e := 30) (de := tt30) (enc := eTmR) (xs := ([(Tm.mk (v4) (v11))] : List (Tm))) (ys := v12) (n := List.length ([(Tm.mk (v4) (v11))] : List (Tm))) (m := List.length v12) (id := 4) hv13 tt_ok (by kernel_rfl) (by kernel_rfl) (by kernel_rfl) (by kernel_rfl) (by kernel_rfl) (by kernel_rfl) (by kernel_rfl) (by kernel_rfl) (.inl (by kernel_rfl)) (by kernel_rfl)) (by kernel_rfl) ?_
    obtain rfl := Option.some.inj h; exact ljx 2 (LeSt.trans (le_freezeTs (id := 4) (n := List.length (v13)) (e := 30) (size := 2) (xs := List.map eTmR (v13)) [8] ⟨by kernel_rfl, trivial⟩ (by kernel_rfl) (by simp)) (le_a (by kernel_rfl))) (by kernel_rfl)
   cases h; exact lo 1 (by kernel_rfl)
  cases h; exact lo 1 (by kernel_rfl)
 rcases v17 with v18 | v19
 ·try simp only [Sum.elim_inl, Sum.elim_inr] at h
  obtain ⟨rfl, hle⟩ := hq
  refine ⟨_, hle, ?_⟩
  obtain rfl := Option.some.inj h; exact lh 5 ⟨78, [(8, (.fz ((eL 2 eTmR) (([] : List Tm)))))], [(0, (.was p0 [1, 2] q0 w0)), (1, (.box 83 [(fS (a0.name)), (.fz ((eL 1 eI) (a0.inputs))), (.fz ((eL 2 eSy) (a0.symbols))), (.fz ((eL 9 eRu) (a0.rules))), (.mp 2)])), (2, (.smap (List.map (fun p => (p.1, eI p.2)) (v18))))], [0, 1, 2], []⟩ (le_a (by kernel_rfl)) rfl rfl (by kernel_rfl) (by kernel_rfl)
 ·try simp only [Sum.elim_inl, Sum.elim_inr] at h
  obtain ⟨rfl, hle⟩ := hq
  refine ⟨_, hle, ?_⟩
  obtain rfl := Option.some.inj h; exact lh 0 ⟨78, [(8, (.fz ((eL 2 eTmR) (v19.1))))], [(0, (.was p0 [1, 2] q0 w0)), (1, (.box 83 [(fS (a0.name)), (.fz ((eL 1 eI) (a0.inputs))), (.fz ((eL 2 eSy) (a0.symbols))), (.fz ((eL 9 eRu) (a0.rules))), (.mp 2)])), (2, (.smap (List.map (fun p => (p.1, eI p.2)) (v19.2))))], [0, 1, 2], []⟩ (le_a (by kernel_rfl)) rfl rfl (by kernel_rfl) (by kernel_rfl)
def counting_counter_choose_h2 : Nat → (La) → (List (ByteArray × Int)) → (List Int) → (Int) → (Int) → Option ((List Tm) × (List (ByteArray × Int)))
  | 0 => fun _ _ _ _ _ => none
  | n + 1 => counting_counter_choose_h2_b (counting_counter_choose_h2 n)
theorem counting_counter_choose_h2_ok : ∀ n : Nat, ∀ (x0 : La) (x1 : List (ByteArray × Int)) (x2 : List Int) (x3 : Int) (x4 : Int) r, counting_counter_choose_h2 n x0 x1 x2 x3 x4 = some r → HCall Try.prog 41 ([(.ref 1 0 0), (.fz ((eL 1 eI) (x2))), (fI (x3)), (fI (x4))] ++ []) [(1, (.box 83 [(fS (x0.name)), (.fz ((eL 1 eI) (x0.inputs))), (.fz ((eL 2 eSy) (x0.symbols))), (.fz ((eL 9 eRu) (x0.rules))), (.mp 2)])), (2, (.smap (List.map (fun p => (p.1, eI p.2)) (x1))))] [1, 2] (.ret (.fz ((eL 2 eTmR) (r.1)))) [(1, (.box 83 [(fS (x0.name)), (.fz ((eL 1 eI) (x0.inputs))), (.fz ((eL 2 eSy) (x0.symbols))), (.fz ((eL 9 eRu) (x0.rules))), (.mp 2)])), (2, (.smap (List.map (fun p => (p.1, eI p.2)) (r.2))))] [1, 2]
  | 0 => fun _ _ _ _ _ _ h => by cases h
  | n + 1 => fun a0 a1 a2 a3 a4 r h => counting_counter_choose_h2_b_ok (counting_counter_choose_h2 n) (counting_counter_choose_h2_ok n) a0 a1 a2 a3 a4 r h

def counting_Term (a0 : La) (a1 : Int) (a2 : Int) (a3 : Int) : Option ((Tm) × (Int)) := (Option.bind (counting_Count (a0) (a1) (a2)) fun v1 => (bif (v1.2 != 0) then (some ((Tm.mk (0) (([] : List Tm))), v1.2)) else (Option.bind ((bif (decide (a3 < 0)) then (some (true)) else (some ((decide (v1.1 ≤ a3))))) : Option ((Bool))) fun (v3 : (Bool)) => (bif v3 then (some ((Tm.mk (0) (([] : List Tm))), 1)) else (Option.bind (counting_open_h (a0)) fun v4 => (Option.bind (counting_counter_choose_h2 fuel (a0) (([] : List (ByteArray × Int))) (([a1] : List (Int))) (a2) (a3)) fun v5 => (Option.bind (idx v5.1 0) fun v6 => (some (v6, 0)))))))))
theorem counting_Term_ok (a0 : La) (a1 : Int) (a2 : Int) (a3 : Int) (r : (Tm) × (Int)) (h : counting_Term a0 a1 a2 a3 = some r) : PCall Try.prog 18 [eLa a0, eI a1, eI a2, eI a3] (.tup [eTm (r.1), eI (r.2)]) := by
 unfold counting_Term at h
 refine pcl [.ag [.keep, .sl 2], .one .keep] Try.func18 (by kernel_rfl) (by kernel_rfl) (by kernel_rfl) ?_
 refine cl 11 h (counting_Count_ok _ _ _) (by kernel_rfl) fun v1 h => ?_
 refine cd 12 h (by kernel_rfl) (fun h => ?_) fun h => ?_
 ·cases h; exact lq 8 (by kernel_rfl)
 refine jn1 3 .normal (fun v3 => ⟨40, [(1, (fI (a1))), (2, (fI (a2))), (3, (fI (a3))), (4, (.ref 1 0 0)), (8, (.ref 2 0 0)), (29, (fB (v3)))], [(1, (.box 26 [(fS (a0.name)), (.fz ((eL 1 eI) (a0.inputs))), (.fz ((eL 2 eSy) (a0.symbols))), (.fz ((eL 9 eRu) (a0.rules)))])), (2, (.box 30 [(fI (0)), (.fz (.atom (.slice none 0 0)))]))], [2, 1], []⟩) h (by kernel_rfl) (fun v3 h => ?_) fun v3 h => ?_
 ·refine gd 4 h (by kernel_rfl) (fun h => ?_) fun h => ?_
  ·cases h; exact lj 5 (by kernel_rfl)
  cases h; exact lj 5 (by kernel_rfl)
 refine cd 0 h (by kernel_rfl) (fun h => ?_) fun h => ?_
 ·cases h; exact lq 7 (by kernel_rfl)
 refine hcl 4 [.one .keep] [] [(2, 3), (3, 4)] [] h (counting_open_h_ok _) (fun _ => by kernel_rfl) fun v4 h => ?_
 refine hcl 4 [.one .keep, (.one (.sl 1)), .one .keep, .one .keep] [(4, 1), (3, 2)] [(1, 4), (2, 3)] [1, 2] h (counting_counter_choose_h2_ok fuel _ _ _ _ _) (fun _ => by kernel_rfl) fun v5 h => ?_
 refine ix nTmR 0 h (by kernel_rfl) fun v6 h => ?_
 cases h; exact lq 5 (by kernel_rfl)

def synthesisref12_Same_l1 (a0 : Tm) (a1 : Tm) (r20 : (Tm) → (Tm) → Option (Bool)) (v3 : (Int)) : Option (((Int)) ⊕ (((Unit) ⊕ (Bool)))) := (bif (decide (v3 < (List.length a0.args : Int))) then (Option.bind (idx a0.args v3) fun v4 => (Option.bind (idx a1.args v3) fun v5 => (Option.bind (r20 (v4) (v5)) fun v6 => (bif (!v6) then (some (.inr (.inr false))) else (some (.inl ((w64 (v3 + 1))))))))) else (some (.inr (.inl ()))))
def synthesisref12_Same_b (r20 : (Tm) → (Tm) → Option (Bool)) (a0 : Tm) (a1 : Tm) : Option (Bool) := (Option.bind ((bif (a0.rule != a1.rule) then (some (true)) else (some (((List.length a0.args : Int) != (List.length a1.args : Int))))) : Option ((Bool))) fun (v2 : (Bool)) => (bif v2 then (some false) else (Option.bind (loopN (synthesisref12_Same_l1 a0 a1 r20) fuel (0)) fun (v7 : ((Unit) ⊕ (Bool))) => Sum.elim (fun v8 => (some true)) (fun v9 => (some v9)) v7)))
theorem synthesisref12_Same_b_ok (r20 : (Tm) → (Tm) → Option (Bool)) (ih20 : ∀ (x0 : Tm) (x1 : Tm) r, r20 x0 x1 = some r → PCall Try.prog 20 [eTm x0, eTm x1] (eB (r))) (a0 : Tm) (a1 : Tm) (r : Bool) (h : synthesisref12_Same_b r20 a0 a1 = some r) : PCall Try.prog 20 [eTm a0, eTm a1] (eB (r)) := by
 unfold synthesisref12_Same_b at h
 refine pcl [.one .keep] Try.func20 (by kernel_rfl) (by kernel_rfl) (by kernel_rfl) ?_
 refine jn1 8 .normal (fun v2 => ⟨39, [(2, (.ref 1 0 0)), (3, (.ref 2 0 0)), (19, (fB (v2)))], [(1, (.box 30 [(fI (a0.rule)), (.fz ((eL 2 eTmR) (a0.args)))])), (2, (.box 30 [(fI (a1.rule)), (.fz ((eL 2 eTmR) (a1.args)))]))], [2, 1], []⟩) h (by kernel_rfl) (fun v2 h => ?_) fun v2 h => ?_
 ·refine gd 7 h (by kernel_rfl) (fun h => ?_) fun h => ?_
  ·cases h; exact lj 9 (by kernel_rfl)
  cases h; exact lj 9 (by kernel_rfl)
 refine cd 0 h (by kernel_rfl) (fun h => ?_) fun h => ?_
 ·cases h; exact lq 5 (by kernel_rfl)
 refine lpx 10 (fun v3 => ⟨39, [(2, (.ref 1 0 0)), (3, (.ref 2 0 0)), (22, (fI ((List.length a0.args : Int)))), (23, (fI (v3)))], [(1, (.box 30 [(fI (a0.rule)), (.fz ((eL 2 eTmR) (a0.args)))])), (2, (.box 30 [(fI (a1.rule)), (.fz ((eL 2 eTmR) (a1.args)))]))], [2, 1], []⟩) (fun v7 e st => Sum.elim (fun p => e = .exit 0 ∧ LeSt st ⟨39, [], [], [], []⟩) (fun p => e = .ret ∧ retX TT st Try.f20.results.toList [.one .keep] = some (eB (p))) v7) h (by kernel_rfl) (le_a (by kernel_rfl)) (fun v3 r h => ?_) fun v7 h e st' hq => ?_
 ·unfold synthesisref12_Same_l1 at h
  refine cd 5 h (by kernel_rfl) (fun h => ?_) fun h => ?_
  ·refine dw 9 10 (by kernel_rfl) ?_
   refine ix nTmR 3 h (by kernel_rfl) fun v4 h => ?_
   refine ix nTmR 4 h (by kernel_rfl) fun v5 h => ?_
   refine cl 2 h (ih20 _ _) (by kernel_rfl) fun v6 h => ?_
   refine cd 2 h (by kernel_rfl) (fun h => ?_) fun h => ?_
   ·cases h; exact lor 5 (by kernel_rfl)
   cases h; exact lj 5 (by kernel_rfl)
  cases h; exact lo 1 (by kernel_rfl)
 rcases v7 with v8 | v9
 ·try simp only [Sum.elim_inl, Sum.elim_inr] at h
  obtain ⟨rfl, hle⟩ := hq
  refine ⟨_, hle, ?_⟩
  cases h; exact lq 5 (by kernel_rfl)
 ·try simp only [Sum.elim_inl, Sum.elim_inr] at h
  obtain ⟨rfl, hret⟩ := hq
  refine ⟨_, LeSt.refl, ?_⟩
  cases h; exact lv hret
def synthesisref12_Same : Nat → (Tm) → (Tm) → Option (Bool)
  | 0 => fun _ _ => none
  | n + 1 => synthesisref12_Same_b (synthesisref12_Same n)
theorem synthesisref12_Same_ok : ∀ (n : Nat) (x0 : Tm) (x1 : Tm) r, synthesisref12_Same n x0 x1 = some r → PCall Try.prog 20 [eTm x0, eTm x1] (eB (r))
  | 0, _, _, _, h => by cases h
  | n + 1, x0, x1, r, h => synthesisref12_Same_b_ok (synthesisref12_Same n) (synthesisref12_Same_ok n) x0 x1 r h

def counting_measure_m0 (a0 : La) (a2 : Tm) : List (Nat × AObj) := [(1, (.box 26 [(fS (a0.name)), (.fz ((eL 1 eI) (a0.inputs))), (.fz ((eL 2 eSy) (a0.symbols))), (.fz ((eL 9 eRu) (a0.rules)))])), (2, (.box 30 [(fI (a2.rule)), (.fz ((eL 2 eTmR) (a2.args)))]))]
def counting_measure_l1 (a0 : La) (a2 : Tm) (r44 : (La) → (Int) → (Tm) → Option ((Int) × (Bool))) (v4 : List Int) (v8 : (Int) × (Int)) : Option (((Int) × (Int)) ⊕ ((((Int)) ⊕ ((Int) × (Bool))))) := (bif (decide (v8.2 < (List.length a2.args : Int))) then (Option.bind (idx a2.args v8.2) fun v9 => (Option.bind (idx v4 v8.2) fun v10 => (Option.bind (r44 (a0) (v10) (v9)) fun v11 => (bif (!v11.2) then (some (.inr (.inr (0, false)))) else (some (.inl ((w64 (v8.1 + v11.1)), (w64 (v8.2 + 1))))))))) else (some (.inr (.inl (v8.1)))))
def counting_measure_b (r44 : (La) → (Int) → (Tm) → Option ((Int) × (Bool))) (a0 : La) (a1 : Int) (a2 : Tm) : Option ((Int) × (Bool)) := (Option.bind ((bif (decide (a2.rule < 0)) then (some (true)) else (some ((decide ((List.length a0.rules : Int) ≤ a2.rule))))) : Option ((Bool))) fun (v2 : (Bool)) => (bif v2 then (some (0, false)) else (Option.bind (idx a0.rules a2.rule) fun v3 => (Option.bind (counting_args (v3)) fun v4 => (Option.bind ((Option.bind (idx a0.rules a2.rule) fun v5 => (bif (v5.symbol != a1) then (some (true)) else (some (((List.length a2.args : Int) != (List.length v4 : Int)))))) : Option ((Bool))) fun (v7 : (Bool)) => (bif v7 then (some (0, false)) else (Option.bind (loopN (counting_measure_l1 a0 a2 r44 v4) fuel (1, 0)) fun (v12 : (((Int)) ⊕ ((Int) × (Bool)))) => Sum.elim (fun v13 => (some (v13, true))) (fun v14 => (some v14)) v12)))))))
theorem counting_measure_b_ok (r44 : (La) → (Int) → (Tm) → Option ((Int) × (Bool))) (ih44 : ∀ (x0 : La) (x1 : Int) (x2 : Tm) r, r44 x0 x1 x2 = some r → PCall Try.prog 44 [eLa x0, eI x1, eTm x2] (.tup [eI (r.1), eB (r.2)])) (a0 : La) (a1 : Int) (a2 : Tm) (r : (Int) × (Bool)) (h : counting_measure_b r44 a0 a1 a2 = some r) : PCall Try.prog 44 [eLa a0, eI a1, eTm a2] (.tup [eI (r.1), eB (r.2)]) := by
 unfold counting_measure_b at h
 refine pcl [.one .keep, .one .keep] Try.func44 (by kernel_rfl) (by kernel_rfl) (by kernel_rfl) ?_
 refine jn1 9 .normal (fun v2 => ⟨74, [(1, (fI (a1))), (3, (.ref 1 0 0)), (5, (.ref 2 0 0)), (24, (fB (v2)))], (counting_measure_m0 a0 a2), [2, 1], []⟩) h (by kernel_rfl) (fun v2 h => ?_) fun v2 h => ?_
 ·refine gd 5 h (by kernel_rfl) (fun h => ?_) fun h => ?_
  ·cases h; exact lj 8 (by kernel_rfl)
  cases h; exact lj 8 (by kernel_rfl)
 refine cd 0 h (by kernel_rfl) (fun h => ?_) fun h => ?_
 ·cases h; exact lq 6 (by kernel_rfl)
 refine ix nRu 7 h (by kernel_rfl) fun v3 h => ?_
 refine cl 1 h (counting_args_ok _) (by kernel_rfl) fun v4 h => ?_
 refine jn1 4 .normal (fun v7 => ⟨74, [(3, (.ref 1 0 0)), (5, (.ref 2 0 0)), (8, (.fz ((eL 1 eI) (v4)))), (48, (fB (v7)))], (counting_measure_m0 a0 a2), [2, 1], []⟩) h (by kernel_rfl) (fun v7 h => ?_) fun v7 h => ?_
 ·refine ix nRu 5 h (by kernel_rfl) fun v5 h => ?_
  refine gd 5 h (by kernel_rfl) (fun h => ?_) fun h => ?_
  ·cases h; exact lj 8 (by kernel_rfl)
  cases h; exact lj 8 (by kernel_rfl)
 refine cd 0 h (by kernel_rfl) (fun h => ?_) fun h => ?_
 ·cases h; exact lq 6 (by kernel_rfl)
 refine lpx 14 (fun v8 => ⟨74, [(3, (.ref 1 0 0)), (8, (.fz ((eL 1 eI) (v4)))), (9, (fI (v8.1))), (50, (.fz ((eL 2 eTmR) (a2.args)))), (51, (fI ((List.length a2.args : Int)))), (52, (fI (v8.2)))], [(1, (.box 26 [(fS (a0.name)), (.fz ((eL 1 eI) (a0.inputs))), (.fz ((eL 2 eSy) (a0.symbols))), (.fz ((eL 9 eRu) (a0.rules)))]))], [1], []⟩) (fun v12 e st => Sum.elim (fun p => e = .exit 0 ∧ LeSt st ⟨74, [(9, (fI (p)))], [], [], []⟩) (fun p => e = .ret ∧ retX TT st Try.f44.results.toList [.one .keep, .one .keep] = some (.tup [eI (p.1), eB (p.2)])) v12) h (by kernel_rfl) (le_a (by kernel_rfl)) (fun v8 r h => ?_) fun v12 h e st' hq => ?_
 ·unfold counting_measure_l1 at h
  refine cd 5 h (by kernel_rfl) (fun h => ?_) fun h => ?_
  ·refine ix nTmR 6 h (by kernel_rfl) fun v9 h => ?_
   refine dw 6 11 (by kernel_rfl) ?_
   refine ix nI 3 h (by kernel_rfl) fun v10 h => ?_
   refine cl 2 h (ih44 _ _ _) (by kernel_rfl) fun v11 h => ?_
   refine cd 13 h (by kernel_rfl) (fun h => ?_) fun h => ?_
   ·cases h; exact lor 6 (by kernel_rfl)
   cases h; exact lj 11 (by kernel_rfl)
  cases h; exact lo 1 (by kernel_rfl)
 rcases v12 with v13 | v14
 ·try simp only [Sum.elim_inl, Sum.elim_inr] at h
  obtain ⟨rfl, hle⟩ := hq
  refine ⟨_, hle, ?_⟩
  cases h; exact lq 7 (by kernel_rfl)
 ·try simp only [Sum.elim_inl, Sum.elim_inr] at h
  obtain ⟨rfl, hret⟩ := hq
  refine ⟨_, LeSt.refl, ?_⟩
  cases h; exact lv hret
def counting_measure : Nat → (La) → (Int) → (Tm) → Option ((Int) × (Bool))
  | 0 => fun _ _ _ => none
  | n + 1 => counting_measure_b (counting_measure n)
theorem counting_measure_ok : ∀ (n : Nat) (x0 : La) (x1 : Int) (x2 : Tm) r, counting_measure n x0 x1 x2 = some r → PCall Try.prog 44 [eLa x0, eI x1, eTm x2] (.tup [eI (r.1), eB (r.2)])
  | 0, _, _, _, _, h => by cases h
  | n + 1, x0, x1, x2, r, h => counting_measure_b_ok (counting_measure n) (counting_measure_ok n) x0 x1 x2 r h
end Go.Proofs.Ytfkddbccogakoaa
