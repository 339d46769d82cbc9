/- Typed programs and what computes them. -/
import Derived.Test.YtpcfkflhnkfjjaaZ0
set_option linter.unusedVariables false
set_option linter.unusedSimpArgs false
set_option maxRecDepth 100000
namespace Go.Proofs.Ytpcfkflhnkfjjaa
open Go Go.RowKit Go.Proofs
set_option maxHeartbeats 2000000
attribute [local irreducible] NStep StepA EStep LeSt
def grammar_Check_1_h (a0 : Ru) (a1 : Ru) : Option ((Bool)) := (Option.bind (grammar_sameRule (a0) (a1)) fun v1 => (some (v1)))
theorem grammar_Check_1_h_ok (a0 : Ru) (a1 : Ru) (r : (Bool)) (h : grammar_Check_1_h a0 a1 = some r) : HCall Try.prog 52 ([(.fz (eRu (a0)))] ++ [(.ref 1 0 0)]) [(1, (.box 55 [(fI (a1.symbol)), (fI (a1.kind)), (fI (a1.input)), (fI (a1.const.type)), (fI (a1.const.num)), (fS (a1.const.text)), (.fz ((eL 4 eVaR) (a1.const.items))), (fS (a1.op)), (.fz ((eL 1 eI) (a1.args)))]))] [1] (.ret (fB (r))) [(1, (.box 55 [(fI (a1.symbol)), (fI (a1.kind)), (fI (a1.input)), (fI (a1.const.type)), (fI (a1.const.num)), (fS (a1.const.text)), (.fz ((eL 4 eVaR) (a1.const.items))), (fS (a1.op)), (.fz ((eL 1 eI) (a1.args)))]))] [1] := by
 unfold grammar_Check_1_h at h
 refine hcx (gi := 0) Try.func52 (by kernel_rfl) (by kernel_rfl) (by kernel_rfl) (by kernel_rfl) (by kernel_rfl) (by kernel_rfl) (by kernel_rfl) (by kernel_rfl) ?_
 intro p0 q0 w0
 refine cl 9 h (grammar_sameRule_ok _ _) (by kernel_rfl) fun v1 h => ?_
 obtain rfl := Option.some.inj h; exact lh 3 ⟨7, [(3, (fB (v1)))], [(0, (.was p0 [1] q0 w0)), (1, (.box 55 [(fI (a1.symbol)), (fI (a1.kind)), (fI (a1.input)), (fI (a1.const.type)), (fI (a1.const.num)), (fS (a1.const.text)), (.fz ((eL 4 eVaR) (a1.const.items))), (fS (a1.op)), (.fz ((eL 1 eI) (a1.args)))]))], [0, 1], []⟩ (le_a (by kernel_rfl)) rfl rfl (by kernel_rfl) (by kernel_rfl)

def slices_IndexFunc_api_Rule_api_Rule_h_m0 (p0 : Env) (q0 : Nat → Prop) (w0 : World) (a1 : Ru) : List (Nat × AObj) := [(0, (.was p0 [1] q0 w0)), (1, (.box 55 [(fI (a1.symbol)), (fI (a1.kind)), (fI (a1.input)), (fI (a1.const.type)), (fI (a1.const.num)), (fS (a1.const.text)), (.fz ((eL 4 eVaR) (a1.const.items))), (fS (a1.op)), (.fz ((eL 1 eI) (a1.args)))]))]
def slices_IndexFunc_api_Rule_api_Rule_h_l1 (a0 : List Ru) (a1 : Ru) (v1 : (Int)) : Option (((Int)) ⊕ (((Unit) ⊕ ((Int))))) := (bif (decide (v1 < (List.length a0 : Int))) then (Option.bind (idx a0 v1) fun v2 => (Option.bind (grammar_Check_1_h (v2) (a1)) fun v3 => (bif v3 then (some (.inr (.inr (v1)))) else (some (.inl ((w64 (v1 + 1)))))))) else (some (.inr (.inl ()))))
def slices_IndexFunc_api_Rule_api_Rule_h (a0 : List Ru) (a1 : Ru) : Option ((Int)) := (Option.bind (loopN (slices_IndexFunc_api_Rule_api_Rule_h_l1 a0 a1) fuel (0)) fun (v4 : ((Unit) ⊕ ((Int)))) => Sum.elim (fun v5 => (some ((-1)))) (fun v6 => (some (v6))) v4)
theorem slices_IndexFunc_api_Rule_api_Rule_h_ok (a0 : List Ru) (a1 : Ru) (r : (Int)) (h : slices_IndexFunc_api_Rule_api_Rule_h a0 a1 = some r) : HCall Try.prog 75 ([(.fz ((eL 9 eRu) (a0))), (.fn 52 [(.ref 1 0 0)])] ++ []) [(1, (.box 55 [(fI (a1.symbol)), (fI (a1.kind)), (fI (a1.input)), (fI (a1.const.type)), (fI (a1.const.num)), (fS (a1.const.text)), (.fz ((eL 4 eVaR) (a1.const.items))), (fS (a1.op)), (.fz ((eL 1 eI) (a1.args)))]))] [1] (.ret (fI (r))) [(1, (.box 55 [(fI (a1.symbol)), (fI (a1.kind)), (fI (a1.input)), (fI (a1.const.type)), (fI (a1.const.num)), (fS (a1.const.text)), (.fz ((eL 4 eVaR) (a1.const.items))), (fS (a1.op)), (.fz ((eL 1 eI) (a1.args)))]))] [1] := by
 unfold slices_IndexFunc_api_Rule_api_Rule_h at h
 refine hcx (gi := 0) Try.func75 (by kernel_rfl) (by kernel_rfl) (by kernel_rfl) (by kernel_rfl) (by kernel_rfl) (by kernel_rfl) (by kernel_rfl) (by kernel_rfl) ?_
 intro p0 q0 w0
 refine lpx 12 (fun v1 => ⟨19, [(0, (.fz ((eL 9 eRu) (a0)))), (1, (.fn 52 [(.ref 1 0 0)])), (7, (fI ((List.length a0 : Int)))), (8, (fI (v1)))], (slices_IndexFunc_api_Rule_api_Rule_h_m0 p0 q0 w0 a1), [0, 1], []⟩) (fun v4 e st => Sum.elim (fun p => e = .exit 0 ∧ LeSt st ⟨19, [], (slices_IndexFunc_api_Rule_api_Rule_h_m0 p0 q0 w0 a1), [0, 1], []⟩) (fun p => e = .ret ∧ LeSt st ⟨19, [(4, (fI (p)))], (slices_IndexFunc_api_Rule_api_Rule_h_m0 p0 q0 w0 a1), [0, 1], []⟩) v4) h (by kernel_rfl) (le_a (by kernel_rfl)) (fun v1 r h => ?_) fun v4 h e st' hq => ?_
 ·unfold slices_IndexFunc_api_Rule_api_Rule_h_l1 at h
  refine cd 5 h (by kernel_rfl) (fun h => ?_) fun h => ?_
  ·refine ix nRu 13 h (by kernel_rfl) fun v2 h => ?_
   refine hcl 1 [.one .keep] [(1, 1)] [(1, 1)] [1] h (grammar_Check_1_h_ok _ _) (fun _ => by kernel_rfl) fun v3 h => ?_
   refine cd 1 h (by kernel_rfl) (fun h => ?_) fun h => ?_
   ·cases h; exact lo 6 (by kernel_rfl)
   cases h; exact lj 5 (by kernel_rfl)
  cases h; exact lo 1 (by kernel_rfl)
 rcases v4 with v5 | v6
 ·try simp only [Sum.elim_inl, Sum.elim_inr] at h
  obtain ⟨rfl, hle⟩ := hq
  refine ⟨_, hle, ?_⟩
  obtain rfl := Option.some.inj h; exact lh 5 ⟨19, [(4, (fI ((-1))))], (slices_IndexFunc_api_Rule_api_Rule_h_m0 p0 q0 w0 a1), [0, 1], []⟩ (le_a (by kernel_rfl)) rfl rfl (by kernel_rfl) (by kernel_rfl)
 ·try simp only [Sum.elim_inl, Sum.elim_inr] at h
  obtain ⟨rfl, hle⟩ := hq
  refine ⟨_, hle, ?_⟩
  obtain rfl := Option.some.inj h; exact lh 0 ⟨19, [(4, (fI (v6)))], (slices_IndexFunc_api_Rule_api_Rule_h_m0 p0 q0 w0 a1), [0, 1], []⟩ (le_a (by kernel_rfl)) rfl rfl (by kernel_rfl) (by kernel_rfl)

def slices_ContainsFunc_api_Rule_api_Rule_h (a0 : List Ru) (a1 : Ru) : Option ((Bool)) := (Option.bind (slices_IndexFunc_api_Rule_api_Rule_h (a0) (a1)) fun v1 => (some ((decide (0 ≤ v1)))))
theorem slices_ContainsFunc_api_Rule_api_Rule_h_ok (a0 : List Ru) (a1 : Ru) (r : (Bool)) (h : slices_ContainsFunc_api_Rule_api_Rule_h a0 a1 = some r) : HCall Try.prog 51 ([(.fz ((eL 9 eRu) (a0))), (.fn 52 [(.ref 1 0 0)])] ++ []) [(1, (.box 55 [(fI (a1.symbol)), (fI (a1.kind)), (fI (a1.input)), (fI (a1.const.type)), (fI (a1.const.num)), (fS (a1.const.text)), (.fz ((eL 4 eVaR) (a1.const.items))), (fS (a1.op)), (.fz ((eL 1 eI) (a1.args)))]))] [1] (.ret (fB (r))) [(1, (.box 55 [(fI (a1.symbol)), (fI (a1.kind)), (fI (a1.input)), (fI (a1.const.type)), (fI (a1.const.num)), (fS (a1.const.text)), (.fz ((eL 4 eVaR) (a1.const.items))), (fS (a1.op)), (.fz ((eL 1 eI) (a1.args)))]))] [1] := by
 unfold slices_ContainsFunc_api_Rule_api_Rule_h at h
 refine hcx (gi := 0) Try.func51 (by kernel_rfl) (by kernel_rfl) (by kernel_rfl) (by kernel_rfl) (by kernel_rfl) (by kernel_rfl) (by kernel_rfl) (by kernel_rfl) ?_
 intro p0 q0 w0
 refine hcl 8 [.one .keep, .one .keep] [(1, 1)] [(1, 1)] [1] h (slices_IndexFunc_api_Rule_api_Rule_h_ok _ _) (fun _ => by kernel_rfl) fun v1 h => ?_
 obtain rfl := Option.some.inj h; exact lh 4 ⟨9, [(4, (fB ((decide (0 ≤ v1)))))], [(0, (.was p0 [1] q0 w0)), (1, (.box 55 [(fI (a1.symbol)), (fI (a1.kind)), (fI (a1.input)), (fI (a1.const.type)), (fI (a1.const.num)), (fS (a1.const.text)), (.fz ((eL 4 eVaR) (a1.const.items))), (fS (a1.op)), (.fz ((eL 1 eI) (a1.args)))]))], [0, 1], []⟩ (le_a (by kernel_rfl)) rfl rfl (by kernel_rfl) (by kernel_rfl)

def grammar_Check_m0 (a0 : La) : List (Nat × AObj) := [(1, (.box 26 [(fS (a0.name)), (.fz ((eL 1 eI) (a0.inputs))), (.fz ((eL 2 eSy) (a0.symbols))), (.fz ((eL 9 eRu) (a0.rules)))]))]
def grammar_Check_l1 (a0 : La) (v15 : (Int)) : Option (((Int)) ⊕ (((Unit) ⊕ (Int)))) := (bif (decide (v15 < (List.length a0.rules : Int))) then (Option.bind (idx a0.rules v15) fun v16 => (Option.bind (grammar_rule (a0) (v16)) fun v17 => (bif (v17 != 0) then (some (.inr (.inr v17))) else (Option.bind (cutL a0.rules 0 v15) fun v18 => (Option.bind (slices_ContainsFunc_api_Rule_api_Rule_h (v18) (v16)) fun v19 => (bif v19 then (some (.inr (.inr 6))) else (some (.inl ((w64 (v15 + 1))))))))))) else (some (.inr (.inl ()))))
def grammar_Check_l2 (a0 : La) (v9 : (Int) × (List (ByteArray × Bool))) : Option (((Int) × (List (ByteArray × Bool))) ⊕ (((Unit) ⊕ (Int)))) := (bif (decide (v9.1 < (List.length a0.symbols : Int))) then (Option.bind (idx a0.symbols v9.1) fun v10 => (Option.bind (grammar_named (v10.name)) fun v11 => (bif (!v11) then (some (.inr (.inr 5))) else (bif (mget v9.2 v10.name false) then (some (.inr (.inr 6))) else (Option.bind (grammar_typed (v10.type)) fun v12 => (bif (!v12) then (some (.inr (.inr 3))) else (some (.inl ((w64 (v9.1 + 1)), (mput v9.2 v10.name true)))))))))) else (some (.inr (.inl ()))))
def grammar_Check_l3 (a0 : La) (v2 : (Int)) : Option (((Int)) ⊕ (((Unit) ⊕ (Int)))) := (bif (decide (v2 < (List.length a0.inputs : Int))) then (Option.bind (idx a0.inputs v2) fun v3 => (Option.bind (grammar_typed (v3)) fun v4 => (bif (!v4) then (some (.inr (.inr 3))) else (some (.inl ((w64 (v2 + 1)))))))) else (some (.inr (.inl ()))))
def grammar_Check (a0 : La) : Option (Int) := (Option.bind (grammar_named (a0.name)) fun v1 => (bif (!v1) then (some 5) else (bif (decide (4 < (List.length a0.inputs : Int))) then (some 2) else (Option.bind (loopN (grammar_Check_l3 a0) fuel (0)) fun (v5 : ((Unit) ⊕ (Int))) => Sum.elim (fun v6 => (Option.bind ((bif (decide ((List.length a0.symbols : Int) < 1)) then (some (true)) else (some ((decide (16 < (List.length a0.symbols : Int)))))) : Option ((Bool))) fun (v8 : (Bool)) => (bif v8 then (some 2) else (Option.bind (loopN (grammar_Check_l2 a0) fuel (0, ([] : List (ByteArray × Bool)))) fun (v13 : ((Unit) ⊕ (Int))) => Sum.elim (fun v14 => (bif (decide (96 < (List.length a0.rules : Int))) then (some 2) else (Option.bind (loopN (grammar_Check_l1 a0) fuel (0)) fun (v20 : ((Unit) ⊕ (Int))) => Sum.elim (fun v21 => (some 0)) (fun v22 => (some v22)) v20))) (fun v23 => (some v23)) v13)))) (fun v24 => (some v24)) v5))))
theorem grammar_Check_ok (a0 : La) (r : Int) (h : grammar_Check a0 = some r) : PCall Try.prog 28 [eLa a0] (eI (r)) := by
 unfold grammar_Check at h
 refine pcl [.one .keep] Try.func28 (by kernel_rfl) (by kernel_rfl) (by kernel_rfl) ?_
 refine cl 10 h (grammar_named_ok _) (by kernel_rfl) fun v1 h => ?_
 refine cd 2 h (by kernel_rfl) (fun h => ?_) fun h => ?_
 ·cases h; exact lq 5 (by kernel_rfl)
 refine cd 9 h (by kernel_rfl) (fun h => ?_) fun h => ?_
 ·cases h; exact lq 5 (by kernel_rfl)
 refine lpx 10 (fun v2 => ⟨92, [(1, (.ref 1 0 0)), (20, (.fz ((eL 1 eI) (a0.inputs)))), (21, (fI ((List.length a0.inputs : Int)))), (22, (fI (v2)))], (grammar_Check_m0 a0), [1], []⟩) (fun v5 e st => Sum.elim (fun p => e = .exit 0 ∧ LeSt st ⟨92, [(1, (.ref 1 0 0))], (grammar_Check_m0 a0), [1], []⟩) (fun p => e = .ret ∧ retX TT st Try.f28.results.toList [.one .keep] = some (eI (p))) v5) h (by kernel_rfl) (le_a (by kernel_rfl)) (fun v2 r h => ?_) fun v5 h e st' hq => ?_
 ·unfold grammar_Check_l3 at h
  refine cd 5 h (by kernel_rfl) (fun h => ?_) fun h => ?_
  ·refine ix nI 5 h (by kernel_rfl) fun v3 h => ?_
   refine cl 6 h (grammar_typed_ok _) (by kernel_rfl) fun v4 h => ?_
   refine cd 2 h (by kernel_rfl) (fun h => ?_) fun h => ?_
   ·cases h; exact lor 5 (by kernel_rfl)
   cases h; exact lj 5 (by kernel_rfl)
  cases h; exact lo 1 (by kernel_rfl)
 rcases v5 with v6 | v24
 ·try simp only [Sum.elim_inl, Sum.elim_inr] at h
  obtain ⟨rfl, hle⟩ := hq
  refine ⟨_, hle, ?_⟩
  refine jn1 2 .normal (fun v8 => ⟨92, [(1, (.ref 1 0 0)), (39, (fB (v8)))], (grammar_Check_m0 a0), [1], []⟩) h (by kernel_rfl) (fun v8 h => ?_) fun v8 h => ?_
  ·refine gd 6 h (by kernel_rfl) (fun h => ?_) fun h => ?_
   ·cases h; exact lj 6 (by kernel_rfl)
   cases h; exact lj 6 (by kernel_rfl)
  refine cd 0 h (by kernel_rfl) (fun h => ?_) fun h => ?_
  ·cases h; exact lq 5 (by kernel_rfl)
  refine sst 3 (e_makeMap (t := 76) (id := 2) (by kernel_rfl) (by kernel_rfl)) (by kernel_rfl) ?_
  refine lpx 11 (fun v9 => ⟨92, [(1, (.ref 1 0 0)), (5, (.mp 2)), (42, (.fz ((eL 2 eSy) (a0.symbols)))), (43, (fI ((List.length a0.symbols : Int)))), (44, (fI (v9.1)))], [(1, (.box 26 [(fS (a0.name)), (.fz ((eL 1 eI) (a0.inputs))), (.fz ((eL 2 eSy) (a0.symbols))), (.fz ((eL 9 eRu) (a0.rules)))])), (2, (.smap (List.map (fun p => (p.1, eB p.2)) (v9.2))))], [2, 1], []⟩) (fun v13 e st => Sum.elim (fun p => e = .exit 2 ∧ LeSt st ⟨92, [(1, (.ref 1 0 0))], (grammar_Check_m0 a0), [1], []⟩) (fun p => e = .ret ∧ retX TT st Try.f28.results.toList [.one .keep] = some (eI (p))) v13) h (by kernel_rfl) (le_a (by kernel_rfl)) (fun v9 r h => ?_) fun v13 h e st' hq => ?_
  ·unfold grammar_Check_l2 at h
   refine cd 5 h (by kernel_rfl) (fun h => ?_) fun h => ?_
   ·refine ix nSy 5 h (by kernel_rfl) fun v10 h => ?_
    refine cl 10 h (grammar_named_ok _) (by kernel_rfl) fun v11 h => ?_
    refine cd 3 h (by kernel_rfl) (fun h => ?_) fun h => ?_
    ·cases h; exact lor 5 (by kernel_rfl)
    refine nst 5 (n_lookup (t := 76) (x := (.tmp 54)) (y := (.tmp 56)) (enc := eB) (m := v9.2) (s := v10.name) (z := false) (id := 2) (d := tt76) (kt := 9) (et := 4) (kd := tt9) (.bool false) (by kernel_rfl) tt_ok rfl (by kernel_rfl) rfl (by kernel_rfl) Try.t4 (by kernel_rfl) (by kernel_rfl) (by kernel_rfl) rfl (by kernel_rfl) (by kernel_rfl) (by kernel_rfl)) (by kernel_rfl) ?_
    refine cd 2 h (by kernel_rfl) (fun h => ?_) fun h => ?_
    ·cases h; exact lor 5 (by kernel_rfl)
    refine cl 4 h (grammar_typed_ok _) (by kernel_rfl) fun v12 h => ?_
    refine cd 3 h (by kernel_rfl) (fun h => ?_) fun h => ?_
    ·cases h; exact lor 5 (by kernel_rfl)
    refine sst 5 (e_mapUpdate (t := 76) (x := (.tmp 63)) (y := (.tmp 65)) (v := (.const (.bool true))) (enc := eB) (m := v9.2) (s := v10.name) (z := true) (id := 2) (d := tt76) (kt := 9) (et := 4) (kd := tt9) (by kernel_rfl) tt_ok rfl (by kernel_rfl) rfl (by kernel_rfl) (by kernel_rfl) (by kernel_rfl) (by kernel_rfl) (by kernel_rfl)) (by kernel_rfl) ?_
    cases h; exact lj 5 (by kernel_rfl)
   cases h; exact lo 1 (by kernel_rfl)
  rcases v13 with v14 | v23
  ·try simp only [Sum.elim_inl, Sum.elim_inr] at h
   obtain ⟨rfl, hle⟩ := hq
   refine ⟨_, hle, ?_⟩
   refine cd 8 h (by kernel_rfl) (fun h => ?_) fun h => ?_
   ·cases h; exact lq 5 (by kernel_rfl)
   refine lpx 10 (fun v15 => ⟨92, [(1, (.ref 1 0 0)), (72, (.fz ((eL 9 eRu) (a0.rules)))), (73, (fI ((List.length a0.rules : Int)))), (74, (fI (v15)))], (grammar_Check_m0 a0), [1], []⟩) (fun v20 e st => Sum.elim (fun p => e = .exit 5 ∧ LeSt st ⟨92, [], [], [], []⟩) (fun p => e = .ret ∧ retX TT st Try.f28.results.toList [.one .keep] = some (eI (p))) v20) h (by kernel_rfl) (le_a (by kernel_rfl)) (fun v15 r h => ?_) fun v20 h e st' hq => ?_
   ·unfold grammar_Check_l1 at h
    refine cd 5 h (by kernel_rfl) (fun h => ?_) fun h => ?_
    ·refine ix nRu 6 h (by kernel_rfl) fun v16 h => ?_
     refine cl 10 h (grammar_rule_ok _ _) (by kernel_rfl) fun v17 h => ?_
     refine cd 7 h (by kernel_rfl) (fun h => ?_) fun h => ?_
     ·cases h; exact lor 6 (by kernel_rfl)
     obtain ⟨v18, hv18, h⟩ := Option.bind_eq_some_iff.1 h
     refine nst 6 (s_cutL (t := 24) (x := (.tmp 86)) (lo := none) (hi := (some (.tmp 87))) (d := tt24) (e := 55) (de := tt55) (size := 9) (enc := eRu) (xs := a0.rules) (l := none) (h := (some v15)) hv18 tt_ok (by kernel_rfl) (by kernel_rfl) (by kernel_rfl) (by kernel_rfl) (by kernel_rfl) (by kernel_rfl) (by kernel_rfl) (by kernel_rfl)) (by kernel_rfl) ?_
     refine hcl 1 [.one .keep, .one .keep] [(2, 1)] [(1, 2)] [1] h (slices_ContainsFunc_api_Rule_api_Rule_h_ok _ _) (fun _ => by kernel_rfl) fun v19 h => ?_
     refine cd 1 h (by kernel_rfl) (fun h => ?_) fun h => ?_
     ·cases h; exact lor 5 (by kernel_rfl)
     cases h; exact lj 5 (by kernel_rfl)
    cases h; exact lo 1 (by kernel_rfl)
   rcases v20 with v21 | v22
   ·try simp only [Sum.elim_inl, Sum.elim_inr] at h
    obtain ⟨rfl, hle⟩ := hq
    refine ⟨_, hle, ?_⟩
    cases h; exact lq 5 (by kernel_rfl)
   ·try simp only [Sum.elim_inl, Sum.elim_inr] at h
    obtain ⟨rfl, hret⟩ := hq
    refine ⟨_, LeSt.refl, ?_⟩
    cases h; exact lv hret
  ·try simp only [Sum.elim_inl, Sum.elim_inr] at h
   obtain ⟨rfl, hret⟩ := hq
   refine ⟨_, LeSt.refl, ?_⟩
   cases h; exact lv hret
 ·try simp only [Sum.elim_inl, Sum.elim_inr] at h
  obtain ⟨rfl, hret⟩ := hq
  refine ⟨_, LeSt.refl, ?_⟩
  cases h; exact lv hret

def weight_valid_h (a0 : Int) : Option ((Bool)) := (Option.bind ((bif (decide (0 ≤ a0)) then (some ((decide (a0 ≤ 1000)))) else (some (false))) : Option ((Bool))) fun (v2 : (Bool)) => (some (v2)))
theorem weight_valid_h_ok (a0 : Int) (r : (Bool)) (h : weight_valid_h a0 = some r) : HCall Try.prog 31 ([(fI (a0))] ++ []) [] [] (.ret (fB (r))) [] [] := by
 unfold weight_valid_h at h
 refine hcx (gi := 0) Try.func31 (by kernel_rfl) (by kernel_rfl) (by kernel_rfl) (by kernel_rfl) (by kernel_rfl) (by kernel_rfl) (by kernel_rfl) (by kernel_rfl) ?_
 intro p0 q0 w0
 refine jn1 5 .normal (fun v2 => ⟨9, [(2, (fB (v2)))], [(0, (.was p0 [] q0 w0))], [0], []⟩) h (by kernel_rfl) (fun v2 h => ?_) fun v2 h => ?_
 ·refine gd 4 h (by kernel_rfl) (fun h => ?_) fun h => ?_
  ·cases h; exact lj 5 (by kernel_rfl)
  cases h; exact lj 5 (by kernel_rfl)
 obtain rfl := Option.some.inj h; exact lh 1 ⟨9, [(2, (fB (v2)))], [(0, (.was p0 [] q0 w0))], [0], []⟩ (le_a (by kernel_rfl)) rfl rfl (by kernel_rfl) (by kernel_rfl)

def weight_Check_1_h (a0 : Int) : Option ((Bool)) := (Option.bind (weight_valid_h (a0)) fun v1 => (some ((!v1))))
theorem weight_Check_1_h_ok (a0 : Int) (r : (Bool)) (h : weight_Check_1_h a0 = some r) : HCall Try.prog 30 ([(fI (a0))] ++ []) [] [] (.ret (fB (r))) [] [] := by
 unfold weight_Check_1_h at h
 refine hcx (gi := 0) Try.func30 (by kernel_rfl) (by kernel_rfl) (by kernel_rfl) (by kernel_rfl) (by kernel_rfl) (by kernel_rfl) (by kernel_rfl) (by kernel_rfl) ?_
 intro p0 q0 w0
 refine hcl 7 [.one .keep] [] [] [] h (weight_valid_h_ok _) (fun _ => by kernel_rfl) fun v1 h => ?_
 obtain rfl := Option.some.inj h; exact lh 4 ⟨6, [(2, (fB ((!v1))))], [(0, (.was p0 [] q0 w0))], [0], []⟩ (le_a (by kernel_rfl)) rfl rfl (by kernel_rfl) (by kernel_rfl)

def slices_IndexFunc_int_int_h_l1 (a0 : List Int) (v1 : (Int)) : Option (((Int)) ⊕ (((Unit) ⊕ ((Int))))) := (bif (decide (v1 < (List.length a0 : Int))) then (Option.bind (idx a0 v1) fun v2 => (Option.bind (weight_Check_1_h (v2)) fun v3 => (bif v3 then (some (.inr (.inr (v1)))) else (some (.inl ((w64 (v1 + 1)))))))) else (some (.inr (.inl ()))))
def slices_IndexFunc_int_int_h (a0 : List Int) : Option ((Int)) := (Option.bind (loopN (slices_IndexFunc_int_int_h_l1 a0) fuel (0)) fun (v4 : ((Unit) ⊕ ((Int)))) => Sum.elim (fun v5 => (some ((-1)))) (fun v6 => (some (v6))) v4)
theorem slices_IndexFunc_int_int_h_ok (a0 : List Int) (r : (Int)) (h : slices_IndexFunc_int_int_h a0 = some r) : HCall Try.prog 54 ([(.fz ((eL 1 eI) (a0))), (.fn 30 [])] ++ []) [] [] (.ret (fI (r))) [] [] := by
 unfold slices_IndexFunc_int_int_h at h
 refine hcx (gi := 0) Try.func54 (by kernel_rfl) (by kernel_rfl) (by kernel_rfl) (by kernel_rfl) (by kernel_rfl) (by kernel_rfl) (by kernel_rfl) (by kernel_rfl) ?_
 intro p0 q0 w0
 refine lpx 12 (fun v1 => ⟨19, [(0, (.fz ((eL 1 eI) (a0)))), (1, (.fn 30 [])), (7, (fI ((List.length a0 : Int)))), (8, (fI (v1)))], [(0, (.was p0 [] q0 w0))], [0], []⟩) (fun v4 e st => Sum.elim (fun p => e = .exit 0 ∧ LeSt st ⟨19, [], [(0, (.was p0 [] q0 w0))], [0], []⟩) (fun p => e = .ret ∧ LeSt st ⟨19, [(4, (fI (p)))], [(0, (.was p0 [] q0 w0))], [0], []⟩) v4) h (by kernel_rfl) (le_a (by kernel_rfl)) (fun v1 r h => ?_) fun v4 h e st' hq => ?_
 ·unfold slices_IndexFunc_int_int_h_l1 at h
  refine cd 5 h (by kernel_rfl) (fun h => ?_) fun h => ?_
  ·refine ix nI 13 h (by kernel_rfl) fun v2 h => ?_
   refine hcl 1 [.one .keep] [] [] [] h (weight_Check_1_h_ok _) (fun _ => by kernel_rfl) fun v3 h => ?_
   refine cd 1 h (by kernel_rfl) (fun h => ?_) fun h => ?_
   ·cases h; exact lo 6 (by kernel_rfl)
   cases h; exact lj 5 (by kernel_rfl)
  cases h; exact lo 1 (by kernel_rfl)
 rcases v4 with v5 | v6
 ·try simp only [Sum.elim_inl, Sum.elim_inr] at h
  obtain ⟨rfl, hle⟩ := hq
  refine ⟨_, hle, ?_⟩
  obtain rfl := Option.some.inj h; exact lh 5 ⟨19, [(4, (fI ((-1))))], [(0, (.was p0 [] q0 w0))], [0], []⟩ (le_a (by kernel_rfl)) rfl rfl (by kernel_rfl) (by kernel_rfl)
 ·try simp only [Sum.elim_inl, Sum.elim_inr] at h
  obtain ⟨rfl, hle⟩ := hq
  refine ⟨_, hle, ?_⟩
  obtain rfl := Option.some.inj h; exact lh 0 ⟨19, [(4, (fI (v6)))], [(0, (.was p0 [] q0 w0))], [0], []⟩ (le_a (by kernel_rfl)) rfl rfl (by kernel_rfl) (by kernel_rfl)

def slices_ContainsFunc_int_int_h (a0 : List Int) : Option ((Bool)) := (Option.bind (slices_IndexFunc_int_int_h (a0)) fun v1 => (some ((decide (0 ≤ v1)))))
theorem slices_ContainsFunc_int_int_h_ok (a0 : List Int) (r : (Bool)) (h : slices_ContainsFunc_int_int_h a0 = some r) : HCall Try.prog 29 ([(.fz ((eL 1 eI) (a0))), (.fn 30 [])] ++ []) [] [] (.ret (fB (r))) [] [] := by
 unfold slices_ContainsFunc_int_int_h at h
 refine hcx (gi := 0) Try.func29 (by kernel_rfl) (by kernel_rfl) (by kernel_rfl) (by kernel_rfl) (by kernel_rfl) (by kernel_rfl) (by kernel_rfl) (by kernel_rfl) ?_
 intro p0 q0 w0
 refine hcl 8 [.one .keep, .one .keep] [] [] [] h (slices_IndexFunc_int_int_h_ok _) (fun _ => by kernel_rfl) fun v1 h => ?_
 obtain rfl := Option.some.inj h; exact lh 4 ⟨9, [(4, (fB ((decide (0 ≤ v1)))))], [(0, (.was p0 [] q0 w0))], [0], []⟩ (le_a (by kernel_rfl)) rfl rfl (by kernel_rfl) (by kernel_rfl)

def weight_Check (a0 : La) (a1 : List Int) : Option (Int) := (Option.bind (grammar_Check (a0)) fun v1 => (bif (v1 != 0) then (some v1) else (bif ((List.length a1 : Int) != (List.length a0.rules : Int)) then (some 2) else (Option.bind (slices_ContainsFunc_int_int_h (a1)) fun v2 => (bif v2 then (some 1) else (some 0))))))
theorem weight_Check_ok (a0 : La) (a1 : List Int) (r : Int) (h : weight_Check a0 a1 = some r) : PCall Try.prog 11 [eLa a0, (eL 1 eI) a1] (eI (r)) := by
 unfold weight_Check at h
 refine pcl [.one .keep] Try.func11 (by kernel_rfl) (by kernel_rfl) (by kernel_rfl) ?_
 refine cl 9 h (grammar_Check_ok _) (by kernel_rfl) fun v1 h => ?_
 refine cd 7 h (by kernel_rfl) (fun h => ?_) fun h => ?_
 ·cases h; exact lq 6 (by kernel_rfl)
 refine cd 11 h (by kernel_rfl) (fun h => ?_) fun h => ?_
 ·cases h; exact lq 5 (by kernel_rfl)
 refine hcl 5 [.one .keep, .one .keep] [] [] [] h (slices_ContainsFunc_int_int_h_ok _) (fun _ => by kernel_rfl) fun v2 h => ?_
 refine cd 1 h (by kernel_rfl) (fun h => ?_) fun h => ?_
 ·cases h; exact lq 5 (by kernel_rfl)
 cases h; exact lq 6 (by kernel_rfl)

def weight_Uniform_l1 (a0 : La) (v2 : (Int) × (List Int)) : Option (((Int) × (List Int)) ⊕ ((List Int))) := (bif (decide (v2.1 < (List.length a0.rules : Int))) then (Option.bind (app 8 v2.2 ([1] : List (Int))) fun v3 => (some (.inl ((w64 (v2.1 + 1)), v3)))) else (some (.inr (v2.2))))
def weight_Uniform (a0 : La) : Option (List Int) := (Option.bind (grammar_Check (a0)) fun v1 => (bif (v1 != 0) then (some ([] : List Int)) else (Option.bind (loopN (weight_Uniform_l1 a0) fuel (0, ([] : List (Int)))) fun (v5 : (List Int)) => (some v5))))
theorem weight_Uniform_ok (a0 : La) (r : List Int) (h : weight_Uniform a0 = some r) : PCall Try.prog 14 [eLa a0] ((eL 1 eI) (r)) := by
 unfold weight_Uniform at h
 refine pcl [.one (.sl 1)] Try.func14 (by kernel_rfl) (by kernel_rfl) (by kernel_rfl) ?_
 refine cl 9 h (grammar_Check_ok _) (by kernel_rfl) fun v1 h => ?_
 refine cd 2 h (by kernel_rfl) (fun h => ?_) fun h => ?_
 ·cases h; exact lq 5 (by kernel_rfl)
 refine wle 14 (le_nilrow (e := 3) (size := 1) (t := 3) (id := 2) (by decide) (by kernel_rfl) (by kernel_rfl)) (by kernel_rfl) ?_
 refine lp1 0 (fun v2 => ⟨17, [(3, (.row 2 (List.length (v2.2)))), (9, (fI ((List.length a0.rules : Int)))), (10, (fI (v2.1)))], [(2, (.frow 3 1 (List.map eI (v2.2))))], [2], []⟩) (.exit 0) (fun v5 => ⟨17, [(3, (.row 2 (List.length (v5))))], [(2, (.frow 3 1 (List.map eI (v5))))], [2], []⟩) h (by kernel_rfl) (by kernel_rfl) (fun v2 r h => ?_) fun v5 h => ?_
 ·unfold weight_Uniform_l1 at h
  refine cd 5 h (by kernel_rfl) (fun h => ?_) fun h => ?_
  ·refine ap nI 6 h (by kernel_rfl) fun v3 h => ?_
   cases h; exact lj 6 (by kernel_rfl)
  cases h; exact lo 1 (by kernel_rfl)
 refine wle 5 (le_freeze (t := 2) (id := 2) (n := List.length (v5)) (e := 3) (size := 1) (xs := List.map eI (v5)) (by kernel_rfl) (by kernel_rfl) (by simp)) (by kernel_rfl) ?_
 cases h; exact lq 1 (by kernel_rfl)

def weight_valid (a0 : Int) : Option (Bool) := (Option.bind ((bif (decide (0 ≤ a0)) then (some ((decide (a0 ≤ 1000)))) else (some (false))) : Option ((Bool))) fun (v2 : (Bool)) => (some v2))
theorem weight_valid_ok (a0 : Int) (r : Bool) (h : weight_valid a0 = some r) : PCall Try.prog 31 [eI a0] (eB (r)) := by
 unfold weight_valid at h
 refine pcl [.one .keep] Try.func31 (by kernel_rfl) (by kernel_rfl) (by kernel_rfl) ?_
 refine jn1 5 .normal (fun v2 => ⟨9, [(2, (fB (v2)))], [], [], []⟩) h (by kernel_rfl) (fun v2 h => ?_) fun v2 h => ?_
 ·refine gd 4 h (by kernel_rfl) (fun h => ?_) fun h => ?_
  ·cases h; exact lj 5 (by kernel_rfl)
  cases h; exact lj 5 (by kernel_rfl)
 cases h; exact lq 1 (by kernel_rfl)

def weight_Cost_l1 (a0 : List Int) (a1 : Tm) (r17 : (List Int) → (Tm) → Option ((Int) × (Int))) (v6 : (Int) × (Int)) : Option (((Int) × (Int)) ⊕ ((((Int)) ⊕ ((Int) × (Int))))) := (bif (decide (v6.2 < (List.length a1.args : Int))) then (Option.bind (idx a1.args v6.2) fun v7 => (Option.bind (r17 (a0) (v7)) fun v8 => (bif (v8.2 != 0) then (some (.inr (.inr (0, v8.2)))) else (some (.inl ((w64 (v6.1 + v8.1)), (w64 (v6.2 + 1)))))))) else (some (.inr (.inl (v6.1)))))
def weight_Cost_b (r17 : (List Int) → (Tm) → Option ((Int) × (Int))) (a0 : List Int) (a1 : Tm) : Option ((Int) × (Int)) := (Option.bind ((bif (decide (a1.rule < 0)) then (some (true)) else (bif (decide ((List.length a0 : Int) ≤ a1.rule)) then (some (true)) else (Option.bind (idx a0 a1.rule) fun v1 => (Option.bind (weight_valid (v1)) fun v2 => (some ((!v2))))))) : Option ((Bool))) fun (v4 : (Bool)) => (bif v4 then (some (0, 1)) else (Option.bind (idx a0 a1.rule) fun v5 => (Option.bind (loopN (weight_Cost_l1 a0 a1 r17) fuel (v5, 0)) fun (v9 : (((Int)) ⊕ ((Int) × (Int)))) => Sum.elim (fun v10 => (some (v10, 0))) (fun v11 => (some v11)) v9))))
theorem weight_Cost_b_ok (r17 : (List Int) → (Tm) → Option ((Int) × (Int))) (ih17 : ∀ (x0 : List Int) (x1 : Tm) r, r17 x0 x1 = some r → PCall Try.prog 17 [(eL 1 eI) x0, eTm x1] (.tup [eI (r.1), eI (r.2)])) (a0 : List Int) (a1 : Tm) (r : (Int) × (Int)) (h : weight_Cost_b r17 a0 a1 = some r) : PCall Try.prog 17 [(eL 1 eI) a0, eTm a1] (.tup [eI (r.1), eI (r.2)]) := by
 unfold weight_Cost_b at h
 refine pcl [.one .keep, .one .keep] Try.func17 (by kernel_rfl) (by kernel_rfl) (by kernel_rfl) ?_
 refine jn1 8 .normal (fun v4 => ⟨56, [(0, (.fz ((eL 1 eI) (a0)))), (3, (.ref 1 0 0)), (29, (fB (v4)))], [(1, (.box 35 [(fI (a1.rule)), (.fz ((eL 2 eTmR) (a1.args)))]))], [1], []⟩) h (by kernel_rfl) (fun v4 h => ?_) fun v4 h => ?_
 ·refine gd 5 h (by kernel_rfl) (fun h => ?_) fun h => ?_
  ·cases h; exact lj 16 (by kernel_rfl)
  refine gd 7 h (by kernel_rfl) (fun h => ?_) fun h => ?_
  ·cases h; exact lj 9 (by kernel_rfl)
  refine ix nI 3 h (by kernel_rfl) fun v1 h => ?_
  refine cl 1 h (weight_valid_ok _) (by kernel_rfl) fun v2 h => ?_
  cases h; exact lj 3 (by kernel_rfl)
 refine cd 0 h (by kernel_rfl) (fun h => ?_) fun h => ?_
 ·cases h; exact lq 6 (by kernel_rfl)
 refine ix nI 6 h (by kernel_rfl) fun v5 h => ?_
 refine lpx 12 (fun v6 => ⟨56, [(0, (.fz ((eL 1 eI) (a0)))), (6, (fI (v6.1))), (36, (.fz ((eL 2 eTmR) (a1.args)))), (37, (fI ((List.length a1.args : Int)))), (38, (fI (v6.2)))], [], [], []⟩) (fun v9 e st => Sum.elim (fun p => e = .exit 0 ∧ LeSt st ⟨56, [(6, (fI (p)))], [], [], []⟩) (fun p => e = .ret ∧ retX TT st Try.f17.results.toList [.one .keep, .one .keep] = some (.tup [eI (p.1), eI (p.2)])) v9) h (by kernel_rfl) (le_a (by kernel_rfl)) (fun v6 r h => ?_) fun v9 h e st' hq => ?_
 ·unfold weight_Cost_l1 at h
  refine cd 5 h (by kernel_rfl) (fun h => ?_) fun h => ?_
  ·refine ix nTmR 5 h (by kernel_rfl) fun v7 h => ?_
   refine cl 8 h (ih17 _ _) (by kernel_rfl) fun v8 h => ?_
   refine cd 12 h (by kernel_rfl) (fun h => ?_) fun h => ?_
   ·cases h; exact lor 7 (by kernel_rfl)
   cases h; exact lj 11 (by kernel_rfl)
  cases h; exact lo 1 (by kernel_rfl)
 rcases v9 with v10 | v11
 ·try simp only [Sum.elim_inl, Sum.elim_inr] at h
  obtain ⟨rfl, hle⟩ := hq
  refine ⟨_, hle, ?_⟩
  cases h; exact lq 7 (by kernel_rfl)
 ·try simp only [Sum.elim_inl, Sum.elim_inr] at h
  obtain ⟨rfl, hret⟩ := hq
  refine ⟨_, LeSt.refl, ?_⟩
  cases h; exact lv hret
def weight_Cost : Nat → (List Int) → (Tm) → Option ((Int) × (Int))
  | 0 => fun _ _ => none
  | n + 1 => weight_Cost_b (weight_Cost n)
theorem weight_Cost_ok : ∀ (n : Nat) (x0 : List Int) (x1 : Tm) r, weight_Cost n x0 x1 = some r → PCall Try.prog 17 [(eL 1 eI) x0, eTm x1] (.tup [eI (r.1), eI (r.2)])
  | 0, _, _, _, h => by cases h
  | n + 1, x0, x1, r, h => weight_Cost_b_ok (weight_Cost n) (weight_Cost_ok n) x0 x1 r h

def term_Size_l1 (a0 : Tm) (r59 : (Tm) → Option (Int)) (v1 : (Int) × (Int)) : Option (((Int) × (Int)) ⊕ ((Int))) := (bif (decide (v1.2 < (List.length a0.args : Int))) then (Option.bind (idx a0.args v1.2) fun v2 => (Option.bind (r59 (v2)) fun v3 => (some (.inl ((w64 (v1.1 + v3)), (w64 (v1.2 + 1))))))) else (some (.inr (v1.1))))
def term_Size_b (r59 : (Tm) → Option (Int)) (a0 : Tm) : Option (Int) := (Option.bind (loopN (term_Size_l1 a0 r59) fuel (1, 0)) fun (v5 : (Int)) => (some v5))
theorem term_Size_b_ok (r59 : (Tm) → Option (Int)) (ih59 : ∀ (x0 : Tm) r, r59 x0 = some r → PCall Try.prog 59 [eTm x0] (eI (r))) (a0 : Tm) (r : Int) (h : term_Size_b r59 a0 = some r) : PCall Try.prog 59 [eTm a0] (eI (r)) := by
 unfold term_Size_b at h
 refine pcl [.one .keep] Try.func59 (by kernel_rfl) (by kernel_rfl) (by kernel_rfl) ?_
 refine lp1 18 (fun v1 => ⟨19, [(3, (fI (v1.1))), (7, (.fz ((eL 2 eTmR) (a0.args)))), (8, (fI ((List.length a0.args : Int)))), (9, (fI (v1.2)))], [], [], []⟩) (.exit 0) (fun v5 => ⟨19, [(3, (fI (v5)))], [], [], []⟩) h (by kernel_rfl) (by kernel_rfl) (fun v1 r h => ?_) fun v5 h => ?_
 ·unfold term_Size_l1 at h
  refine cd 5 h (by kernel_rfl) (fun h => ?_) fun h => ?_
  ·refine ix nTmR 5 h (by kernel_rfl) fun v2 h => ?_
   refine cl 7 h (ih59 _) (by kernel_rfl) fun v3 h => ?_
   cases h; exact lj 7 (by kernel_rfl)
  cases h; exact lo 1 (by kernel_rfl)
 cases h; exact lq 6 (by kernel_rfl)
def term_Size : Nat → (Tm) → Option (Int)
  | 0 => fun _ => none
  | n + 1 => term_Size_b (term_Size n)
theorem term_Size_ok : ∀ (n : Nat) (x0 : Tm) r, term_Size n x0 = some r → PCall Try.prog 59 [eTm x0] (eI (r))
  | 0, _, _, h => by cases h
  | n + 1, x0, r, h => term_Size_b_ok (term_Size n) (term_Size_ok n) x0 r h

def term_lexical_l1 (a0 : List Int) (a1 : List Int) (v1 : (Int)) : Option (((Int)) ⊕ (((Unit) ⊕ (Int)))) := (bif (decide (v1 < (List.length a0 : Int))) then (Option.bind (idx a0 v1) fun v2 => (Option.bind (idx a1 v1) fun v3 => (bif (decide (v2 < v3)) then (some (.inr (.inr (-1)))) else (Option.bind (idx a0 v1) fun v4 => (Option.bind (idx a1 v1) fun v5 => (bif (decide (v5 < v4)) then (some (.inr (.inr 1))) else (some (.inl ((w64 (v1 + 1))))))))))) else (some (.inr (.inl ()))))
def term_lexical (a0 : List Int) (a1 : List Int) : Option (Int) := (Option.bind (loopN (term_lexical_l1 a0 a1) fuel (0)) fun (v6 : ((Unit) ⊕ (Int))) => Sum.elim (fun v7 => (some 0)) (fun v8 => (some v8)) v6)
theorem term_lexical_ok (a0 : List Int) (a1 : List Int) (r : Int) (h : term_lexical a0 a1 = some r) : PCall Try.prog 60 [(eL 1 eI) a0, (eL 1 eI) a1] (eI (r)) := by
 unfold term_lexical at h
 refine pcl [.one .keep] Try.func60 (by kernel_rfl) (by kernel_rfl) (by kernel_rfl) ?_
 refine lpx 12 (fun v1 => ⟨32, [(0, (.fz ((eL 1 eI) (a0)))), (1, (.fz ((eL 1 eI) (a1)))), (7, (fI ((List.length a0 : Int)))), (8, (fI (v1)))], [], [], []⟩) (fun v6 e st => Sum.elim (fun p => e = .exit 0 ∧ LeSt st ⟨32, [], [], [], []⟩) (fun p => e = .ret ∧ retX TT st Try.f60.results.toList [.one .keep] = some (eI (p))) v6) h (by kernel_rfl) (le_a (by kernel_rfl)) (fun v1 r h => ?_) fun v6 h e st' hq => ?_
 ·unfold term_lexical_l1 at h
  refine cd 5 h (by kernel_rfl) (fun h => ?_) fun h => ?_
  ·refine dw 10 8 (by kernel_rfl) ?_
   refine ix nI 2 h (by kernel_rfl) fun v2 h => ?_
   refine ix nI 3 h (by kernel_rfl) fun v3 h => ?_
   refine cd 5 h (by kernel_rfl) (fun h => ?_) fun h => ?_
   ·cases h; exact lor 5 (by kernel_rfl)
   refine dw 1 8 (by kernel_rfl) ?_
   refine ix nI 2 h (by kernel_rfl) fun v4 h => ?_
   refine ix nI 3 h (by kernel_rfl) fun v5 h => ?_
   refine cd 5 h (by kernel_rfl) (fun h => ?_) fun h => ?_
   ·cases h; exact lor 5 (by kernel_rfl)
   cases h; exact lj 5 (by kernel_rfl)
  cases h; exact lo 1 (by kernel_rfl)
 rcases v6 with v7 | v8
 ·try simp only [Sum.elim_inl, Sum.elim_inr] at h
  obtain ⟨rfl, hle⟩ := hq
  refine ⟨_, hle, ?_⟩
  cases h; exact lq 5 (by kernel_rfl)
 ·try simp only [Sum.elim_inl, Sum.elim_inr] at h
  obtain ⟨rfl, hret⟩ := hq
  refine ⟨_, LeSt.refl, ?_⟩
  cases h; exact lv hret

def term_Rules_1_h (a0 : Tm) : Option (Unit) := (some ())
theorem term_Rules_1_h_ok (a0 : Tm) (r : Unit) (h : term_Rules_1_h a0 = some r) : HCall Try.prog 82 ([(.fz (eTm (a0)))] ++ []) [] [] (.ret (fI (a0.rule))) [] [] := by
 unfold term_Rules_1_h at h
 refine hcx (gi := 0) Try.func82 (by kernel_rfl) (by kernel_rfl) (by kernel_rfl) (by kernel_rfl) (by kernel_rfl) (by kernel_rfl) (by kernel_rfl) (by kernel_rfl) ?_
 intro p0 q0 w0
 obtain rfl := Option.some.inj h; exact lh 12 ⟨5, [(2, (fI (a0.rule)))], [(0, (.was p0 [] q0 w0))], [0], []⟩ (le_a (by kernel_rfl)) rfl rfl (by kernel_rfl) (by kernel_rfl)

def term_collect_h2_l1 (a1 : Tm) (r10 : (List Int) → (Tm) → Option ((List Int))) (v3 : (Int) × (List Int)) : Option (((Int) × (List Int)) ⊕ ((List Int))) := (bif (decide (v3.1 < (List.length a1.args : Int))) then (Option.bind (idx a1.args v3.1) fun v4 => (Option.bind (r10 (v3.2) (v4)) fun v5 => (some (.inl ((w64 (v3.1 + 1)), v5))))) else (some (.inr (v3.2))))
def term_collect_h2_b (r10 : (List Int) → (Tm) → Option ((List Int))) (a0 : List Int) (a1 : Tm) : Option ((List Int)) := (Option.bind (term_Rules_1_h (a1)) fun v1 => (Option.bind (app 8 a0 ([a1.rule] : List (Int))) fun v2 => (Option.bind (loopN (term_collect_h2_l1 a1 r10) fuel (0, v2)) fun (v7 : (List Int)) => (some (v7)))))
theorem term_collect_h2_b_ok (r10 : (List Int) → (Tm) → Option ((List Int))) (ih10 : ∀ (x0 : List Int) (x1 : Tm) r, r10 x0 x1 = some r → HCall Try.prog 63 ([(.row 1 (List.length (x0))), (.fz (eTm (x1))), (.fn 82 [])] ++ []) [(1, (.frow 3 1 (List.map eI (x0))))] [1] (.ret (.row 1 (List.length (r)))) [(1, (.frow 3 1 (List.map eI (r))))] [1]) (a0 : List Int) (a1 : Tm) (r : (List Int)) (h : term_collect_h2_b r10 a0 a1 = some r) : HCall Try.prog 63 ([(.row 1 (List.length (a0))), (.fz (eTm (a1))), (.fn 82 [])] ++ []) [(1, (.frow 3 1 (List.map eI (a0))))] [1] (.ret (.row 1 (List.length (r)))) [(1, (.frow 3 1 (List.map eI (r))))] [1] := by
 unfold term_collect_h2_b at h
 refine hcx (gi := 0) Try.func63 (by kernel_rfl) (by kernel_rfl) (by kernel_rfl) (by kernel_rfl) (by kernel_rfl) (by kernel_rfl) (by kernel_rfl) (by kernel_rfl) ?_
 intro p0 q0 w0
 refine hcl 10 [.one .keep] [] [] [] h (term_Rules_1_h_ok _) (fun _ => by kernel_rfl) fun v1 h => ?_
 refine ap nI 1 h (by kernel_rfl) fun v2 h => ?_
 refine lp1 11 (fun v3 => ⟨28, [(0, (.row 1 (List.length (v3.2)))), (2, (.fn 82 [])), (16, (.fz ((eL 2 eTmR) (a1.args)))), (17, (fI ((List.length a1.args : Int)))), (18, (fI (v3.1)))], [(0, (.was p0 [1] q0 w0)), (1, (.frow 3 1 (List.map eI (v3.2))))], [0, 1], []⟩) (.exit 0) (fun v7 => ⟨28, [(0, (.row 1 (List.length (v7))))], [(0, (.was p0 [1] q0 w0)), (1, (.frow 3 1 (List.map eI (v7))))], [0, 1], []⟩) h (by kernel_rfl) (by kernel_rfl) (fun v3 r h => ?_) fun v7 h => ?_
 ·unfold term_collect_h2_l1 at h
  refine cd 5 h (by kernel_rfl) (fun h => ?_) fun h => ?_
  ·refine ix nTmR 5 h (by kernel_rfl) fun v4 h => ?_
   refine hcl 8 [.one .keep, .one .keep, .one .keep] [(1, 1)] [(1, 1)] [1] h (ih10 _ _) (fun _ => by kernel_rfl) fun v5 h => ?_
   cases h; exact lj 6 (by kernel_rfl)
  cases h; exact lo 1 (by kernel_rfl)
 obtain rfl := Option.some.inj h; exact lh 6 ⟨28, [(6, (.row 1 (List.length (v7))))], [(0, (.was p0 [1] q0 w0)), (1, (.frow 3 1 (List.map eI (v7))))], [0, 1], []⟩ (le_a (by kernel_rfl)) rfl rfl (by kernel_rfl) (by kernel_rfl)
def term_collect_h2 : Nat → (List Int) → (Tm) → Option ((List Int))
  | 0 => fun _ _ => none
  | n + 1 => term_collect_h2_b (term_collect_h2 n)
theorem term_collect_h2_ok : ∀ n : Nat, ∀ (x0 : List Int) (x1 : Tm) r, term_collect_h2 n x0 x1 = some r → HCall Try.prog 63 ([(.row 1 (List.length (x0))), (.fz (eTm (x1))), (.fn 82 [])] ++ []) [(1, (.frow 3 1 (List.map eI (x0))))] [1] (.ret (.row 1 (List.length (r)))) [(1, (.frow 3 1 (List.map eI (r))))] [1]
  | 0 => fun _ _ _ h => by cases h
  | n + 1 => fun a0 a1 r h => term_collect_h2_b_ok (term_collect_h2 n) (term_collect_h2_ok n) a0 a1 r h

def term_Rules_l1 (a0 : Tm) (v3 : (Int) × (List Int)) : Option (((Int) × (List Int)) ⊕ ((List Int))) := (bif (decide (v3.1 < (List.length a0.args : Int))) then (Option.bind (idx a0.args v3.1) fun v4 => (Option.bind (term_collect_h2 fuel (v3.2) (v4)) fun v5 => (some (.inl ((w64 (v3.1 + 1)), v5))))) else (some (.inr (v3.2))))
def term_Rules (a0 : Tm) : Option (List Int) := (Option.bind (term_Rules_1_h (a0)) fun v1 => (Option.bind (app 8 ([] : List (Int)) ([a0.rule] : List (Int))) fun v2 => (Option.bind (loopN (term_Rules_l1 a0) fuel (0, v2)) fun (v7 : (List Int)) => (some v7))))
theorem term_Rules_ok (a0 : Tm) (r : List Int) (h : term_Rules a0 = some r) : PCall Try.prog 61 [eTm a0] ((eL 1 eI) (r)) := by
 unfold term_Rules at h
 refine pcl [.one (.sl 1)] Try.func61 (by kernel_rfl) (by kernel_rfl) (by kernel_rfl) ?_
 refine wle 8 ((le_a (by kernel_rfl) : LeSt _ ⟨5, [(3, (.fz (eTm (a0))))], [], [], []⟩)) (by kernel_rfl) ?_
 refine inl 0 (f := 63) (fn := Try.f63) (n := 28) (gi := 1) (ys := [(.fz (.atom (.slice none 0 0))), (.fz (eTm (a0))), (.fn 82 [])]) Try.func63 (by kernel_rfl) (by kernel_rfl) (by kernel_rfl) (by kernel_rfl) (by kernel_rfl) (by kernel_rfl) ?_
 intro gs1
 refine wle 0 ((le_a (by kernel_rfl) : LeSt _ ⟨28, [(0, (.fz (.atom (.slice none 0 0)))), (1, (.fz (eTm (a0)))), (2, (.fn 82 []))], [(1, (.gho gs1 [(.fz (eTm (a0)))]))], [1], []⟩)) (by kernel_rfl) ?_
 refine hcl 10 [.one .keep] [] [] [] h (term_Rules_1_h_ok _) (fun _ => by kernel_rfl) fun v1 h => ?_
 refine wle 1 (le_nilrow (e := 3) (size := 1) (t := 9) (id := 3) (by decide) (by kernel_rfl) (by kernel_rfl)) (by kernel_rfl) ?_
 refine ap nI 0 h (by kernel_rfl) fun v2 h => ?_
 refine lp1 11 (fun v3 => ⟨28, [(0, (.row 3 (List.length (v3.2)))), (2, (.fn 82 [])), (16, (.fz ((eL 2 eTmR) (a0.args)))), (17, (fI ((List.length a0.args : Int)))), (18, (fI (v3.1)))], [(1, (.gho gs1 [(.fz (eTm (a0)))])), (3, (.frow 3 1 (List.map eI (v3.2))))], [3, 1], []⟩) (.exit 0) (fun v7 => ⟨28, [(0, (.row 3 (List.length (v7))))], [(1, (.gho gs1 [(.fz (eTm (a0)))])), (3, (.frow 3 1 (List.map eI (v7))))], [3, 1], []⟩) h (by kernel_rfl) (by kernel_rfl) (fun v3 r h => ?_) fun v7 h => ?_
 ·unfold term_Rules_l1 at h
  refine cd 5 h (by kernel_rfl) (fun h => ?_) fun h => ?_
  ·refine ix nTmR 5 h (by kernel_rfl) fun v4 h => ?_
   refine hcl 8 [.one .keep, .one .keep, .one .keep] [(3, 1)] [(1, 3)] [1] h (term_collect_h2_ok fuel _ _) (fun _ => by kernel_rfl) fun v5 h => ?_
   cases h; exact lj 6 (by kernel_rfl)
  cases h; exact lo 1 (by kernel_rfl)
 refine li 6 (vs := [(.fz (eTm (a0)))]) (rv := (.row 3 (List.length (v7)))) (by kernel_rfl) (by kernel_rfl) (.inr ⟨6, by kernel_rfl, by kernel_rfl⟩) ?_
 refine wle 2 (le_freeze (t := 2) (id := 3) (n := List.length (v7)) (e := 3) (size := 1) (xs := List.map eI (v7)) (by kernel_rfl) (by kernel_rfl) (by simp)) (by kernel_rfl) ?_
 cases h; exact lq 1 (by kernel_rfl)

def term_Compare_1_h (a0 : Tm) : Option (Unit) := (some ())
theorem term_Compare_1_h_ok (a0 : Tm) (r : Unit) (h : term_Compare_1_h a0 = some r) : HCall Try.prog 62 ([(.fz (eTm (a0)))] ++ []) [] [] (.ret (fI ((List.length a0.args : Int)))) [] [] := by
 unfold term_Compare_1_h at h
 refine hcx (gi := 0) Try.func62 (by kernel_rfl) (by kernel_rfl) (by kernel_rfl) (by kernel_rfl) (by kernel_rfl) (by kernel_rfl) (by kernel_rfl) (by kernel_rfl) ?_
 intro p0 q0 w0
 obtain rfl := Option.some.inj h; exact lh 13 ⟨6, [(2, (fI ((List.length a0.args : Int))))], [(0, (.was p0 [] q0 w0))], [0], []⟩ (le_a (by kernel_rfl)) rfl rfl (by kernel_rfl) (by kernel_rfl)

def term_collect_h4_l1 (a1 : Tm) (r13 : (List Int) → (Tm) → Option ((List Int))) (v3 : (Int) × (List Int)) : Option (((Int) × (List Int)) ⊕ ((List Int))) := (bif (decide (v3.1 < (List.length a1.args : Int))) then (Option.bind (idx a1.args v3.1) fun v4 => (Option.bind (r13 (v3.2) (v4)) fun v5 => (some (.inl ((w64 (v3.1 + 1)), v5))))) else (some (.inr (v3.2))))
def term_collect_h4_b (r13 : (List Int) → (Tm) → Option ((List Int))) (a0 : List Int) (a1 : Tm) : Option ((List Int)) := (Option.bind (term_Compare_1_h (a1)) fun v1 => (Option.bind (app 8 a0 ([(List.length a1.args : Int)] : List (Int))) fun v2 => (Option.bind (loopN (term_collect_h4_l1 a1 r13) fuel (0, v2)) fun (v7 : (List Int)) => (some (v7)))))
theorem term_collect_h4_b_ok (r13 : (List Int) → (Tm) → Option ((List Int))) (ih13 : ∀ (x0 : List Int) (x1 : Tm) r, r13 x0 x1 = some r → HCall Try.prog 63 ([(.row 1 (List.length (x0))), (.fz (eTm (x1))), (.fn 62 [])] ++ []) [(1, (.frow 3 1 (List.map eI (x0))))] [1] (.ret (.row 1 (List.length (r)))) [(1, (.frow 3 1 (List.map eI (r))))] [1]) (a0 : List Int) (a1 : Tm) (r : (List Int)) (h : term_collect_h4_b r13 a0 a1 = some r) : HCall Try.prog 63 ([(.row 1 (List.length (a0))), (.fz (eTm (a1))), (.fn 62 [])] ++ []) [(1, (.frow 3 1 (List.map eI (a0))))] [1] (.ret (.row 1 (List.length (r)))) [(1, (.frow 3 1 (List.map eI (r))))] [1] := by
 unfold term_collect_h4_b at h
 refine hcx (gi := 0) Try.func63 (by kernel_rfl) (by kernel_rfl) (by kernel_rfl) (by kernel_rfl) (by kernel_rfl) (by kernel_rfl) (by kernel_rfl) (by kernel_rfl) ?_
 intro p0 q0 w0
 refine hcl 10 [.one .keep] [] [] [] h (term_Compare_1_h_ok _) (fun _ => by kernel_rfl) fun v1 h => ?_
 refine ap nI 1 h (by kernel_rfl) fun v2 h => ?_
 refine lp1 11 (fun v3 => ⟨28, [(0, (.row 1 (List.length (v3.2)))), (2, (.fn 62 [])), (16, (.fz ((eL 2 eTmR) (a1.args)))), (17, (fI ((List.length a1.args : Int)))), (18, (fI (v3.1)))], [(0, (.was p0 [1] q0 w0)), (1, (.frow 3 1 (List.map eI (v3.2))))], [0, 1], []⟩) (.exit 0) (fun v7 => ⟨28, [(0, (.row 1 (List.length (v7))))], [(0, (.was p0 [1] q0 w0)), (1, (.frow 3 1 (List.map eI (v7))))], [0, 1], []⟩) h (by kernel_rfl) (by kernel_rfl) (fun v3 r h => ?_) fun v7 h => ?_
 ·unfold term_collect_h4_l1 at h
  refine cd 5 h (by kernel_rfl) (fun h => ?_) fun h => ?_
  ·refine ix nTmR 5 h (by kernel_rfl) fun v4 h => ?_
   refine hcl 8 [.one .keep, .one .keep, .one .keep] [(1, 1)] [(1, 1)] [1] h (ih13 _ _) (fun _ => by kernel_rfl) fun v5 h => ?_
   cases h; exact lj 6 (by kernel_rfl)
  cases h; exact lo 1 (by kernel_rfl)
 obtain rfl := Option.some.inj h; exact lh 6 ⟨28, [(6, (.row 1 (List.length (v7))))], [(0, (.was p0 [1] q0 w0)), (1, (.frow 3 1 (List.map eI (v7))))], [0, 1], []⟩ (le_a (by kernel_rfl)) rfl rfl (by kernel_rfl) (by kernel_rfl)
def term_collect_h4 : Nat → (List Int) → (Tm) → Option ((List Int))
  | 0 => fun _ _ => none
  | n + 1 => term_collect_h4_b (term_collect_h4 n)
theorem term_collect_h4_ok : ∀ n : Nat, ∀ (x0 : List Int) (x1 : Tm) r, term_collect_h4 n x0 x1 = some r → HCall Try.prog 63 ([(.row 1 (List.length (x0))), (.fz (eTm (x1))), (.fn 62 [])] ++ []) [(1, (.frow 3 1 (List.map eI (x0))))] [1] (.ret (.row 1 (List.length (r)))) [(1, (.frow 3 1 (List.map eI (r))))] [1]
  | 0 => fun _ _ _ h => by cases h
  | n + 1 => fun a0 a1 r h => term_collect_h4_b_ok (term_collect_h4 n) (term_collect_h4_ok n) a0 a1 r h

def term_collect_h3_l1 (a0 : Tm) (v3 : (Int) × (List Int)) : Option (((Int) × (List Int)) ⊕ ((List Int))) := (bif (decide (v3.1 < (List.length a0.args : Int))) then (Option.bind (idx a0.args v3.1) fun v4 => (Option.bind (term_collect_h4 fuel (v3.2) (v4)) fun v5 => (some (.inl ((w64 (v3.1 + 1)), v5))))) else (some (.inr (v3.2))))
def term_collect_h3 (a0 : Tm) : Option ((List Int)) := (Option.bind (term_Compare_1_h (a0)) fun v1 => (Option.bind (app 8 ([] : List (Int)) ([(List.length a0.args : Int)] : List (Int))) fun v2 => (Option.bind (loopN (term_collect_h3_l1 a0) fuel (0, v2)) fun (v7 : (List Int)) => (some (v7)))))
theorem term_collect_h3_ok (a0 : Tm) (r : (List Int)) (h : term_collect_h3 a0 = some r) : HCall Try.prog 63 ([(.fz (.atom (.slice none 0 0))), (.fz (eTm (a0))), (.fn 62 [])] ++ []) [] [] (.ret (.row 2 (List.length (r)))) [(2, (.frow 3 1 (List.map eI (r))))] [2] := by
 unfold term_collect_h3 at h
 refine hcx (gi := 0) Try.func63 (by kernel_rfl) (by kernel_rfl) (by kernel_rfl) (by kernel_rfl) (by kernel_rfl) (by kernel_rfl) (by kernel_rfl) (by kernel_rfl) ?_
 intro p0 q0 w0
 refine hcl 10 [.one .keep] [] [] [] h (term_Compare_1_h_ok _) (fun _ => by kernel_rfl) fun v1 h => ?_
 refine wle 1 (le_nilrow (e := 3) (size := 1) (t := 9) (id := 2) (by decide) (by kernel_rfl) (by kernel_rfl)) (by kernel_rfl) ?_
 refine ap nI 0 h (by kernel_rfl) fun v2 h => ?_
 refine lp1 11 (fun v3 => ⟨28, [(0, (.row 2 (List.length (v3.2)))), (2, (.fn 62 [])), (16, (.fz ((eL 2 eTmR) (a0.args)))), (17, (fI ((List.length a0.args : Int)))), (18, (fI (v3.1)))], [(0, (.was p0 [] q0 w0)), (2, (.frow 3 1 (List.map eI (v3.2))))], [2, 0], []⟩) (.exit 0) (fun v7 => ⟨28, [(0, (.row 2 (List.length (v7))))], [(0, (.was p0 [] q0 w0)), (2, (.frow 3 1 (List.map eI (v7))))], [2, 0], []⟩) h (by kernel_rfl) (by kernel_rfl) (fun v3 r h => ?_) fun v7 h => ?_
 ·unfold term_collect_h3_l1 at h
  refine cd 5 h (by kernel_rfl) (fun h => ?_) fun h => ?_
  ·refine ix nTmR 5 h (by kernel_rfl) fun v4 h => ?_
   refine hcl 8 [.one .keep, .one .keep, .one .keep] [(2, 1)] [(1, 2)] [1] h (term_collect_h4_ok fuel _ _) (fun _ => by kernel_rfl) fun v5 h => ?_
   cases h; exact lj 6 (by kernel_rfl)
  cases h; exact lo 1 (by kernel_rfl)
 obtain rfl := Option.some.inj h; exact lh 6 ⟨28, [(6, (.row 2 (List.length (v7))))], [(0, (.was p0 [] q0 w0)), (2, (.frow 3 1 (List.map eI (v7))))], [0, 2], []⟩ (le_a (by kernel_rfl)) rfl rfl (by kernel_rfl) (by kernel_rfl)

def term_Compare_l1 (a1 : Tm) (v9 : (Int) × (List Int)) : Option (((Int) × (List Int)) ⊕ ((List Int))) := (bif (decide (v9.1 < (List.length a1.args : Int))) then (Option.bind (idx a1.args v9.1) fun v10 => (Option.bind (term_collect_h4 fuel (v9.2) (v10)) fun v11 => (some (.inl ((w64 (v9.1 + 1)), v11))))) else (some (.inr (v9.2))))
def term_Compare (a0 : Tm) (a1 : Tm) : Option (Int) := (Option.bind (term_Size fuel (a0)) fun v1 => (Option.bind (term_Size fuel (a1)) fun v2 => (bif (decide (v1 < v2)) then (some (-1)) else (bif (decide (v2 < v1)) then (some 1) else (Option.bind (term_Rules (a0)) fun v3 => (Option.bind (term_Rules (a1)) fun v4 => (Option.bind (term_lexical (v3) (v4)) fun v5 => (bif (v5 != 0) then (some v5) else (Option.bind (term_collect_h3 (a0)) fun v6 => (Option.bind (term_Compare_1_h (a1)) fun v7 => (Option.bind (app 8 ([] : List (Int)) ([(List.length a1.args : Int)] : List (Int))) fun v8 => (Option.bind (loopN (term_Compare_l1 a1) fuel (0, v8)) fun (v13 : (List Int)) => (Option.bind (term_lexical (v6) (v13)) fun v14 => (some v14))))))))))))))
theorem term_Compare_ok (a0 : Tm) (a1 : Tm) (r : Int) (h : term_Compare a0 a1 = some r) : PCall Try.prog 34 [eTm a0, eTm a1] (eI (r)) := by
 unfold term_Compare at h
 refine pcl [.one .keep] Try.func34 (by kernel_rfl) (by kernel_rfl) (by kernel_rfl) ?_
 refine dw 7 3 (by kernel_rfl) ?_
 refine cl 1 h (term_Size_ok _ _) (by kernel_rfl) fun v1 h => ?_
 refine cl 2 h (term_Size_ok _ _) (by kernel_rfl) fun v2 h => ?_
 refine cd 12 h (by kernel_rfl) (fun h => ?_) fun h => ?_
 ·cases h; exact lq 5 (by kernel_rfl)
 refine cd 7 h (by kernel_rfl) (fun h => ?_) fun h => ?_
 ·cases h; exact lq 5 (by kernel_rfl)
 refine dw 3 3 (by kernel_rfl) ?_
 refine cl 1 h (term_Rules_ok _) (by kernel_rfl) fun v3 h => ?_
 refine cl 2 h (term_Rules_ok _) (by kernel_rfl) fun v4 h => ?_
 refine cl 0 h (term_lexical_ok _ _) (by kernel_rfl) fun v5 h => ?_
 refine cd 7 h (by kernel_rfl) (fun h => ?_) fun h => ?_
 ·cases h; exact lq 6 (by kernel_rfl)
 refine dw 6 5 (by kernel_rfl) ?_
 obtain ⟨v6, hv6, h⟩ := Option.bind_eq_some_iff.1 h
 refine nst 2 (n_hcall (f := 63) (args := #[(.const (.slice none 0 0)), (.tmp 29), (.tmp 30)]) (ts := #[22, 35, 56]) (cs := [.one .keep, .one .keep, .one .keep]) (by kernel_rfl) (by kernel_rfl) (term_collect_h3_ok (a0) _ hv6) (.inr ⟨2, _, 3, 1, List.map eI (v6), rfl, by kernel_rfl, by simp, rfl⟩)) (by kernel_rfl) ?_
 refine wle 3 ((le_a (by kernel_rfl) : LeSt _ ⟨36, [(31, (.fz ((eL 1 eI) (v6)))), (32, (.fz (eTm (a1)))), (33, (.fn 62 []))], [], [], []⟩)) (by kernel_rfl) ?_
 refine inl 0 (f := 63) (fn := Try.f63) (n := 28) (gi := 1) (ys := [(.fz (.atom (.slice none 0 0))), (.fz (eTm (a1))), (.fn 62 [])]) Try.func63 (by kernel_rfl) (by kernel_rfl) (by kernel_rfl) (by kernel_rfl) (by kernel_rfl) (by kernel_rfl) ?_
 intro gs1
 refine wle 0 ((le_a (by kernel_rfl) : LeSt _ ⟨28, [(0, (.fz (.atom (.slice none 0 0)))), (1, (.fz (eTm (a1)))), (2, (.fn 62 []))], [(1, (.gho gs1 [(.fz ((eL 1 eI) (v6))), (.fz (eTm (a1))), (.fn 62 [])]))], [1], []⟩)) (by kernel_rfl) ?_
 refine hcl 10 [.one .keep] [] [] [] h (term_Compare_1_h_ok _) (fun _ => by kernel_rfl) fun v7 h => ?_
 refine wle 1 (le_nilrow (e := 3) (size := 1) (t := 9) (id := 3) (by decide) (by kernel_rfl) (by kernel_rfl)) (by kernel_rfl) ?_
 refine ap nI 0 h (by kernel_rfl) fun v8 h => ?_
 refine lp1 11 (fun v9 => ⟨28, [(0, (.row 3 (List.length (v9.2)))), (2, (.fn 62 [])), (16, (.fz ((eL 2 eTmR) (a1.args)))), (17, (fI ((List.length a1.args : Int)))), (18, (fI (v9.1)))], [(1, (.gho gs1 [(.fz ((eL 1 eI) (v6))), (.fz (eTm (a1))), (.fn 62 [])])), (3, (.frow 3 1 (List.map eI (v9.2))))], [3, 1], []⟩) (.exit 0) (fun v13 => ⟨28, [(0, (.row 3 (List.length (v13))))], [(1, (.gho gs1 [(.fz ((eL 1 eI) (v6))), (.fz (eTm (a1))), (.fn 62 [])])), (3, (.frow 3 1 (List.map eI (v13))))], [3, 1], []⟩) h (by kernel_rfl) (by kernel_rfl) (fun v9 r h => ?_) fun v13 h => ?_
 ·unfold term_Compare_l1 at h
  refine cd 5 h (by kernel_rfl) (fun h => ?_) fun h => ?_
  ·refine ix nTmR 5 h (by kernel_rfl) fun v10 h => ?_
   refine hcl 8 [.one .keep, .one .keep, .one .keep] [(3, 1)] [(1, 3)] [1] h (term_collect_h4_ok fuel _ _) (fun _ => by kernel_rfl) fun v11 h => ?_
   cases h; exact lj 6 (by kernel_rfl)
  cases h; exact lo 1 (by kernel_rfl)
 refine li 6 (vs := [(.fz ((eL 1 eI) (v6))), (.fz (eTm (a1))), (.fn 62 [])]) (rv := (.row 3 (List.length (v13)))) (by kernel_rfl) (by kernel_rfl) (.inr ⟨6, by kernel_rfl, by kernel_rfl⟩) ?_
 refine clL 0 [(.row 34 3 (List.length (v13)) 3 1 (List.map eI (v13)))] h (term_lexical_ok _ _) (lend_cons (lend_row (by kernel_rfl) (by kernel_rfl) (by simp)) (lend_nil)) (by kernel_rfl) (fun _ => by kernel_rfl) fun v14 h => ?_
 cases h; exact lq 3 (by kernel_rfl)

def cmp_Or_int_l1 (a0 : List Int) (v1 : (Int)) : Option (((Int)) ⊕ (((Unit) ⊕ (Int)))) := (bif (decide (v1 < (List.length a0 : Int))) then (Option.bind (idx a0 v1) fun v2 => (bif (v2 != 0) then (some (.inr (.inr v2))) else (some (.inl ((w64 (v1 + 1))))))) else (some (.inr (.inl ()))))
def cmp_Or_int (a0 : List Int) : Option (Int) := (Option.bind (loopN (cmp_Or_int_l1 a0) fuel (0)) fun (v3 : ((Unit) ⊕ (Int))) => Sum.elim (fun v4 => (some 0)) (fun v5 => (some v5)) v3)
theorem cmp_Or_int_ok (a0 : List Int) (r : Int) (h : cmp_Or_int a0 = some r) : PCall Try.prog 35 [(eL 1 eI) a0] (eI (r)) := by
 unfold cmp_Or_int at h
 refine pcl [.one .keep] Try.func35 (by kernel_rfl) (by kernel_rfl) (by kernel_rfl) ?_
 refine lpx 16 (fun v1 => ⟨18, [(3, (fI (0))), (6, (.fz ((eL 1 eI) (a0)))), (7, (fI ((List.length a0 : Int)))), (8, (fI (v1)))], [], [], []⟩) (fun v3 e st => Sum.elim (fun p => e = .exit 0 ∧ LeSt st ⟨18, [(3, (fI (0)))], [], [], []⟩) (fun p => e = .ret ∧ retX TT st Try.f35.results.toList [.one .keep] = some (eI (p))) v3) h (by kernel_rfl) (le_a (by kernel_rfl)) (fun v1 r h => ?_) fun v3 h e st' hq => ?_
 ·unfold cmp_Or_int_l1 at h
  refine cd 5 h (by kernel_rfl) (fun h => ?_) fun h => ?_
  ·refine ix nI 5 h (by kernel_rfl) fun v2 h => ?_
   refine cd 9 h (by kernel_rfl) (fun h => ?_) fun h => ?_
   ·cases h; exact lor 6 (by kernel_rfl)
   cases h; exact lj 5 (by kernel_rfl)
  cases h; exact lo 1 (by kernel_rfl)
 rcases v3 with v4 | v5
 ·try simp only [Sum.elim_inl, Sum.elim_inr] at h
  obtain ⟨rfl, hle⟩ := hq
  refine ⟨_, hle, ?_⟩
  cases h; exact lq 6 (by kernel_rfl)
 ·try simp only [Sum.elim_inl, Sum.elim_inr] at h
  obtain ⟨rfl, hret⟩ := hq
  refine ⟨_, LeSt.refl, ?_⟩
  cases h; exact lv hret

def cmp_isNaN_int (a0 : Int) : Option (Bool) := (some (a0 != a0))
theorem cmp_isNaN_int_ok (a0 : Int) (r : Bool) (h : cmp_isNaN_int a0 = some r) : PCall Try.prog 64 [eI a0] (eB (r)) := by
 unfold cmp_isNaN_int at h
 refine pcl [.one .keep] Try.func64 (by kernel_rfl) (by kernel_rfl) (by kernel_rfl) ?_
 cases h; exact lq 12 (by kernel_rfl)

def cmp_Compare_int (a0 : Int) (a1 : Int) : Option (Int) := (Option.bind (cmp_isNaN_int (a0)) fun v1 => (Option.bind (cmp_isNaN_int (a1)) fun v2 => (bif v1 then (bif v2 then (some 0) else (some (-1))) else (bif v2 then (some 1) else (bif (decide (a0 < a1)) then (some (-1)) else (bif (decide (a1 < a0)) then (some 1) else (some 0)))))))
theorem cmp_Compare_int_ok (a0 : Int) (a1 : Int) (r : Int) (h : cmp_Compare_int a0 a1 = some r) : PCall Try.prog 36 [eI a0, eI a1] (eI (r)) := by
 unfold cmp_Compare_int at h
 refine pcl [.one .keep] Try.func36 (by kernel_rfl) (by kernel_rfl) (by kernel_rfl) ?_
 refine cl 7 h (cmp_isNaN_int_ok _) (by kernel_rfl) fun v1 h => ?_
 refine cl 5 h (cmp_isNaN_int_ok _) (by kernel_rfl) fun v2 h => ?_
 refine cd 7 h (by kernel_rfl) (fun h => ?_) fun h => ?_
 ·refine cd 5 h (by kernel_rfl) (fun h => ?_) fun h => ?_
  ·cases h; exact lq 5 (by kernel_rfl)
  cases h; exact lq 6 (by kernel_rfl)
 refine cd 6 h (by kernel_rfl) (fun h => ?_) fun h => ?_
 ·cases h; exact lq 5 (by kernel_rfl)
 refine cd 8 h (by kernel_rfl) (fun h => ?_) fun h => ?_
 ·cases h; exact lq 5 (by kernel_rfl)
 refine cd 8 h (by kernel_rfl) (fun h => ?_) fun h => ?_
 ·cases h; exact lq 5 (by kernel_rfl)
 cases h; exact lq 6 (by kernel_rfl)

def weight_Compare (a0 : List Int) (a1 : Tm) (a2 : Tm) : Option (Int) := (Option.bind (weight_Cost fuel (a0) (a1)) fun v1 => (Option.bind (weight_Cost fuel (a0) (a2)) fun v2 => (Option.bind ((bif (v1.2 != 0) then (some (true)) else (some ((v2.2 != 0)))) : Option ((Bool))) fun (v4 : (Bool)) => (bif v4 then (Option.bind (term_Compare (a1) (a2)) fun v5 => (some v5)) else (Option.bind (cmp_Compare_int (v1.1) (v2.1)) fun v6 => (Option.bind (term_Compare (a1) (a2)) fun v7 => (Option.bind (cmp_Or_int (([v6, v7] : List (Int)))) fun v8 => (some v8))))))))
theorem weight_Compare_ok (a0 : List Int) (a1 : Tm) (a2 : Tm) (r : Int) (h : weight_Compare a0 a1 a2 = some r) : PCall Try.prog 19 [(eL 1 eI) a0, eTm a1, eTm a2] (eI (r)) := by
 unfold weight_Compare at h
 refine pcl [.one .keep] Try.func19 (by kernel_rfl) (by kernel_rfl) (by kernel_rfl) ?_
 refine cl 10 h (weight_Cost_ok _ _ _) (by kernel_rfl) fun v1 h => ?_
 refine cl 10 h (weight_Cost_ok _ _ _) (by kernel_rfl) fun v2 h => ?_
 refine jn1 8 .normal (fun v4 => ⟨40, [(4, (.ref 1 0 0)), (5, (.ref 2 0 0)), (7, (fI (v1.1))), (9, (fI (v2.1))), (28, (fB (v4)))], [(1, (.box 35 [(fI (a1.rule)), (.fz ((eL 2 eTmR) (a1.args)))])), (2, (.box 35 [(fI (a2.rule)), (.fz ((eL 2 eTmR) (a2.args)))]))], [2, 1], []⟩) h (by kernel_rfl) (fun v4 h => ?_) fun v4 h => ?_
 ·refine gd 4 h (by kernel_rfl) (fun h => ?_) fun h => ?_
  ·cases h; exact lj 4 (by kernel_rfl)
  cases h; exact lj 4 (by kernel_rfl)
 refine cd 0 h (by kernel_rfl) (fun h => ?_) fun h => ?_
 ·refine cl 4 h (term_Compare_ok _ _) (by kernel_rfl) fun v5 h => ?_
  cases h; exact lq 3 (by kernel_rfl)
 refine dw 2 5 (by kernel_rfl) ?_
 refine cl 2 h (cmp_Compare_int_ok _ _) (by kernel_rfl) fun v6 h => ?_
 refine cl 3 h (term_Compare_ok _ _) (by kernel_rfl) fun v7 h => ?_
 refine cl 1 h (cmp_Or_int_ok _) (by kernel_rfl) fun v8 h => ?_
 cases h; exact lq 3 (by kernel_rfl)

def math_bits_Mul64 (a0 : Int) (a1 : Int) : Option ((Int) × (Int)) := (some ((wu64 ((wu64 ((wu64 ((Int.fdiv a0 (2 ^ (32 : Nat))) * (Int.fdiv a1 (2 ^ (32 : Nat))))) + (Int.fdiv (wu64 ((wu64 ((Int.fdiv a0 (2 ^ (32 : Nat))) * (iand .u64 a1 4294967295))) + (Int.fdiv (wu64 ((iand .u64 a0 4294967295) * (iand .u64 a1 4294967295))) (2 ^ (32 : Nat))))) (2 ^ (32 : Nat))))) + (Int.fdiv (wu64 ((iand .u64 (wu64 ((wu64 ((Int.fdiv a0 (2 ^ (32 : Nat))) * (iand .u64 a1 4294967295))) + (Int.fdiv (wu64 ((iand .u64 a0 4294967295) * (iand .u64 a1 4294967295))) (2 ^ (32 : Nat))))) 4294967295) + (wu64 ((iand .u64 a0 4294967295) * (Int.fdiv a1 (2 ^ (32 : Nat))))))) (2 ^ (32 : Nat))))), (wu64 (a0 * a1))))
theorem math_bits_Mul64_ok (a0 : Int) (a1 : Int) (r : (Int) × (Int)) (h : math_bits_Mul64 a0 a1 = some r) : PCall Try.prog 84 [eU64 a0, eU64 a1] (.tup [eU64 (r.1), eU64 (r.2)]) := by
 unfold math_bits_Mul64 at h
 refine pcl [.one .keep, .one .keep] Try.func84 (by kernel_rfl) (by kernel_rfl) (by kernel_rfl) ?_
 cases h; exact lq 87 (by kernel_rfl)

def math_bits_Mul (a0 : Int) (a1 : Int) : Option ((Int) × (Int)) := (Option.bind (math_bits_Mul64 (a0) (a1)) fun v1 => (some (v1.1, v1.2)))
theorem math_bits_Mul_ok (a0 : Int) (a1 : Int) (r : (Int) × (Int)) (h : math_bits_Mul a0 a1 = some r) : PCall Try.prog 65 [eU64 a0, eU64 a1] (.tup [eU64 (r.1), eU64 (r.2)]) := by
 unfold math_bits_Mul at h
 refine pcl [.one .keep, .one .keep] Try.func65 (by kernel_rfl) (by kernel_rfl) (by kernel_rfl) ?_
 refine cl 12 h (math_bits_Mul64_ok _ _) (by kernel_rfl) fun v1 h => ?_
 cases h; exact lq 14 (by kernel_rfl)

def slices_Repeat_int_int_h_l1 (v6 : (Int) × (List Int)) : Option (((Int) × (List Int)) ⊕ ((List Int))) := (bif (decide (v6.1 < (List.length (v6.2) : Int))) then (Option.bind (winOk v6.1 (List.length (v6.2)) (List.length (v6.2))) fun v7 => (Option.bind (winOk 0 v6.1 (List.length (v6.2))) fun v8 => (Option.bind (sameL (v6.2) ((cpW (v6.2) (Int.toNat (v6.1)) (Int.toNat ((List.length (v6.2) : Int))) (Int.toNat (0)) (Int.toNat (v6.1))))) fun _ => (some (.inl ((w64 (v6.1 + ((min ((Int.toNat (v6.1)) - (Int.toNat (0))) ((Int.toNat ((List.length (v6.2) : Int))) - (Int.toNat (v6.1))) : Nat) : Int))), (cpW (v6.2) (Int.toNat (v6.1)) (Int.toNat ((List.length (v6.2) : Int))) (Int.toNat (0)) (Int.toNat (v6.1))))))))) else (some (.inr (v6.2))))
def slices_Repeat_int_int_h (a0 : List Int) (a1 : Int) : Option ((List Int)) := (bif (decide (a1 < 0)) then none else (Option.bind (math_bits_Mul ((wu64 (List.length a0 : Int))) ((wu64 a1))) fun v1 => (Option.bind ((bif (decide (0 < v1.1)) then (some (true)) else (some ((decide (9223372036854775807 < v1.2))))) : Option ((Bool))) fun (v3 : (Bool)) => (bif v3 then none else (Option.bind (mkL 8 0 (w64 v1.2)) fun v4 => (Option.bind (sameL (v4) (cpL (v4) (a0))) fun _ => (Option.bind (loopN (slices_Repeat_int_int_h_l1) fuel (((min (List.length (a0)) (List.length (v4)) : Nat) : Int), (cpL (v4) (a0)))) fun (v12 : (List Int)) => (some (v12)))))))))
theorem slices_Repeat_int_int_h_ok (a0 : List Int) (a1 : Int) (r : (List Int)) (h : slices_Repeat_int_int_h a0 a1 = some r) : HCall Try.prog 37 ([(.fz ((eL 1 eI) (a0))), (fI (a1))] ++ []) [] [] (.ret (.row 1 (List.length (r)))) [(1, (.frow 3 1 (List.map eI (r))))] [1] := by
 unfold slices_Repeat_int_int_h at h
 refine hcx (gi := 0) Try.func37 (by kernel_rfl) (by kernel_rfl) (by kernel_rfl) (by kernel_rfl) (by kernel_rfl) (by kernel_rfl) (by kernel_rfl) (by kernel_rfl) ?_
 intro p0 q0 w0
 refine cd 10 h (by kernel_rfl) (fun h => ?_) fun h => ?_
 ·cases h
 refine cl 8 h (math_bits_Mul_ok _ _) (by kernel_rfl) fun v1 h => ?_
 refine jn1 8 .normal (fun v3 => ⟨48, [(0, (.fz ((eL 1 eI) (a0)))), (6, (.fz (eU64 (v1.2)))), (26, (fB (v3)))], [(0, (.was p0 [] q0 w0))], [0], []⟩) h (by kernel_rfl) (fun v3 h => ?_) fun v3 h => ?_
 ·refine gd 4 h (by kernel_rfl) (fun h => ?_) fun h => ?_
  ·cases h; exact lj 4 (by kernel_rfl)
  cases h; exact lj 4 (by kernel_rfl)
 refine cd 0 h (by kernel_rfl) (fun h => ?_) fun h => ?_
 ·cases h
 obtain ⟨v4, hv4, h⟩ := Option.bind_eq_some_iff.1 h
 refine sst 5 (s_make (t := 22) (X := (.tmp 29)) (Y := (.tmp 29)) (id := 1) (k := .i64) (k' := .i64) (d := tt22) (e := 3) (de := tt3) (enc := eI) (zv := .int .i64 0) hv4 (by kernel_rfl) tt_ok (by kernel_rfl) (by kernel_rfl) (by kernel_rfl) rfl rfl rfl rfl rfl (by kernel_rfl) (by kernel_rfl) (by kernel_rfl)) (by kernel_rfl) ?_
 refine sst 6 (e_copyRow (t1 := 22) (t2 := 22) (X := (.tmp 31)) (Y := (.tmp 32)) (id := 1) (d1 := tt22) (e := 3) (de := tt3) (enc := eI) (xs := v4) (ys := a0) (n := List.length (v4)) tt_ok (by kernel_rfl) (by kernel_rfl) (by kernel_rfl) (by kernel_rfl) (by kernel_rfl) (by kernel_rfl) (by kernel_rfl) (by kernel_rfl) rfl (fun _ => ⟨_, rfl, rfl⟩)) (by kernel_rfl) ?_
 obtain ⟨_, hs5, h⟩ := Option.bind_eq_some_iff.1 h
 refine wle 0 (LeSt.trans (show LeSt _ ⟨48, [(7, (.row 1 (List.length (v4)))), (31, (.row 1 (List.length (v4)))), (32, (.fz ((eL 1 eI) (a0)))), (33, (fI (((min (List.length (a0)) (List.length (v4)) : Nat) : Int))))], [(0, (.was p0 [] q0 w0)), (1, (.frow 3 1 (List.map eI ((cpL (v4) (a0))))))], [1, 0], []⟩ from le_a (by kernel_rfl)) (LeSt.trans (le_relen 1 (k := 2) (m := List.length (v4)) (n := List.length ((cpL (v4) (a0)))) (by kernel_rfl) (sameL_some hs5)) (show LeSt _ ⟨48, [(7, (.row 1 (List.length ((cpL (v4) (a0)))))), (31, (.row 1 (List.length ((cpL (v4) (a0)))))), (32, (.fz ((eL 1 eI) (a0)))), (33, (fI (((min (List.length (a0)) (List.length (v4)) : Nat) : Int))))], [(0, (.was p0 [] q0 w0)), (1, (.frow 3 1 (List.map eI ((cpL (v4) (a0))))))], [1, 0], []⟩ from le_a (by kernel_rfl)))) (by kernel_rfl) ?_
 refine lp1 4 (fun v6 => ⟨48, [(7, (.row 1 (List.length (v6.2)))), (8, (fI (v6.1)))], [(0, (.was p0 [] q0 w0)), (1, (.frow 3 1 (List.map eI (v6.2))))], [1, 0], []⟩) (.exit 0) (fun v12 => ⟨48, [(7, (.row 1 (List.length (v12))))], [(0, (.was p0 [] q0 w0)), (1, (.frow 3 1 (List.map eI (v12))))], [1, 0], []⟩) h (by kernel_rfl) (by kernel_rfl) (fun v6 r h => ?_) fun v12 h => ?_
 ·unfold slices_Repeat_int_int_h_l1 at h
  refine nst 5 (n_len_row (t := 22) (x := (.tmp 35)) (d := tt22) (id := 1) (e2 := 3) (e := 3) (size := 1) (n := List.length (v6.2)) (xs := List.map eI (v6.2)) tt_ok (by kernel_rfl) (by kernel_rfl) rfl (by kernel_rfl) (by kernel_rfl) (by simp)) (by kernel_rfl) ?_
  refine cd 2 h (by kernel_rfl) (fun h => ?_) fun h => ?_
  ·refine dz 2 8 [7] [1] (List.range 2) (by kernel_rfl) ?_
   obtain ⟨v7, hv7, h⟩ := Option.bind_eq_some_iff.1 h
   refine nst 3 (n_win (t := 22) (x := (.tmp 39)) (lo := (some (.tmp 40))) (hi := none) (l := (some v6.1)) (h := none) (id := 1) (d := tt22) (e := 3) (de := tt3) (enc := eI) (xs := v6.2) (n := List.length (v6.2)) hv7 tt_ok (by kernel_rfl) (by kernel_rfl) (by kernel_rfl) (by kernel_rfl) (by kernel_rfl) (by kernel_rfl) (by kernel_rfl) rfl (by kernel_rfl) (by kernel_rfl)) (by kernel_rfl) ?_
   obtain ⟨v8, hv8, h⟩ := Option.bind_eq_some_iff.1 h
   refine nst 2 (n_win (t := 22) (x := (.tmp 42)) (lo := none) (hi := (some (.tmp 43))) (l := none) (h := (some v6.1)) (id := 1) (d := tt22) (e := 3) (de := tt3) (enc := eI) (xs := v6.2) (n := List.length (v6.2)) hv8 tt_ok (by kernel_rfl) (by kernel_rfl) (by kernel_rfl) (by kernel_rfl) (by kernel_rfl) (by kernel_rfl) (by kernel_rfl) rfl (by kernel_rfl) (by kernel_rfl)) (by kernel_rfl) ?_
   refine zst 0 (e_copyWin (t1 := 22) (t2 := 22) (X := (.tmp 41)) (Y := (.tmp 44)) (id := 1) (d1 := tt22) (e := 3) (de := tt3) (enc := eI) (xs := v6.2) (n := List.length (v6.2)) (lo := (Int.toNat (v6.1))) (hi := (Int.toNat ((List.length (v6.2) : Int)))) (lo2 := (Int.toNat (0))) (hi2 := (Int.toNat (v6.1))) tt_ok (by kernel_rfl) (by kernel_rfl) (by kernel_rfl) (by kernel_rfl) (by kernel_rfl) (by kernel_rfl) (by kernel_rfl) (by kernel_rfl) rfl (fun _ => ⟨_, rfl, rfl⟩)) (by kernel_rfl) (by kernel_rfl) (by kernel_rfl) ?_
   obtain ⟨_, hs10, h⟩ := Option.bind_eq_some_iff.1 h
   refine wle 1 (LeSt.trans (show LeSt _ ⟨48, [(7, (.row 1 (List.length (v6.2)))), (8, (fI (v6.1))), (37, (fB ((decide (v6.1 < (List.length (v6.2) : Int)))))), (38, (fI (v6.1))), (40, (fI (v6.1))), (43, (fI (v6.1))), (45, (fI (((min ((Int.toNat (v6.1)) - (Int.toNat (0))) ((Int.toNat ((List.length (v6.2) : Int))) - (Int.toNat (v6.1))) : Nat) : Int))))], [(0, (.was p0 [] q0 w0)), (1, (.frow 3 1 (List.map eI ((cpW (v6.2) (Int.toNat (v6.1)) (Int.toNat ((List.length (v6.2) : Int))) (Int.toNat (0)) (Int.toNat (v6.1)))))))], [1, 0], []⟩ from le_a (by kernel_rfl)) (LeSt.trans (le_relen 1 (k := 1) (m := List.length (v6.2)) (n := List.length ((cpW (v6.2) (Int.toNat (v6.1)) (Int.toNat ((List.length (v6.2) : Int))) (Int.toNat (0)) (Int.toNat (v6.1))))) (by kernel_rfl) (sameL_some hs10)) (show LeSt _ ⟨48, [(7, (.row 1 (List.length ((cpW (v6.2) (Int.toNat (v6.1)) (Int.toNat ((List.length (v6.2) : Int))) (Int.toNat (0)) (Int.toNat (v6.1))))))), (8, (fI (v6.1))), (37, (fB ((decide (v6.1 < (List.length (v6.2) : Int)))))), (38, (fI (v6.1))), (40, (fI (v6.1))), (43, (fI (v6.1))), (45, (fI (((min ((Int.toNat (v6.1)) - (Int.toNat (0))) ((Int.toNat ((List.length (v6.2) : Int))) - (Int.toNat (v6.1))) : Nat) : Int))))], [(0, (.was p0 [] q0 w0)), (1, (.frow 3 1 (List.map eI ((cpW (v6.2) (Int.toNat (v6.1)) (Int.toNat ((List.length (v6.2) : Int))) (Int.toNat (0)) (Int.toNat (v6.1)))))))], [1, 0], []⟩ from le_a (by kernel_rfl)))) (by kernel_rfl) ?_
   cases h; exact lj 3 (by kernel_rfl)
  cases h; exact lo 1 (by kernel_rfl)
 obtain rfl := Option.some.inj h; exact lh 6 ⟨48, [(4, (.row 1 (List.length (v12))))], [(0, (.was p0 [] q0 w0)), (1, (.frow 3 1 (List.map eI (v12))))], [0, 1], []⟩ (le_a (by kernel_rfl)) rfl rfl (by kernel_rfl) (by kernel_rfl)

def slices_Min_int_int_l1 (a0 : List Int) (v2 : (Int) × (Int)) : Option (((Int) × (Int)) ⊕ ((Int))) := (bif (decide (v2.2 < (List.length a0 : Int))) then (Option.bind (idx a0 v2.2) fun v3 => (some (.inl ((imin v2.1 v3), (w64 (v2.2 + 1)))))) else (some (.inr (v2.1))))
def slices_Min_int_int (a0 : List Int) : Option (Int) := (bif (decide ((List.length a0 : Int) < 1)) then none else (Option.bind (idx a0 0) fun v1 => (Option.bind (loopN (slices_Min_int_int_l1 a0) fuel (v1, 1)) fun (v5 : (Int)) => (some v5))))
theorem slices_Min_int_int_ok (a0 : List Int) (r : Int) (h : slices_Min_int_int a0 = some r) : PCall Try.prog 39 [(eL 1 eI) a0] (eI (r)) := by
 unfold slices_Min_int_int at h
 refine pcl [.one .keep] Try.func39 (by kernel_rfl) (by kernel_rfl) (by kernel_rfl) ?_
 refine cd 11 h (by kernel_rfl) (fun h => ?_) fun h => ?_
 ·cases h
 refine ix nI 4 h (by kernel_rfl) fun v1 h => ?_
 refine lp1 9 (fun v2 => ⟨25, [(0, (.fz ((eL 1 eI) (a0)))), (3, (fI (v2.1))), (4, (fI (v2.2)))], [], [], []⟩) (.exit 0) (fun v5 => ⟨25, [(3, (fI (v5)))], [], [], []⟩) h (by kernel_rfl) (by kernel_rfl) (fun v2 r h => ?_) fun v5 h => ?_
 ·unfold slices_Min_int_int_l1 at h
  refine cd 8 h (by kernel_rfl) (fun h => ?_) fun h => ?_
  ·refine ix nI 7 h (by kernel_rfl) fun v3 h => ?_
   cases h; exact lj 9 (by kernel_rfl)
  cases h; exact lo 1 (by kernel_rfl)
 cases h; exact lq 6 (by kernel_rfl)
end Go.Proofs.Ytpcfkflhnkfjjaa
