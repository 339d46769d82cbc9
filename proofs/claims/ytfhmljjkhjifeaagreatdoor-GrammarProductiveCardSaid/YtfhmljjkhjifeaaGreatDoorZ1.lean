/- Typed programs and what computes them. -/
import Derived.Test.YtfhmljjkhjifeaaGreatDoorZ0
set_option linter.unusedVariables false
set_option linter.unusedSimpArgs false
set_option maxRecDepth 100000
namespace Go.Proofs.YtfhmljjkhjifeaaGreatDoor
open Go Go.RowKit Go.Proofs
set_option maxHeartbeats 2000000
attribute [local irreducible] NStep StepA EStep LeSt
def grammar_Check_1_h (a0 : Ru) (a1 : Ru) : Option ((Bool)) := (Option.bind (grammar_sameRule (a0) (a1)) fun v1 => (some (v1)))
theorem grammar_Check_1_h_ok (a0 : Ru) (a1 : Ru) (r : (Bool)) (h : grammar_Check_1_h a0 a1 = some r) : HCall Tryz.prog 37 ([(.fz (eRu (a0)))] ++ [(.ref 1 0 0)]) [(1, (.box 47 [(fI (a1.symbol)), (fI (a1.kind)), (fI (a1.input)), (fI (a1.const.type)), (fI (a1.const.num)), (fS (a1.const.text)), (.fz ((eL 4 eVaR) (a1.const.items))), (fS (a1.op)), (.fz ((eL 1 eI) (a1.args)))]))] [1] (.ret (fB (r))) [(1, (.box 47 [(fI (a1.symbol)), (fI (a1.kind)), (fI (a1.input)), (fI (a1.const.type)), (fI (a1.const.num)), (fS (a1.const.text)), (.fz ((eL 4 eVaR) (a1.const.items))), (fS (a1.op)), (.fz ((eL 1 eI) (a1.args)))]))] [1] := by
 unfold grammar_Check_1_h at h
 refine hcx (gi := 0) Tryz.func37 (by kernel_rfl) (by kernel_rfl) (by kernel_rfl) (by kernel_rfl) (by kernel_rfl) (by kernel_rfl) (by kernel_rfl) (by kernel_rfl) ?_
 intro p0 q0 w0
 refine cl 9 h (grammar_sameRule_ok _ _) (by kernel_rfl) fun v1 h => ?_
 obtain rfl := Option.some.inj h; exact lh 3 ⟨7, [(3, (fB (v1)))], [(0, (.was p0 [1] q0 w0)), (1, (.box 47 [(fI (a1.symbol)), (fI (a1.kind)), (fI (a1.input)), (fI (a1.const.type)), (fI (a1.const.num)), (fS (a1.const.text)), (.fz ((eL 4 eVaR) (a1.const.items))), (fS (a1.op)), (.fz ((eL 1 eI) (a1.args)))]))], [0, 1], []⟩ (le_a (by kernel_rfl)) rfl rfl (by kernel_rfl) (by kernel_rfl)

def slices_IndexFunc_api_Rule_api_Rule_h_m0 (p0 : Env) (q0 : Nat → Prop) (w0 : World) (a1 : Ru) : List (Nat × AObj) := [(0, (.was p0 [1] q0 w0)), (1, (.box 47 [(fI (a1.symbol)), (fI (a1.kind)), (fI (a1.input)), (fI (a1.const.type)), (fI (a1.const.num)), (fS (a1.const.text)), (.fz ((eL 4 eVaR) (a1.const.items))), (fS (a1.op)), (.fz ((eL 1 eI) (a1.args)))]))]
def slices_IndexFunc_api_Rule_api_Rule_h_l1 (a0 : List Ru) (a1 : Ru) (v1 : (Int)) : Option (((Int)) ⊕ (((Unit) ⊕ ((Int))))) := (bif (decide (v1 < (List.length a0 : Int))) then (Option.bind (idx a0 v1) fun v2 => (Option.bind (grammar_Check_1_h (v2) (a1)) fun v3 => (bif v3 then (some (.inr (.inr (v1)))) else (some (.inl ((w64 (v1 + 1)))))))) else (some (.inr (.inl ()))))
def slices_IndexFunc_api_Rule_api_Rule_h (a0 : List Ru) (a1 : Ru) : Option ((Int)) := (Option.bind (loopN (slices_IndexFunc_api_Rule_api_Rule_h_l1 a0 a1) fuel (0)) fun (v4 : ((Unit) ⊕ ((Int)))) => Sum.elim (fun v5 => (some ((-1)))) (fun v6 => (some (v6))) v4)
theorem slices_IndexFunc_api_Rule_api_Rule_h_ok (a0 : List Ru) (a1 : Ru) (r : (Int)) (h : slices_IndexFunc_api_Rule_api_Rule_h a0 a1 = some r) : HCall Tryz.prog 61 ([(.fz ((eL 9 eRu) (a0))), (.fn 37 [(.ref 1 0 0)])] ++ []) [(1, (.box 47 [(fI (a1.symbol)), (fI (a1.kind)), (fI (a1.input)), (fI (a1.const.type)), (fI (a1.const.num)), (fS (a1.const.text)), (.fz ((eL 4 eVaR) (a1.const.items))), (fS (a1.op)), (.fz ((eL 1 eI) (a1.args)))]))] [1] (.ret (fI (r))) [(1, (.box 47 [(fI (a1.symbol)), (fI (a1.kind)), (fI (a1.input)), (fI (a1.const.type)), (fI (a1.const.num)), (fS (a1.const.text)), (.fz ((eL 4 eVaR) (a1.const.items))), (fS (a1.op)), (.fz ((eL 1 eI) (a1.args)))]))] [1] := by
 unfold slices_IndexFunc_api_Rule_api_Rule_h at h
 refine hcx (gi := 0) Tryz.func61 (by kernel_rfl) (by kernel_rfl) (by kernel_rfl) (by kernel_rfl) (by kernel_rfl) (by kernel_rfl) (by kernel_rfl) (by kernel_rfl) ?_
 intro p0 q0 w0
 refine lpx 12 (fun v1 => ⟨19, [(0, (.fz ((eL 9 eRu) (a0)))), (1, (.fn 37 [(.ref 1 0 0)])), (7, (fI ((List.length a0 : Int)))), (8, (fI (v1)))], (slices_IndexFunc_api_Rule_api_Rule_h_m0 p0 q0 w0 a1), [0, 1], []⟩) (fun v4 e st => Sum.elim (fun p => e = .exit 0 ∧ LeSt st ⟨19, [], (slices_IndexFunc_api_Rule_api_Rule_h_m0 p0 q0 w0 a1), [0, 1], []⟩) (fun p => e = .ret ∧ LeSt st ⟨19, [(4, (fI (p)))], (slices_IndexFunc_api_Rule_api_Rule_h_m0 p0 q0 w0 a1), [0, 1], []⟩) v4) h (by kernel_rfl) (le_a (by kernel_rfl)) (fun v1 r h => ?_) fun v4 h e st' hq => ?_
 ·unfold slices_IndexFunc_api_Rule_api_Rule_h_l1 at h
  refine cd 5 h (by kernel_rfl) (fun h => ?_) fun h => ?_
  ·refine ix nRu 13 h (by kernel_rfl) fun v2 h => ?_
   refine hcl 1 [.one .keep] [(1, 1)] [(1, 1)] [1] h (grammar_Check_1_h_ok _ _) (fun _ => by kernel_rfl) fun v3 h => ?_
   refine cd 1 h (by kernel_rfl) (fun h => ?_) fun h => ?_
   ·cases h; exact lo 6 (by kernel_rfl)
   cases h; exact lj 5 (by kernel_rfl)
  cases h; exact lo 1 (by kernel_rfl)
 rcases v4 with v5 | v6
 ·try simp only [Sum.elim_inl, Sum.elim_inr] at h
  obtain ⟨rfl, hle⟩ := hq
  refine ⟨_, hle, ?_⟩
  obtain rfl := Option.some.inj h; exact lh 5 ⟨19, [(4, (fI ((-1))))], (slices_IndexFunc_api_Rule_api_Rule_h_m0 p0 q0 w0 a1), [0, 1], []⟩ (le_a (by kernel_rfl)) rfl rfl (by kernel_rfl) (by kernel_rfl)
 ·try simp only [Sum.elim_inl, Sum.elim_inr] at h
  obtain ⟨rfl, hle⟩ := hq
  refine ⟨_, hle, ?_⟩
  obtain rfl := Option.some.inj h; exact lh 0 ⟨19, [(4, (fI (v6)))], (slices_IndexFunc_api_Rule_api_Rule_h_m0 p0 q0 w0 a1), [0, 1], []⟩ (le_a (by kernel_rfl)) rfl rfl (by kernel_rfl) (by kernel_rfl)

def slices_ContainsFunc_api_Rule_api_Rule_h (a0 : List Ru) (a1 : Ru) : Option ((Bool)) := (Option.bind (slices_IndexFunc_api_Rule_api_Rule_h (a0) (a1)) fun v1 => (some ((decide (0 ≤ v1)))))
theorem slices_ContainsFunc_api_Rule_api_Rule_h_ok (a0 : List Ru) (a1 : Ru) (r : (Bool)) (h : slices_ContainsFunc_api_Rule_api_Rule_h a0 a1 = some r) : HCall Tryz.prog 36 ([(.fz ((eL 9 eRu) (a0))), (.fn 37 [(.ref 1 0 0)])] ++ []) [(1, (.box 47 [(fI (a1.symbol)), (fI (a1.kind)), (fI (a1.input)), (fI (a1.const.type)), (fI (a1.const.num)), (fS (a1.const.text)), (.fz ((eL 4 eVaR) (a1.const.items))), (fS (a1.op)), (.fz ((eL 1 eI) (a1.args)))]))] [1] (.ret (fB (r))) [(1, (.box 47 [(fI (a1.symbol)), (fI (a1.kind)), (fI (a1.input)), (fI (a1.const.type)), (fI (a1.const.num)), (fS (a1.const.text)), (.fz ((eL 4 eVaR) (a1.const.items))), (fS (a1.op)), (.fz ((eL 1 eI) (a1.args)))]))] [1] := by
 unfold slices_ContainsFunc_api_Rule_api_Rule_h at h
 refine hcx (gi := 0) Tryz.func36 (by kernel_rfl) (by kernel_rfl) (by kernel_rfl) (by kernel_rfl) (by kernel_rfl) (by kernel_rfl) (by kernel_rfl) (by kernel_rfl) ?_
 intro p0 q0 w0
 refine hcl 8 [.one .keep, .one .keep] [(1, 1)] [(1, 1)] [1] h (slices_IndexFunc_api_Rule_api_Rule_h_ok _ _) (fun _ => by kernel_rfl) fun v1 h => ?_
 obtain rfl := Option.some.inj h; exact lh 4 ⟨9, [(4, (fB ((decide (0 ≤ v1)))))], [(0, (.was p0 [1] q0 w0)), (1, (.box 47 [(fI (a1.symbol)), (fI (a1.kind)), (fI (a1.input)), (fI (a1.const.type)), (fI (a1.const.num)), (fS (a1.const.text)), (.fz ((eL 4 eVaR) (a1.const.items))), (fS (a1.op)), (.fz ((eL 1 eI) (a1.args)))]))], [0, 1], []⟩ (le_a (by kernel_rfl)) rfl rfl (by kernel_rfl) (by kernel_rfl)

def grammar_Check_m0 (a0 : La) : List (Nat × AObj) := [(1, (.box 26 [(fS (a0.name)), (.fz ((eL 1 eI) (a0.inputs))), (.fz ((eL 2 eSy) (a0.symbols))), (.fz ((eL 9 eRu) (a0.rules)))]))]
def grammar_Check_l1 (a0 : La) (v15 : (Int)) : Option (((Int)) ⊕ (((Unit) ⊕ (Int)))) := (bif (decide (v15 < (List.length a0.rules : Int))) then (Option.bind (idx a0.rules v15) fun v16 => (Option.bind (grammar_rule (a0) (v16)) fun v17 => (bif (v17 != 0) then (some (.inr (.inr v17))) else (Option.bind (cutL a0.rules 0 v15) fun v18 => (Option.bind (slices_ContainsFunc_api_Rule_api_Rule_h (v18) (v16)) fun v19 => (bif v19 then (some (.inr (.inr 6))) else (some (.inl ((w64 (v15 + 1))))))))))) else (some (.inr (.inl ()))))
def grammar_Check_l2 (a0 : La) (v9 : (Int) × (List (ByteArray × Bool))) : Option (((Int) × (List (ByteArray × Bool))) ⊕ (((Unit) ⊕ (Int)))) := (bif (decide (v9.1 < (List.length a0.symbols : Int))) then (Option.bind (idx a0.symbols v9.1) fun v10 => (Option.bind (grammar_named (v10.name)) fun v11 => (bif (!v11) then (some (.inr (.inr 5))) else (bif (mget v9.2 v10.name false) then (some (.inr (.inr 6))) else (Option.bind (grammar_typed (v10.type)) fun v12 => (bif (!v12) then (some (.inr (.inr 3))) else (some (.inl ((w64 (v9.1 + 1)), (mput v9.2 v10.name true)))))))))) else (some (.inr (.inl ()))))
def grammar_Check_l3 (a0 : La) (v2 : (Int)) : Option (((Int)) ⊕ (((Unit) ⊕ (Int)))) := (bif (decide (v2 < (List.length a0.inputs : Int))) then (Option.bind (idx a0.inputs v2) fun v3 => (Option.bind (grammar_typed (v3)) fun v4 => (bif (!v4) then (some (.inr (.inr 3))) else (some (.inl ((w64 (v2 + 1)))))))) else (some (.inr (.inl ()))))
def grammar_Check (a0 : La) : Option (Int) := (Option.bind (grammar_named (a0.name)) fun v1 => (bif (!v1) then (some 5) else (bif (decide (4 < (List.length a0.inputs : Int))) then (some 2) else (Option.bind (loopN (grammar_Check_l3 a0) fuel (0)) fun (v5 : ((Unit) ⊕ (Int))) => Sum.elim (fun v6 => (Option.bind ((bif (decide ((List.length a0.symbols : Int) < 1)) then (some (true)) else (some ((decide (16 < (List.length a0.symbols : Int)))))) : Option ((Bool))) fun (v8 : (Bool)) => (bif v8 then (some 2) else (Option.bind (loopN (grammar_Check_l2 a0) fuel (0, ([] : List (ByteArray × Bool)))) fun (v13 : ((Unit) ⊕ (Int))) => Sum.elim (fun v14 => (bif (decide (96 < (List.length a0.rules : Int))) then (some 2) else (Option.bind (loopN (grammar_Check_l1 a0) fuel (0)) fun (v20 : ((Unit) ⊕ (Int))) => Sum.elim (fun v21 => (some 0)) (fun v22 => (some v22)) v20))) (fun v23 => (some v23)) v13)))) (fun v24 => (some v24)) v5))))
theorem grammar_Check_ok (a0 : La) (r : Int) (h : grammar_Check a0 = some r) : PCall Tryz.prog 12 [eLa a0] (eI (r)) := by
 unfold grammar_Check at h
 refine pcl [.one .keep] Tryz.func12 (by kernel_rfl) (by kernel_rfl) (by kernel_rfl) ?_
 refine cl 10 h (grammar_named_ok _) (by kernel_rfl) fun v1 h => ?_
 refine cd 2 h (by kernel_rfl) (fun h => ?_) fun h => ?_
 ·cases h; exact lq 5 (by kernel_rfl)
 refine cd 9 h (by kernel_rfl) (fun h => ?_) fun h => ?_
 ·cases h; exact lq 5 (by kernel_rfl)
 refine lpx 10 (fun v2 => ⟨92, [(1, (.ref 1 0 0)), (20, (.fz ((eL 1 eI) (a0.inputs)))), (21, (fI ((List.length a0.inputs : Int)))), (22, (fI (v2)))], (grammar_Check_m0 a0), [1], []⟩) (fun v5 e st => Sum.elim (fun p => e = .exit 0 ∧ LeSt st ⟨92, [(1, (.ref 1 0 0))], (grammar_Check_m0 a0), [1], []⟩) (fun p => e = .ret ∧ retX TT st Tryz.f12.results.toList [.one .keep] = some (eI (p))) v5) h (by kernel_rfl) (le_a (by kernel_rfl)) (fun v2 r h => ?_) fun v5 h e st' hq => ?_
 ·unfold grammar_Check_l3 at h
  refine cd 5 h (by kernel_rfl) (fun h => ?_) fun h => ?_
  ·refine ix nI 5 h (by kernel_rfl) fun v3 h => ?_
   refine cl 6 h (grammar_typed_ok _) (by kernel_rfl) fun v4 h => ?_
   refine cd 2 h (by kernel_rfl) (fun h => ?_) fun h => ?_
   ·cases h; exact lor 5 (by kernel_rfl)
   cases h; exact lj 5 (by kernel_rfl)
  cases h; exact lo 1 (by kernel_rfl)
 rcases v5 with v6 | v24
 ·try simp only [Sum.elim_inl, Sum.elim_inr] at h
  obtain ⟨rfl, hle⟩ := hq
  refine ⟨_, hle, ?_⟩
  refine jn1 2 .normal (fun v8 => ⟨92, [(1, (.ref 1 0 0)), (39, (fB (v8)))], (grammar_Check_m0 a0), [1], []⟩) h (by kernel_rfl) (fun v8 h => ?_) fun v8 h => ?_
  ·refine gd 6 h (by kernel_rfl) (fun h => ?_) fun h => ?_
   ·cases h; exact lj 6 (by kernel_rfl)
   cases h; exact lj 6 (by kernel_rfl)
  refine cd 0 h (by kernel_rfl) (fun h => ?_) fun h => ?_
  ·cases h; exact lq 5 (by kernel_rfl)
  refine sst 3 (e_makeMap (t := 54) (id := 2) (by kernel_rfl) (by kernel_rfl)) (by kernel_rfl) ?_
  refine lpx 11 (fun v9 => ⟨92, [(1, (.ref 1 0 0)), (5, (.mp 2)), (42, (.fz ((eL 2 eSy) (a0.symbols)))), (43, (fI ((List.length a0.symbols : Int)))), (44, (fI (v9.1)))], [(1, (.box 26 [(fS (a0.name)), (.fz ((eL 1 eI) (a0.inputs))), (.fz ((eL 2 eSy) (a0.symbols))), (.fz ((eL 9 eRu) (a0.rules)))])), (2, (.smap (List.map (fun p => (p.1, eB p.2)) (v9.2))))], [2, 1], []⟩) (fun v13 e st => Sum.elim (fun p => e = .exit 2 ∧ LeSt st ⟨92, [(1, (.ref 1 0 0))], (grammar_Check_m0 a0), [1], []⟩) (fun p => e = .ret ∧ retX TT st Tryz.f12.results.toList [.one .keep] = some (eI (p))) v13) h (by kernel_rfl) (le_a (by kernel_rfl)) (fun v9 r h => ?_) fun v13 h e st' hq => ?_
  ·unfold grammar_Check_l2 at h
   refine cd 5 h (by kernel_rfl) (fun h => ?_) fun h => ?_
   ·refine ix nSy 5 h (by kernel_rfl) fun v10 h => ?_
    refine cl 10 h (grammar_named_ok _) (by kernel_rfl) fun v11 h => ?_
    refine cd 3 h (by kernel_rfl) (fun h => ?_) fun h => ?_
    ·cases h; exact lor 5 (by kernel_rfl)
    refine nst 5 (n_lookup (t := 54) (x := (.tmp 54)) (y := (.tmp 56)) (enc := eB) (m := v9.2) (s := v10.name) (z := false) (id := 2) (d := tt54) (kt := 9) (et := 4) (kd := tt9) (.bool false) (by kernel_rfl) tt_ok rfl (by kernel_rfl) rfl (by kernel_rfl) Tryz.t4 (by kernel_rfl) (by kernel_rfl) (by kernel_rfl) rfl (by kernel_rfl) (by kernel_rfl) (by kernel_rfl)) (by kernel_rfl) ?_
    refine cd 2 h (by kernel_rfl) (fun h => ?_) fun h => ?_
    ·cases h; exact lor 5 (by kernel_rfl)
    refine cl 4 h (grammar_typed_ok _) (by kernel_rfl) fun v12 h => ?_
    refine cd 3 h (by kernel_rfl) (fun h => ?_) fun h => ?_
    ·cases h; exact lor 5 (by kernel_rfl)
    refine sst 5 (e_mapUpdate (t := 54) (x := (.tmp 63)) (y := (.tmp 65)) (v := (.const (.bool true))) (enc := eB) (m := v9.2) (s := v10.name) (z := true) (id := 2) (d := tt54) (kt := 9) (et := 4) (kd := tt9) (by kernel_rfl) tt_ok rfl (by kernel_rfl) rfl (by kernel_rfl) (by kernel_rfl) (by kernel_rfl) (by kernel_rfl) (by kernel_rfl)) (by kernel_rfl) ?_
    cases h; exact lj 5 (by kernel_rfl)
   cases h; exact lo 1 (by kernel_rfl)
  rcases v13 with v14 | v23
  ·try simp only [Sum.elim_inl, Sum.elim_inr] at h
   obtain ⟨rfl, hle⟩ := hq
   refine ⟨_, hle, ?_⟩
   refine cd 8 h (by kernel_rfl) (fun h => ?_) fun h => ?_
   ·cases h; exact lq 5 (by kernel_rfl)
   refine lpx 10 (fun v15 => ⟨92, [(1, (.ref 1 0 0)), (72, (.fz ((eL 9 eRu) (a0.rules)))), (73, (fI ((List.length a0.rules : Int)))), (74, (fI (v15)))], (grammar_Check_m0 a0), [1], []⟩) (fun v20 e st => Sum.elim (fun p => e = .exit 5 ∧ LeSt st ⟨92, [], [], [], []⟩) (fun p => e = .ret ∧ retX TT st Tryz.f12.results.toList [.one .keep] = some (eI (p))) v20) h (by kernel_rfl) (le_a (by kernel_rfl)) (fun v15 r h => ?_) fun v20 h e st' hq => ?_
   ·unfold grammar_Check_l1 at h
    refine cd 5 h (by kernel_rfl) (fun h => ?_) fun h => ?_
    ·refine ix nRu 6 h (by kernel_rfl) fun v16 h => ?_
     refine cl 10 h (grammar_rule_ok _ _) (by kernel_rfl) fun v17 h => ?_
     refine cd 7 h (by kernel_rfl) (fun h => ?_) fun h => ?_
     ·cases h; exact lor 6 (by kernel_rfl)
     obtain ⟨v18, hv18, h⟩ := Option.bind_eq_some_iff.1 h
     refine nst 6 (s_cutL (t := 24) (x := (.tmp 86)) (lo := none) (hi := (some (.tmp 87))) (d := tt24) (e := 47) (de := tt47) (size := 9) (enc := eRu) (xs := a0.rules) (l := none) (h := (some v15)) hv18 tt_ok (by kernel_rfl) (by kernel_rfl) (by kernel_rfl) (by kernel_rfl) (by kernel_rfl) (by kernel_rfl) (by kernel_rfl) (by kernel_rfl)) (by kernel_rfl) ?_
     refine hcl 1 [.one .keep, .one .keep] [(2, 1)] [(1, 2)] [1] h (slices_ContainsFunc_api_Rule_api_Rule_h_ok _ _) (fun _ => by kernel_rfl) fun v19 h => ?_
     refine cd 1 h (by kernel_rfl) (fun h => ?_) fun h => ?_
     ·cases h; exact lor 5 (by kernel_rfl)
     cases h; exact lj 5 (by kernel_rfl)
    cases h; exact lo 1 (by kernel_rfl)
   rcases v20 with v21 | v22
   ·try simp only [Sum.elim_inl, Sum.elim_inr] at h
    obtain ⟨rfl, hle⟩ := hq
    refine ⟨_, hle, ?_⟩
    cases h; exact lq 5 (by kernel_rfl)
   ·try simp only [Sum.elim_inl, Sum.elim_inr] at h
    obtain ⟨rfl, hret⟩ := hq
    refine ⟨_, LeSt.refl, ?_⟩
    cases h; exact lv hret
  ·try simp only [Sum.elim_inl, Sum.elim_inr] at h
   obtain ⟨rfl, hret⟩ := hq
   refine ⟨_, LeSt.refl, ?_⟩
   cases h; exact lv hret
 ·try simp only [Sum.elim_inl, Sum.elim_inr] at h
  obtain ⟨rfl, hret⟩ := hq
  refine ⟨_, LeSt.refl, ?_⟩
  cases h; exact lv hret

def grammar_Of_l1 (a0 : La) (a1 : Int) (v1 : (Int) × (List Int)) : Option (((Int) × (List Int)) ⊕ ((List Int))) := (bif (decide (v1.1 < (List.length a0.rules : Int))) then (Option.bind ((Option.bind (idx a0.rules v1.1) fun v2 => (bif (v2.symbol == a1) then (Option.bind (app 8 v1.2 ([v1.1] : List (Int))) fun v3 => (some (v3))) else (some (v1.2)))) : Option ((List Int))) fun (v5 : (List Int)) => (some (.inl ((w64 (v1.1 + 1)), v5)))) else (some (.inr (v1.2))))
def grammar_Of (a0 : La) (a1 : Int) : Option (List Int) := (Option.bind (loopN (grammar_Of_l1 a0 a1) fuel (0, ([] : List (Int)))) fun (v7 : (List Int)) => (some v7))
theorem grammar_Of_ok (a0 : La) (a1 : Int) (r : List Int) (h : grammar_Of a0 a1 = some r) : PCall Tryz.prog 15 [eLa a0, eI a1] ((eL 1 eI) (r)) := by
 unfold grammar_Of at h
 refine pcl [.one (.sl 1)] Tryz.func15 (by kernel_rfl) (by kernel_rfl) (by kernel_rfl) ?_
 refine wle 18 (le_nilrow (e := 3) (size := 1) (t := 5) (id := 2) (by decide) (by kernel_rfl) (by kernel_rfl)) (by kernel_rfl) ?_
 refine lp1 0 (fun v1 => ⟨26, [(1, (fI (a1))), (5, (.row 2 (List.length (v1.2)))), (9, (.fz ((eL 9 eRu) (a0.rules)))), (10, (fI ((List.length a0.rules : Int)))), (11, (fI (v1.1)))], [(2, (.frow 3 1 (List.map eI (v1.2))))], [2], []⟩) (.exit 0) (fun v7 => ⟨26, [(5, (.row 2 (List.length (v7))))], [(2, (.frow 3 1 (List.map eI (v7))))], [2], []⟩) h (by kernel_rfl) (by kernel_rfl) (fun v1 r h => ?_) fun v7 h => ?_
 ·unfold grammar_Of_l1 at h
  refine cd 5 h (by kernel_rfl) (fun h => ?_) fun h => ?_
  ·refine jn1 3 .normal (fun v5 => ⟨26, [(1, (fI (a1))), (5, (.row 2 (List.length (v5)))), (9, (.fz ((eL 9 eRu) (a0.rules)))), (10, (fI ((List.length a0.rules : Int)))), (11, (fI (v1.1)))], [(2, (.frow 3 1 (List.map eI (v5))))], [2], []⟩) h (by kernel_rfl) (fun v5 h => ?_) fun v5 h => ?_
   ·refine ix nRu 3 h (by kernel_rfl) fun v2 h => ?_
    refine cd 12 h (by kernel_rfl) (fun h => ?_) fun h => ?_
    ·refine ap nI 4 h (by kernel_rfl) fun v3 h => ?_
     cases h; exact lj 2 (by kernel_rfl)
    cases h; exact lj 1 (by kernel_rfl)
   cases h; exact lj 4 (by kernel_rfl)
  cases h; exact lo 1 (by kernel_rfl)
 refine wle 5 (le_freeze (t := 4) (id := 2) (n := List.length (v7)) (e := 3) (size := 1) (xs := List.map eI (v7)) (by kernel_rfl) (by kernel_rfl) (by simp)) (by kernel_rfl) ?_
 cases h; exact lq 1 (by kernel_rfl)

def grammar_productive_1_h_m0 (p0 : Env) (q0 : Nat → Prop) (w0 : World) (a1 : List Bool) : List (Nat × AObj) := [(0, (.was p0 [1, 2] q0 w0)), (1, (.box 35 [(.row 2 (List.length (a1)))])), (2, (.frow 4 1 (List.map eB (a1))))]
def grammar_productive_1_h_l1 (a0 : Ru) (a1 : List Bool) (v1 : (Int)) : Option (((Int)) ⊕ (((Unit) ⊕ (Unit)))) := (bif (decide (v1 < (List.length a0.args : Int))) then (Option.bind (idx a0.args v1) fun v2 => (Option.bind (idx a1 v2) fun v3 => (bif (!v3) then (some (.inr (.inr ()))) else (some (.inl ((w64 (v1 + 1)))))))) else (some (.inr (.inl ()))))
def grammar_productive_1_h (a0 : Ru) (a1 : List Bool) : Option ((Bool)) := (Option.bind (loopN (grammar_productive_1_h_l1 a0 a1) fuel (0)) fun (v4 : ((Unit) ⊕ (Unit))) => Sum.elim (fun v5 => (some (true))) (fun v6 => (some (false))) v4)
theorem grammar_productive_1_h_ok (a0 : Ru) (a1 : List Bool) (r : (Bool)) (h : grammar_productive_1_h a0 a1 = some r) : HCall Tryz.prog 67 ([(.fz (eRu (a0)))] ++ [(.ref 1 0 0)]) [(1, (.box 35 [(.row 2 (List.length (a1)))])), (2, (.frow 4 1 (List.map eB (a1))))] [1, 2] (.ret (fB (r))) [(1, (.box 35 [(.row 2 (List.length (a1)))])), (2, (.frow 4 1 (List.map eB (a1))))] [1, 2] := by
 unfold grammar_productive_1_h at h
 refine hcx (gi := 0) Tryz.func67 (by kernel_rfl) (by kernel_rfl) (by kernel_rfl) (by kernel_rfl) (by kernel_rfl) (by kernel_rfl) (by kernel_rfl) (by kernel_rfl) ?_
 intro p0 q0 w0
 refine lpx 14 (fun v1 => ⟨19, [(1, (.ref 1 0 0)), (7, (.fz ((eL 1 eI) (a0.args)))), (8, (fI ((List.length a0.args : Int)))), (9, (fI (v1)))], (grammar_productive_1_h_m0 p0 q0 w0 a1), [0, 1, 2], []⟩) (fun v4 e st => Sum.elim (fun p => e = .exit 0 ∧ LeSt st ⟨19, [], (grammar_productive_1_h_m0 p0 q0 w0 a1), [0, 1, 2], []⟩) (fun p => e = .ret ∧ LeSt st ⟨19, [(3, (fB (false)))], (grammar_productive_1_h_m0 p0 q0 w0 a1), [0, 1, 2], []⟩) v4) h (by kernel_rfl) (le_a (by kernel_rfl)) (fun v1 r h => ?_) fun v4 h e st' hq => ?_
 ·unfold grammar_productive_1_h_l1 at h
  refine cd 5 h (by kernel_rfl) (fun h => ?_) fun h => ?_
  ·refine ix nI 5 h (by kernel_rfl) fun v2 h => ?_
   obtain ⟨v3, hv3, h⟩ := Option.bind_eq_some_iff.1 h
   refine nst 7 (n_rowAddr (t := 35) (X := (.tmp 13)) (Y := (.tmp 14)) (id := 2) (k := .i64) (d := tt35) (e := 4) (de := tt4) (enc := eB) (xs := a1) (n := List.length (a1)) hv3 tt_ok (by kernel_rfl) (by kernel_rfl) (by kernel_rfl) (by kernel_rfl) (by kernel_rfl) (by kernel_rfl) (by kernel_rfl) rfl (by kernel_rfl)) (by kernel_rfl) ?_
   refine nst 0 (n_rowLoad (t := 4) (X := (.tmp 15)) (id := 2) (d := tt4) (enc := eB) (xs := a1) (x := v3) (i := v2) (n := List.length (a1)) hv3 tt_ok (by kernel_rfl) (by kernel_rfl) (by kernel_rfl) (by kernel_rfl) (by kernel_rfl) rfl (fun _ => rfl)) (by kernel_rfl) ?_
   refine cd 2 h (by kernel_rfl) (fun h => ?_) fun h => ?_
   ·cases h; exact lo 5 (by kernel_rfl)
   cases h; exact lj 5 (by kernel_rfl)
  cases h; exact lo 1 (by kernel_rfl)
 rcases v4 with v5 | v6
 ·try simp only [Sum.elim_inl, Sum.elim_inr] at h
  obtain ⟨rfl, hle⟩ := hq
  refine ⟨_, hle, ?_⟩
  obtain rfl := Option.some.inj h; exact lh 5 ⟨19, [(3, (fB (true)))], (grammar_productive_1_h_m0 p0 q0 w0 a1), [0, 1, 2], []⟩ (le_a (by kernel_rfl)) rfl rfl (by kernel_rfl) (by kernel_rfl)
 ·try simp only [Sum.elim_inl, Sum.elim_inr] at h
  obtain ⟨rfl, hle⟩ := hq
  refine ⟨_, hle, ?_⟩
  obtain rfl := Option.some.inj h; exact lh 0 ⟨19, [(3, (fB (false)))], (grammar_productive_1_h_m0 p0 q0 w0 a1), [0, 1, 2], []⟩ (le_a (by kernel_rfl)) rfl rfl (by kernel_rfl) (by kernel_rfl)

def grammar_productive_l1 (a0 : La) (v3 : (Int) × (List Bool)) : Option (((Int) × (List Bool)) ⊕ ((List Bool))) := (bif (decide (v3.1 < (List.length a0.rules : Int))) then (Option.bind (idx a0.rules v3.1) fun v4 => (Option.bind ((Option.bind (idx v3.2 v4.symbol) fun v5 => (bif v5 then (Option.bind (idx v3.2 v4.symbol) fun v6 => (some ((List.set v3.2 (Int.toNat v4.symbol) true)))) else (Option.bind (grammar_productive_1_h (v4) (v3.2)) fun v7 => (Option.bind (idx v3.2 v4.symbol) fun v8 => (some ((List.set v3.2 (Int.toNat v4.symbol) v7))))))) : Option ((List Bool))) fun (v10 : (List Bool)) => (some (.inl ((w64 (v3.1 + 1)), v10))))) else (some (.inr (v3.2))))
def grammar_productive_l2 (a0 : La) (v2 : (Int) × (List Bool)) : Option (((Int) × (List Bool)) ⊕ ((List Bool))) := (bif (decide (v2.1 < (List.length a0.symbols : Int))) then (Option.bind (loopN (grammar_productive_l1 a0) fuel (0, v2.2)) fun (v12 : (List Bool)) => (some (.inl ((w64 (v2.1 + 1)), v12)))) else (some (.inr (v2.2))))
def grammar_productive (a0 : La) : Option (List Bool) := (Option.bind (mkL 1 false (List.length a0.symbols : Int)) fun v1 => (Option.bind (loopN (grammar_productive_l2 a0) fuel (0, v1)) fun (v14 : (List Bool)) => (some v14)))
theorem grammar_productive_ok (a0 : La) (r : List Bool) (h : grammar_productive a0 = some r) : PCall Tryz.prog 43 [eLa a0] ((eL 1 eB) (r)) := by
 unfold grammar_productive at h
 refine pcl [.one (.sl 1)] Tryz.func43 (by kernel_rfl) (by kernel_rfl) (by kernel_rfl) ?_
 obtain ⟨v1, hv1, h⟩ := Option.bind_eq_some_iff.1 h
 refine sst 10 (s_make (t := 35) (X := (.tmp 9)) (Y := (.tmp 9)) (id := 2) (k := .i64) (k' := .i64) (d := tt35) (e := 4) (de := tt4) (enc := eB) (zv := .bool false) hv1 (by kernel_rfl) tt_ok (by kernel_rfl) (by kernel_rfl) (by kernel_rfl) rfl rfl rfl rfl rfl (by kernel_rfl) (by kernel_rfl) (by kernel_rfl)) (by kernel_rfl) ?_
 refine lp1 17 (fun v2 => ⟨41, [(1, (.ref 1 0 0)), (3, (.ref 3 0 0)), (4, (.fn 67 [(.ref 3 0 0)])), (14, (fI ((List.length a0.symbols : Int)))), (15, (fI (v2.1)))], [(1, (.box 26 [(fS (a0.name)), (.fz ((eL 1 eI) (a0.inputs))), (.fz ((eL 2 eSy) (a0.symbols))), (.fz ((eL 9 eRu) (a0.rules)))])), (2, (.frow 4 1 (List.map eB (v2.2)))), (3, (.box 35 [(.row 2 (List.length (v2.2)))]))], [3, 2, 1], []⟩) (.exit 0) (fun v14 => ⟨41, [(3, (.ref 3 0 0))], [(2, (.frow 4 1 (List.map eB (v14)))), (3, (.box 35 [(.row 2 (List.length (v14)))]))], [3, 2], []⟩) h (by kernel_rfl) (by kernel_rfl) (fun v2 r h => ?_) fun v14 h => ?_
 ·unfold grammar_productive_l2 at h
  refine cd 5 h (by kernel_rfl) (fun h => ?_) fun h => ?_
  ·refine lp1 11 (fun v3 => ⟨41, [(1, (.ref 1 0 0)), (3, (.ref 3 0 0)), (4, (.fn 67 [(.ref 3 0 0)])), (14, (fI ((List.length a0.symbols : Int)))), (15, (fI (v2.1))), (18, (.fz ((eL 9 eRu) (a0.rules)))), (19, (fI ((List.length a0.rules : Int)))), (20, (fI (v3.1)))], [(1, (.box 26 [(fS (a0.name)), (.fz ((eL 1 eI) (a0.inputs))), (.fz ((eL 2 eSy) (a0.symbols))), (.fz ((eL 9 eRu) (a0.rules)))])), (2, (.frow 4 1 (List.map eB (v3.2)))), (3, (.box 35 [(.row 2 (List.length (v3.2)))]))], [3, 2, 1], []⟩) (.exit 2) (fun v12 => ⟨41, [(1, (.ref 1 0 0)), (3, (.ref 3 0 0)), (4, (.fn 67 [(.ref 3 0 0)])), (14, (fI ((List.length a0.symbols : Int)))), (15, (fI (v2.1)))], [(1, (.box 26 [(fS (a0.name)), (.fz ((eL 1 eI) (a0.inputs))), (.fz ((eL 2 eSy) (a0.symbols))), (.fz ((eL 9 eRu) (a0.rules)))])), (2, (.frow 4 1 (List.map eB (v12)))), (3, (.box 35 [(.row 2 (List.length (v12)))]))], [3, 2, 1], []⟩) h (by kernel_rfl) (by kernel_rfl) (fun v3 r h => ?_) fun v12 h => ?_
   ·unfold grammar_productive_l1 at h
    refine cd 5 h (by kernel_rfl) (fun h => ?_) fun h => ?_
    ·refine ix nRu 5 h (by kernel_rfl) fun v4 h => ?_
     refine jn1 4 .normal (fun v10 => ⟨41, [(1, (.ref 1 0 0)), (3, (.ref 3 0 0)), (4, (.fn 67 [(.ref 3 0 0)])), (14, (fI ((List.length a0.symbols : Int)))), (15, (fI (v2.1))), (18, (.fz ((eL 9 eRu) (a0.rules)))), (19, (fI ((List.length a0.rules : Int)))), (20, (fI (v3.1)))], [(1, (.box 26 [(fS (a0.name)), (.fz ((eL 1 eI) (a0.inputs))), (.fz ((eL 2 eSy) (a0.symbols))), (.fz ((eL 9 eRu) (a0.rules)))])), (2, (.frow 4 1 (List.map eB (v10)))), (3, (.box 35 [(.row 2 (List.length (v10)))]))], [3, 2, 1], []⟩) h (by kernel_rfl) (fun v10 h => ?_) fun v10 h => ?_
     ·refine dz 0 13 [11] [] (List.range 5) (by kernel_rfl) ?_
      obtain ⟨v5, hv5, h⟩ := Option.bind_eq_some_iff.1 h
      refine nst 6 (n_rowAddr (t := 35) (X := (.tmp 27)) (Y := (.tmp 29)) (id := 2) (k := .i64) (d := tt35) (e := 4) (de := tt4) (enc := eB) (xs := v3.2) (n := List.length (v3.2)) hv5 tt_ok (by kernel_rfl) (by kernel_rfl) (by kernel_rfl) (by kernel_rfl) (by kernel_rfl) (by kernel_rfl) (by kernel_rfl) rfl (by kernel_rfl)) (by kernel_rfl) ?_
      refine nst 0 (n_rowLoad (t := 4) (X := (.tmp 30)) (id := 2) (d := tt4) (enc := eB) (xs := v3.2) (x := v5) (i := v4.symbol) (n := List.length (v3.2)) hv5 tt_ok (by kernel_rfl) (by kernel_rfl) (by kernel_rfl) (by kernel_rfl) (by kernel_rfl) rfl (fun _ => rfl)) (by kernel_rfl) ?_
      refine gd 1 h (by kernel_rfl) (fun h => ?_) fun h => ?_
      ·obtain ⟨v6, hv6, h⟩ := Option.bind_eq_some_iff.1 h
       refine nst 5 (n_rowAddr (t := 35) (X := (.tmp 24)) (Y := (.tmp 26)) (id := 2) (k := .i64) (d := tt35) (e := 4) (de := tt4) (enc := eB) (xs := v3.2) (n := List.length (v3.2)) hv6 tt_ok (by kernel_rfl) (by kernel_rfl) (by kernel_rfl) (by kernel_rfl) (by kernel_rfl) (by kernel_rfl) (by kernel_rfl) rfl (by kernel_rfl)) (by kernel_rfl) ?_
       refine sst 0 (e_rowStore (t := 4) (X := (.tmp 37)) (Y := (.tmp 36)) (id := 2) (d := tt4) (enc := eB) (xs := v3.2) (x := v6) (i := v4.symbol) (y := true) (n := List.length (v3.2)) hv6 tt_ok (by kernel_rfl) (by kernel_rfl) (by kernel_rfl) (by kernel_rfl) (by kernel_rfl) rfl (by kernel_rfl) (fun _ => ⟨_, rfl, rfl⟩)) (by kernel_rfl) ?_
       refine wle 0 (LeSt.trans (show LeSt _ ⟨41, [(1, (.ref 1 0 0)), (3, (.ref 3 0 0)), (4, (.fn 67 [(.ref 3 0 0)])), (14, (fI ((List.length a0.symbols : Int)))), (15, (fI (v2.1))), (18, (.fz ((eL 9 eRu) (a0.rules)))), (19, (fI ((List.length a0.rules : Int)))), (20, (fI (v3.1))), (24, (.row 2 (List.length (v3.2)))), (26, (fI (v4.symbol))), (36, (fB (true)))], [(1, (.box 26 [(fS (a0.name)), (.fz ((eL 1 eI) (a0.inputs))), (.fz ((eL 2 eSy) (a0.symbols))), (.fz ((eL 9 eRu) (a0.rules)))])), (2, (.frow 4 1 (List.map eB ((List.set v3.2 (Int.toNat v4.symbol) true))))), (3, (.box 35 [(.row 2 (List.length (v3.2)))]))], [3, 2, 1], []⟩ from le_a (by kernel_rfl)) (LeSt.trans (le_relen 2 (k := 2) (m := List.length (v3.2)) (n := List.length ((List.set v3.2 (Int.toNat v4.symbol) true))) (by kernel_rfl) (by simp)) (show LeSt _ ⟨41, [(1, (.ref 1 0 0)), (3, (.ref 3 0 0)), (4, (.fn 67 [(.ref 3 0 0)])), (14, (fI ((List.length a0.symbols : Int)))), (15, (fI (v2.1))), (18, (.fz ((eL 9 eRu) (a0.rules)))), (19, (fI ((List.length a0.rules : Int)))), (20, (fI (v3.1))), (24, (.row 2 (List.length ((List.set v3.2 (Int.toNat v4.symbol) true))))), (26, (fI (v4.symbol))), (36, (fB (true)))], [(1, (.box 26 [(fS (a0.name)), (.fz ((eL 1 eI) (a0.inputs))), (.fz ((eL 2 eSy) (a0.symbols))), (.fz ((eL 9 eRu) (a0.rules)))])), (2, (.frow 4 1 (List.map eB ((List.set v3.2 (Int.toNat v4.symbol) true))))), (3, (.box 35 [(.row 2 (List.length ((List.set v3.2 (Int.toNat v4.symbol) true))))]))], [3, 2, 1], []⟩ from le_a (by kernel_rfl)))) (by kernel_rfl) ?_
       cases h; exact lj 1 (by kernel_rfl)
      refine hclZ 2 [.one .keep] [(3, 1), (2, 2)] [(1, 3), (2, 2)] [1, 2] h (grammar_productive_1_h_ok _ _) (fun _ => by kernel_rfl) (by kernel_rfl) (fun _ => by kernel_rfl) fun v7 h => ?_
      obtain ⟨v8, hv8, h⟩ := Option.bind_eq_some_iff.1 h
      refine nst 2 (n_rowAddr (t := 35) (X := (.tmp 24)) (Y := (.tmp 26)) (id := 2) (k := .i64) (d := tt35) (e := 4) (de := tt4) (enc := eB) (xs := v3.2) (n := List.length (v3.2)) hv8 tt_ok (by kernel_rfl) (by kernel_rfl) (by kernel_rfl) (by kernel_rfl) (by kernel_rfl) (by kernel_rfl) (by kernel_rfl) rfl (by kernel_rfl)) (by kernel_rfl) ?_
      refine sst 0 (e_rowStore (t := 4) (X := (.tmp 37)) (Y := (.tmp 36)) (id := 2) (d := tt4) (enc := eB) (xs := v3.2) (x := v8) (i := v4.symbol) (y := v7) (n := List.length (v3.2)) hv8 tt_ok (by kernel_rfl) (by kernel_rfl) (by kernel_rfl) (by kernel_rfl) (by kernel_rfl) rfl (by kernel_rfl) (fun _ => ⟨_, rfl, rfl⟩)) (by kernel_rfl) ?_
      refine wle 0 (LeSt.trans (show LeSt _ ⟨41, [(1, (.ref 1 0 0)), (3, (.ref 3 0 0)), (4, (.fn 67 [(.ref 3 0 0)])), (14, (fI ((List.length a0.symbols : Int)))), (15, (fI (v2.1))), (18, (.fz ((eL 9 eRu) (a0.rules)))), (19, (fI ((List.length a0.rules : Int)))), (20, (fI (v3.1))), (24, (.row 2 (List.length (v3.2)))), (26, (fI (v4.symbol))), (36, (fB (v7)))], [(1, (.box 26 [(fS (a0.name)), (.fz ((eL 1 eI) (a0.inputs))), (.fz ((eL 2 eSy) (a0.symbols))), (.fz ((eL 9 eRu) (a0.rules)))])), (2, (.frow 4 1 (List.map eB ((List.set v3.2 (Int.toNat v4.symbol) v7))))), (3, (.box 35 [(.row 2 (List.length (v3.2)))]))], [3, 2, 1], []⟩ from le_a (by kernel_rfl)) (LeSt.trans (le_relen 2 (k := 2) (m := List.length (v3.2)) (n := List.length ((List.set v3.2 (Int.toNat v4.symbol) v7))) (by kernel_rfl) (by simp)) (show LeSt _ ⟨41, [(1, (.ref 1 0 0)), (3, (.ref 3 0 0)), (4, (.fn 67 [(.ref 3 0 0)])), (14, (fI ((List.length a0.symbols : Int)))), (15, (fI (v2.1))), (18, (.fz ((eL 9 eRu) (a0.rules)))), (19, (fI ((List.length a0.rules : Int)))), (20, (fI (v3.1))), (24, (.row 2 (List.length ((List.set v3.2 (Int.toNat v4.symbol) v7))))), (26, (fI (v4.symbol))), (36, (fB (v7)))], [(1, (.box 26 [(fS (a0.name)), (.fz ((eL 1 eI) (a0.inputs))), (.fz ((eL 2 eSy) (a0.symbols))), (.fz ((eL 9 eRu) (a0.rules)))])), (2, (.frow 4 1 (List.map eB ((List.set v3.2 (Int.toNat v4.symbol) v7))))), (3, (.box 35 [(.row 2 (List.length ((List.set v3.2 (Int.toNat v4.symbol) v7))))]))], [3, 2, 1], []⟩ from le_a (by kernel_rfl)))) (by kernel_rfl) ?_
      cases h; exact lj 1 (by kernel_rfl)
     cases h; exact lj 4 (by kernel_rfl)
    cases h; exact lo 1 (by kernel_rfl)
   cases h; exact lj 4 (by kernel_rfl)
  cases h; exact lo 1 (by kernel_rfl)
 refine wle 5 (le_freeze (t := 2) (id := 2) (n := List.length (v14)) (e := 4) (size := 1) (xs := List.map eB (v14)) (by kernel_rfl) (by kernel_rfl) (by simp)) (by kernel_rfl) ?_
 cases h; exact lq 1 (by kernel_rfl)

def grammar_Productive (a0 : La) : Option (List Bool) := (Option.bind (grammar_Check (a0)) fun v1 => (bif (v1 != 0) then (some ([] : List Bool)) else (Option.bind (grammar_productive (a0)) fun v2 => (some v2))))
theorem grammar_Productive_ok (a0 : La) (r : List Bool) (h : grammar_Productive a0 = some r) : PCall Tryz.prog 18 [eLa a0] ((eL 1 eB) (r)) := by
 unfold grammar_Productive at h
 refine pcl [.one (.sl 1)] Tryz.func18 (by kernel_rfl) (by kernel_rfl) (by kernel_rfl) ?_
 refine cl 9 h (grammar_Check_ok _) (by kernel_rfl) fun v1 h => ?_
 refine cd 2 h (by kernel_rfl) (fun h => ?_) fun h => ?_
 ·cases h; exact lq 5 (by kernel_rfl)
 refine cl 4 h (grammar_productive_ok _) (by kernel_rfl) fun v2 h => ?_
 cases h; exact lq 3 (by kernel_rfl)

def grammar_Reachable_1_h (a0 : Ru) : Option (Unit) := (some ())
theorem grammar_Reachable_1_h_ok (a0 : Ru) (r : Unit) (h : grammar_Reachable_1_h a0 = some r) : HCall Tryz.prog 46 ([(.fz (eRu (a0)))] ++ []) [] [] (.ret (fB (true))) [] [] := by
 unfold grammar_Reachable_1_h at h
 refine hcx (gi := 0) Tryz.func46 (by kernel_rfl) (by kernel_rfl) (by kernel_rfl) (by kernel_rfl) (by kernel_rfl) (by kernel_rfl) (by kernel_rfl) (by kernel_rfl) ?_
 intro p0 q0 w0
 obtain rfl := Option.some.inj h; exact lh 10 ⟨3, [(2, (fB (true)))], [(0, (.was p0 [] q0 w0))], [0], []⟩ (le_a (by kernel_rfl)) rfl rfl (by kernel_rfl) (by kernel_rfl)

def grammar_reach_1_h_m0 (p0 : Env) (q0 : Nat → Prop) (w0 : World) (a1 : La) (v17 : List Bool) : List (Nat × AObj) := [(0, (.was p0 [1, 2, 3, 4, 5] q0 w0)), (1, (.box 26 [(fS (a1.name)), (.fz ((eL 1 eI) (a1.inputs))), (.fz ((eL 2 eSy) (a1.symbols))), (.fz ((eL 9 eRu) (a1.rules)))])), (2, (.box 58 [(.fn 46 [])])), (3, (.box 35 [(.row 4 (List.length (v17)))])), (4, (.frow 4 1 (List.map eB (v17)))), (5, (.box 77 [(.fn 68 [(.ref 1 0 0), (.ref 2 0 0), (.ref 3 0 0), (.ref 5 0 0)])]))]
def grammar_reach_1_h_l1 (a1 : La) (r6 : (Int) → (La) → (List Bool) → Option ((List Bool))) (v6 : Ru) (v7 : (Int) × (List Bool)) : Option (((Int) × (List Bool)) ⊕ ((List Bool))) := (bif (decide (v7.1 < (List.length v6.args : Int))) then (Option.bind ((Option.bind (idx v6.args v7.1) fun v8 => (Option.bind (idx v7.2 v8) fun v9 => (bif (!v9) then (Option.bind (idx v7.2 v8) fun v10 => (Option.bind (r6 (v8) (a1) ((List.set v7.2 (Int.toNat v8) true))) fun v11 => (some (v11)))) else (some (v7.2))))) : Option ((List Bool))) fun (v13 : (List Bool)) => (some (.inl ((w64 (v7.1 + 1)), v13)))) else (some (.inr (v7.2))))
def grammar_reach_1_h_l2 (a1 : La) (r6 : (Int) → (La) → (List Bool) → Option ((List Bool))) (v1 : List Int) (v2 : (Int) × (List Bool)) : Option (((Int) × (List Bool)) ⊕ ((List Bool))) := (bif (decide (v2.1 < (List.length v1 : Int))) then (Option.bind (idx v1 v2.1) fun v3 => (Option.bind (idx a1.rules v3) fun v4 => (Option.bind (grammar_Reachable_1_h (v4)) fun v5 => (Option.bind (idx a1.rules v3) fun v6 => (Option.bind (loopN (grammar_reach_1_h_l1 a1 r6 v6) fuel (0, v2.2)) fun (v15 : (List Bool)) => (some (.inl ((w64 (v2.1 + 1)), v15)))))))) else (some (.inr (v2.2))))
def grammar_reach_1_h_b (r6 : (Int) → (La) → (List Bool) → Option ((List Bool))) (a0 : Int) (a1 : La) (a2 : List Bool) : Option ((List Bool)) := (Option.bind (grammar_Of (a1) (a0)) fun v1 => (Option.bind (loopN (grammar_reach_1_h_l2 a1 r6 v1) fuel (0, a2)) fun (v17 : (List Bool)) => (some (v17))))
theorem grammar_reach_1_h_b_ok (r6 : (Int) → (La) → (List Bool) → Option ((List Bool))) (ih6 : ∀ (x0 : Int) (x1 : La) (x2 : List Bool) r, r6 x0 x1 x2 = some r → HCall Tryz.prog 68 ([(fI (x0))] ++ [(.ref 1 0 0), (.ref 2 0 0), (.ref 3 0 0), (.ref 5 0 0)]) [(1, (.box 26 [(fS (x1.name)), (.fz ((eL 1 eI) (x1.inputs))), (.fz ((eL 2 eSy) (x1.symbols))), (.fz ((eL 9 eRu) (x1.rules)))])), (2, (.box 58 [(.fn 46 [])])), (3, (.box 35 [(.row 4 (List.length (x2)))])), (4, (.frow 4 1 (List.map eB (x2)))), (5, (.box 77 [(.fn 68 [(.ref 1 0 0), (.ref 2 0 0), (.ref 3 0 0), (.ref 5 0 0)])]))] [1, 2, 3, 4, 5] (.ret (.fz (.tup []))) [(1, (.box 26 [(fS (x1.name)), (.fz ((eL 1 eI) (x1.inputs))), (.fz ((eL 2 eSy) (x1.symbols))), (.fz ((eL 9 eRu) (x1.rules)))])), (2, (.box 58 [(.fn 46 [])])), (3, (.box 35 [(.row 4 (List.length (r)))])), (4, (.frow 4 1 (List.map eB (r)))), (5, (.box 77 [(.fn 68 [(.ref 1 0 0), (.ref 2 0 0), (.ref 3 0 0), (.ref 5 0 0)])]))] [1, 2, 3, 4, 5]) (a0 : Int) (a1 : La) (a2 : List Bool) (r : (List Bool)) (h : grammar_reach_1_h_b r6 a0 a1 a2 = some r) : HCall Tryz.prog 68 ([(fI (a0))] ++ [(.ref 1 0 0), (.ref 2 0 0), (.ref 3 0 0), (.ref 5 0 0)]) [(1, (.box 26 [(fS (a1.name)), (.fz ((eL 1 eI) (a1.inputs))), (.fz ((eL 2 eSy) (a1.symbols))), (.fz ((eL 9 eRu) (a1.rules)))])), (2, (.box 58 [(.fn 46 [])])), (3, (.box 35 [(.row 4 (List.length (a2)))])), (4, (.frow 4 1 (List.map eB (a2)))), (5, (.box 77 [(.fn 68 [(.ref 1 0 0), (.ref 2 0 0), (.ref 3 0 0), (.ref 5 0 0)])]))] [1, 2, 3, 4, 5] (.ret (.fz (.tup []))) [(1, (.box 26 [(fS (a1.name)), (.fz ((eL 1 eI) (a1.inputs))), (.fz ((eL 2 eSy) (a1.symbols))), (.fz ((eL 9 eRu) (a1.rules)))])), (2, (.box 58 [(.fn 46 [])])), (3, (.box 35 [(.row 4 (List.length (r)))])), (4, (.frow 4 1 (List.map eB (r)))), (5, (.box 77 [(.fn 68 [(.ref 1 0 0), (.ref 2 0 0), (.ref 3 0 0), (.ref 5 0 0)])]))] [1, 2, 3, 4, 5] := by
 unfold grammar_reach_1_h_b at h
 refine hcx (gi := 0) Tryz.func68 (by kernel_rfl) (by kernel_rfl) (by kernel_rfl) (by kernel_rfl) (by kernel_rfl) (by kernel_rfl) (by kernel_rfl) (by kernel_rfl) ?_
 intro p0 q0 w0
 refine cl 4 h (grammar_Of_ok _ _) (by kernel_rfl) fun v1 h => ?_
 refine lp1 4 (fun v2 => ⟨50, [(1, (.ref 1 0 0)), (2, (.ref 2 0 0)), (3, (.ref 3 0 0)), (4, (.ref 5 0 0)), (12, (.fz ((eL 1 eI) (v1)))), (13, (fI ((List.length v1 : Int)))), (14, (fI (v2.1)))], [(0, (.was p0 [1, 2, 3, 4, 5] q0 w0)), (1, (.box 26 [(fS (a1.name)), (.fz ((eL 1 eI) (a1.inputs))), (.fz ((eL 2 eSy) (a1.symbols))), (.fz ((eL 9 eRu) (a1.rules)))])), (2, (.box 58 [(.fn 46 [])])), (3, (.box 35 [(.row 4 (List.length (v2.2)))])), (4, (.frow 4 1 (List.map eB (v2.2)))), (5, (.box 77 [(.fn 68 [(.ref 1 0 0), (.ref 2 0 0), (.ref 3 0 0), (.ref 5 0 0)])]))], [0, 1, 2, 3, 4, 5], []⟩) (.exit 0) (fun v17 => ⟨50, [], (grammar_reach_1_h_m0 p0 q0 w0 a1 v17), [0, 1, 2, 3, 4, 5], []⟩) h (by kernel_rfl) (by kernel_rfl) (fun v2 r h => ?_) fun v17 h => ?_
 ·unfold grammar_reach_1_h_l2 at h
  refine cd 5 h (by kernel_rfl) (fun h => ?_) fun h => ?_
  ·refine ix nI 5 h (by kernel_rfl) fun v3 h => ?_
   refine dw 5 6 (by kernel_rfl) ?_
   refine ix nRu 4 h (by kernel_rfl) fun v4 h => ?_
   refine hcl 2 [.one .keep] [] [] [] h (grammar_Reachable_1_h_ok _) (fun _ => by kernel_rfl) fun v5 h => ?_
   refine ix nRu 9 h (by kernel_rfl) fun v6 h => ?_
   refine lp1 6 (fun v7 => ⟨50, [(1, (.ref 1 0 0)), (2, (.ref 2 0 0)), (3, (.ref 3 0 0)), (4, (.ref 5 0 0)), (12, (.fz ((eL 1 eI) (v1)))), (13, (fI ((List.length v1 : Int)))), (14, (fI (v2.1))), (31, (.fz ((eL 1 eI) (v6.args)))), (32, (fI ((List.length v6.args : Int)))), (33, (fI (v7.1)))], [(0, (.was p0 [1, 2, 3, 4, 5] q0 w0)), (1, (.box 26 [(fS (a1.name)), (.fz ((eL 1 eI) (a1.inputs))), (.fz ((eL 2 eSy) (a1.symbols))), (.fz ((eL 9 eRu) (a1.rules)))])), (2, (.box 58 [(.fn 46 [])])), (3, (.box 35 [(.row 4 (List.length (v7.2)))])), (4, (.frow 4 1 (List.map eB (v7.2)))), (5, (.box 77 [(.fn 68 [(.ref 1 0 0), (.ref 2 0 0), (.ref 3 0 0), (.ref 5 0 0)])]))], [0, 1, 2, 3, 4, 5], []⟩) (.exit 2) (fun v15 => ⟨50, [(1, (.ref 1 0 0)), (2, (.ref 2 0 0)), (3, (.ref 3 0 0)), (4, (.ref 5 0 0)), (12, (.fz ((eL 1 eI) (v1)))), (13, (fI ((List.length v1 : Int)))), (14, (fI (v2.1)))], [(0, (.was p0 [1, 2, 3, 4, 5] q0 w0)), (1, (.box 26 [(fS (a1.name)), (.fz ((eL 1 eI) (a1.inputs))), (.fz ((eL 2 eSy) (a1.symbols))), (.fz ((eL 9 eRu) (a1.rules)))])), (2, (.box 58 [(.fn 46 [])])), (3, (.box 35 [(.row 4 (List.length (v15)))])), (4, (.frow 4 1 (List.map eB (v15)))), (5, (.box 77 [(.fn 68 [(.ref 1 0 0), (.ref 2 0 0), (.ref 3 0 0), (.ref 5 0 0)])]))], [0, 1, 2, 3, 4, 5], []⟩) h (by kernel_rfl) (by kernel_rfl) (fun v7 r h => ?_) fun v15 h => ?_
   ·unfold grammar_reach_1_h_l1 at h
    refine cd 5 h (by kernel_rfl) (fun h => ?_) fun h => ?_
    ·refine jn1 3 .normal (fun v13 => ⟨50, [(1, (.ref 1 0 0)), (2, (.ref 2 0 0)), (3, (.ref 3 0 0)), (4, (.ref 5 0 0)), (12, (.fz ((eL 1 eI) (v1)))), (13, (fI ((List.length v1 : Int)))), (14, (fI (v2.1))), (31, (.fz ((eL 1 eI) (v6.args)))), (32, (fI ((List.length v6.args : Int)))), (33, (fI (v7.1)))], [(0, (.was p0 [1, 2, 3, 4, 5] q0 w0)), (1, (.box 26 [(fS (a1.name)), (.fz ((eL 1 eI) (a1.inputs))), (.fz ((eL 2 eSy) (a1.symbols))), (.fz ((eL 9 eRu) (a1.rules)))])), (2, (.box 58 [(.fn 46 [])])), (3, (.box 35 [(.row 4 (List.length (v13)))])), (4, (.frow 4 1 (List.map eB (v13)))), (5, (.box 77 [(.fn 68 [(.ref 1 0 0), (.ref 2 0 0), (.ref 3 0 0), (.ref 5 0 0)])]))], [0, 1, 2, 3, 4, 5], []⟩) h (by kernel_rfl) (fun v13 h => ?_) fun v13 h => ?_
     ·refine ix nI 2 h (by kernel_rfl) fun v8 h => ?_
      obtain ⟨v9, hv9, h⟩ := Option.bind_eq_some_iff.1 h
      refine nst 7 (n_rowAddr (t := 35) (X := (.tmp 37)) (Y := (.tmp 38)) (id := 4) (k := .i64) (d := tt35) (e := 4) (de := tt4) (enc := eB) (xs := v7.2) (n := List.length (v7.2)) hv9 tt_ok (by kernel_rfl) (by kernel_rfl) (by kernel_rfl) (by kernel_rfl) (by kernel_rfl) (by kernel_rfl) (by kernel_rfl) rfl (by kernel_rfl)) (by kernel_rfl) ?_
      refine nst 0 (n_rowLoad (t := 4) (X := (.tmp 39)) (id := 4) (d := tt4) (enc := eB) (xs := v7.2) (x := v9) (i := v8) (n := List.length (v7.2)) hv9 tt_ok (by kernel_rfl) (by kernel_rfl) (by kernel_rfl) (by kernel_rfl) (by kernel_rfl) rfl (fun _ => rfl)) (by kernel_rfl) ?_
      refine cd 2 h (by kernel_rfl) (fun h => ?_) fun h => ?_
      ·obtain ⟨v10, hv10, h⟩ := Option.bind_eq_some_iff.1 h
       refine nst 4 (n_rowAddr (t := 35) (X := (.tmp 42)) (Y := (.tmp 43)) (id := 4) (k := .i64) (d := tt35) (e := 4) (de := tt4) (enc := eB) (xs := v7.2) (n := List.length (v7.2)) hv10 tt_ok (by kernel_rfl) (by kernel_rfl) (by kernel_rfl) (by kernel_rfl) (by kernel_rfl) (by kernel_rfl) (by kernel_rfl) rfl (by kernel_rfl)) (by kernel_rfl) ?_
       refine sst 0 (e_rowStore (t := 4) (X := (.tmp 44)) (Y := (.const (.bool true))) (id := 4) (d := tt4) (enc := eB) (xs := v7.2) (x := v10) (i := v8) (y := true) (n := List.length (v7.2)) hv10 tt_ok (by kernel_rfl) (by kernel_rfl) (by kernel_rfl) (by kernel_rfl) (by kernel_rfl) rfl (by kernel_rfl) (fun _ => ⟨_, rfl, rfl⟩)) (by kernel_rfl) ?_
       refine wle 0 (LeSt.trans (show LeSt _ ⟨50, [(1, (.ref 1 0 0)), (2, (.ref 2 0 0)), (3, (.ref 3 0 0)), (4, (.ref 5 0 0)), (9, (fI (v8))), (12, (.fz ((eL 1 eI) (v1)))), (13, (fI ((List.length v1 : Int)))), (14, (fI (v2.1))), (31, (.fz ((eL 1 eI) (v6.args)))), (32, (fI ((List.length v6.args : Int)))), (33, (fI (v7.1))), (42, (.row 4 (List.length (v7.2)))), (43, (fI (v8)))], [(0, (.was p0 [1, 2, 3, 4, 5] q0 w0)), (1, (.box 26 [(fS (a1.name)), (.fz ((eL 1 eI) (a1.inputs))), (.fz ((eL 2 eSy) (a1.symbols))), (.fz ((eL 9 eRu) (a1.rules)))])), (2, (.box 58 [(.fn 46 [])])), (3, (.box 35 [(.row 4 (List.length (v7.2)))])), (4, (.frow 4 1 (List.map eB ((List.set v7.2 (Int.toNat v8) true))))), (5, (.box 77 [(.fn 68 [(.ref 1 0 0), (.ref 2 0 0), (.ref 3 0 0), (.ref 5 0 0)])]))], [0, 1, 2, 3, 4, 5], []⟩ from le_a (by kernel_rfl)) (LeSt.trans (le_relen 4 (k := 2) (m := List.length (v7.2)) (n := List.length ((List.set v7.2 (Int.toNat v8) true))) (by kernel_rfl) (by simp)) (show LeSt _ ⟨50, [(1, (.ref 1 0 0)), (2, (.ref 2 0 0)), (3, (.ref 3 0 0)), (4, (.ref 5 0 0)), (9, (fI (v8))), (12, (.fz ((eL 1 eI) (v1)))), (13, (fI ((List.length v1 : Int)))), (14, (fI (v2.1))), (31, (.fz ((eL 1 eI) (v6.args)))), (32, (fI ((List.length v6.args : Int)))), (33, (fI (v7.1))), (42, (.row 4 (List.length ((List.set v7.2 (Int.toNat v8) true))))), (43, (fI (v8)))], [(0, (.was p0 [1, 2, 3, 4, 5] q0 w0)), (1, (.box 26 [(fS (a1.name)), (.fz ((eL 1 eI) (a1.inputs))), (.fz ((eL 2 eSy) (a1.symbols))), (.fz ((eL 9 eRu) (a1.rules)))])), (2, (.box 58 [(.fn 46 [])])), (3, (.box 35 [(.row 4 (List.length ((List.set v7.2 (Int.toNat v8) true))))])), (4, (.frow 4 1 (List.map eB ((List.set v7.2 (Int.toNat v8) true))))), (5, (.box 77 [(.fn 68 [(.ref 1 0 0), (.ref 2 0 0), (.ref 3 0 0), (.ref 5 0 0)])]))], [0, 1, 2, 3, 4, 5], []⟩ from le_a (by kernel_rfl)))) (by kernel_rfl) ?_
       refine hcl 4 [.one .keep] [(1, 1), (2, 2), (3, 3), (4, 4), (5, 5)] [(1, 1), (2, 2), (3, 3), (4, 4), (5, 5)] [1, 2, 3, 4, 5] h (ih6 _ _ _) (fun _ => by kernel_rfl) fun v11 h => ?_
       cases h; exact lj 1 (by kernel_rfl)
      cases h; exact lj 1 (by kernel_rfl)
     cases h; exact lj 4 (by kernel_rfl)
    cases h; exact lo 1 (by kernel_rfl)
   cases h; exact lj 4 (by kernel_rfl)
  cases h; exact lo 1 (by kernel_rfl)
 obtain rfl := Option.some.inj h; exact lh 0 ⟨50, [], (grammar_reach_1_h_m0 p0 q0 w0 a1 v17), [0, 1, 2, 3, 4, 5], []⟩ (le_a (by kernel_rfl)) rfl rfl (by kernel_rfl) (by kernel_rfl)
def grammar_reach_1_h : Nat → (Int) → (La) → (List Bool) → Option ((List Bool))
  | 0 => fun _ _ _ => none
  | n + 1 => grammar_reach_1_h_b (grammar_reach_1_h n)
theorem grammar_reach_1_h_ok : ∀ n : Nat, ∀ (x0 : Int) (x1 : La) (x2 : List Bool) r, grammar_reach_1_h n x0 x1 x2 = some r → HCall Tryz.prog 68 ([(fI (x0))] ++ [(.ref 1 0 0), (.ref 2 0 0), (.ref 3 0 0), (.ref 5 0 0)]) [(1, (.box 26 [(fS (x1.name)), (.fz ((eL 1 eI) (x1.inputs))), (.fz ((eL 2 eSy) (x1.symbols))), (.fz ((eL 9 eRu) (x1.rules)))])), (2, (.box 58 [(.fn 46 [])])), (3, (.box 35 [(.row 4 (List.length (x2)))])), (4, (.frow 4 1 (List.map eB (x2)))), (5, (.box 77 [(.fn 68 [(.ref 1 0 0), (.ref 2 0 0), (.ref 3 0 0), (.ref 5 0 0)])]))] [1, 2, 3, 4, 5] (.ret (.fz (.tup []))) [(1, (.box 26 [(fS (x1.name)), (.fz ((eL 1 eI) (x1.inputs))), (.fz ((eL 2 eSy) (x1.symbols))), (.fz ((eL 9 eRu) (x1.rules)))])), (2, (.box 58 [(.fn 46 [])])), (3, (.box 35 [(.row 4 (List.length (r)))])), (4, (.frow 4 1 (List.map eB (r)))), (5, (.box 77 [(.fn 68 [(.ref 1 0 0), (.ref 2 0 0), (.ref 3 0 0), (.ref 5 0 0)])]))] [1, 2, 3, 4, 5]
  | 0 => fun _ _ _ _ h => by cases h
  | n + 1 => fun a0 a1 a2 r h => grammar_reach_1_h_b_ok (grammar_reach_1_h n) (grammar_reach_1_h_ok n) a0 a1 a2 r h

def grammar_reach_h (a0 : La) (a1 : Int) (a2 : Bool) : Option ((List Bool)) := (Option.bind (mkL 1 false (List.length a0.symbols : Int)) fun v1 => (Option.bind (idx v1 a1) fun v2 => (Option.bind (grammar_reach_1_h fuel (a1) (a0) ((List.set v1 (Int.toNat a1) a2))) fun v3 => (some (v3)))))
theorem grammar_reach_h_ok (a0 : La) (a1 : Int) (a2 : Bool) (r : (List Bool)) (h : grammar_reach_h a0 a1 a2 = some r) : HCall Tryz.prog 45 ([(.fz (eLa (a0))), (fI (a1)), (fB (a2)), (.fn 46 [])] ++ []) [] [] (.ret (.row 3 (List.length (r)))) [(3, (.frow 4 1 (List.map eB (r))))] [3] := by
 unfold grammar_reach_h at h
 refine hcx (gi := 0) Tryz.func45 (by kernel_rfl) (by kernel_rfl) (by kernel_rfl) (by kernel_rfl) (by kernel_rfl) (by kernel_rfl) (by kernel_rfl) (by kernel_rfl) ?_
 intro p0 q0 w0
 obtain ⟨v1, hv1, h⟩ := Option.bind_eq_some_iff.1 h
 refine sst 11 (s_make (t := 35) (X := (.tmp 13)) (Y := (.tmp 13)) (id := 3) (k := .i64) (k' := .i64) (d := tt35) (e := 4) (de := tt4) (enc := eB) (zv := .bool false) hv1 (by kernel_rfl) tt_ok (by kernel_rfl) (by kernel_rfl) (by kernel_rfl) rfl rfl rfl rfl rfl (by kernel_rfl) (by kernel_rfl) (by kernel_rfl)) (by kernel_rfl) ?_
 obtain ⟨v2, hv2, h⟩ := Option.bind_eq_some_iff.1 h
 refine nst 17 (n_rowAddr (t := 35) (X := (.tmp 16)) (Y := (.tmp 17)) (id := 3) (k := .i64) (d := tt35) (e := 4) (de := tt4) (enc := eB) (xs := v1) (n := List.length (v1)) hv2 tt_ok (by kernel_rfl) (by kernel_rfl) (by kernel_rfl) (by kernel_rfl) (by kernel_rfl) (by kernel_rfl) (by kernel_rfl) rfl (by kernel_rfl)) (by kernel_rfl) ?_
 refine sst 0 (e_rowStore (t := 4) (X := (.tmp 19)) (Y := (.tmp 18)) (id := 3) (d := tt4) (enc := eB) (xs := v1) (x := v2) (i := a1) (y := a2) (n := List.length (v1)) hv2 tt_ok (by kernel_rfl) (by kernel_rfl) (by kernel_rfl) (by kernel_rfl) (by kernel_rfl) rfl (by kernel_rfl) (fun _ => ⟨_, rfl, rfl⟩)) (by kernel_rfl) ?_
 refine wle 0 (LeSt.trans (show LeSt _ ⟨24, [(1, (fI (a1))), (9, (.ref 4 0 0)), (10, (.ref 5 0 0)), (16, (.row 3 (List.length (v1)))), (17, (fI (a1))), (18, (fB (a2)))], [(0, (.was p0 [] q0 w0)), (1, (.box 26 [(fS (a0.name)), (.fz ((eL 1 eI) (a0.inputs))), (.fz ((eL 2 eSy) (a0.symbols))), (.fz ((eL 9 eRu) (a0.rules)))])), (2, (.box 58 [(.fn 46 [])])), (3, (.frow 4 1 (List.map eB ((List.set v1 (Int.toNat a1) a2))))), (4, (.box 35 [(.row 3 (List.length (v1)))])), (5, (.box 77 [(.fn 68 [(.ref 1 0 0), (.ref 2 0 0), (.ref 4 0 0), (.ref 5 0 0)])]))], [5, 4, 3, 2, 1, 0], []⟩ from le_a (by kernel_rfl)) (LeSt.trans (le_relen 3 (k := 2) (m := List.length (v1)) (n := List.length ((List.set v1 (Int.toNat a1) a2))) (by kernel_rfl) (by simp)) (show LeSt _ ⟨24, [(1, (fI (a1))), (9, (.ref 4 0 0)), (10, (.ref 5 0 0)), (16, (.row 3 (List.length ((List.set v1 (Int.toNat a1) a2))))), (17, (fI (a1))), (18, (fB (a2)))], [(0, (.was p0 [] q0 w0)), (1, (.box 26 [(fS (a0.name)), (.fz ((eL 1 eI) (a0.inputs))), (.fz ((eL 2 eSy) (a0.symbols))), (.fz ((eL 9 eRu) (a0.rules)))])), (2, (.box 58 [(.fn 46 [])])), (3, (.frow 4 1 (List.map eB ((List.set v1 (Int.toNat a1) a2))))), (4, (.box 35 [(.row 3 (List.length ((List.set v1 (Int.toNat a1) a2))))])), (5, (.box 77 [(.fn 68 [(.ref 1 0 0), (.ref 2 0 0), (.ref 4 0 0), (.ref 5 0 0)])]))], [5, 4, 3, 2, 1, 0], []⟩ from le_a (by kernel_rfl)))) (by kernel_rfl) ?_
 refine hcl 5 [.one .keep] [(1, 1), (2, 2), (4, 3), (3, 4), (5, 5)] [(1, 1), (2, 2), (3, 4), (4, 3), (5, 5)] [1, 2, 3, 4, 5] h (grammar_reach_1_h_ok fuel _ _ _) (fun _ => by kernel_rfl) fun v3 h => ?_
 obtain rfl := Option.some.inj h; exact lh 7 ⟨24, [(8, (.row 3 (List.length (v3))))], [(0, (.was p0 [] q0 w0)), (3, (.frow 4 1 (List.map eB (v3))))], [0, 3], []⟩ (le_a (by kernel_rfl)) rfl rfl (by kernel_rfl) (by kernel_rfl)

def grammar_Reachable (a0 : La) : Option (List Bool) := (Option.bind (grammar_Check (a0)) fun v1 => (bif (v1 != 0) then (some ([] : List Bool)) else (Option.bind (grammar_reach_h (a0) (0) (true)) fun v2 => (some v2))))
theorem grammar_Reachable_ok (a0 : La) (r : List Bool) (h : grammar_Reachable a0 = some r) : PCall Tryz.prog 20 [eLa a0] ((eL 1 eB) (r)) := by
 unfold grammar_Reachable at h
 refine pcl [.one (.sl 1)] Tryz.func20 (by kernel_rfl) (by kernel_rfl) (by kernel_rfl) ?_
 refine cl 9 h (grammar_Check_ok _) (by kernel_rfl) fun v1 h => ?_
 refine cd 2 h (by kernel_rfl) (fun h => ?_) fun h => ?_
 ·cases h; exact lq 5 (by kernel_rfl)
 refine hcl 4 [.one .keep, .one .keep, .one .keep, .one .keep] [] [(3, 2)] [] h (grammar_reach_h_ok _ _ _) (fun _ => by kernel_rfl) fun v2 h => ?_
 refine wle 2 (le_freeze (t := 2) (id := 2) (n := List.length (v2)) (e := 4) (size := 1) (xs := List.map eB (v2)) (by kernel_rfl) (by kernel_rfl) (by simp)) (by kernel_rfl) ?_
 cases h; exact lq 1 (by kernel_rfl)

def grammar_complete_h (a0 : La) : Option ((List Bool)) := (Option.bind (grammar_productive (a0)) fun v1 => (some (v1)))
theorem grammar_complete_h_ok (a0 : La) (r : (List Bool)) (h : grammar_complete_h a0 = some r) : HCall Tryz.prog 48 ([(.fz (eLa (a0)))] ++ []) [] [] (.ret (.fn 69 [(.ref 2 0 0)])) [(2, (.box 35 [(.fz ((eL 1 eB) (r)))]))] [2] := by
 unfold grammar_complete_h at h
 refine hcx (gi := 0) Tryz.func48 (by kernel_rfl) (by kernel_rfl) (by kernel_rfl) (by kernel_rfl) (by kernel_rfl) (by kernel_rfl) (by kernel_rfl) (by kernel_rfl) ?_
 intro p0 q0 w0
 refine cl 8 h (grammar_productive_ok _) (by kernel_rfl) fun v1 h => ?_
 obtain rfl := Option.some.inj h; exact lh 9 ⟨7, [(2, (.fn 69 [(.ref 2 0 0)]))], [(0, (.was p0 [] q0 w0)), (2, (.box 35 [(.fz ((eL 1 eB) (v1)))]))], [0, 2], []⟩ (le_a (by kernel_rfl)) rfl rfl (by kernel_rfl) (by kernel_rfl)

def grammar_complete_1_h_l1 (a0 : Ru) (a1 : List Bool) (v1 : (Int)) : Option (((Int)) ⊕ (((Unit) ⊕ (Unit)))) := (bif (decide (v1 < (List.length a0.args : Int))) then (Option.bind (idx a0.args v1) fun v2 => (Option.bind (idx a1 v2) fun v3 => (bif (!v3) then (some (.inr (.inr ()))) else (some (.inl ((w64 (v1 + 1)))))))) else (some (.inr (.inl ()))))
def grammar_complete_1_h (a0 : Ru) (a1 : List Bool) : Option ((Bool)) := (Option.bind (loopN (grammar_complete_1_h_l1 a0 a1) fuel (0)) fun (v4 : ((Unit) ⊕ (Unit))) => Sum.elim (fun v5 => (some (true))) (fun v6 => (some (false))) v4)
theorem grammar_complete_1_h_ok (a0 : Ru) (a1 : List Bool) (r : (Bool)) (h : grammar_complete_1_h a0 a1 = some r) : HCall Tryz.prog 69 ([(.fz (eRu (a0)))] ++ [(.ref 1 0 0)]) [(1, (.box 35 [(.fz ((eL 1 eB) (a1)))]))] [1] (.ret (fB (r))) [(1, (.box 35 [(.fz ((eL 1 eB) (a1)))]))] [1] := by
 unfold grammar_complete_1_h at h
 refine hcx (gi := 0) Tryz.func69 (by kernel_rfl) (by kernel_rfl) (by kernel_rfl) (by kernel_rfl) (by kernel_rfl) (by kernel_rfl) (by kernel_rfl) (by kernel_rfl) ?_
 intro p0 q0 w0
 refine lpx 14 (fun v1 => ⟨19, [(1, (.ref 1 0 0)), (7, (.fz ((eL 1 eI) (a0.args)))), (8, (fI ((List.length a0.args : Int)))), (9, (fI (v1)))], [(0, (.was p0 [1] q0 w0)), (1, (.box 35 [(.fz ((eL 1 eB) (a1)))]))], [0, 1], []⟩) (fun v4 e st => Sum.elim (fun p => e = .exit 0 ∧ LeSt st ⟨19, [], [(0, (.was p0 [1] q0 w0)), (1, (.box 35 [(.fz ((eL 1 eB) (a1)))]))], [0, 1], []⟩) (fun p => e = .ret ∧ LeSt st ⟨19, [(3, (fB (false)))], [(0, (.was p0 [1] q0 w0)), (1, (.box 35 [(.fz ((eL 1 eB) (a1)))]))], [0, 1], []⟩) v4) h (by kernel_rfl) (le_a (by kernel_rfl)) (fun v1 r h => ?_) fun v4 h e st' hq => ?_
 ·unfold grammar_complete_1_h_l1 at h
  refine cd 5 h (by kernel_rfl) (fun h => ?_) fun h => ?_
  ·refine ix nI 5 h (by kernel_rfl) fun v2 h => ?_
   refine ix nB 7 h (by kernel_rfl) fun v3 h => ?_
   refine cd 3 h (by kernel_rfl) (fun h => ?_) fun h => ?_
   ·cases h; exact lo 5 (by kernel_rfl)
   cases h; exact lj 5 (by kernel_rfl)
  cases h; exact lo 1 (by kernel_rfl)
 rcases v4 with v5 | v6
 ·try simp only [Sum.elim_inl, Sum.elim_inr] at h
  obtain ⟨rfl, hle⟩ := hq
  refine ⟨_, hle, ?_⟩
  obtain rfl := Option.some.inj h; exact lh 5 ⟨19, [(3, (fB (true)))], [(0, (.was p0 [1] q0 w0)), (1, (.box 35 [(.fz ((eL 1 eB) (a1)))]))], [0, 1], []⟩ (le_a (by kernel_rfl)) rfl rfl (by kernel_rfl) (by kernel_rfl)
 ·try simp only [Sum.elim_inl, Sum.elim_inr] at h
  obtain ⟨rfl, hle⟩ := hq
  refine ⟨_, hle, ?_⟩
  obtain rfl := Option.some.inj h; exact lh 0 ⟨19, [(3, (fB (false)))], [(0, (.was p0 [1] q0 w0)), (1, (.box 35 [(.fz ((eL 1 eB) (a1)))]))], [0, 1], []⟩ (le_a (by kernel_rfl)) rfl rfl (by kernel_rfl) (by kernel_rfl)

def grammar_reach_1_h2_m0 (p0 : Env) (q0 : Nat → Prop) (w0 : World) (a1 : La) (a2 : List Bool) (v2 : (Int) × (List Bool)) : List (Nat × AObj) := [(0, (.was p0 [1, 2, 3, 4, 5, 6] q0 w0)), (1, (.box 26 [(fS (a1.name)), (.fz ((eL 1 eI) (a1.inputs))), (.fz ((eL 2 eSy) (a1.symbols))), (.fz ((eL 9 eRu) (a1.rules)))])), (2, (.box 58 [(.fn 69 [(.ref 3 0 0)])])), (3, (.box 35 [(.fz ((eL 1 eB) (a2)))])), (4, (.box 35 [(.row 5 (List.length (v2.2)))])), (5, (.frow 4 1 (List.map eB (v2.2)))), (6, (.box 77 [(.fn 68 [(.ref 1 0 0), (.ref 2 0 0), (.ref 4 0 0), (.ref 6 0 0)])]))]
def grammar_reach_1_h2_m1 (p0 : Env) (q0 : Nat → Prop) (w0 : World) (a1 : La) (a2 : List Bool) (v22 : List Bool) : List (Nat × AObj) := [(0, (.was p0 [1, 2, 3, 4, 5, 6] q0 w0)), (1, (.box 26 [(fS (a1.name)), (.fz ((eL 1 eI) (a1.inputs))), (.fz ((eL 2 eSy) (a1.symbols))), (.fz ((eL 9 eRu) (a1.rules)))])), (2, (.box 58 [(.fn 69 [(.ref 3 0 0)])])), (3, (.box 35 [(.fz ((eL 1 eB) (a2)))])), (4, (.box 35 [(.row 5 (List.length (v22)))])), (5, (.frow 4 1 (List.map eB (v22)))), (6, (.box 77 [(.fn 68 [(.ref 1 0 0), (.ref 2 0 0), (.ref 4 0 0), (.ref 6 0 0)])]))]
def grammar_reach_1_h2_l1 (a1 : La) (a2 : List Bool) (r10 : (Int) → (La) → (List Bool) → (List Bool) → Option ((List Bool))) (v6 : Ru) (v7 : (Int) × (List Bool)) : Option (((Int) × (List Bool)) ⊕ ((List Bool))) := (bif (decide (v7.1 < (List.length v6.args : Int))) then (Option.bind ((Option.bind (idx v6.args v7.1) fun v8 => (Option.bind (idx v7.2 v8) fun v9 => (bif (!v9) then (Option.bind (idx v7.2 v8) fun v10 => (Option.bind (r10 (v8) (a1) (a2) ((List.set v7.2 (Int.toNat v8) true))) fun v11 => (some (v11)))) else (some (v7.2))))) : Option ((List Bool))) fun (v13 : (List Bool)) => (some (.inl ((w64 (v7.1 + 1)), v13)))) else (some (.inr (v7.2))))
def grammar_reach_1_h2_l2 (a1 : La) (a2 : List Bool) (r10 : (Int) → (La) → (List Bool) → (List Bool) → Option ((List Bool))) (v1 : List Int) (v2 : (Int) × (List Bool)) : Option (((Int) × (List Bool)) ⊕ ((List Bool))) := (bif (decide (v2.1 < (List.length v1 : Int))) then (Option.bind ((Option.bind ((Option.bind (idx v1 v2.1) fun v3 => (Option.bind (idx a1.rules v3) fun v4 => (Option.bind (grammar_complete_1_h (v4) (a2)) fun v5 => (bif (!v5) then (some (.inr ())) else (Option.bind (idx a1.rules v3) fun v6 => (Option.bind (loopN (grammar_reach_1_h2_l1 a1 a2 r10 v6) fuel (0, v2.2)) fun (v15 : (List Bool)) => (some (.inl (v15))))))))) : Option ((((List Bool)) ⊕ (Unit)))) fun (v16 : (((List Bool)) ⊕ (Unit))) => Sum.elim (fun v17 => (some (v17))) (fun v18 => (some (v2.2))) v16) : Option ((List Bool))) fun (v20 : (List Bool)) => (some (.inl ((w64 (v2.1 + 1)), v20)))) else (some (.inr (v2.2))))
def grammar_reach_1_h2_b (r10 : (Int) → (La) → (List Bool) → (List Bool) → Option ((List Bool))) (a0 : Int) (a1 : La) (a2 : List Bool) (a3 : List Bool) : Option ((List Bool)) := (Option.bind (grammar_Of (a1) (a0)) fun v1 => (Option.bind (loopN (grammar_reach_1_h2_l2 a1 a2 r10 v1) fuel (0, a3)) fun (v22 : (List Bool)) => (some (v22))))
theorem grammar_reach_1_h2_b_ok (r10 : (Int) → (La) → (List Bool) → (List Bool) → Option ((List Bool))) (ih10 : ∀ (x0 : Int) (x1 : La) (x2 : List Bool) (x3 : List Bool) r, r10 x0 x1 x2 x3 = some r → HCall Tryz.prog 68 ([(fI (x0))] ++ [(.ref 1 0 0), (.ref 2 0 0), (.ref 4 0 0), (.ref 6 0 0)]) [(1, (.box 26 [(fS (x1.name)), (.fz ((eL 1 eI) (x1.inputs))), (.fz ((eL 2 eSy) (x1.symbols))), (.fz ((eL 9 eRu) (x1.rules)))])), (2, (.box 58 [(.fn 69 [(.ref 3 0 0)])])), (3, (.box 35 [(.fz ((eL 1 eB) (x2)))])), (4, (.box 35 [(.row 5 (List.length (x3)))])), (5, (.frow 4 1 (List.map eB (x3)))), (6, (.box 77 [(.fn 68 [(.ref 1 0 0), (.ref 2 0 0), (.ref 4 0 0), (.ref 6 0 0)])]))] [1, 2, 3, 4, 5, 6] (.ret (.fz (.tup []))) [(1, (.box 26 [(fS (x1.name)), (.fz ((eL 1 eI) (x1.inputs))), (.fz ((eL 2 eSy) (x1.symbols))), (.fz ((eL 9 eRu) (x1.rules)))])), (2, (.box 58 [(.fn 69 [(.ref 3 0 0)])])), (3, (.box 35 [(.fz ((eL 1 eB) (x2)))])), (4, (.box 35 [(.row 5 (List.length (r)))])), (5, (.frow 4 1 (List.map eB (r)))), (6, (.box 77 [(.fn 68 [(.ref 1 0 0), (.ref 2 0 0), (.ref 4 0 0), (.ref 6 0 0)])]))] [1, 2, 3, 4, 5, 6]) (a0 : Int) (a1 : La) (a2 : List Bool) (a3 : List Bool) (r : (List Bool)) (h : grammar_reach_1_h2_b r10 a0 a1 a2 a3 = some r) : HCall Tryz.prog 68 ([(fI (a0))] ++ [(.ref 1 0 0), (.ref 2 0 0), (.ref 4 0 0), (.ref 6 0 0)]) [(1, (.box 26 [(fS (a1.name)), (.fz ((eL 1 eI) (a1.inputs))), (.fz ((eL 2 eSy) (a1.symbols))), (.fz ((eL 9 eRu) (a1.rules)))])), (2, (.box 58 [(.fn 69 [(.ref 3 0 0)])])), (3, (.box 35 [(.fz ((eL 1 eB) (a2)))])), (4, (.box 35 [(.row 5 (List.length (a3)))])), (5, (.frow 4 1 (List.map eB (a3)))), (6, (.box 77 [(.fn 68 [(.ref 1 0 0), (.ref 2 0 0), (.ref 4 0 0), (.ref 6 0 0)])]))] [1, 2, 3, 4, 5, 6] (.ret (.fz (.tup []))) [(1, (.box 26 [(fS (a1.name)), (.fz ((eL 1 eI) (a1.inputs))), (.fz ((eL 2 eSy) (a1.symbols))), (.fz ((eL 9 eRu) (a1.rules)))])), (2, (.box 58 [(.fn 69 [(.ref 3 0 0)])])), (3, (.box 35 [(.fz ((eL 1 eB) (a2)))])), (4, (.box 35 [(.row 5 (List.length (r)))])), (5, (.frow 4 1 (List.map eB (r)))), (6, (.box 77 [(.fn 68 [(.ref 1 0 0), (.ref 2 0 0), (.ref 4 0 0), (.ref 6 0 0)])]))] [1, 2, 3, 4, 5, 6] := by
 unfold grammar_reach_1_h2_b at h
 refine hcx (gi := 0) Tryz.func68 (by kernel_rfl) (by kernel_rfl) (by kernel_rfl) (by kernel_rfl) (by kernel_rfl) (by kernel_rfl) (by kernel_rfl) (by kernel_rfl) ?_
 intro p0 q0 w0
 refine cl 4 h (grammar_Of_ok _ _) (by kernel_rfl) fun v1 h => ?_
 refine lp1 4 (fun v2 => ⟨50, [(1, (.ref 1 0 0)), (2, (.ref 2 0 0)), (3, (.ref 4 0 0)), (4, (.ref 6 0 0)), (12, (.fz ((eL 1 eI) (v1)))), (13, (fI ((List.length v1 : Int)))), (14, (fI (v2.1)))], (grammar_reach_1_h2_m0 p0 q0 w0 a1 a2 v2), [0, 1, 2, 3, 4, 5, 6], []⟩) (.exit 0) (fun v22 => ⟨50, [], (grammar_reach_1_h2_m1 p0 q0 w0 a1 a2 v22), [0, 1, 2, 3, 4, 5, 6], []⟩) h (by kernel_rfl) (by kernel_rfl) (fun v2 r h => ?_) fun v22 h => ?_
 ·unfold grammar_reach_1_h2_l2 at h
  refine cd 5 h (by kernel_rfl) (fun h => ?_) fun h => ?_
  ·refine jn1 2 .normal (fun v20 => ⟨50, [(1, (.ref 1 0 0)), (2, (.ref 2 0 0)), (3, (.ref 4 0 0)), (4, (.ref 6 0 0)), (12, (.fz ((eL 1 eI) (v1)))), (13, (fI ((List.length v1 : Int)))), (14, (fI (v2.1)))], [(0, (.was p0 [1, 2, 3, 4, 5, 6] q0 w0)), (1, (.box 26 [(fS (a1.name)), (.fz ((eL 1 eI) (a1.inputs))), (.fz ((eL 2 eSy) (a1.symbols))), (.fz ((eL 9 eRu) (a1.rules)))])), (2, (.box 58 [(.fn 69 [(.ref 3 0 0)])])), (3, (.box 35 [(.fz ((eL 1 eB) (a2)))])), (4, (.box 35 [(.row 5 (List.length (v20)))])), (5, (.frow 4 1 (List.map eB (v20)))), (6, (.box 77 [(.fn 68 [(.ref 1 0 0), (.ref 2 0 0), (.ref 4 0 0), (.ref 6 0 0)])]))], [0, 1, 2, 3, 4, 5, 6], []⟩) h (by kernel_rfl) (fun v20 h => ?_) fun v20 h => ?_
   ·refine jnQ 1 (fun v16 e st => Sum.elim (fun p => e = .normal ∧ LeSt st ⟨50, [(1, (.ref 1 0 0)), (2, (.ref 2 0 0)), (3, (.ref 4 0 0)), (4, (.ref 6 0 0)), (12, (.fz ((eL 1 eI) (v1)))), (13, (fI ((List.length v1 : Int)))), (14, (fI (v2.1)))], [(0, (.was p0 [1, 2, 3, 4, 5, 6] q0 w0)), (1, (.box 26 [(fS (a1.name)), (.fz ((eL 1 eI) (a1.inputs))), (.fz ((eL 2 eSy) (a1.symbols))), (.fz ((eL 9 eRu) (a1.rules)))])), (2, (.box 58 [(.fn 69 [(.ref 3 0 0)])])), (3, (.box 35 [(.fz ((eL 1 eB) (a2)))])), (4, (.box 35 [(.row 5 (List.length (p)))])), (5, (.frow 4 1 (List.map eB (p)))), (6, (.box 77 [(.fn 68 [(.ref 1 0 0), (.ref 2 0 0), (.ref 4 0 0), (.ref 6 0 0)])]))], [0, 1, 2, 3, 4, 5, 6], []⟩) (fun p => e = .exit 1 ∧ LeSt st ⟨50, [(1, (.ref 1 0 0)), (2, (.ref 2 0 0)), (3, (.ref 4 0 0)), (4, (.ref 6 0 0)), (12, (.fz ((eL 1 eI) (v1)))), (13, (fI ((List.length v1 : Int)))), (14, (fI (v2.1)))], (grammar_reach_1_h2_m0 p0 q0 w0 a1 a2 v2), [0, 1, 2, 3, 4, 5, 6], []⟩) v16) h (by kernel_rfl) (fun v16 h => ?_) fun v16 h e st' hq => ?_
    ·refine ix nI 2 h (by kernel_rfl) fun v3 h => ?_
     refine dw 5 6 (by kernel_rfl) ?_
     refine ix nRu 4 h (by kernel_rfl) fun v4 h => ?_
     refine hcl 2 [.one .keep] [(3, 1)] [(1, 3)] [1] h (grammar_complete_1_h_ok _ _) (fun _ => by kernel_rfl) fun v5 h => ?_
     refine cd 2 h (by kernel_rfl) (fun h => ?_) fun h => ?_
     ·cases h; exact lj 1 (by kernel_rfl)
     refine ix nRu 6 h (by kernel_rfl) fun v6 h => ?_
     refine lp1 6 (fun v7 => ⟨50, [(1, (.ref 1 0 0)), (2, (.ref 2 0 0)), (3, (.ref 4 0 0)), (4, (.ref 6 0 0)), (12, (.fz ((eL 1 eI) (v1)))), (13, (fI ((List.length v1 : Int)))), (14, (fI (v2.1))), (31, (.fz ((eL 1 eI) (v6.args)))), (32, (fI ((List.length v6.args : Int)))), (33, (fI (v7.1)))], [(0, (.was p0 [1, 2, 3, 4, 5, 6] q0 w0)), (1, (.box 26 [(fS (a1.name)), (.fz ((eL 1 eI) (a1.inputs))), (.fz ((eL 2 eSy) (a1.symbols))), (.fz ((eL 9 eRu) (a1.rules)))])), (2, (.box 58 [(.fn 69 [(.ref 3 0 0)])])), (3, (.box 35 [(.fz ((eL 1 eB) (a2)))])), (4, (.box 35 [(.row 5 (List.length (v7.2)))])), (5, (.frow 4 1 (List.map eB (v7.2)))), (6, (.box 77 [(.fn 68 [(.ref 1 0 0), (.ref 2 0 0), (.ref 4 0 0), (.ref 6 0 0)])]))], [0, 1, 2, 3, 4, 5, 6], []⟩) (.exit 2) (fun v15 => ⟨50, [(1, (.ref 1 0 0)), (2, (.ref 2 0 0)), (3, (.ref 4 0 0)), (4, (.ref 6 0 0)), (12, (.fz ((eL 1 eI) (v1)))), (13, (fI ((List.length v1 : Int)))), (14, (fI (v2.1)))], [(0, (.was p0 [1, 2, 3, 4, 5, 6] q0 w0)), (1, (.box 26 [(fS (a1.name)), (.fz ((eL 1 eI) (a1.inputs))), (.fz ((eL 2 eSy) (a1.symbols))), (.fz ((eL 9 eRu) (a1.rules)))])), (2, (.box 58 [(.fn 69 [(.ref 3 0 0)])])), (3, (.box 35 [(.fz ((eL 1 eB) (a2)))])), (4, (.box 35 [(.row 5 (List.length (v15)))])), (5, (.frow 4 1 (List.map eB (v15)))), (6, (.box 77 [(.fn 68 [(.ref 1 0 0), (.ref 2 0 0), (.ref 4 0 0), (.ref 6 0 0)])]))], [0, 1, 2, 3, 4, 5, 6], []⟩) h (by kernel_rfl) (by kernel_rfl) (fun v7 r h => ?_) fun v15 h => ?_
     ·unfold grammar_reach_1_h2_l1 at h
      refine cd 5 h (by kernel_rfl) (fun h => ?_) fun h => ?_
      ·refine jn1 3 .normal (fun v13 => ⟨50, [(1, (.ref 1 0 0)), (2, (.ref 2 0 0)), (3, (.ref 4 0 0)), (4, (.ref 6 0 0)), (12, (.fz ((eL 1 eI) (v1)))), (13, (fI ((List.length v1 : Int)))), (14, (fI (v2.1))), (31, (.fz ((eL 1 eI) (v6.args)))), (32, (fI ((List.length v6.args : Int)))), (33, (fI (v7.1)))], [(0, (.was p0 [1, 2, 3, 4, 5, 6] q0 w0)), (1, (.box 26 [(fS (a1.name)), (.fz ((eL 1 eI) (a1.inputs))), (.fz ((eL 2 eSy) (a1.symbols))), (.fz ((eL 9 eRu) (a1.rules)))])), (2, (.box 58 [(.fn 69 [(.ref 3 0 0)])])), (3, (.box 35 [(.fz ((eL 1 eB) (a2)))])), (4, (.box 35 [(.row 5 (List.length (v13)))])), (5, (.frow 4 1 (List.map eB (v13)))), (6, (.box 77 [(.fn 68 [(.ref 1 0 0), (.ref 2 0 0), (.ref 4 0 0), (.ref 6 0 0)])]))], [0, 1, 2, 3, 4, 5, 6], []⟩) h (by kernel_rfl) (fun v13 h => ?_) fun v13 h => ?_
       ·refine ix nI 2 h (by kernel_rfl) fun v8 h => ?_
        obtain ⟨v9, hv9, h⟩ := Option.bind_eq_some_iff.1 h
        refine nst 7 (n_rowAddr (t := 35) (X := (.tmp 37)) (Y := (.tmp 38)) (id := 5) (k := .i64) (d := tt35) (e := 4) (de := tt4) (enc := eB) (xs := v7.2) (n := List.length (v7.2)) hv9 tt_ok (by kernel_rfl) (by kernel_rfl) (by kernel_rfl) (by kernel_rfl) (by kernel_rfl) (by kernel_rfl) (by kernel_rfl) rfl (by kernel_rfl)) (by kernel_rfl) ?_
        refine nst 0 (n_rowLoad (t := 4) (X := (.tmp 39)) (id := 5) (d := tt4) (enc := eB) (xs := v7.2) (x := v9) (i := v8) (n := List.length (v7.2)) hv9 tt_ok (by kernel_rfl) (by kernel_rfl) (by kernel_rfl) (by kernel_rfl) (by kernel_rfl) rfl (fun _ => rfl)) (by kernel_rfl) ?_
        refine cd 2 h (by kernel_rfl) (fun h => ?_) fun h => ?_
        ·obtain ⟨v10, hv10, h⟩ := Option.bind_eq_some_iff.1 h
         refine nst 4 (n_rowAddr (t := 35) (X := (.tmp 42)) (Y := (.tmp 43)) (id := 5) (k := .i64) (d := tt35) (e := 4) (de := tt4) (enc := eB) (xs := v7.2) (n := List.length (v7.2)) hv10 tt_ok (by kernel_rfl) (by kernel_rfl) (by kernel_rfl) (by kernel_rfl) (by kernel_rfl) (by kernel_rfl) (by kernel_rfl) rfl (by kernel_rfl)) (by kernel_rfl) ?_
         refine sst 0 (e_rowStore (t := 4) (X := (.tmp 44)) (Y := (.const (.bool true))) (id := 5) (d := tt4) (enc := eB) (xs := v7.2) (x := v10) (i := v8) (y := true) (n := List.length (v7.2)) hv10 tt_ok (by kernel_rfl) (by kernel_rfl) (by kernel_rfl) (by kernel_rfl) (by kernel_rfl) rfl (by kernel_rfl) (fun _ => ⟨_, rfl, rfl⟩)) (by kernel_rfl) ?_
         refine wle 0 (LeSt.trans (show LeSt _ ⟨50, [(1, (.ref 1 0 0)), (2, (.ref 2 0 0)), (3, (.ref 4 0 0)), (4, (.ref 6 0 0)), (9, (fI (v8))), (12, (.fz ((eL 1 eI) (v1)))), (13, (fI ((List.length v1 : Int)))), (14, (fI (v2.1))), (31, (.fz ((eL 1 eI) (v6.args)))), (32, (fI ((List.length v6.args : Int)))), (33, (fI (v7.1))), (42, (.row 5 (List.length (v7.2)))), (43, (fI (v8)))], [(0, (.was p0 [1, 2, 3, 4, 5, 6] q0 w0)), (1, (.box 26 [(fS (a1.name)), (.fz ((eL 1 eI) (a1.inputs))), (.fz ((eL 2 eSy) (a1.symbols))), (.fz ((eL 9 eRu) (a1.rules)))])), (2, (.box 58 [(.fn 69 [(.ref 3 0 0)])])), (3, (.box 35 [(.fz ((eL 1 eB) (a2)))])), (4, (.box 35 [(.row 5 (List.length (v7.2)))])), (5, (.frow 4 1 (List.map eB ((List.set v7.2 (Int.toNat v8) true))))), (6, (.box 77 [(.fn 68 [(.ref 1 0 0), (.ref 2 0 0), (.ref 4 0 0), (.ref 6 0 0)])]))], [0, 1, 2, 3, 4, 5, 6], []⟩ from le_a (by kernel_rfl)) (LeSt.trans (le_relen 5 (k := 2) (m := List.length (v7.2)) (n := List.length ((List.set v7.2 (Int.toNat v8) true))) (by kernel_rfl) (by simp)) (show LeSt _ ⟨50, [(1, (.ref 1 0 0)), (2, (.ref 2 0 0)), (3, (.ref 4 0 0)), (4, (.ref 6 0 0)), (9, (fI (v8))), (12, (.fz ((eL 1 eI) (v1)))), (13, (fI ((List.length v1 : Int)))), (14, (fI (v2.1))), (31, (.fz ((eL 1 eI) (v6.args)))), (32, (fI ((List.length v6.args : Int)))), (33, (fI (v7.1))), (42, (.row 5 (List.length ((List.set v7.2 (Int.toNat v8) true))))), (43, (fI (v8)))], [(0, (.was p0 [1, 2, 3, 4, 5, 6] q0 w0)), (1, (.box 26 [(fS (a1.name)), (.fz ((eL 1 eI) (a1.inputs))), (.fz ((eL 2 eSy) (a1.symbols))), (.fz ((eL 9 eRu) (a1.rules)))])), (2, (.box 58 [(.fn 69 [(.ref 3 0 0)])])), (3, (.box 35 [(.fz ((eL 1 eB) (a2)))])), (4, (.box 35 [(.row 5 (List.length ((List.set v7.2 (Int.toNat v8) true))))])), (5, (.frow 4 1 (List.map eB ((List.set v7.2 (Int.toNat v8) true))))), (6, (.box 77 [(.fn 68 [(.ref 1 0 0), (.ref 2 0 0), (.ref 4 0 0), (.ref 6 0 0)])]))], [0, 1, 2, 3, 4, 5, 6], []⟩ from le_a (by kernel_rfl)))) (by kernel_rfl) ?_
         refine hcl 4 [.one .keep] [(1, 1), (2, 2), (3, 3), (4, 4), (5, 5), (6, 6)] [(1, 1), (2, 2), (3, 3), (4, 4), (5, 5), (6, 6)] [1, 2, 3, 4, 5, 6] h (ih10 _ _ _ _) (fun _ => by kernel_rfl) fun v11 h => ?_
         cases h; exact lj 1 (by kernel_rfl)
        cases h; exact lj 1 (by kernel_rfl)
       cases h; exact lj 4 (by kernel_rfl)
      cases h; exact lo 1 (by kernel_rfl)
     cases h; exact lj 0 (by kernel_rfl)
    rcases v16 with v17 | v18
    ·try simp only [Sum.elim_inl, Sum.elim_inr] at h
     obtain ⟨rfl, hle⟩ := hq
     refine ⟨_, hle, ?_⟩
     cases h; exact lj 0 (by kernel_rfl)
    ·try simp only [Sum.elim_inl, Sum.elim_inr] at h
     obtain ⟨rfl, hle⟩ := hq
     refine ⟨_, hle, ?_⟩
     cases h; exact lj 0 (by kernel_rfl)
   cases h; exact lj 4 (by kernel_rfl)
  cases h; exact lo 1 (by kernel_rfl)
 obtain rfl := Option.some.inj h; exact lh 0 ⟨50, [], (grammar_reach_1_h2_m1 p0 q0 w0 a1 a2 v22), [0, 1, 2, 3, 4, 5, 6], []⟩ (le_a (by kernel_rfl)) rfl rfl (by kernel_rfl) (by kernel_rfl)
def grammar_reach_1_h2 : Nat → (Int) → (La) → (List Bool) → (List Bool) → Option ((List Bool))
  | 0 => fun _ _ _ _ => none
  | n + 1 => grammar_reach_1_h2_b (grammar_reach_1_h2 n)
theorem grammar_reach_1_h2_ok : ∀ n : Nat, ∀ (x0 : Int) (x1 : La) (x2 : List Bool) (x3 : List Bool) r, grammar_reach_1_h2 n x0 x1 x2 x3 = some r → HCall Tryz.prog 68 ([(fI (x0))] ++ [(.ref 1 0 0), (.ref 2 0 0), (.ref 4 0 0), (.ref 6 0 0)]) [(1, (.box 26 [(fS (x1.name)), (.fz ((eL 1 eI) (x1.inputs))), (.fz ((eL 2 eSy) (x1.symbols))), (.fz ((eL 9 eRu) (x1.rules)))])), (2, (.box 58 [(.fn 69 [(.ref 3 0 0)])])), (3, (.box 35 [(.fz ((eL 1 eB) (x2)))])), (4, (.box 35 [(.row 5 (List.length (x3)))])), (5, (.frow 4 1 (List.map eB (x3)))), (6, (.box 77 [(.fn 68 [(.ref 1 0 0), (.ref 2 0 0), (.ref 4 0 0), (.ref 6 0 0)])]))] [1, 2, 3, 4, 5, 6] (.ret (.fz (.tup []))) [(1, (.box 26 [(fS (x1.name)), (.fz ((eL 1 eI) (x1.inputs))), (.fz ((eL 2 eSy) (x1.symbols))), (.fz ((eL 9 eRu) (x1.rules)))])), (2, (.box 58 [(.fn 69 [(.ref 3 0 0)])])), (3, (.box 35 [(.fz ((eL 1 eB) (x2)))])), (4, (.box 35 [(.row 5 (List.length (r)))])), (5, (.frow 4 1 (List.map eB (r)))), (6, (.box 77 [(.fn 68 [(.ref 1 0 0), (.ref 2 0 0), (.ref 4 0 0), (.ref 6 0 0)])]))] [1, 2, 3, 4, 5, 6]
  | 0 => fun _ _ _ _ _ h => by cases h
  | n + 1 => fun a0 a1 a2 a3 r h => grammar_reach_1_h2_b_ok (grammar_reach_1_h2 n) (grammar_reach_1_h2_ok n) a0 a1 a2 a3 r h

def grammar_reach_h2 (a0 : La) (a1 : Int) (a2 : Bool) (a3 : List Bool) : Option ((List Bool)) := (Option.bind (mkL 1 false (List.length a0.symbols : Int)) fun v1 => (Option.bind (idx v1 a1) fun v2 => (Option.bind (grammar_reach_1_h2 fuel (a1) (a0) (a3) ((List.set v1 (Int.toNat a1) a2))) fun v3 => (some (v3)))))
theorem grammar_reach_h2_ok (a0 : La) (a1 : Int) (a2 : Bool) (a3 : List Bool) (r : (List Bool)) (h : grammar_reach_h2 a0 a1 a2 a3 = some r) : HCall Tryz.prog 45 ([(.fz (eLa (a0))), (fI (a1)), (fB (a2)), (.fn 69 [(.ref 1 0 0)])] ++ []) [(1, (.box 35 [(.fz ((eL 1 eB) (a3)))]))] [1] (.ret (.row 4 (List.length (r)))) [(1, (.box 35 [(.fz ((eL 1 eB) (a3)))])), (4, (.frow 4 1 (List.map eB (r))))] [1, 4] := by
 unfold grammar_reach_h2 at h
 refine hcx (gi := 0) Tryz.func45 (by kernel_rfl) (by kernel_rfl) (by kernel_rfl) (by kernel_rfl) (by kernel_rfl) (by kernel_rfl) (by kernel_rfl) (by kernel_rfl) ?_
 intro p0 q0 w0
 obtain ⟨v1, hv1, h⟩ := Option.bind_eq_some_iff.1 h
 refine sst 11 (s_make (t := 35) (X := (.tmp 13)) (Y := (.tmp 13)) (id := 4) (k := .i64) (k' := .i64) (d := tt35) (e := 4) (de := tt4) (enc := eB) (zv := .bool false) hv1 (by kernel_rfl) tt_ok (by kernel_rfl) (by kernel_rfl) (by kernel_rfl) rfl rfl rfl rfl rfl (by kernel_rfl) (by kernel_rfl) (by kernel_rfl)) (by kernel_rfl) ?_
 obtain ⟨v2, hv2, h⟩ := Option.bind_eq_some_iff.1 h
 refine nst 17 (n_rowAddr (t := 35) (X := (.tmp 16)) (Y := (.tmp 17)) (id := 4) (k := .i64) (d := tt35) (e := 4) (de := tt4) (enc := eB) (xs := v1) (n := List.length (v1)) hv2 tt_ok (by kernel_rfl) (by kernel_rfl) (by kernel_rfl) (by kernel_rfl) (by kernel_rfl) (by kernel_rfl) (by kernel_rfl) rfl (by kernel_rfl)) (by kernel_rfl) ?_
 refine sst 0 (e_rowStore (t := 4) (X := (.tmp 19)) (Y := (.tmp 18)) (id := 4) (d := tt4) (enc := eB) (xs := v1) (x := v2) (i := a1) (y := a2) (n := List.length (v1)) hv2 tt_ok (by kernel_rfl) (by kernel_rfl) (by kernel_rfl) (by kernel_rfl) (by kernel_rfl) rfl (by kernel_rfl) (fun _ => ⟨_, rfl, rfl⟩)) (by kernel_rfl) ?_
 refine wle 0 (LeSt.trans (show LeSt _ ⟨24, [(1, (fI (a1))), (9, (.ref 5 0 0)), (10, (.ref 6 0 0)), (16, (.row 4 (List.length (v1)))), (17, (fI (a1))), (18, (fB (a2)))], [(0, (.was p0 [1] q0 w0)), (1, (.box 35 [(.fz ((eL 1 eB) (a3)))])), (2, (.box 26 [(fS (a0.name)), (.fz ((eL 1 eI) (a0.inputs))), (.fz ((eL 2 eSy) (a0.symbols))), (.fz ((eL 9 eRu) (a0.rules)))])), (3, (.box 58 [(.fn 69 [(.ref 1 0 0)])])), (4, (.frow 4 1 (List.map eB ((List.set v1 (Int.toNat a1) a2))))), (5, (.box 35 [(.row 4 (List.length (v1)))])), (6, (.box 77 [(.fn 68 [(.ref 2 0 0), (.ref 3 0 0), (.ref 5 0 0), (.ref 6 0 0)])]))], [6, 5, 4, 3, 2, 0, 1], []⟩ from le_a (by kernel_rfl)) (LeSt.trans (le_relen 4 (k := 2) (m := List.length (v1)) (n := List.length ((List.set v1 (Int.toNat a1) a2))) (by kernel_rfl) (by simp)) (show LeSt _ ⟨24, [(1, (fI (a1))), (9, (.ref 5 0 0)), (10, (.ref 6 0 0)), (16, (.row 4 (List.length ((List.set v1 (Int.toNat a1) a2))))), (17, (fI (a1))), (18, (fB (a2)))], [(0, (.was p0 [1] q0 w0)), (1, (.box 35 [(.fz ((eL 1 eB) (a3)))])), (2, (.box 26 [(fS (a0.name)), (.fz ((eL 1 eI) (a0.inputs))), (.fz ((eL 2 eSy) (a0.symbols))), (.fz ((eL 9 eRu) (a0.rules)))])), (3, (.box 58 [(.fn 69 [(.ref 1 0 0)])])), (4, (.frow 4 1 (List.map eB ((List.set v1 (Int.toNat a1) a2))))), (5, (.box 35 [(.row 4 (List.length ((List.set v1 (Int.toNat a1) a2))))])), (6, (.box 77 [(.fn 68 [(.ref 2 0 0), (.ref 3 0 0), (.ref 5 0 0), (.ref 6 0 0)])]))], [6, 5, 4, 3, 2, 0, 1], []⟩ from le_a (by kernel_rfl)))) (by kernel_rfl) ?_
 refine hcl 5 [.one .keep] [(2, 1), (3, 2), (1, 3), (5, 4), (4, 5), (6, 6)] [(1, 2), (2, 3), (3, 1), (4, 5), (5, 4), (6, 6)] [1, 2, 3, 4, 5, 6] h (grammar_reach_1_h2_ok fuel _ _ _ _) (fun _ => by kernel_rfl) fun v3 h => ?_
 obtain rfl := Option.some.inj h; exact lh 7 ⟨24, [(8, (.row 4 (List.length (v3))))], [(0, (.was p0 [1] q0 w0)), (1, (.box 35 [(.fz ((eL 1 eB) (a3)))])), (4, (.frow 4 1 (List.map eB (v3))))], [0, 1, 4], []⟩ (le_a (by kernel_rfl)) rfl rfl (by kernel_rfl) (by kernel_rfl)

def grammar_Recursive_l1 (a0 : La) (v2 : List Bool) (v3 : (List Bool)) (v4 : (Int) × (List Bool)) : Option (((Int) × (List Bool)) ⊕ ((List Bool))) := (bif (decide (v4.1 < (List.length (v2) : Int))) then (Option.bind (grammar_reach_h2 (a0) (v4.1) (false) (v3)) fun v5 => (Option.bind (idx v5 v4.1) fun v6 => (Option.bind (idx v4.2 v4.1) fun v7 => (some (.inl ((w64 (v4.1 + 1)), (List.set v4.2 (Int.toNat v4.1) v6))))))) else (some (.inr (v4.2))))
def grammar_Recursive (a0 : La) : Option (List Bool) := (Option.bind (grammar_Check (a0)) fun v1 => (bif (v1 != 0) then (some ([] : List Bool)) else (Option.bind (mkL 1 false (List.length a0.symbols : Int)) fun v2 => (Option.bind (grammar_complete_h (a0)) fun v3 => (Option.bind (loopN (grammar_Recursive_l1 a0 v2 v3) fuel (0, v2)) fun (v9 : (List Bool)) => (some v9))))))
theorem grammar_Recursive_ok (a0 : La) (r : List Bool) (h : grammar_Recursive a0 = some r) : PCall Tryz.prog 22 [eLa a0] ((eL 1 eB) (r)) := by
 unfold grammar_Recursive at h
 refine pcl [.one (.sl 1)] Tryz.func22 (by kernel_rfl) (by kernel_rfl) (by kernel_rfl) ?_
 refine cl 9 h (grammar_Check_ok _) (by kernel_rfl) fun v1 h => ?_
 refine cd 2 h (by kernel_rfl) (fun h => ?_) fun h => ?_
 ·cases h; exact lq 5 (by kernel_rfl)
 obtain ⟨v2, hv2, h⟩ := Option.bind_eq_some_iff.1 h
 refine sst 6 (s_make (t := 35) (X := (.tmp 11)) (Y := (.tmp 11)) (id := 2) (k := .i64) (k' := .i64) (d := tt35) (e := 4) (de := tt4) (enc := eB) (zv := .bool false) hv2 (by kernel_rfl) tt_ok (by kernel_rfl) (by kernel_rfl) (by kernel_rfl) rfl rfl rfl rfl rfl (by kernel_rfl) (by kernel_rfl) (by kernel_rfl)) (by kernel_rfl) ?_
 refine hcl 5 [.one .keep] [] [(2, 3)] [] h (grammar_complete_h_ok _) (fun _ => by kernel_rfl) fun v3 h => ?_
 refine nst 6 (n_len_row (t := 35) (x := (.tmp 15)) (d := tt35) (id := 2) (e2 := 4) (e := 4) (size := 1) (n := List.length (v2)) (xs := List.map eB (v2)) tt_ok (by kernel_rfl) (by kernel_rfl) rfl (by kernel_rfl) (by kernel_rfl) (by simp)) (by kernel_rfl) ?_
 refine lp1 3 (fun v4 => ⟨32, [(1, (.ref 1 0 0)), (3, (.row 2 (List.length (v4.2)))), (4, (.fn 69 [(.ref 3 0 0)])), (16, (fI ((List.length (v2) : Int)))), (17, (fI (v4.1)))], [(1, (.box 26 [(fS (a0.name)), (.fz ((eL 1 eI) (a0.inputs))), (.fz ((eL 2 eSy) (a0.symbols))), (.fz ((eL 9 eRu) (a0.rules)))])), (2, (.frow 4 1 (List.map eB (v4.2)))), (3, (.box 35 [(.fz ((eL 1 eB) (v3)))]))], [3, 2, 1], []⟩) (.exit 0) (fun v9 => ⟨32, [(3, (.row 2 (List.length (v9))))], [(2, (.frow 4 1 (List.map eB (v9))))], [2], []⟩) h (by kernel_rfl) (by kernel_rfl) (fun v4 r h => ?_) fun v9 h => ?_
 ·unfold grammar_Recursive_l1 at h
  refine cd 5 h (by kernel_rfl) (fun h => ?_) fun h => ?_
  ·refine hcl 14 [.one .keep, .one .keep, .one .keep, .one .keep] [(3, 1)] [(1, 3), (4, 4)] [1] h (grammar_reach_h2_ok _ _ _ _) (fun _ => by kernel_rfl) fun v5 h => ?_
   obtain ⟨v6, hv6, h⟩ := Option.bind_eq_some_iff.1 h
   refine nst 1 (n_rowAddr (t := 35) (X := (.tmp 25)) (Y := (.tmp 26)) (id := 4) (k := .i64) (d := tt35) (e := 4) (de := tt4) (enc := eB) (xs := v5) (n := List.length (v5)) hv6 tt_ok (by kernel_rfl) (by kernel_rfl) (by kernel_rfl) (by kernel_rfl) (by kernel_rfl) (by kernel_rfl) (by kernel_rfl) rfl (by kernel_rfl)) (by kernel_rfl) ?_
   refine nst 0 (n_rowLoad (t := 4) (X := (.tmp 27)) (id := 4) (d := tt4) (enc := eB) (xs := v5) (x := v6) (i := v4.1) (n := List.length (v5)) hv6 tt_ok (by kernel_rfl) (by kernel_rfl) (by kernel_rfl) (by kernel_rfl) (by kernel_rfl) rfl (fun _ => rfl)) (by kernel_rfl) ?_
   obtain ⟨v7, hv7, h⟩ := Option.bind_eq_some_iff.1 h
   refine nst 0 (n_rowAddr (t := 35) (X := (.tmp 20)) (Y := (.tmp 21)) (id := 2) (k := .i64) (d := tt35) (e := 4) (de := tt4) (enc := eB) (xs := v4.2) (n := List.length (v4.2)) hv7 tt_ok (by kernel_rfl) (by kernel_rfl) (by kernel_rfl) (by kernel_rfl) (by kernel_rfl) (by kernel_rfl) (by kernel_rfl) rfl (by kernel_rfl)) (by kernel_rfl) ?_
   refine sst 0 (e_rowStore (t := 4) (X := (.tmp 29)) (Y := (.tmp 28)) (id := 2) (d := tt4) (enc := eB) (xs := v4.2) (x := v7) (i := v4.1) (y := v6) (n := List.length (v4.2)) hv7 tt_ok (by kernel_rfl) (by kernel_rfl) (by kernel_rfl) (by kernel_rfl) (by kernel_rfl) rfl (by kernel_rfl) (fun _ => ⟨_, rfl, rfl⟩)) (by kernel_rfl) ?_
   refine wle 0 (LeSt.trans (show LeSt _ ⟨32, [(1, (.ref 1 0 0)), (3, (.row 2 (List.length (v4.2)))), (4, (.fn 69 [(.ref 3 0 0)])), (16, (fI ((List.length (v2) : Int)))), (17, (fI (v4.1))), (20, (.row 2 (List.length (v4.2)))), (21, (fI (v4.1))), (25, (.row 4 (List.length (v5)))), (26, (fI (v4.1))), (27, (.ref 4 (List.length (v5)) (Int.toNat v4.1))), (28, (fB (v6)))], [(1, (.box 26 [(fS (a0.name)), (.fz ((eL 1 eI) (a0.inputs))), (.fz ((eL 2 eSy) (a0.symbols))), (.fz ((eL 9 eRu) (a0.rules)))])), (2, (.frow 4 1 (List.map eB ((List.set v4.2 (Int.toNat v4.1) v6))))), (3, (.box 35 [(.fz ((eL 1 eB) (v3)))])), (4, (.frow 4 1 (List.map eB (v5))))], [4, 3, 2, 1], []⟩ from le_a (by kernel_rfl)) (LeSt.trans (le_relen 2 (k := 2) (m := List.length (v4.2)) (n := List.length ((List.set v4.2 (Int.toNat v4.1) v6))) (by kernel_rfl) (by simp)) (show LeSt _ ⟨32, [(1, (.ref 1 0 0)), (3, (.row 2 (List.length ((List.set v4.2 (Int.toNat v4.1) v6))))), (4, (.fn 69 [(.ref 3 0 0)])), (16, (fI ((List.length (v2) : Int)))), (17, (fI (v4.1))), (20, (.row 2 (List.length ((List.set v4.2 (Int.toNat v4.1) v6))))), (21, (fI (v4.1))), (25, (.row 4 (List.length (v5)))), (26, (fI (v4.1))), (27, (.ref 4 (List.length (v5)) (Int.toNat v4.1))), (28, (fB (v6)))], [(1, (.box 26 [(fS (a0.name)), (.fz ((eL 1 eI) (a0.inputs))), (.fz ((eL 2 eSy) (a0.symbols))), (.fz ((eL 9 eRu) (a0.rules)))])), (2, (.frow 4 1 (List.map eB ((List.set v4.2 (Int.toNat v4.1) v6))))), (3, (.box 35 [(.fz ((eL 1 eB) (v3)))])), (4, (.frow 4 1 (List.map eB (v5))))], [4, 3, 2, 1], []⟩ from le_a (by kernel_rfl)))) (by kernel_rfl) ?_
   cases h; exact lj 5 (by kernel_rfl)
  cases h; exact lo 1 (by kernel_rfl)
 refine wle 5 (le_freeze (t := 2) (id := 2) (n := List.length (v9)) (e := 4) (size := 1) (xs := List.map eB (v9)) (by kernel_rfl) (by kernel_rfl) (by simp)) (by kernel_rfl) ?_
 cases h; exact lq 1 (by kernel_rfl)

def grammar_copied_l1 (a0 : Va) (r49 : (Va) → Option (Va)) (v1 : (Int) × (List Va)) : Option (((Int) × (List Va)) ⊕ ((List Va))) := (bif (decide (v1.1 < (List.length a0.items : Int))) then (Option.bind (idx a0.items v1.1) fun v2 => (Option.bind (r49 (v2)) fun v3 => (Option.bind (app 56 v1.2 ([v3] : List (Va))) fun v4 => (some (.inl ((w64 (v1.1 + 1)), v4)))))) else (some (.inr (v1.2))))
def grammar_copied_b (r49 : (Va) → Option (Va)) (a0 : Va) : Option (Va) := (Option.bind (loopN (grammar_copied_l1 a0 r49) fuel (0, ([] : List (Va)))) fun (v6 : (List Va)) => (some (Va.mk (a0.type) (a0.num) (a0.text) (v6))))
theorem grammar_copied_b_ok (r49 : (Va) → Option (Va)) (ih49 : ∀ (x0 : Va) r, r49 x0 = some r → PCall Tryz.prog 49 [eVa x0] (eVa (r))) (a0 : Va) (r : Va) (h : grammar_copied_b r49 a0 = some r) : PCall Tryz.prog 49 [eVa a0] (eVa (r)) := by
 unfold grammar_copied_b at h
 refine pcl [.ag [.keep, .keep, .keep, .sl 4]] Tryz.func49 (by kernel_rfl) (by kernel_rfl) (by kernel_rfl) ?_
 refine wle 18 (le_nilrow (e := 45) (size := 4) (t := 3) (id := 3) (by decide) (by kernel_rfl) (by kernel_rfl)) (by kernel_rfl) ?_
 refine lp1 0 (fun v1 => ⟨22, [(1, (.ref 1 0 0)), (2, (.ref 2 0 0)), (3, (.row 3 (List.length (v1.2)))), (7, (.fz ((eL 4 eVaR) (a0.items)))), (8, (fI ((List.length a0.items : Int)))), (9, (fI (v1.1)))], [(1, (.box 45 [(fI (a0.type)), (fI (a0.num)), (fS (a0.text)), (.fz ((eL 4 eVaR) (a0.items)))])), (2, (.box 45 [(fI (0)), (fI (0)), (fS ((⟨#[]⟩ : ByteArray))), (.fz (.atom (.slice none 0 0)))])), (3, (.frow 45 4 (List.map eVaR (v1.2))))], [3, 2, 1], []⟩) (.exit 0) (fun v6 => ⟨22, [(1, (.ref 1 0 0)), (2, (.ref 2 0 0)), (3, (.row 3 (List.length (v6))))], [(1, (.box 45 [(fI (a0.type)), (fI (a0.num)), (fS (a0.text)), (.fz ((eL 4 eVaR) (a0.items)))])), (2, (.box 45 [(fI (0)), (fI (0)), (fS ((⟨#[]⟩ : ByteArray))), (.fz (.atom (.slice none 0 0)))])), (3, (.frow 45 4 (List.map eVaR (v6))))], [3, 2, 1], []⟩) h (by kernel_rfl) (by kernel_rfl) (fun v1 r h => ?_) fun v6 h => ?_
 ·unfold grammar_copied_l1 at h
  refine cd 5 h (by kernel_rfl) (fun h => ?_) fun h => ?_
  ·refine ix nVaR 5 h (by kernel_rfl) fun v2 h => ?_
   refine cl 7 h (ih49 _) (by kernel_rfl) fun v3 h => ?_
   refine wle 1 (le_eq (t := 16) (x := .lim 4 1 [eVa (v3)]) (y := .lim 4 1 (List.map eVaR ([v3] : List (Va)))) (by kernel_rfl) (by simp only [List.map, eVaR_eq])) (by kernel_rfl) ?_
   refine ap nVaR 0 h (by kernel_rfl) fun v4 h => ?_
   cases h; exact lj 6 (by kernel_rfl)
  cases h; exact lo 1 (by kernel_rfl)
 refine wle 11 (le_freezeCell (e2 := 45) (id2 := 2) (j := 3) (id := 3) (n := List.length (v6)) (e := 45) (size := 4) (xs := List.map eVaR (v6)) (cells := [(fI (a0.type)), (fI (a0.num)), (fS (a0.text)), (.row 3 (List.length (v6)))]) (by kernel_rfl) (by kernel_rfl) (by kernel_rfl) (by simp)) (by kernel_rfl) ?_
 cases h; exact lq 1 (by kernel_rfl)
def grammar_copied : Nat → (Va) → Option (Va)
  | 0 => fun _ => none
  | n + 1 => grammar_copied_b (grammar_copied n)
theorem grammar_copied_ok : ∀ (n : Nat) (x0 : Va) r, grammar_copied n x0 = some r → PCall Tryz.prog 49 [eVa x0] (eVa (r))
  | 0, _, _, h => by cases h
  | n + 1, x0, r, h => grammar_copied_b_ok (grammar_copied n) (grammar_copied_ok n) x0 r h
end Go.Proofs.YtfhmljjkhjifeaaGreatDoor
