/- Typed programs and what computes them. -/
import Derived.Test.YtaeicmnimjfbaaaZ2
set_option linter.unusedVariables false
set_option linter.unusedSimpArgs false
set_option maxRecDepth 100000
namespace Go.Proofs.Ytaeicmnimjfbaaa
open Go Go.RowKit Go.Proofs
attribute [local irreducible] NStep StepA EStep LeSt
def operator_catalog_l1 (v1 : List S_operator_entry) (v2 : List S_operator_entry) (v3 : List S_operator_entry) (v4 : List S_operator_entry) (v5 : List S_operator_entry) (v6 : List S_operator_entry) (v7 : List S_operator_entry) (v8 : (Int) × (List S_operator_entry)) : Option (((Int) × (List S_operator_entry)) ⊕ ((List S_operator_entry))) := (bif (decide (v8.1 < (List.length ([v1, v2, v3, v4, v5, v6, v7] : List (List S_operator_entry)) : Int))) then (Option.bind (idx ([v1, v2, v3, v4, v5, v6, v7] : List (List S_operator_entry)) v8.1) fun v9 => (Option.bind (app 64 v8.2 v9) fun v10 => (some (.inl ((w64 (v8.1 + 1)), v10))))) else (some (.inr (v8.2))))
def operator_catalog  : Option (List S_operator_entry) := (Option.bind (operator_family ((⟨#[108, 111, 103, 105, 99]⟩ : ByteArray)) (([(⟨#[97, 110, 100, 58, 66, 66, 66]⟩ : ByteArray), (⟨#[111, 114, 58, 66, 66, 66]⟩ : ByteArray), (⟨#[110, 111, 116, 58, 66, 66]⟩ : ByteArray), (⟨#[105, 102, 105, 110, 116, 58, 66, 73, 73, 73]⟩ : ByteArray), (⟨#[105, 102, 116, 101, 120, 116, 58, 66, 84, 84, 84]⟩ : ByteArray), (⟨#[105, 102, 98, 105, 116, 115, 58, 66, 86, 86, 86]⟩ : ByteArray)] : List (ByteArray)))) fun v1 => (Option.bind (operator_family ((⟨#[110, 117, 109, 98, 101, 114, 115]⟩ : ByteArray)) (([(⟨#[97, 100, 100, 58, 73, 73, 73]⟩ : ByteArray), (⟨#[115, 117, 98, 58, 73, 73, 73]⟩ : ByteArray), (⟨#[109, 117, 108, 58, 73, 73, 73]⟩ : ByteArray), (⟨#[110, 101, 103, 58, 73, 73]⟩ : ByteArray), (⟨#[109, 105, 110, 58, 73, 73, 73]⟩ : ByteArray), (⟨#[109, 97, 120, 58, 73, 73, 73]⟩ : ByteArray), (⟨#[101, 113, 105, 110, 116, 58, 73, 73, 66]⟩ : ByteArray), (⟨#[108, 101, 115, 115, 58, 73, 73, 66]⟩ : ByteArray)] : List (ByteArray)))) fun v2 => (Option.bind (operator_family ((⟨#[116, 101, 120, 116, 115]⟩ : ByteArray)) (([(⟨#[99, 111, 110, 99, 97, 116, 58, 84, 84, 84]⟩ : ByteArray), (⟨#[115, 108, 105, 99, 101, 58, 84, 73, 73, 84]⟩ : ByteArray), (⟨#[108, 101, 110, 58, 84, 73]⟩ : ByteArray), (⟨#[117, 112, 112, 101, 114, 58, 84, 84]⟩ : ByteArray), (⟨#[108, 111, 119, 101, 114, 58, 84, 84]⟩ : ByteArray), (⟨#[116, 114, 105, 109, 58, 84, 84]⟩ : ByteArray), (⟨#[102, 105, 110, 100, 58, 84, 84, 73]⟩ : ByteArray), (⟨#[114, 101, 112, 108, 97, 99, 101, 58, 84, 84, 84, 84]⟩ : ByteArray), (⟨#[119, 111, 114, 100, 58, 84, 73, 84]⟩ : ByteArray), (⟨#[99, 104, 97, 114, 58, 84, 73, 84]⟩ : ByteArray), (⟨#[114, 101, 112, 101, 97, 116, 58, 84, 73, 84]⟩ : ByteArray), (⟨#[115, 104, 111, 119, 58, 73, 84]⟩ : ByteArray), (⟨#[114, 101, 97, 100, 58, 84, 73]⟩ : ByteArray), (⟨#[101, 113, 116, 101, 120, 116, 58, 84, 84, 66]⟩ : ByteArray), (⟨#[115, 112, 108, 105, 116, 58, 84, 84, 83]⟩ : ByteArray), (⟨#[106, 111, 105, 110, 58, 83, 84, 84]⟩ : ByteArray), (⟨#[105, 116, 101, 109, 58, 83, 73, 84]⟩ : ByteArray), (⟨#[115, 111, 114, 116, 116, 101, 120, 116, 115, 58, 83, 83]⟩ : ByteArray), (⟨#[114, 101, 118, 116, 101, 120, 116, 115, 58, 83, 83]⟩ : ByteArray)] : List (ByteArray)))) fun v3 => (Option.bind (operator_family ((⟨#[112, 97, 116, 116, 101, 114, 110, 115]⟩ : ByteArray)) (([(⟨#[115, 116, 97, 114, 116, 58, 84, 80, 73, 73]⟩ : ByteArray), (⟨#[101, 110, 100, 58, 84, 80, 73, 73]⟩ : ByteArray), (⟨#[101, 120, 116, 114, 97, 99, 116, 58, 84, 80, 73, 84]⟩ : ByteArray), (⟨#[101, 114, 97, 115, 101, 58, 84, 80, 84]⟩ : ByteArray), (⟨#[111, 99, 99, 117, 114, 115, 58, 84, 80, 73]⟩ : ByteArray), (⟨#[109, 97, 116, 99, 104, 101, 115, 58, 84, 80, 66]⟩ : ByteArray), (⟨#[112, 108, 105, 116, 58, 84, 80]⟩ : ByteArray), (⟨#[112, 99, 97, 116, 58, 80, 80, 80]⟩ : ByteArray), (⟨#[112, 97, 108, 116, 58, 80, 80, 80]⟩ : ByteArray), (⟨#[112, 115, 116, 97, 114, 58, 80, 80]⟩ : ByteArray)] : List (ByteArray)))) fun v4 => (Option.bind (operator_family ((⟨#[108, 105, 115, 116, 115]⟩ : ByteArray)) (([(⟨#[104, 101, 97, 100, 58, 76, 73]⟩ : ByteArray), (⟨#[108, 97, 115, 116, 58, 76, 73]⟩ : ByteArray), (⟨#[116, 97, 107, 101, 58, 76, 73, 76]⟩ : ByteArray), (⟨#[100, 114, 111, 112, 58, 76, 73, 76]⟩ : ByteArray), (⟨#[114, 101, 118, 101, 114, 115, 101, 58, 76, 76]⟩ : ByteArray), (⟨#[115, 111, 114, 116, 58, 76, 76]⟩ : ByteArray), (⟨#[117, 110, 105, 113, 117, 101, 58, 76, 76]⟩ : ByteArray), (⟨#[115, 117, 109, 58, 76, 73]⟩ : ByteArray), (⟨#[115, 104, 105, 102, 116, 58, 76, 73, 76]⟩ : ByteArray), (⟨#[115, 99, 97, 108, 101, 58, 76, 73, 76]⟩ : ByteArray), (⟨#[97, 98, 111, 118, 101, 58, 76, 73, 76]⟩ : ByteArray), (⟨#[101, 118, 101, 110, 58, 76, 76]⟩ : ByteArray), (⟨#[122, 105, 112, 58, 76, 76, 76]⟩ : ByteArray), (⟨#[97, 112, 112, 101, 110, 100, 58, 76, 76, 76]⟩ : ByteArray), (⟨#[101, 108, 101, 109, 101, 110, 116, 58, 76, 73, 73]⟩ : ByteArray), (⟨#[99, 111, 117, 110, 116, 58, 76, 73, 73]⟩ : ByteArray), (⟨#[109, 97, 120, 105, 109, 117, 109, 58, 76, 73]⟩ : ByteArray), (⟨#[109, 105, 110, 105, 109, 117, 109, 58, 76, 73]⟩ : ByteArray), (⟨#[114, 117, 110, 110, 105, 110, 103, 58, 76, 76]⟩ : ByteArray), (⟨#[108, 101, 110, 103, 116, 104, 58, 76, 73]⟩ : ByteArray)] : List (ByteArray)))) fun v5 => (Option.bind (operator_family ((⟨#[116, 97, 98, 108, 101, 115]⟩ : ByteArray)) (([(⟨#[116, 114, 97, 110, 115, 112, 111, 115, 101, 58, 77, 77]⟩ : ByteArray), (⟨#[114, 111, 119, 58, 77, 73, 83]⟩ : ByteArray), (⟨#[99, 111, 108, 117, 109, 110, 58, 77, 73, 83]⟩ : ByteArray), (⟨#[100, 114, 111, 112, 114, 111, 119, 58, 77, 73, 77]⟩ : ByteArray), (⟨#[100, 114, 111, 112, 99, 111, 108, 117, 109, 110, 58, 77, 73, 77]⟩ : ByteArray), (⟨#[115, 111, 114, 116, 116, 97, 98, 108, 101, 58, 77, 73, 77]⟩ : ByteArray), (⟨#[102, 105, 108, 108, 58, 77, 77]⟩ : ByteArray), (⟨#[117, 110, 112, 105, 118, 111, 116, 58, 77, 73, 77]⟩ : ByteArray), (⟨#[112, 105, 118, 111, 116, 58, 77, 77]⟩ : ByteArray), (⟨#[99, 101, 108, 108, 58, 77, 73, 73, 84]⟩ : ByteArray), (⟨#[115, 116, 97, 99, 107, 58, 77, 77, 77]⟩ : ByteArray), (⟨#[98, 101, 115, 105, 100, 101, 58, 77, 77, 77]⟩ : ByteArray), (⟨#[115, 112, 108, 105, 116, 99, 111, 108, 117, 109, 110, 58, 77, 73, 84, 77]⟩ : ByteArray)] : List (ByteArray)))) fun v6 => (Option.bind (operator_family ((⟨#[98, 105, 116, 115]⟩ : ByteArray)) (([(⟨#[98, 97, 110, 100, 58, 86, 86, 86]⟩ : ByteArray), (⟨#[98, 111, 114, 58, 86, 86, 86]⟩ : ByteArray), (⟨#[98, 120, 111, 114, 58, 86, 86, 86]⟩ : ByteArray), (⟨#[98, 110, 111, 116, 58, 86, 86]⟩ : ByteArray), (⟨#[98, 97, 100, 100, 58, 86, 86, 86]⟩ : ByteArray), (⟨#[98, 115, 117, 98, 58, 86, 86, 86]⟩ : ByteArray), (⟨#[98, 109, 117, 108, 58, 86, 86, 86]⟩ : ByteArray), (⟨#[98, 108, 101, 102, 116, 58, 86, 73, 86]⟩ : ByteArray), (⟨#[98, 114, 105, 103, 104, 116, 58, 86, 73, 86]⟩ : ByteArray), (⟨#[98, 97, 114, 105, 116, 104, 58, 86, 73, 86]⟩ : ByteArray), (⟨#[111, 110, 101, 115, 58, 86, 73]⟩ : ByteArray), (⟨#[101, 113, 98, 105, 116, 115, 58, 86, 86, 66]⟩ : ByteArray)] : List (ByteArray)))) fun v7 => (Option.bind (loopN (operator_catalog_l1 v1 v2 v3 v4 v5 v6 v7) fuel (0, ([] : List (S_operator_entry)))) fun (v12 : (List S_operator_entry)) => (some v12)))))))))
theorem operator_catalog_ok  (r : List S_operator_entry) (h : operator_catalog  = some r) : PCall Try.prog 193 [] ((eL 4 eS_operator_entry) (r)) := by
 unfold operator_catalog at h
 refine pcl [.one (.sl 4)] Try.func193 (by kernel_rfl) (by kernel_rfl) (by kernel_rfl) ?_
 refine cl 12 h (operator_family_ok _ _) (by kernel_rfl) fun v1 h => ?_
 refine cl 1 h (operator_family_ok _ _) (by kernel_rfl) fun v2 h => ?_
 refine cl 1 h (operator_family_ok _ _) (by kernel_rfl) fun v3 h => ?_
 refine cl 1 h (operator_family_ok _ _) (by kernel_rfl) fun v4 h => ?_
 refine cl 1 h (operator_family_ok _ _) (by kernel_rfl) fun v5 h => ?_
 refine cl 1 h (operator_family_ok _ _) (by kernel_rfl) fun v6 h => ?_
 refine cl 1 h (operator_family_ok _ _) (by kernel_rfl) fun v7 h => ?_
 refine wle 5 (le_nilrow (e := 182) (size := 4) (t := 1) (id := 1) (by decide) (by kernel_rfl) (by kernel_rfl)) (by kernel_rfl) ?_
 refine lp1 0 (fun v8 => ⟨29, [(1, (.row 1 (List.length (v8.2)))), (18, (.lim 1 (List.length (([v1, v2, v3, v4, v5, v6, v7] : List (List S_operator_entry)))) (List.map (eL 4 eS_operator_entry) (([v1, v2, v3, v4, v5, v6, v7] : List (List S_operator_entry)))))), (19, (fI ((List.length ([v1, v2, v3, v4, v5, v6, v7] : List (List S_operator_entry)) : Int)))), (20, (fI (v8.1)))], [(1, (.frow 182 4 (List.map eS_operator_entry (v8.2))))], [1], []⟩) (.exit 0) (fun v12 => ⟨29, [(1, (.row 1 (List.length (v12))))], [(1, (.frow 182 4 (List.map eS_operator_entry (v12))))], [1], []⟩) h (by kernel_rfl) (by kernel_rfl) (fun v8 r h => ?_) fun v12 h => ?_
 ·unfold operator_catalog_l1 at h
  refine cd 5 h (by kernel_rfl) (fun h => ?_) fun h => ?_
  ·refine ix (nL 4 nS_operator_entry) 5 h (by kernel_rfl) fun v9 h => ?_
   refine ap nS_operator_entry 6 h (by kernel_rfl) fun v10 h => ?_
   cases h; exact lj 6 (by kernel_rfl)
  cases h; exact lo 1 (by kernel_rfl)
 refine wle 5 (le_freeze (t := 0) (id := 1) (n := List.length (v12)) (e := 182) (size := 4) (xs := List.map eS_operator_entry (v12)) (by kernel_rfl) (by kernel_rfl) (by simp)) (by kernel_rfl) ?_
 cases h; exact lq 1 (by kernel_rfl)

def operator_find_m0 : List (Nat × AObj) := [(1, (.box 182 [(fS ((⟨#[]⟩ : ByteArray))), (.fz (.atom (.slice none 0 0))), (fI (0)), (fS ((⟨#[]⟩ : ByteArray)))]))]
def operator_find_l1 (a0 : ByteArray) (v1 : List S_operator_entry) (v2 : (Int)) : Option (((Int)) ⊕ (((Unit) ⊕ ((S_operator_entry) × (Bool))))) := (bif (decide (v2 < (List.length v1 : Int))) then (Option.bind (idx v1 v2) fun v3 => (bif (v3.f_Operator.f_Name.toList == a0.toList) then (some (.inr (.inr (v3, true)))) else (some (.inl ((w64 (v2 + 1))))))) else (some (.inr (.inl ()))))
def operator_find (a0 : ByteArray) : Option ((S_operator_entry) × (Bool)) := (Option.bind (operator_catalog ) fun v1 => (Option.bind (loopN (operator_find_l1 a0 v1) fuel (0)) fun (v4 : ((Unit) ⊕ ((S_operator_entry) × (Bool)))) => Sum.elim (fun v5 => (some ((S_operator_entry.mk ((S_api_Operator.mk ((⟨#[]⟩ : ByteArray)) (([] : List Int)) (0))) ((⟨#[]⟩ : ByteArray))), false))) (fun v6 => (some v6)) v4))
theorem operator_find_ok (a0 : ByteArray) (r : (S_operator_entry) × (Bool)) (h : operator_find a0 = some r) : PCall Try.prog 190 [eS a0] (.tup [eS_operator_entry (r.1), eB (r.2)]) := by
 unfold operator_find at h
 refine pcl [.ag [.keep, .sl 1, .keep, .keep], .one .keep] Try.func190 (by kernel_rfl) (by kernel_rfl) (by kernel_rfl) ?_
 refine cl 8 h (operator_catalog_ok) (by kernel_rfl) fun v1 h => ?_
 refine lpx 4 (fun v2 => ⟨20, [(0, (fS (a0))), (2, (.ref 1 0 0)), (6, (.fz ((eL 4 eS_operator_entry) (v1)))), (7, (fI ((List.length v1 : Int)))), (8, (fI (v2)))], (operator_find_m0), [1], []⟩) (fun v4 e st => Sum.elim (fun p => e = .exit 0 ∧ LeSt st ⟨20, [(2, (.ref 1 0 0))], (operator_find_m0), [1], []⟩) (fun p => e = .ret ∧ retX TT st Try.f190.results.toList [.ag [.keep, .sl 1, .keep, .keep], .one .keep] = some (.tup [eS_operator_entry (p.1), eB (p.2)])) v4) h (by kernel_rfl) (le_a (by kernel_rfl)) (fun v2 r h => ?_) fun v4 h e st' hq => ?_
 ·unfold operator_find_l1 at h
  refine cd 5 h (by kernel_rfl) (fun h => ?_) fun h => ?_
  ·refine ix nS_operator_entry 5 h (by kernel_rfl) fun v3 h => ?_
   refine cd 12 h (by kernel_rfl) (fun h => ?_) fun h => ?_
   ·cases h; exact lor 7 (by kernel_rfl)
   cases h; exact lj 5 (by kernel_rfl)
  cases h; exact lo 1 (by kernel_rfl)
 rcases v4 with v5 | v6
 ·try simp only [Sum.elim_inl, Sum.elim_inr] at h
  obtain ⟨rfl, hle⟩ := hq
  refine ⟨_, hle, ?_⟩
  cases h; exact lq 7 (by kernel_rfl)
 ·try simp only [Sum.elim_inl, Sum.elim_inr] at h
  obtain ⟨rfl, hret⟩ := hq
  refine ⟨_, LeSt.refl, ?_⟩
  cases h; exact lv hret

def operator_Find (a0 : ByteArray) : Option ((S_api_Operator) × (Bool)) := (Option.bind (operator_find (a0)) fun v1 => (some (v1.1.f_Operator, v1.2)))
theorem operator_Find_ok (a0 : ByteArray) (r : (S_api_Operator) × (Bool)) (h : operator_Find a0 = some r) : PCall Try.prog 177 [eS a0] (.tup [eS_api_Operator (r.1), eB (r.2)]) := by
 unfold operator_Find at h
 refine pcl [.ag [.keep, .sl 1, .keep], .one .keep] Try.func177 (by kernel_rfl) (by kernel_rfl) (by kernel_rfl) ?_
 refine cl 8 h (operator_find_ok _) (by kernel_rfl) fun v1 h => ?_
 cases h; exact lq 16 (by kernel_rfl)

def grammar_rule_m0 (a0 : La) (a1 : Ru) : List (Nat × AObj) := [(1, (.box 27 [(fS (a0.name)), (.fz ((eL 1 eI) (a0.inputs))), (.fz ((eL 2 eSy) (a0.symbols))), (.fz ((eL 9 eRu) (a0.rules)))])), (2, (.box 67 [(fI (a1.symbol)), (fI (a1.kind)), (fI (a1.input)), (fI (a1.const.type)), (fI (a1.const.num)), (fS (a1.const.text)), (.fz ((eL 4 eVaR) (a1.const.items))), (fS (a1.op)), (.fz ((eL 1 eI) (a1.args)))]))]
def grammar_rule_l1 (a0 : La) (a1 : Ru) (v14 : (S_api_Operator) × (Bool)) (v15 : (Int)) : Option (((Int)) ⊕ (((Unit) ⊕ (Int)))) := (bif (decide (v15 < (List.length a1.args : Int))) then (Option.bind (idx a1.args v15) fun v16 => (Option.bind (grammar_symbol (a0) (v16)) fun v17 => (bif (!v17) then (some (.inr (.inr 1))) else (Option.bind (idx a0.symbols v16) fun v18 => (Option.bind (idx v14.1.f_Args v15) fun v19 => (bif (v18.type != v19) then (some (.inr (.inr 3))) else (some (.inl ((w64 (v15 + 1))))))))))) else (some (.inr (.inl ()))))
def grammar_rule (a0 : La) (a1 : Ru) : Option (Int) := (Option.bind (grammar_symbol (a0) (a1.symbol)) fun v1 => (bif (!v1) then (some 1) else (Option.bind ((bif (decide (a1.kind < 1)) then (some (true)) else (some ((decide (3 < a1.kind))))) : Option ((Bool))) fun (v3 : (Bool)) => (bif v3 then (some 4) else (Option.bind ((bif (a1.kind == 1) then (some (0, a1.const.type, a1.const.num, a1.const.text, a1.const.items, a1.op, a1.args)) else (bif (a1.kind == 2) then (some (a1.input, 0, 0, (⟨#[]⟩ : ByteArray), ([] : List Va), a1.op, a1.args)) else (bif (a1.kind == 3) then (some (a1.input, a1.const.type, a1.const.num, a1.const.text, a1.const.items, (⟨#[]⟩ : ByteArray), ([] : List Int))) else (some (a1.input, a1.const.type, a1.const.num, a1.const.text, a1.const.items, a1.op, a1.args))))) : Option ((Int) × (Int) × (Int) × (ByteArray) × (List Va) × (ByteArray) × (List Int))) fun (v5 : (Int) × (Int) × (Int) × (ByteArray) × (List Va) × (ByteArray) × (List Int)) => (Option.bind (grammar_sameRule ((Ru.mk (a1.symbol) (a1.kind) (v5.1) ((Va.mk (v5.2.1) (v5.2.2.1) (v5.2.2.2.1) (v5.2.2.2.2.1))) (v5.2.2.2.2.2.1) (v5.2.2.2.2.2.2))) ((Ru.mk (a1.symbol) (a1.kind) (0) ((Va.mk (0) (0) ((⟨#[]⟩ : ByteArray)) (([] : List Va)))) ((⟨#[]⟩ : ByteArray)) (([] : List Int))))) fun v6 => (bif (!v6) then (some 4) else (Option.bind (idx a0.symbols a1.symbol) fun v7 => (bif (a1.kind == 1) then (Option.bind ((bif (decide (a1.input < 0)) then (some (true)) else (some ((decide ((List.length a0.inputs : Int) ≤ a1.input))))) : Option ((Bool))) fun (v9 : (Bool)) => (bif v9 then (some 1) else (Option.bind (idx a0.inputs a1.input) fun v10 => (Option.bind (grammar_same (v10) (v7.type)) fun v11 => (some v11))))) else (bif (a1.kind == 2) then (Option.bind (value_Check fuel (a1.const)) fun v12 => (bif (v12 != 0) then (some v12) else (Option.bind (grammar_same (a1.const.type) (v7.type)) fun v13 => (some v13)))) else (Option.bind (operator_Find (a1.op)) fun v14 => (bif (!v14.2) then (some 5) else (bif ((List.length a1.args : Int) != (List.length v14.1.f_Args : Int)) then (some 2) else (Option.bind (loopN (grammar_rule_l1 a0 a1 v14) fuel (0)) fun (v20 : ((Unit) ⊕ (Int))) => Sum.elim (fun v21 => (Option.bind (grammar_same (v14.1.f_Result) (v7.type)) fun v22 => (some v22))) (fun v23 => (some v23)) v20))))))))))))))
theorem grammar_rule_ok (a0 : La) (a1 : Ru) (r : Int) (h : grammar_rule a0 a1 = some r) : PCall Try.prog 145 [eLa a0, eRu a1] (eI (r)) := by
 unfold grammar_rule at h
 refine pcl [.one .keep] Try.func145 (by kernel_rfl) (by kernel_rfl) (by kernel_rfl) ?_
 refine cl 12 h (grammar_symbol_ok _ _) (by kernel_rfl) fun v1 h => ?_
 refine cd 2 h (by kernel_rfl) (fun h => ?_) fun h => ?_
 ·cases h; exact lq 5 (by kernel_rfl)
 refine jn1 3 .normal (fun v3 => ⟨134, [(2, (.ref 1 0 0)), (3, (.ref 2 0 0)), (24, (fB (v3)))], (grammar_rule_m0 a0 a1), [2, 1], []⟩) h (by kernel_rfl) (fun v3 h => ?_) fun v3 h => ?_
 ·refine gd 5 h (by kernel_rfl) (fun h => ?_) fun h => ?_
  ·cases h; exact lj 5 (by kernel_rfl)
  cases h; exact lj 5 (by kernel_rfl)
 refine cd 0 h (by kernel_rfl) (fun h => ?_) fun h => ?_
 ·cases h; exact lq 5 (by kernel_rfl)
 refine jn1 14 .normal (fun v5 => ⟨134, [(2, (.ref 1 0 0)), (3, (.ref 2 0 0)), (5, (.ref 3 0 0))], [(1, (.box 27 [(fS (a0.name)), (.fz ((eL 1 eI) (a0.inputs))), (.fz ((eL 2 eSy) (a0.symbols))), (.fz ((eL 9 eRu) (a0.rules)))])), (2, (.box 67 [(fI (a1.symbol)), (fI (a1.kind)), (fI (a1.input)), (fI (a1.const.type)), (fI (a1.const.num)), (fS (a1.const.text)), (.fz ((eL 4 eVaR) (a1.const.items))), (fS (a1.op)), (.fz ((eL 1 eI) (a1.args)))])), (3, (.box 67 [(fI (a1.symbol)), (fI (a1.kind)), (fI (v5.1)), (fI (v5.2.1)), (fI (v5.2.2.1)), (fS (v5.2.2.2.1)), (.fz ((eL 4 eVaR) (v5.2.2.2.2.1))), (fS (v5.2.2.2.2.2.1)), (.fz ((eL 1 eI) (v5.2.2.2.2.2.2)))]))], [3, 2, 1], []⟩) h (by kernel_rfl) (fun v5 h => ?_) fun v5 h => ?_
 ·refine cd 5 h (by kernel_rfl) (fun h => ?_) fun h => ?_
  ·cases h; exact lj 4 (by kernel_rfl)
  refine cd 5 h (by kernel_rfl) (fun h => ?_) fun h => ?_
  ·cases h; exact lj 5 (by kernel_rfl)
  refine cd 5 h (by kernel_rfl) (fun h => ?_) fun h => ?_
  ·cases h; exact lj 6 (by kernel_rfl)
  cases h; exact lj 1 (by kernel_rfl)
 refine cl 9 h (grammar_sameRule_ok _ _) (by kernel_rfl) fun v6 h => ?_
 refine cd 2 h (by kernel_rfl) (fun h => ?_) fun h => ?_
 ·cases h; exact lq 5 (by kernel_rfl)
 refine ix nSy 7 h (by kernel_rfl) fun v7 h => ?_
 refine cd 16 h (by kernel_rfl) (fun h => ?_) fun h => ?_
 ·refine jn1 2 .normal (fun v9 => ⟨134, [(2, (.ref 1 0 0)), (3, (.ref 2 0 0)), (6, (fI (v7.type))), (68, (fB (v9)))], (grammar_rule_m0 a0 a1), [2, 1], []⟩) h (by kernel_rfl) (fun v9 h => ?_) fun v9 h => ?_
  ·refine gd 5 h (by kernel_rfl) (fun h => ?_) fun h => ?_
   ·cases h; exact lj 8 (by kernel_rfl)
   cases h; exact lj 8 (by kernel_rfl)
  refine cd 0 h (by kernel_rfl) (fun h => ?_) fun h => ?_
  ·cases h; exact lq 5 (by kernel_rfl)
  refine ix nI 7 h (by kernel_rfl) fun v10 h => ?_
  refine cl 2 h (grammar_same_ok _ _) (by kernel_rfl) fun v11 h => ?_
  cases h; exact lq 3 (by kernel_rfl)
 refine cd 5 h (by kernel_rfl) (fun h => ?_) fun h => ?_
 ·refine cl 5 h (value_Check_ok _ _) (by kernel_rfl) fun v12 h => ?_
  refine cd 7 h (by kernel_rfl) (fun h => ?_) fun h => ?_
  ·cases h; exact lq 6 (by kernel_rfl)
  refine cl 7 h (grammar_same_ok _ _) (by kernel_rfl) fun v13 h => ?_
  cases h; exact lq 3 (by kernel_rfl)
 refine cl 5 h (operator_Find_ok _) (by kernel_rfl) fun v14 h => ?_
 refine cd 13 h (by kernel_rfl) (fun h => ?_) fun h => ?_
 ·cases h; exact lq 5 (by kernel_rfl)
 refine cd 12 h (by kernel_rfl) (fun h => ?_) fun h => ?_
 ·cases h; exact lq 5 (by kernel_rfl)
 refine lpx 10 (fun v15 => ⟨134, [(2, (.ref 1 0 0)), (6, (fI (v7.type))), (8, (.ref 4 0 0)), (106, (.fz ((eL 1 eI) (a1.args)))), (107, (fI ((List.length a1.args : Int)))), (108, (fI (v15)))], [(1, (.box 27 [(fS (a0.name)), (.fz ((eL 1 eI) (a0.inputs))), (.fz ((eL 2 eSy) (a0.symbols))), (.fz ((eL 9 eRu) (a0.rules)))])), (4, (.box 171 [(fS (v14.1.f_Name)), (.fz ((eL 1 eI) (v14.1.f_Args))), (fI (v14.1.f_Result))]))], [4, 1], []⟩) (fun v20 e st => Sum.elim (fun p => e = .exit 2 ∧ LeSt st ⟨134, [(6, (fI (v7.type))), (8, (.ref 4 0 0))], [(4, (.box 171 [(fS (v14.1.f_Name)), (.fz ((eL 1 eI) (v14.1.f_Args))), (fI (v14.1.f_Result))]))], [4], []⟩) (fun p => e = .ret ∧ retX TT st Try.f145.results.toList [.one .keep] = some (eI (p))) v20) h (by kernel_rfl) (le_a (by kernel_rfl)) (fun v15 r h => ?_) fun v20 h e st' hq => ?_
 ·unfold grammar_rule_l1 at h
  refine cd 5 h (by kernel_rfl) (fun h => ?_) fun h => ?_
  ·refine ix nI 6 h (by kernel_rfl) fun v16 h => ?_
   refine cl 9 h (grammar_symbol_ok _ _) (by kernel_rfl) fun v17 h => ?_
   refine cd 2 h (by kernel_rfl) (fun h => ?_) fun h => ?_
   ·cases h; exact lor 5 (by kernel_rfl)
   refine dw 2 11 (by kernel_rfl) ?_
   refine ix nSy 3 h (by kernel_rfl) fun v18 h => ?_
   refine ix nI 5 h (by kernel_rfl) fun v19 h => ?_
   refine cd 4 h (by kernel_rfl) (fun h => ?_) fun h => ?_
   ·cases h; exact lor 5 (by kernel_rfl)
   cases h; exact lj 5 (by kernel_rfl)
  cases h; exact lo 1 (by kernel_rfl)
 rcases v20 with v21 | v23
 ·try simp only [Sum.elim_inl, Sum.elim_inr] at h
  obtain ⟨rfl, hle⟩ := hq
  refine ⟨_, hle, ?_⟩
  refine cl 5 h (grammar_same_ok _ _) (by kernel_rfl) fun v22 h => ?_
  cases h; exact lq 3 (by kernel_rfl)
 ·try simp only [Sum.elim_inl, Sum.elim_inr] at h
  obtain ⟨rfl, hret⟩ := hq
  refine ⟨_, LeSt.refl, ?_⟩
  cases h; exact lv hret

def grammar_Check_1_h (a0 : Ru) (a1 : Ru) : Option ((Bool)) := (Option.bind (grammar_sameRule (a0) (a1)) fun v1 => (some (v1)))
theorem grammar_Check_1_h_ok (a0 : Ru) (a1 : Ru) (r : (Bool)) (h : grammar_Check_1_h a0 a1 = some r) : HCall Try.prog 147 ([(.fz (eRu (a0)))] ++ [(.ref 1 0 0)]) [(1, (.box 67 [(fI (a1.symbol)), (fI (a1.kind)), (fI (a1.input)), (fI (a1.const.type)), (fI (a1.const.num)), (fS (a1.const.text)), (.fz ((eL 4 eVaR) (a1.const.items))), (fS (a1.op)), (.fz ((eL 1 eI) (a1.args)))]))] [1] (.ret (fB (r))) [(1, (.box 67 [(fI (a1.symbol)), (fI (a1.kind)), (fI (a1.input)), (fI (a1.const.type)), (fI (a1.const.num)), (fS (a1.const.text)), (.fz ((eL 4 eVaR) (a1.const.items))), (fS (a1.op)), (.fz ((eL 1 eI) (a1.args)))]))] [1] := by
 unfold grammar_Check_1_h at h
 refine hcx (gi := 0) Try.func147 (by kernel_rfl) (by kernel_rfl) (by kernel_rfl) (by kernel_rfl) (by kernel_rfl) (by kernel_rfl) (by kernel_rfl) (by kernel_rfl) ?_
 intro p0 q0 w0
 refine cl 9 h (grammar_sameRule_ok _ _) (by kernel_rfl) fun v1 h => ?_
 obtain rfl := Option.some.inj h; exact lh 3 ⟨7, [(3, (fB (v1)))], [(0, (.was p0 [1] q0 w0)), (1, (.box 67 [(fI (a1.symbol)), (fI (a1.kind)), (fI (a1.input)), (fI (a1.const.type)), (fI (a1.const.num)), (fS (a1.const.text)), (.fz ((eL 4 eVaR) (a1.const.items))), (fS (a1.op)), (.fz ((eL 1 eI) (a1.args)))]))], [0, 1], []⟩ (le_a (by kernel_rfl)) rfl rfl (by kernel_rfl) (by kernel_rfl)

def slices_IndexFunc_api_Rule_api_Rule_h_m0 (p0 : Env) (q0 : Nat → Prop) (w0 : World) (a1 : Ru) : List (Nat × AObj) := [(0, (.was p0 [1] q0 w0)), (1, (.box 67 [(fI (a1.symbol)), (fI (a1.kind)), (fI (a1.input)), (fI (a1.const.type)), (fI (a1.const.num)), (fS (a1.const.text)), (.fz ((eL 4 eVaR) (a1.const.items))), (fS (a1.op)), (.fz ((eL 1 eI) (a1.args)))]))]
def slices_IndexFunc_api_Rule_api_Rule_h_l1 (a0 : List Ru) (a1 : Ru) (v1 : (Int)) : Option (((Int)) ⊕ (((Unit) ⊕ ((Int))))) := (bif (decide (v1 < (List.length a0 : Int))) then (Option.bind (idx a0 v1) fun v2 => (Option.bind (grammar_Check_1_h (v2) (a1)) fun v3 => (bif v3 then (some (.inr (.inr (v1)))) else (some (.inl ((w64 (v1 + 1)))))))) else (some (.inr (.inl ()))))
def slices_IndexFunc_api_Rule_api_Rule_h (a0 : List Ru) (a1 : Ru) : Option ((Int)) := (Option.bind (loopN (slices_IndexFunc_api_Rule_api_Rule_h_l1 a0 a1) fuel (0)) fun (v4 : ((Unit) ⊕ ((Int)))) => Sum.elim (fun v5 => (some ((-1)))) (fun v6 => (some (v6))) v4)
theorem slices_IndexFunc_api_Rule_api_Rule_h_ok (a0 : List Ru) (a1 : Ru) (r : (Int)) (h : slices_IndexFunc_api_Rule_api_Rule_h a0 a1 = some r) : HCall Try.prog 178 ([(.fz ((eL 9 eRu) (a0))), (.fn 147 [(.ref 1 0 0)])] ++ []) [(1, (.box 67 [(fI (a1.symbol)), (fI (a1.kind)), (fI (a1.input)), (fI (a1.const.type)), (fI (a1.const.num)), (fS (a1.const.text)), (.fz ((eL 4 eVaR) (a1.const.items))), (fS (a1.op)), (.fz ((eL 1 eI) (a1.args)))]))] [1] (.ret (fI (r))) [(1, (.box 67 [(fI (a1.symbol)), (fI (a1.kind)), (fI (a1.input)), (fI (a1.const.type)), (fI (a1.const.num)), (fS (a1.const.text)), (.fz ((eL 4 eVaR) (a1.const.items))), (fS (a1.op)), (.fz ((eL 1 eI) (a1.args)))]))] [1] := by
 unfold slices_IndexFunc_api_Rule_api_Rule_h at h
 refine hcx (gi := 0) Try.func178 (by kernel_rfl) (by kernel_rfl) (by kernel_rfl) (by kernel_rfl) (by kernel_rfl) (by kernel_rfl) (by kernel_rfl) (by kernel_rfl) ?_
 intro p0 q0 w0
 refine lpx 12 (fun v1 => ⟨19, [(0, (.fz ((eL 9 eRu) (a0)))), (1, (.fn 147 [(.ref 1 0 0)])), (7, (fI ((List.length a0 : Int)))), (8, (fI (v1)))], (slices_IndexFunc_api_Rule_api_Rule_h_m0 p0 q0 w0 a1), [0, 1], []⟩) (fun v4 e st => Sum.elim (fun p => e = .exit 0 ∧ LeSt st ⟨19, [], (slices_IndexFunc_api_Rule_api_Rule_h_m0 p0 q0 w0 a1), [0, 1], []⟩) (fun p => e = .ret ∧ LeSt st ⟨19, [(4, (fI (p)))], (slices_IndexFunc_api_Rule_api_Rule_h_m0 p0 q0 w0 a1), [0, 1], []⟩) v4) h (by kernel_rfl) (le_a (by kernel_rfl)) (fun v1 r h => ?_) fun v4 h e st' hq => ?_
 ·unfold slices_IndexFunc_api_Rule_api_Rule_h_l1 at h
  refine cd 5 h (by kernel_rfl) (fun h => ?_) fun h => ?_
  ·refine ix nRu 13 h (by kernel_rfl) fun v2 h => ?_
   refine hcl 1 [.one .keep] [(1, 1)] [(1, 1)] [1] h (grammar_Check_1_h_ok _ _) (fun _ => by kernel_rfl) fun v3 h => ?_
   refine cd 1 h (by kernel_rfl) (fun h => ?_) fun h => ?_
   ·cases h; exact lo 6 (by kernel_rfl)
   cases h; exact lj 5 (by kernel_rfl)
  cases h; exact lo 1 (by kernel_rfl)
 rcases v4 with v5 | v6
 ·try simp only [Sum.elim_inl, Sum.elim_inr] at h
  obtain ⟨rfl, hle⟩ := hq
  refine ⟨_, hle, ?_⟩
  obtain rfl := Option.some.inj h; exact lh 5 ⟨19, [(4, (fI ((-1))))], (slices_IndexFunc_api_Rule_api_Rule_h_m0 p0 q0 w0 a1), [0, 1], []⟩ (le_a (by kernel_rfl)) rfl rfl (by kernel_rfl) (by kernel_rfl)
 ·try simp only [Sum.elim_inl, Sum.elim_inr] at h
  obtain ⟨rfl, hle⟩ := hq
  refine ⟨_, hle, ?_⟩
  obtain rfl := Option.some.inj h; exact lh 0 ⟨19, [(4, (fI (v6)))], (slices_IndexFunc_api_Rule_api_Rule_h_m0 p0 q0 w0 a1), [0, 1], []⟩ (le_a (by kernel_rfl)) rfl rfl (by kernel_rfl) (by kernel_rfl)

def slices_ContainsFunc_api_Rule_api_Rule_h (a0 : List Ru) (a1 : Ru) : Option ((Bool)) := (Option.bind (slices_IndexFunc_api_Rule_api_Rule_h (a0) (a1)) fun v1 => (some ((decide (0 ≤ v1)))))
theorem slices_ContainsFunc_api_Rule_api_Rule_h_ok (a0 : List Ru) (a1 : Ru) (r : (Bool)) (h : slices_ContainsFunc_api_Rule_api_Rule_h a0 a1 = some r) : HCall Try.prog 146 ([(.fz ((eL 9 eRu) (a0))), (.fn 147 [(.ref 1 0 0)])] ++ []) [(1, (.box 67 [(fI (a1.symbol)), (fI (a1.kind)), (fI (a1.input)), (fI (a1.const.type)), (fI (a1.const.num)), (fS (a1.const.text)), (.fz ((eL 4 eVaR) (a1.const.items))), (fS (a1.op)), (.fz ((eL 1 eI) (a1.args)))]))] [1] (.ret (fB (r))) [(1, (.box 67 [(fI (a1.symbol)), (fI (a1.kind)), (fI (a1.input)), (fI (a1.const.type)), (fI (a1.const.num)), (fS (a1.const.text)), (.fz ((eL 4 eVaR) (a1.const.items))), (fS (a1.op)), (.fz ((eL 1 eI) (a1.args)))]))] [1] := by
 unfold slices_ContainsFunc_api_Rule_api_Rule_h at h
 refine hcx (gi := 0) Try.func146 (by kernel_rfl) (by kernel_rfl) (by kernel_rfl) (by kernel_rfl) (by kernel_rfl) (by kernel_rfl) (by kernel_rfl) (by kernel_rfl) ?_
 intro p0 q0 w0
 refine hcl 8 [.one .keep, .one .keep] [(1, 1)] [(1, 1)] [1] h (slices_IndexFunc_api_Rule_api_Rule_h_ok _ _) (fun _ => by kernel_rfl) fun v1 h => ?_
 obtain rfl := Option.some.inj h; exact lh 4 ⟨9, [(4, (fB ((decide (0 ≤ v1)))))], [(0, (.was p0 [1] q0 w0)), (1, (.box 67 [(fI (a1.symbol)), (fI (a1.kind)), (fI (a1.input)), (fI (a1.const.type)), (fI (a1.const.num)), (fS (a1.const.text)), (.fz ((eL 4 eVaR) (a1.const.items))), (fS (a1.op)), (.fz ((eL 1 eI) (a1.args)))]))], [0, 1], []⟩ (le_a (by kernel_rfl)) rfl rfl (by kernel_rfl) (by kernel_rfl)

def grammar_Check_m0 (a0 : La) : List (Nat × AObj) := [(1, (.box 27 [(fS (a0.name)), (.fz ((eL 1 eI) (a0.inputs))), (.fz ((eL 2 eSy) (a0.symbols))), (.fz ((eL 9 eRu) (a0.rules)))]))]
def grammar_Check_l1 (a0 : La) (v15 : (Int)) : Option (((Int)) ⊕ (((Unit) ⊕ (Int)))) := (bif (decide (v15 < (List.length a0.rules : Int))) then (Option.bind (idx a0.rules v15) fun v16 => (Option.bind (grammar_rule (a0) (v16)) fun v17 => (bif (v17 != 0) then (some (.inr (.inr v17))) else (Option.bind (cutL a0.rules 0 v15) fun v18 => (Option.bind (slices_ContainsFunc_api_Rule_api_Rule_h (v18) (v16)) fun v19 => (bif v19 then (some (.inr (.inr 6))) else (some (.inl ((w64 (v15 + 1))))))))))) else (some (.inr (.inl ()))))
def grammar_Check_l2 (a0 : La) (v9 : (Int) × (List (ByteArray × Bool))) : Option (((Int) × (List (ByteArray × Bool))) ⊕ (((Unit) ⊕ (Int)))) := (bif (decide (v9.1 < (List.length a0.symbols : Int))) then (Option.bind (idx a0.symbols v9.1) fun v10 => (Option.bind (grammar_named (v10.name)) fun v11 => (bif (!v11) then (some (.inr (.inr 5))) else (bif (mget v9.2 v10.name false) then (some (.inr (.inr 6))) else (Option.bind (grammar_typed (v10.type)) fun v12 => (bif (!v12) then (some (.inr (.inr 3))) else (some (.inl ((w64 (v9.1 + 1)), (mput v9.2 v10.name true)))))))))) else (some (.inr (.inl ()))))
def grammar_Check_l3 (a0 : La) (v2 : (Int)) : Option (((Int)) ⊕ (((Unit) ⊕ (Int)))) := (bif (decide (v2 < (List.length a0.inputs : Int))) then (Option.bind (idx a0.inputs v2) fun v3 => (Option.bind (grammar_typed (v3)) fun v4 => (bif (!v4) then (some (.inr (.inr 3))) else (some (.inl ((w64 (v2 + 1)))))))) else (some (.inr (.inl ()))))
def grammar_Check (a0 : La) : Option (Int) := (Option.bind (grammar_named (a0.name)) fun v1 => (bif (!v1) then (some 5) else (bif (decide (4 < (List.length a0.inputs : Int))) then (some 2) else (Option.bind (loopN (grammar_Check_l3 a0) fuel (0)) fun (v5 : ((Unit) ⊕ (Int))) => Sum.elim (fun v6 => (Option.bind ((bif (decide ((List.length a0.symbols : Int) < 1)) then (some (true)) else (some ((decide (16 < (List.length a0.symbols : Int)))))) : Option ((Bool))) fun (v8 : (Bool)) => (bif v8 then (some 2) else (Option.bind (loopN (grammar_Check_l2 a0) fuel (0, ([] : List (ByteArray × Bool)))) fun (v13 : ((Unit) ⊕ (Int))) => Sum.elim (fun v14 => (bif (decide (96 < (List.length a0.rules : Int))) then (some 2) else (Option.bind (loopN (grammar_Check_l1 a0) fuel (0)) fun (v20 : ((Unit) ⊕ (Int))) => Sum.elim (fun v21 => (some 0)) (fun v22 => (some v22)) v20))) (fun v23 => (some v23)) v13)))) (fun v24 => (some v24)) v5))))
theorem grammar_Check_ok (a0 : La) (r : Int) (h : grammar_Check a0 = some r) : PCall Try.prog 85 [eLa a0] (eI (r)) := by
 unfold grammar_Check at h
 refine pcl [.one .keep] Try.func85 (by kernel_rfl) (by kernel_rfl) (by kernel_rfl) ?_
 refine cl 10 h (grammar_named_ok _) (by kernel_rfl) fun v1 h => ?_
 refine cd 2 h (by kernel_rfl) (fun h => ?_) fun h => ?_
 ·cases h; exact lq 5 (by kernel_rfl)
 refine cd 9 h (by kernel_rfl) (fun h => ?_) fun h => ?_
 ·cases h; exact lq 5 (by kernel_rfl)
 refine lpx 10 (fun v2 => ⟨92, [(1, (.ref 1 0 0)), (20, (.fz ((eL 1 eI) (a0.inputs)))), (21, (fI ((List.length a0.inputs : Int)))), (22, (fI (v2)))], (grammar_Check_m0 a0), [1], []⟩) (fun v5 e st => Sum.elim (fun p => e = .exit 0 ∧ LeSt st ⟨92, [(1, (.ref 1 0 0))], (grammar_Check_m0 a0), [1], []⟩) (fun p => e = .ret ∧ retX TT st Try.f85.results.toList [.one .keep] = some (eI (p))) v5) h (by kernel_rfl) (le_a (by kernel_rfl)) (fun v2 r h => ?_) fun v5 h e st' hq => ?_
 ·unfold grammar_Check_l3 at h
  refine cd 5 h (by kernel_rfl) (fun h => ?_) fun h => ?_
  ·refine ix nI 5 h (by kernel_rfl) fun v3 h => ?_
   refine cl 6 h (grammar_typed_ok _) (by kernel_rfl) fun v4 h => ?_
   refine cd 2 h (by kernel_rfl) (fun h => ?_) fun h => ?_
   ·cases h; exact lor 5 (by kernel_rfl)
   cases h; exact lj 5 (by kernel_rfl)
  cases h; exact lo 1 (by kernel_rfl)
 rcases v5 with v6 | v24
 ·try simp only [Sum.elim_inl, Sum.elim_inr] at h
  obtain ⟨rfl, hle⟩ := hq
  refine ⟨_, hle, ?_⟩
  refine jn1 2 .normal (fun v8 => ⟨92, [(1, (.ref 1 0 0)), (39, (fB (v8)))], (grammar_Check_m0 a0), [1], []⟩) h (by kernel_rfl) (fun v8 h => ?_) fun v8 h => ?_
  ·refine gd 6 h (by kernel_rfl) (fun h => ?_) fun h => ?_
   ·cases h; exact lj 6 (by kernel_rfl)
   cases h; exact lj 6 (by kernel_rfl)
  refine cd 0 h (by kernel_rfl) (fun h => ?_) fun h => ?_
  ·cases h; exact lq 5 (by kernel_rfl)
  refine sst 3 (e_makeMap (t := 149) (id := 2) (by kernel_rfl) (by kernel_rfl)) (by kernel_rfl) ?_
  refine lpx 11 (fun v9 => ⟨92, [(1, (.ref 1 0 0)), (5, (.mp 2)), (42, (.fz ((eL 2 eSy) (a0.symbols)))), (43, (fI ((List.length a0.symbols : Int)))), (44, (fI (v9.1)))], [(1, (.box 27 [(fS (a0.name)), (.fz ((eL 1 eI) (a0.inputs))), (.fz ((eL 2 eSy) (a0.symbols))), (.fz ((eL 9 eRu) (a0.rules)))])), (2, (.smap (List.map (fun p => (p.1, eB p.2)) (v9.2))))], [2, 1], []⟩) (fun v13 e st => Sum.elim (fun p => e = .exit 2 ∧ LeSt st ⟨92, [(1, (.ref 1 0 0))], (grammar_Check_m0 a0), [1], []⟩) (fun p => e = .ret ∧ retX TT st Try.f85.results.toList [.one .keep] = some (eI (p))) v13) h (by kernel_rfl) (le_a (by kernel_rfl)) (fun v9 r h => ?_) fun v13 h e st' hq => ?_
  ·unfold grammar_Check_l2 at h
   refine cd 5 h (by kernel_rfl) (fun h => ?_) fun h => ?_
   ·refine ix nSy 5 h (by kernel_rfl) fun v10 h => ?_
    refine cl 10 h (grammar_named_ok _) (by kernel_rfl) fun v11 h => ?_
    refine cd 3 h (by kernel_rfl) (fun h => ?_) fun h => ?_
    ·cases h; exact lor 5 (by kernel_rfl)
    refine nst 5 (n_lookup (t := 149) (x := (.tmp 54)) (y := (.tmp 56)) (enc := eB) (m := v9.2) (s := v10.name) (z := false) (id := 2) (d := tt149) (kt := 9) (et := 4) (kd := tt9) (.bool false) (by kernel_rfl) tt_ok rfl (by kernel_rfl) rfl (by kernel_rfl) Try.t4 (by kernel_rfl) (by kernel_rfl) (by kernel_rfl) rfl (by kernel_rfl) (by kernel_rfl) (by kernel_rfl)) (by kernel_rfl) ?_
    refine cd 2 h (by kernel_rfl) (fun h => ?_) fun h => ?_
    ·cases h; exact lor 5 (by kernel_rfl)
    refine cl 4 h (grammar_typed_ok _) (by kernel_rfl) fun v12 h => ?_
    refine cd 3 h (by kernel_rfl) (fun h => ?_) fun h => ?_
    ·cases h; exact lor 5 (by kernel_rfl)
    refine sst 5 (e_mapUpdate (t := 149) (x := (.tmp 63)) (y := (.tmp 65)) (v := (.const (.bool true))) (enc := eB) (m := v9.2) (s := v10.name) (z := true) (id := 2) (d := tt149) (kt := 9) (et := 4) (kd := tt9) (by kernel_rfl) tt_ok rfl (by kernel_rfl) rfl (by kernel_rfl) (by kernel_rfl) (by kernel_rfl) (by kernel_rfl) (by kernel_rfl)) (by kernel_rfl) ?_
    cases h; exact lj 5 (by kernel_rfl)
   cases h; exact lo 1 (by kernel_rfl)
  rcases v13 with v14 | v23
  ·try simp only [Sum.elim_inl, Sum.elim_inr] at h
   obtain ⟨rfl, hle⟩ := hq
   refine ⟨_, hle, ?_⟩
   refine cd 8 h (by kernel_rfl) (fun h => ?_) fun h => ?_
   ·cases h; exact lq 5 (by kernel_rfl)
   refine lpx 10 (fun v15 => ⟨92, [(1, (.ref 1 0 0)), (72, (.fz ((eL 9 eRu) (a0.rules)))), (73, (fI ((List.length a0.rules : Int)))), (74, (fI (v15)))], (grammar_Check_m0 a0), [1], []⟩) (fun v20 e st => Sum.elim (fun p => e = .exit 5 ∧ LeSt st ⟨92, [], [], [], []⟩) (fun p => e = .ret ∧ retX TT st Try.f85.results.toList [.one .keep] = some (eI (p))) v20) h (by kernel_rfl) (le_a (by kernel_rfl)) (fun v15 r h => ?_) fun v20 h e st' hq => ?_
   ·unfold grammar_Check_l1 at h
    refine cd 5 h (by kernel_rfl) (fun h => ?_) fun h => ?_
    ·refine ix nRu 6 h (by kernel_rfl) fun v16 h => ?_
     refine cl 10 h (grammar_rule_ok _ _) (by kernel_rfl) fun v17 h => ?_
     refine cd 7 h (by kernel_rfl) (fun h => ?_) fun h => ?_
     ·cases h; exact lor 6 (by kernel_rfl)
     obtain ⟨v18, hv18, h⟩ := Option.bind_eq_some_iff.1 h
     refine nst 6 (s_cutL (t := 25) (x := (.tmp 86)) (lo := none) (hi := (some (.tmp 87))) (d := tt25) (e := 67) (de := tt67) (size := 9) (enc := eRu) (xs := a0.rules) (l := none) (h := (some v15)) hv18 tt_ok (by kernel_rfl) (by kernel_rfl) (by kernel_rfl) (by kernel_rfl) (by kernel_rfl) (by kernel_rfl) (by kernel_rfl) (by kernel_rfl)) (by kernel_rfl) ?_
     refine hcl 1 [.one .keep, .one .keep] [(2, 1)] [(1, 2)] [1] h (slices_ContainsFunc_api_Rule_api_Rule_h_ok _ _) (fun _ => by kernel_rfl) fun v19 h => ?_
     refine cd 1 h (by kernel_rfl) (fun h => ?_) fun h => ?_
     ·cases h; exact lor 5 (by kernel_rfl)
     cases h; exact lj 5 (by kernel_rfl)
    cases h; exact lo 1 (by kernel_rfl)
   rcases v20 with v21 | v22
   ·try simp only [Sum.elim_inl, Sum.elim_inr] at h
    obtain ⟨rfl, hle⟩ := hq
    refine ⟨_, hle, ?_⟩
    cases h; exact lq 5 (by kernel_rfl)
   ·try simp only [Sum.elim_inl, Sum.elim_inr] at h
    obtain ⟨rfl, hret⟩ := hq
    refine ⟨_, LeSt.refl, ?_⟩
    cases h; exact lv hret
  ·try simp only [Sum.elim_inl, Sum.elim_inr] at h
   obtain ⟨rfl, hret⟩ := hq
   refine ⟨_, LeSt.refl, ?_⟩
   cases h; exact lv hret
 ·try simp only [Sum.elim_inl, Sum.elim_inr] at h
  obtain ⟨rfl, hret⟩ := hq
  refine ⟨_, LeSt.refl, ?_⟩
  cases h; exact lv hret

def grammar_productive_1_h_m0 (p0 : Env) (q0 : Nat → Prop) (w0 : World) (a1 : List Bool) : List (Nat × AObj) := [(0, (.was p0 [1, 2] q0 w0)), (1, (.box 131 [(.row 2 (List.length (a1)))])), (2, (.frow 4 1 (List.map eB (a1))))]
def grammar_productive_1_h_l1 (a0 : Ru) (a1 : List Bool) (v1 : (Int)) : Option (((Int)) ⊕ (((Unit) ⊕ (Unit)))) := (bif (decide (v1 < (List.length a0.args : Int))) then (Option.bind (idx a0.args v1) fun v2 => (Option.bind (idx a1 v2) fun v3 => (bif (!v3) then (some (.inr (.inr ()))) else (some (.inl ((w64 (v1 + 1)))))))) else (some (.inr (.inl ()))))
def grammar_productive_1_h (a0 : Ru) (a1 : List Bool) : Option ((Bool)) := (Option.bind (loopN (grammar_productive_1_h_l1 a0 a1) fuel (0)) fun (v4 : ((Unit) ⊕ (Unit))) => Sum.elim (fun v5 => (some (true))) (fun v6 => (some (false))) v4)
theorem grammar_productive_1_h_ok (a0 : Ru) (a1 : List Bool) (r : (Bool)) (h : grammar_productive_1_h a0 a1 = some r) : HCall Try.prog 184 ([(.fz (eRu (a0)))] ++ [(.ref 1 0 0)]) [(1, (.box 131 [(.row 2 (List.length (a1)))])), (2, (.frow 4 1 (List.map eB (a1))))] [1, 2] (.ret (fB (r))) [(1, (.box 131 [(.row 2 (List.length (a1)))])), (2, (.frow 4 1 (List.map eB (a1))))] [1, 2] := by
 unfold grammar_productive_1_h at h
 refine hcx (gi := 0) Try.func184 (by kernel_rfl) (by kernel_rfl) (by kernel_rfl) (by kernel_rfl) (by kernel_rfl) (by kernel_rfl) (by kernel_rfl) (by kernel_rfl) ?_
 intro p0 q0 w0
 refine lpx 14 (fun v1 => ⟨19, [(1, (.ref 1 0 0)), (7, (.fz ((eL 1 eI) (a0.args)))), (8, (fI ((List.length a0.args : Int)))), (9, (fI (v1)))], (grammar_productive_1_h_m0 p0 q0 w0 a1), [0, 1, 2], []⟩) (fun v4 e st => Sum.elim (fun p => e = .exit 0 ∧ LeSt st ⟨19, [], (grammar_productive_1_h_m0 p0 q0 w0 a1), [0, 1, 2], []⟩) (fun p => e = .ret ∧ LeSt st ⟨19, [(3, (fB (false)))], (grammar_productive_1_h_m0 p0 q0 w0 a1), [0, 1, 2], []⟩) v4) h (by kernel_rfl) (le_a (by kernel_rfl)) (fun v1 r h => ?_) fun v4 h e st' hq => ?_
 ·unfold grammar_productive_1_h_l1 at h
  refine cd 5 h (by kernel_rfl) (fun h => ?_) fun h => ?_
  ·refine ix nI 5 h (by kernel_rfl) fun v2 h => ?_
   obtain ⟨v3, hv3, h⟩ := Option.bind_eq_some_iff.1 h
   refine nst 7 (n_rowAddr (t := 131) (X := (.tmp 13)) (Y := (.tmp 14)) (id := 2) (k := .i64) (d := tt131) (e := 4) (de := tt4) (enc := eB) (xs := a1) (n := List.length (a1)) hv3 tt_ok (by kernel_rfl) (by kernel_rfl) (by kernel_rfl) (by kernel_rfl) (by kernel_rfl) (by kernel_rfl) (by kernel_rfl) rfl (by kernel_rfl)) (by kernel_rfl) ?_
   refine nst 0 (n_rowLoad (t := 4) (X := (.tmp 15)) (id := 2) (d := tt4) (enc := eB) (xs := a1) (x := v3) (i := v2) (n := List.length (a1)) hv3 tt_ok (by kernel_rfl) (by kernel_rfl) (by kernel_rfl) (by kernel_rfl) (by kernel_rfl) rfl (fun _ => rfl)) (by kernel_rfl) ?_
   refine cd 2 h (by kernel_rfl) (fun h => ?_) fun h => ?_
   ·cases h; exact lo 5 (by kernel_rfl)
   cases h; exact lj 5 (by kernel_rfl)
  cases h; exact lo 1 (by kernel_rfl)
 rcases v4 with v5 | v6
 ·try simp only [Sum.elim_inl, Sum.elim_inr] at h
  obtain ⟨rfl, hle⟩ := hq
  refine ⟨_, hle, ?_⟩
  obtain rfl := Option.some.inj h; exact lh 5 ⟨19, [(3, (fB (true)))], (grammar_productive_1_h_m0 p0 q0 w0 a1), [0, 1, 2], []⟩ (le_a (by kernel_rfl)) rfl rfl (by kernel_rfl) (by kernel_rfl)
 ·try simp only [Sum.elim_inl, Sum.elim_inr] at h
  obtain ⟨rfl, hle⟩ := hq
  refine ⟨_, hle, ?_⟩
  obtain rfl := Option.some.inj h; exact lh 0 ⟨19, [(3, (fB (false)))], (grammar_productive_1_h_m0 p0 q0 w0 a1), [0, 1, 2], []⟩ (le_a (by kernel_rfl)) rfl rfl (by kernel_rfl) (by kernel_rfl)

def grammar_productive_l1 (a0 : La) (v3 : (Int) × (List Bool)) : Option (((Int) × (List Bool)) ⊕ ((List Bool))) := (bif (decide (v3.1 < (List.length a0.rules : Int))) then (Option.bind (idx a0.rules v3.1) fun v4 => (Option.bind ((Option.bind (idx v3.2 v4.symbol) fun v5 => (bif v5 then (Option.bind (idx v3.2 v4.symbol) fun v6 => (some ((List.set v3.2 (Int.toNat v4.symbol) true)))) else (Option.bind (grammar_productive_1_h (v4) (v3.2)) fun v7 => (Option.bind (idx v3.2 v4.symbol) fun v8 => (some ((List.set v3.2 (Int.toNat v4.symbol) v7))))))) : Option ((List Bool))) fun (v10 : (List Bool)) => (some (.inl ((w64 (v3.1 + 1)), v10))))) else (some (.inr (v3.2))))
def grammar_productive_l2 (a0 : La) (v2 : (Int) × (List Bool)) : Option (((Int) × (List Bool)) ⊕ ((List Bool))) := (bif (decide (v2.1 < (List.length a0.symbols : Int))) then (Option.bind (loopN (grammar_productive_l1 a0) fuel (0, v2.2)) fun (v12 : (List Bool)) => (some (.inl ((w64 (v2.1 + 1)), v12)))) else (some (.inr (v2.2))))
def grammar_productive (a0 : La) : Option (List Bool) := (Option.bind (mkL 1 false (List.length a0.symbols : Int)) fun v1 => (Option.bind (loopN (grammar_productive_l2 a0) fuel (0, v1)) fun (v14 : (List Bool)) => (some v14)))
theorem grammar_productive_ok (a0 : La) (r : List Bool) (h : grammar_productive a0 = some r) : PCall Try.prog 161 [eLa a0] ((eL 1 eB) (r)) := by
 unfold grammar_productive at h
 refine pcl [.one (.sl 1)] Try.func161 (by kernel_rfl) (by kernel_rfl) (by kernel_rfl) ?_
 obtain ⟨v1, hv1, h⟩ := Option.bind_eq_some_iff.1 h
 refine sst 10 (s_make (t := 131) (X := (.tmp 9)) (Y := (.tmp 9)) (id := 2) (k := .i64) (k' := .i64) (d := tt131) (e := 4) (de := tt4) (enc := eB) (zv := .bool false) hv1 (by kernel_rfl) tt_ok (by kernel_rfl) (by kernel_rfl) (by kernel_rfl) rfl rfl rfl rfl rfl (by kernel_rfl) (by kernel_rfl) (by kernel_rfl)) (by kernel_rfl) ?_
 refine lp1 17 (fun v2 => ⟨41, [(1, (.ref 1 0 0)), (3, (.ref 3 0 0)), (4, (.fn 184 [(.ref 3 0 0)])), (14, (fI ((List.length a0.symbols : Int)))), (15, (fI (v2.1)))], [(1, (.box 27 [(fS (a0.name)), (.fz ((eL 1 eI) (a0.inputs))), (.fz ((eL 2 eSy) (a0.symbols))), (.fz ((eL 9 eRu) (a0.rules)))])), (2, (.frow 4 1 (List.map eB (v2.2)))), (3, (.box 131 [(.row 2 (List.length (v2.2)))]))], [3, 2, 1], []⟩) (.exit 0) (fun v14 => ⟨41, [(3, (.ref 3 0 0))], [(2, (.frow 4 1 (List.map eB (v14)))), (3, (.box 131 [(.row 2 (List.length (v14)))]))], [3, 2], []⟩) h (by kernel_rfl) (by kernel_rfl) (fun v2 r h => ?_) fun v14 h => ?_
 ·unfold grammar_productive_l2 at h
  refine cd 5 h (by kernel_rfl) (fun h => ?_) fun h => ?_
  ·refine lp1 11 (fun v3 => ⟨41, [(1, (.ref 1 0 0)), (3, (.ref 3 0 0)), (4, (.fn 184 [(.ref 3 0 0)])), (14, (fI ((List.length a0.symbols : Int)))), (15, (fI (v2.1))), (18, (.fz ((eL 9 eRu) (a0.rules)))), (19, (fI ((List.length a0.rules : Int)))), (20, (fI (v3.1)))], [(1, (.box 27 [(fS (a0.name)), (.fz ((eL 1 eI) (a0.inputs))), (.fz ((eL 2 eSy) (a0.symbols))), (.fz ((eL 9 eRu) (a0.rules)))])), (2, (.frow 4 1 (List.map eB (v3.2)))), (3, (.box 131 [(.row 2 (List.length (v3.2)))]))], [3, 2, 1], []⟩) (.exit 2) (fun v12 => ⟨41, [(1, (.ref 1 0 0)), (3, (.ref 3 0 0)), (4, (.fn 184 [(.ref 3 0 0)])), (14, (fI ((List.length a0.symbols : Int)))), (15, (fI (v2.1)))], [(1, (.box 27 [(fS (a0.name)), (.fz ((eL 1 eI) (a0.inputs))), (.fz ((eL 2 eSy) (a0.symbols))), (.fz ((eL 9 eRu) (a0.rules)))])), (2, (.frow 4 1 (List.map eB (v12)))), (3, (.box 131 [(.row 2 (List.length (v12)))]))], [3, 2, 1], []⟩) h (by kernel_rfl) (by kernel_rfl) (fun v3 r h => ?_) fun v12 h => ?_
   ·unfold grammar_productive_l1 at h
    refine cd 5 h (by kernel_rfl) (fun h => ?_) fun h => ?_
    ·refine ix nRu 5 h (by kernel_rfl) fun v4 h => ?_
     refine jn1 4 .normal (fun v10 => ⟨41, [(1, (.ref 1 0 0)), (3, (.ref 3 0 0)), (4, (.fn 184 [(.ref 3 0 0)])), (14, (fI ((List.length a0.symbols : Int)))), (15, (fI (v2.1))), (18, (.fz ((eL 9 eRu) (a0.rules)))), (19, (fI ((List.length a0.rules : Int)))), (20, (fI (v3.1)))], [(1, (.box 27 [(fS (a0.name)), (.fz ((eL 1 eI) (a0.inputs))), (.fz ((eL 2 eSy) (a0.symbols))), (.fz ((eL 9 eRu) (a0.rules)))])), (2, (.frow 4 1 (List.map eB (v10)))), (3, (.box 131 [(.row 2 (List.length (v10)))]))], [3, 2, 1], []⟩) h (by kernel_rfl) (fun v10 h => ?_) fun v10 h => ?_
     ·refine dz 0 13 [11] [] (List.range 5) (by kernel_rfl) ?_
      obtain ⟨v5, hv5, h⟩ := Option.bind_eq_some_iff.1 h
      refine nst 6 (n_rowAddr (t := 131) (X := (.tmp 27)) (Y := (.tmp 29)) (id := 2) (k := .i64) (d := tt131) (e := 4) (de := tt4) (enc := eB) (xs := v3.2) (n := List.length (v3.2)) hv5 tt_ok (by kernel_rfl) (by kernel_rfl) (by kernel_rfl) (by kernel_rfl) (by kernel_rfl) (by kernel_rfl) (by kernel_rfl) rfl (by kernel_rfl)) (by kernel_rfl) ?_
      refine nst 0 (n_rowLoad (t := 4) (X := (.tmp 30)) (id := 2) (d := tt4) (enc := eB) (xs := v3.2) (x := v5) (i := v4.symbol) (n := List.length (v3.2)) hv5 tt_ok (by kernel_rfl) (by kernel_rfl) (by kernel_rfl) (by kernel_rfl) (by kernel_rfl) rfl (fun _ => rfl)) (by kernel_rfl) ?_
      refine gd 1 h (by kernel_rfl) (fun h => ?_) fun h => ?_
      ·obtain ⟨v6, hv6, h⟩ := Option.bind_eq_some_iff.1 h
       refine nst 5 (n_rowAddr (t := 131) (X := (.tmp 24)) (Y := (.tmp 26)) (id := 2) (k := .i64) (d := tt131) (e := 4) (de := tt4) (enc := eB) (xs := v3.2) (n := List.length (v3.2)) hv6 tt_ok (by kernel_rfl) (by kernel_rfl) (by kernel_rfl) (by kernel_rfl) (by kernel_rfl) (by kernel_rfl) (by kernel_rfl) rfl (by kernel_rfl)) (by kernel_rfl) ?_
       refine sst 0 (e_rowStore (t := 4) (X := (.tmp 37)) (Y := (.tmp 36)) (id := 2) (d := tt4) (enc := eB) (xs := v3.2) (x := v6) (i := v4.symbol) (y := true) (n := List.length (v3.2)) hv6 tt_ok (by kernel_rfl) (by kernel_rfl) (by kernel_rfl) (by kernel_rfl) (by kernel_rfl) rfl (by kernel_rfl) (fun _ => ⟨_, rfl, rfl⟩)) (by kernel_rfl) ?_
       refine wle 0 (LeSt.trans (show LeSt _ ⟨41, [(1, (.ref 1 0 0)), (3, (.ref 3 0 0)), (4, (.fn 184 [(.ref 3 0 0)])), (14, (fI ((List.length a0.symbols : Int)))), (15, (fI (v2.1))), (18, (.fz ((eL 9 eRu) (a0.rules)))), (19, (fI ((List.length a0.rules : Int)))), (20, (fI (v3.1))), (24, (.row 2 (List.length (v3.2)))), (26, (fI (v4.symbol))), (36, (fB (true)))], [(1, (.box 27 [(fS (a0.name)), (.fz ((eL 1 eI) (a0.inputs))), (.fz ((eL 2 eSy) (a0.symbols))), (.fz ((eL 9 eRu) (a0.rules)))])), (2, (.frow 4 1 (List.map eB ((List.set v3.2 (Int.toNat v4.symbol) true))))), (3, (.box 131 [(.row 2 (List.length (v3.2)))]))], [3, 2, 1], []⟩ from le_a (by kernel_rfl)) (LeSt.trans (le_relen 2 (k := 2) (m := List.length (v3.2)) (n := List.length ((List.set v3.2 (Int.toNat v4.symbol) true))) (by kernel_rfl) (by simp)) (show LeSt _ ⟨41, [(1, (.ref 1 0 0)), (3, (.ref 3 0 0)), (4, (.fn 184 [(.ref 3 0 0)])), (14, (fI ((List.length a0.symbols : Int)))), (15, (fI (v2.1))), (18, (.fz ((eL 9 eRu) (a0.rules)))), (19, (fI ((List.length a0.rules : Int)))), (20, (fI (v3.1))), (24, (.row 2 (List.length ((List.set v3.2 (Int.toNat v4.symbol) true))))), (26, (fI (v4.symbol))), (36, (fB (true)))], [(1, (.box 27 [(fS (a0.name)), (.fz ((eL 1 eI) (a0.inputs))), (.fz ((eL 2 eSy) (a0.symbols))), (.fz ((eL 9 eRu) (a0.rules)))])), (2, (.frow 4 1 (List.map eB ((List.set v3.2 (Int.toNat v4.symbol) true))))), (3, (.box 131 [(.row 2 (List.length ((List.set v3.2 (Int.toNat v4.symbol) true))))]))], [3, 2, 1], []⟩ from le_a (by kernel_rfl)))) (by kernel_rfl) ?_
       cases h; exact lj 1 (by kernel_rfl)
      refine hclZ 2 [.one .keep] [(3, 1), (2, 2)] [(1, 3), (2, 2)] [1, 2] h (grammar_productive_1_h_ok _ _) (fun _ => by kernel_rfl) (by kernel_rfl) (fun _ => by kernel_rfl) fun v7 h => ?_
      obtain ⟨v8, hv8, h⟩ := Option.bind_eq_some_iff.1 h
      refine nst 2 (n_rowAddr (t := 131) (X := (.tmp 24)) (Y := (.tmp 26)) (id := 2) (k := .i64) (d := tt131) (e := 4) (de := tt4) (enc := eB) (xs := v3.2) (n := List.length (v3.2)) hv8 tt_ok (by kernel_rfl) (by kernel_rfl) (by kernel_rfl) (by kernel_rfl) (by kernel_rfl) (by kernel_rfl) (by kernel_rfl) rfl (by kernel_rfl)) (by kernel_rfl) ?_
      refine sst 0 (e_rowStore (t := 4) (X := (.tmp 37)) (Y := (.tmp 36)) (id := 2) (d := tt4) (enc := eB) (xs := v3.2) (x := v8) (i := v4.symbol) (y := v7) (n := List.length (v3.2)) hv8 tt_ok (by kernel_rfl) (by kernel_rfl) (by kernel_rfl) (by kernel_rfl) (by kernel_rfl) rfl (by kernel_rfl) (fun _ => ⟨_, rfl, rfl⟩)) (by kernel_rfl) ?_
      refine wle 0 (LeSt.trans (show LeSt _ ⟨41, [(1, (.ref 1 0 0)), (3, (.ref 3 0 0)), (4, (.fn 184 [(.ref 3 0 0)])), (14, (fI ((List.length a0.symbols : Int)))), (15, (fI (v2.1))), (18, (.fz ((eL 9 eRu) (a0.rules)))), (19, (fI ((List.length a0.rules : Int)))), (20, (fI (v3.1))), (24, (.row 2 (List.length (v3.2)))), (26, (fI (v4.symbol))), (36, (fB (v7)))], [(1, (.box 27 [(fS (a0.name)), (.fz ((eL 1 eI) (a0.inputs))), (.fz ((eL 2 eSy) (a0.symbols))), (.fz ((eL 9 eRu) (a0.rules)))])), (2, (.frow 4 1 (List.map eB ((List.set v3.2 (Int.toNat v4.symbol) v7))))), (3, (.box 131 [(.row 2 (List.length (v3.2)))]))], [3, 2, 1], []⟩ from le_a (by kernel_rfl)) (LeSt.trans (le_relen 2 (k := 2) (m := List.length (v3.2)) (n := List.length ((List.set v3.2 (Int.toNat v4.symbol) v7))) (by kernel_rfl) (by simp)) (show LeSt _ ⟨41, [(1, (.ref 1 0 0)), (3, (.ref 3 0 0)), (4, (.fn 184 [(.ref 3 0 0)])), (14, (fI ((List.length a0.symbols : Int)))), (15, (fI (v2.1))), (18, (.fz ((eL 9 eRu) (a0.rules)))), (19, (fI ((List.length a0.rules : Int)))), (20, (fI (v3.1))), (24, (.row 2 (List.length ((List.set v3.2 (Int.toNat v4.symbol) v7))))), (26, (fI (v4.symbol))), (36, (fB (v7)))], [(1, (.box 27 [(fS (a0.name)), (.fz ((eL 1 eI) (a0.inputs))), (.fz ((eL 2 eSy) (a0.symbols))), (.fz ((eL 9 eRu) (a0.rules)))])), (2, (.frow 4 1 (List.map eB ((List.set v3.2 (Int.toNat v4.symbol) v7))))), (3, (.box 131 [(.row 2 (List.length ((List.set v3.2 (Int.toNat v4.symbol) v7))))]))], [3, 2, 1], []⟩ from le_a (by kernel_rfl)))) (by kernel_rfl) ?_
      cases h; exact lj 1 (by kernel_rfl)
     cases h; exact lj 4 (by kernel_rfl)
    cases h; exact lo 1 (by kernel_rfl)
   cases h; exact lj 4 (by kernel_rfl)
  cases h; exact lo 1 (by kernel_rfl)
 refine wle 5 (le_freeze (t := 2) (id := 2) (n := List.length (v14)) (e := 4) (size := 1) (xs := List.map eB (v14)) (by kernel_rfl) (by kernel_rfl) (by simp)) (by kernel_rfl) ?_
 cases h; exact lq 1 (by kernel_rfl)

def grammar_Productive (a0 : La) : Option (List Bool) := (Option.bind (grammar_Check (a0)) fun v1 => (bif (v1 != 0) then (some ([] : List Bool)) else (Option.bind (grammar_productive (a0)) fun v2 => (some v2))))
theorem grammar_Productive_ok (a0 : La) (r : List Bool) (h : grammar_Productive a0 = some r) : PCall Try.prog 126 [eLa a0] ((eL 1 eB) (r)) := by
 unfold grammar_Productive at h
 refine pcl [.one (.sl 1)] Try.func126 (by kernel_rfl) (by kernel_rfl) (by kernel_rfl) ?_
 refine cl 9 h (grammar_Check_ok _) (by kernel_rfl) fun v1 h => ?_
 refine cd 2 h (by kernel_rfl) (fun h => ?_) fun h => ?_
 ·cases h; exact lq 5 (by kernel_rfl)
 refine cl 4 h (grammar_productive_ok _) (by kernel_rfl) fun v2 h => ?_
 cases h; exact lq 3 (by kernel_rfl)

def synthesislaw16_valid (a0 : La) (a1 : Int) : Option (Bool) := (bif (a1 != 0) then (Option.bind (synthesisref11_Same (a0) ((La.mk ((⟨#[]⟩ : ByteArray)) (([] : List Int)) (([] : List Sy)) (([] : List Ru))))) fun v1 => (some v1)) else (Option.bind (grammar_Productive (a0)) fun v2 => (Option.bind ((Option.bind (grammar_Check (a0)) fun v3 => (bif (v3 == 0) then (bif (decide (0 < (List.length v2 : Int))) then (Option.bind (idx v2 0) fun v4 => (some (v4))) else (some (false))) else (some (false)))) : Option ((Bool))) fun (v6 : (Bool)) => (some v6))))
theorem synthesislaw16_valid_ok (a0 : La) (a1 : Int) (r : Bool) (h : synthesislaw16_valid a0 a1 = some r) : PCall Try.prog 59 [eLa a0, eI a1] (eB (r)) := by
 unfold synthesislaw16_valid at h
 refine pcl [.one .keep] Try.func59 (by kernel_rfl) (by kernel_rfl) (by kernel_rfl) ?_
 refine cd 11 h (by kernel_rfl) (fun h => ?_) fun h => ?_
 ·refine cl 4 h (synthesisref11_Same_ok _ _) (by kernel_rfl) fun v1 h => ?_
  cases h; exact lq 3 (by kernel_rfl)
 refine cl 4 h (grammar_Productive_ok _) (by kernel_rfl) fun v2 h => ?_
 refine jn1 3 .normal (fun v6 => ⟨26, [(4, (fB (v6)))], [], [], []⟩) h (by kernel_rfl) (fun v6 h => ?_) fun v6 h => ?_
 ·refine cl 2 h (grammar_Check_ok _) (by kernel_rfl) fun v3 h => ?_
  refine gd 2 h (by kernel_rfl) (fun h => ?_) fun h => ?_
  ·refine gd 5 h (by kernel_rfl) (fun h => ?_) fun h => ?_
   ·refine ix nB 1 h (by kernel_rfl) fun v4 h => ?_
    cases h; exact lj 4 (by kernel_rfl)
   cases h; exact lj 6 (by kernel_rfl)
  cases h; exact lj 11 (by kernel_rfl)
 cases h; exact lq 1 (by kernel_rfl)

def synthesislaw16_LanguagesValid_l1 (a0 : List ByteArray) (v19 : (Int)) : Option (((Int)) ⊕ (((Unit) ⊕ (Bool)))) := (Option.bind ((bif (decide (v19 < (List.length a0 : Int))) then (some ((decide (v19 < 3)))) else (some (false))) : Option ((Bool))) fun (v21 : (Bool)) => (bif v21 then (Option.bind (idx a0 v19) fun v22 => (Option.bind (languages_Patterns (v22)) fun v23 => (Option.bind (synthesislaw16_valid (v23.1) (v23.2)) fun v24 => (bif (!v24) then (some (.inr (.inr false))) else (some (.inl ((w64 (v19 + 1))))))))) else (some (.inr (.inl ())))))
def synthesislaw16_LanguagesValid_l2 (a0 : List ByteArray) (v4 : (Int)) : Option (((Int)) ⊕ (((Unit) ⊕ (Bool)))) := (bif (decide (v4 < (List.length a0 : Int))) then (Option.bind (idx a0 v4) fun v5 => (bif (decide (100 < (v5.size : Int))) then (Option.bind (synthesislaw16_alive ) fun v6 => (some (.inr (.inr v6)))) else (some (.inl ((w64 (v4 + 1))))))) else (some (.inr (.inl ()))))
def synthesislaw16_LanguagesValid (a0 : List ByteArray) (a1 : List Int) : Option (Bool) := (Option.bind ((bif (decide (30 < (List.length a0 : Int))) then (some (true)) else (some ((decide (30 < (List.length a1 : Int)))))) : Option ((Bool))) fun (v2 : (Bool)) => (bif v2 then (Option.bind (synthesislaw16_alive ) fun v3 => (some v3)) else (Option.bind (loopN (synthesislaw16_LanguagesValid_l2 a0) fuel (0)) fun (v7 : ((Unit) ⊕ (Bool))) => Sum.elim (fun v8 => (Option.bind (languages_Strings (a0) (a1)) fun v9 => (Option.bind (languages_Lists (a1)) fun v10 => (Option.bind (languages_Vectors (a1)) fun v11 => (Option.bind (languages_Reshaping (a1)) fun v12 => (Option.bind ((Option.bind (synthesislaw16_valid (v9.1) (v9.2)) fun v13 => (bif (!v13) then (some (true)) else (Option.bind (synthesislaw16_valid (v10.1) (v10.2)) fun v14 => (bif (!v14) then (some (true)) else (Option.bind (synthesislaw16_valid (v11.1) (v11.2)) fun v15 => (bif (!v15) then (some (true)) else (Option.bind (synthesislaw16_valid (v12.1) (v12.2)) fun v16 => (some ((!v16)))))))))) : Option ((Bool))) fun (v18 : (Bool)) => (bif v18 then (some false) else (Option.bind (loopN (synthesislaw16_LanguagesValid_l1 a0) fuel (0)) fun (v25 : ((Unit) ⊕ (Bool))) => Sum.elim (fun v26 => (Option.bind ((bif (v10.2 == v12.2) then (Option.bind (synthesislaw16_alive ) fun v27 => (some (v27))) else (some (false))) : Option ((Bool))) fun (v29 : (Bool)) => (some v29))) (fun v30 => (some v30)) v25)))))))) (fun v31 => (some v31)) v7)))
theorem synthesislaw16_LanguagesValid_ok (a0 : List ByteArray) (a1 : List Int) (r : Bool) (h : synthesislaw16_LanguagesValid a0 a1 = some r) : PCall Try.prog 17 [(eL 1 eS) a0, (eL 1 eI) a1] (eB (r)) := by
 unfold synthesislaw16_LanguagesValid at h
 refine pcl [.one .keep] Try.func17 (by kernel_rfl) (by kernel_rfl) (by kernel_rfl) ?_
 refine jn1 6 .normal (fun v2 => ⟨110, [(0, (.fz ((eL 1 eS) (a0)))), (1, (.fz ((eL 1 eI) (a1)))), (24, (fB (v2)))], [], [], []⟩) h (by kernel_rfl) (fun v2 h => ?_) fun v2 h => ?_
 ·refine gd 5 h (by kernel_rfl) (fun h => ?_) fun h => ?_
  ·cases h; exact lj 5 (by kernel_rfl)
  cases h; exact lj 5 (by kernel_rfl)
 refine cd 0 h (by kernel_rfl) (fun h => ?_) fun h => ?_
 ·refine cl 2 h (synthesislaw16_alive_ok) (by kernel_rfl) fun v3 h => ?_
  cases h; exact lq 3 (by kernel_rfl)
 refine lpx 7 (fun v4 => ⟨110, [(0, (.fz ((eL 1 eS) (a0)))), (1, (.fz ((eL 1 eI) (a1)))), (5, (fI (v4)))], [], [], []⟩) (fun v7 e st => Sum.elim (fun p => e = .exit 0 ∧ LeSt st ⟨110, [(0, (.fz ((eL 1 eS) (a0)))), (1, (.fz ((eL 1 eI) (a1))))], [], [], []⟩) (fun p => e = .ret ∧ retX TT st Try.f17.results.toList [.one .keep] = some (eB (p))) v7) h (by kernel_rfl) (le_a (by kernel_rfl)) (fun v4 r h => ?_) fun v7 h e st' hq => ?_
 ·unfold synthesislaw16_LanguagesValid_l2 at h
  refine cd 8 h (by kernel_rfl) (fun h => ?_) fun h => ?_
  ·refine ix nS 7 h (by kernel_rfl) fun v5 h => ?_
   refine cd 4 h (by kernel_rfl) (fun h => ?_) fun h => ?_
   ·refine cl 2 h (synthesislaw16_alive_ok) (by kernel_rfl) fun v6 h => ?_
    cases h; exact lor 3 (by kernel_rfl)
   cases h; exact lj 6 (by kernel_rfl)
  cases h; exact lo 1 (by kernel_rfl)
 rcases v7 with v8 | v31
 ·try simp only [Sum.elim_inl, Sum.elim_inr] at h
  obtain ⟨rfl, hle⟩ := hq
  refine ⟨_, hle, ?_⟩
  refine cl 4 h (languages_Strings_ok _ _) (by kernel_rfl) fun v9 h => ?_
  refine cl 10 h (languages_Lists_ok _) (by kernel_rfl) fun v10 h => ?_
  refine cl 10 h (languages_Vectors_ok _) (by kernel_rfl) fun v11 h => ?_
  refine cl 10 h (languages_Reshaping_ok _) (by kernel_rfl) fun v12 h => ?_
  refine jn1 9 .normal (fun v18 => ⟨110, [(0, (.fz ((eL 1 eS) (a0)))), (9, (fI (v10.2))), (13, (fI (v12.2))), (81, (fB (v18)))], [], [], []⟩) h (by kernel_rfl) (fun v18 h => ?_) fun v18 h => ?_
  ·refine cl 3 h (synthesislaw16_valid_ok _ _) (by kernel_rfl) fun v13 h => ?_
   refine gd 2 h (by kernel_rfl) (fun h => ?_) fun h => ?_
   ·cases h; exact lj 18 (by kernel_rfl)
   refine cl 2 h (synthesislaw16_valid_ok _ _) (by kernel_rfl) fun v14 h => ?_
   refine gd 3 h (by kernel_rfl) (fun h => ?_) fun h => ?_
   ·cases h; exact lj 12 (by kernel_rfl)
   refine cl 2 h (synthesislaw16_valid_ok _ _) (by kernel_rfl) fun v15 h => ?_
   refine gd 3 h (by kernel_rfl) (fun h => ?_) fun h => ?_
   ·cases h; exact lj 6 (by kernel_rfl)
   refine cl 2 h (synthesislaw16_valid_ok _ _) (by kernel_rfl) fun v16 h => ?_
   cases h; exact lj 3 (by kernel_rfl)
  refine cd 0 h (by kernel_rfl) (fun h => ?_) fun h => ?_
  ·cases h; exact lq 5 (by kernel_rfl)
  refine lpx 7 (fun v19 => ⟨110, [(0, (.fz ((eL 1 eS) (a0)))), (9, (fI (v10.2))), (13, (fI (v12.2))), (14, (fI (v19)))], [], [], []⟩) (fun v25 e st => Sum.elim (fun p => e = .exit 2 ∧ LeSt st ⟨110, [(9, (fI (v10.2))), (13, (fI (v12.2)))], [], [], []⟩) (fun p => e = .ret ∧ retX TT st Try.f17.results.toList [.one .keep] = some (eB (p))) v25) h (by kernel_rfl) (le_a (by kernel_rfl)) (fun v19 r h => ?_) fun v25 h e st' hq => ?_
  ·unfold synthesislaw16_LanguagesValid_l1 at h
   refine jn1 2 .normal (fun v21 => ⟨110, [(0, (.fz ((eL 1 eS) (a0)))), (9, (fI (v10.2))), (13, (fI (v12.2))), (14, (fI (v19))), (89, (fB (v21)))], [], [], []⟩) h (by kernel_rfl) (fun v21 h => ?_) fun v21 h => ?_
   ·refine gd 6 h (by kernel_rfl) (fun h => ?_) fun h => ?_
    ·cases h; exact lj 4 (by kernel_rfl)
    cases h; exact lj 4 (by kernel_rfl)
   refine cd 0 h (by kernel_rfl) (fun h => ?_) fun h => ?_
   ·refine ix nS 7 h (by kernel_rfl) fun v22 h => ?_
    refine cl 1 h (languages_Patterns_ok _) (by kernel_rfl) fun v23 h => ?_
    refine cl 11 h (synthesislaw16_valid_ok _ _) (by kernel_rfl) fun v24 h => ?_
    refine cd 2 h (by kernel_rfl) (fun h => ?_) fun h => ?_
    ·cases h; exact lor 5 (by kernel_rfl)
    cases h; exact lj 6 (by kernel_rfl)
   cases h; exact lo 1 (by kernel_rfl)
  rcases v25 with v26 | v30
  ·try simp only [Sum.elim_inl, Sum.elim_inr] at h
   obtain ⟨rfl, hle⟩ := hq
   refine ⟨_, hle, ?_⟩
   refine jn1 1 .normal (fun v29 => ⟨110, [(4, (fB (v29)))], [], [], []⟩) h (by kernel_rfl) (fun v29 h => ?_) fun v29 h => ?_
   ·refine gd 5 h (by kernel_rfl) (fun h => ?_) fun h => ?_
    ·refine cl 0 h (synthesislaw16_alive_ok) (by kernel_rfl) fun v27 h => ?_
     cases h; exact lj 3 (by kernel_rfl)
    cases h; exact lj 4 (by kernel_rfl)
   cases h; exact lq 1 (by kernel_rfl)
  ·try simp only [Sum.elim_inl, Sum.elim_inr] at h
   obtain ⟨rfl, hret⟩ := hq
   refine ⟨_, LeSt.refl, ?_⟩
   cases h; exact lv hret
 ·try simp only [Sum.elim_inl, Sum.elim_inr] at h
  obtain ⟨rfl, hret⟩ := hq
  refine ⟨_, LeSt.refl, ?_⟩
  cases h; exact lv hret
end Go.Proofs.Ytaeicmnimjfbaaa
