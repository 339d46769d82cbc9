/- Typed programs and what computes them. -/
import Derived.Test.YtaeicmnimjfbaaaZ3
set_option linter.unusedVariables false
set_option linter.unusedSimpArgs false
set_option maxRecDepth 100000
namespace Go.Proofs.Ytaeicmnimjfbaaa
open Go Go.RowKit Go.Proofs
def grammar_rule_m0 (a0 : La) (a1 : Ru) : List (Nat × AObj) := [(1, (.box 27 [(fS (a0.name)), (.fz ((eL 1 eI) (a0.inputs))), (.fz ((eL 2 eSy) (a0.symbols))), (.fz ((eL 9 eRu) (a0.rules)))])), (2, (.box 67 [(fI (a1.symbol)), (fI (a1.kind)), (fI (a1.input)), (fI (a1.const.type)), (fI (a1.const.num)), (fS (a1.const.text)), (.fz ((eL 4 eVaR) (a1.const.items))), (fS (a1.op)), (.fz ((eL 1 eI) (a1.args)))]))]
def grammar_rule_m1 (a0 : La) (a1 : Ru) : List (Nat × AObj) := [(1, (.box 27 [(fS (a0.name)), (.fz ((eL 1 eI) (a0.inputs))), (.fz ((eL 2 eSy) (a0.symbols))), (.fz ((eL 9 eRu) (a0.rules)))])), (2, (.box 67 [(fI (a1.symbol)), (fI (a1.kind)), (fI (a1.input)), (fI (a1.const.type)), (fI (a1.const.num)), (fS (a1.const.text)), (.fz ((eL 4 eVaR) (a1.const.items))), (fS (a1.op)), (.fz ((eL 1 eI) (a1.args)))])), (3, (.box 67 [(fI (a1.symbol)), (fI (a1.kind)), (fI (a1.input)), (fI (a1.const.type)), (fI (a1.const.num)), (fS (a1.const.text)), (.fz ((eL 4 eVaR) (a1.const.items))), (fS (a1.op)), (.fz ((eL 1 eI) (a1.args)))]))]
def grammar_rule_m2 (a0 : La) (v14 : (S_api_Operator) × (Bool)) : List (Nat × AObj) := [(1, (.box 27 [(fS (a0.name)), (.fz ((eL 1 eI) (a0.inputs))), (.fz ((eL 2 eSy) (a0.symbols))), (.fz ((eL 9 eRu) (a0.rules)))])), (3, (.box 171 [(fS (v14.1.f_Name)), (.fz ((eL 1 eI) (v14.1.f_Args))), (fI (v14.1.f_Result))]))]
def grammar_rule_m3 (a0 : La) (a1 : Ru) (v14 : (S_api_Operator) × (Bool)) : List (Nat × AObj) := [(1, (.box 27 [(fS (a0.name)), (.fz ((eL 1 eI) (a0.inputs))), (.fz ((eL 2 eSy) (a0.symbols))), (.fz ((eL 9 eRu) (a0.rules)))])), (2, (.box 67 [(fI (a1.symbol)), (fI (a1.kind)), (fI (a1.input)), (fI (a1.const.type)), (fI (a1.const.num)), (fS (a1.const.text)), (.fz ((eL 4 eVaR) (a1.const.items))), (fS (a1.op)), (.fz ((eL 1 eI) (a1.args)))])), (3, (.box 171 [(fS (v14.1.f_Name)), (.fz ((eL 1 eI) (v14.1.f_Args))), (fI (v14.1.f_Result))]))]
def grammar_rule_m4 (a1 : Ru) : List (Nat × AObj) := [(2, (.box 67 [(fI (a1.symbol)), (fI (a1.kind)), (fI (a1.input)), (fI (a1.const.type)), (fI (a1.const.num)), (fS (a1.const.text)), (.fz ((eL 4 eVaR) (a1.const.items))), (fS (a1.op)), (.fz ((eL 1 eI) (a1.args)))]))]
def grammar_rule_l1 (a0 : La) (a1 : Ru) (v14 : (S_api_Operator) × (Bool)) (v15 : (Int)) : Option (((Int)) ⊕ (((Unit) ⊕ (Int)))) := (bif (decide (v15 < (List.length a1.args : Int))) then (Option.bind (idx a1.args v15) fun v16 => (Option.bind (grammar_symbol (a0) (v16)) fun v17 => (bif (!v17) then (some (.inr (.inr 1))) else (Option.bind (idx a0.symbols v16) fun v18 => (Option.bind (idx v14.1.f_Args v15) fun v19 => (bif (v18.type != v19) then (some (.inr (.inr 3))) else (some (.inl ((w64 (v15 + 1))))))))))) else (some (.inr (.inl ()))))
def grammar_rule (a0 : La) (a1 : Ru) : Option (Int) := (Option.bind (grammar_symbol (a0) (a1.symbol)) fun v1 => (bif (!v1) then (some 1) else (Option.bind ((bif (decide (a1.kind < 1)) then (some (true)) else (some ((decide (3 < a1.kind))))) : Option ((Bool))) fun (v3 : (Bool)) => (bif v3 then (some 4) else (Option.bind ((bif (a1.kind == 1) then (some (0, a1.const.type, a1.const.num, a1.const.text, a1.const.items, a1.op, a1.args)) else (bif (a1.kind == 2) then (some (a1.input, 0, 0, (⟨#[]⟩ : ByteArray), ([] : List Va), a1.op, a1.args)) else (bif (a1.kind == 3) then (some (a1.input, a1.const.type, a1.const.num, a1.const.text, a1.const.items, (⟨#[]⟩ : ByteArray), ([] : List Int))) else (some (a1.input, a1.const.type, a1.const.num, a1.const.text, a1.const.items, a1.op, a1.args))))) : Option ((Int) × (Int) × (Int) × (ByteArray) × (List Va) × (ByteArray) × (List Int))) fun (v5 : (Int) × (Int) × (Int) × (ByteArray) × (List Va) × (ByteArray) × (List Int)) => (Option.bind (grammar_sameRule ((Ru.mk (a1.symbol) (a1.kind) (v5.1) ((Va.mk (v5.2.1) (v5.2.2.1) (v5.2.2.2.1) (v5.2.2.2.2.1))) (v5.2.2.2.2.2.1) (v5.2.2.2.2.2.2))) ((Ru.mk (a1.symbol) (a1.kind) (0) ((Va.mk (0) (0) ((⟨#[]⟩ : ByteArray)) (([] : List Va)))) ((⟨#[]⟩ : ByteArray)) (([] : List Int))))) fun v6 => (bif (!v6) then (some 4) else (Option.bind (idx a0.symbols a1.symbol) fun v7 => (bif (a1.kind == 1) then (Option.bind ((bif (decide (a1.input < 0)) then (some (true)) else (some ((decide ((List.length a0.inputs : Int) ≤ a1.input))))) : Option ((Bool))) fun (v9 : (Bool)) => (bif v9 then (some 1) else (Option.bind (idx a0.inputs a1.input) fun v10 => (Option.bind (grammar_same (v10) (v7.type)) fun v11 => (some v11))))) else (bif (a1.kind == 2) then (Option.bind (value_Check fuel (a1.const)) fun v12 => (bif (v12 != 0) then (some v12) else (Option.bind (grammar_same (a1.const.type) (v7.type)) fun v13 => (some v13)))) else (Option.bind (operator_Find (a1.op)) fun v14 => (bif (!v14.2) then (some 5) else (bif ((List.length a1.args : Int) != (List.length v14.1.f_Args : Int)) then (some 2) else (Option.bind (loopN (grammar_rule_l1 a0 a1 v14) fuel (0)) fun (v20 : ((Unit) ⊕ (Int))) => Sum.elim (fun v21 => (Option.bind (grammar_same (v14.1.f_Result) (v7.type)) fun v22 => (some v22))) (fun v23 => (some v23)) v20))))))))))))))
theorem grammar_rule_ok (a0 : La) (a1 : Ru) (r : Int) (h : grammar_rule a0 a1 = some r) : PCall Try.prog 145 [eLa a0, eRu a1] (eI (r)) := by
 unfold grammar_rule at h
 refine pcall_intro (T := TT) tt_ok [.one .keep] Try.func145 rfl (by kernel_rfl) (by kernel_rfl) ?_
 refine awp_le (st' := ⟨134, [(0, (.fz (eLa (a0)))), (1, (.fz (eRu (a1))))], [], []⟩) (le_ck (by kernel_rfl)) ?_
 refine awp_seq ?_
 refine awp_region ?_
 refine l_rk 3 tt_ok ⟨134, [(2, (.ref 1 0 0)), (3, (.ref 2 0 0))], (grammar_rule_m0 a0 a1), [2, 1]⟩ (by kernel_rfl) ?_
 refine l_nil ?_
 refine awp_seq ?_
 refine awp_seq ?_
 refine awp_region ?_
 refine l_rk 3 tt_ok ⟨134, [(2, (.ref 1 0 0)), (3, (.ref 2 0 0)), (12, (.fz (eLa (a0)))), (14, (fI (a1.symbol)))], (grammar_rule_m0 a0 a1), [2, 1]⟩ (by kernel_rfl) ?_
 obtain ⟨v1, hv1, h⟩ := Option.bind_eq_some_iff.1 h
 refine l_step ((n_call (ys := [eLa (a0), eI (a1.symbol)]) (cs := [(.one .keep), (.one (.keep))]) rfl (by kernel_rfl) (grammar_symbol_ok (a0) (a1.symbol) _ hv1)).step) (by kernel_rfl) (dst_of (by kernel_rfl)) ?_
 refine l_rk 1 tt_ok ⟨134, [(2, (.ref 1 0 0)), (3, (.ref 2 0 0)), (16, (fB ((!v1))))], (grammar_rule_m0 a0 a1), [2, 1]⟩ (by kernel_rfl) ?_
 refine l_nil ?_
 rcases cond_some h with ⟨hb, h⟩ | ⟨hb, h⟩
 ·refine awp_cond_t (b := (!v1)) (by kernel_rfl) hb ?_
  refine awp_seq ?_
  refine awp_region ?_
  refine l_rk 1 tt_ok ⟨134, [(4, (fI (1)))], [], []⟩ (by kernel_rfl) ?_
  refine l_nil ?_
  refine awp_ret ?_
  obtain rfl := Option.some.inj h
  exact (show retX _ _ _ _ = some _ from by kernel_rfl)
 ·refine awp_cond_f (b := (!v1)) (by kernel_rfl) hb ?_
  refine awp_skip ?_
  refine awp_seq ?_
  refine awp_seq ?_
  obtain ⟨v3, hj, h⟩ := Option.bind_eq_some_iff.1 h
  refine awp_join (Qa := fun e st => e = .normal ∧ LeSt st ⟨134, [(2, (.ref 1 0 0)), (3, (.ref 2 0 0)), (24, (fB (v3)))], (grammar_rule_m0 a0 a1), [2, 1]⟩) ?_ ?_
  ·replace h := hj
   clear hj
   refine awp_region ?_
   refine l_rk 4 tt_ok ⟨134, [(2, (.ref 1 0 0)), (3, (.ref 2 0 0)), (20, (fB ((decide (a1.kind < 1)))))], (grammar_rule_m0 a0 a1), [2, 1]⟩ (by kernel_rfl) ?_
   rcases cond_some h with ⟨hb, h⟩ | ⟨hb, h⟩
   ·refine l_le (le_eq (t := 20) (x := .fz (eB (decide (a1.kind < 1)))) (y := .fz (eB true)) (by kernel_rfl) (congrArg (fun b => AV.fz (eB b)) hb)) ?_
    refine l_rk 4 tt_ok ⟨134, [(2, (.ref 1 0 0)), (3, (.ref 2 0 0)), (24, (fB (true)))], (grammar_rule_m0 a0 a1), [2, 1]⟩ (by kernel_rfl) ?_
    refine l_nil ?_
    obtain rfl := Option.some.inj h
    exact And.intro rfl (le_ck (by kernel_rfl))
   ·refine l_le (le_eq (t := 20) (x := .fz (eB (decide (a1.kind < 1)))) (y := .fz (eB false)) (by kernel_rfl) (congrArg (fun b => AV.fz (eB b)) hb)) ?_
    refine l_rk 4 tt_ok ⟨134, [(2, (.ref 1 0 0)), (3, (.ref 2 0 0)), (24, (fB ((decide (3 < a1.kind)))))], (grammar_rule_m0 a0 a1), [2, 1]⟩ (by kernel_rfl) ?_
    refine l_nil ?_
    obtain rfl := Option.some.inj h
    exact And.intro rfl (le_ck (by kernel_rfl))
  ·clear hj
   intro e st' hq
   obtain ⟨rfl, hle⟩ := hq
   refine ⟨_, hle, ?_⟩
   rcases cond_some h with ⟨hb, h⟩ | ⟨hb, h⟩
   ·refine awp_cond_t (b := v3) (by kernel_rfl) hb ?_
    refine awp_seq ?_
    refine awp_region ?_
    refine l_rk 1 tt_ok ⟨134, [(4, (fI (4)))], [], []⟩ (by kernel_rfl) ?_
    refine l_nil ?_
    refine awp_ret ?_
    obtain rfl := Option.some.inj h
    exact (show retX _ _ _ _ = some _ from by kernel_rfl)
   ·refine awp_cond_f (b := v3) (by kernel_rfl) hb ?_
    refine awp_skip ?_
    refine awp_seq ?_
    refine awp_region ?_
    refine l_rk 3 tt_ok ⟨134, [(2, (.ref 1 0 0)), (3, (.ref 2 0 0)), (5, (.ref 3 0 0))], (grammar_rule_m1 a0 a1), [3, 2, 1]⟩ (by kernel_rfl) ?_
    refine l_nil ?_
    refine awp_seq ?_
    refine awp_seq ?_
    refine awp_region ?_
    refine l_rk 2 tt_ok ⟨134, [(2, (.ref 1 0 0)), (3, (.ref 2 0 0)), (5, (.ref 3 0 0)), (27, (fI (a1.kind)))], (grammar_rule_m1 a0 a1), [3, 2, 1]⟩ (by kernel_rfl) ?_
    refine l_nil ?_
    refine awp_block ?_
    obtain ⟨v5, hj, h⟩ := Option.bind_eq_some_iff.1 h
    refine awp_join (Qa := fun e st => e = .normal ∧ LeSt st ⟨134, [(2, (.ref 1 0 0)), (3, (.ref 2 0 0)), (5, (.ref 3 0 0))], [(1, (.box 27 [(fS (a0.name)), (.fz ((eL 1 eI) (a0.inputs))), (.fz ((eL 2 eSy) (a0.symbols))), (.fz ((eL 9 eRu) (a0.rules)))])), (2, (.box 67 [(fI (a1.symbol)), (fI (a1.kind)), (fI (a1.input)), (fI (a1.const.type)), (fI (a1.const.num)), (fS (a1.const.text)), (.fz ((eL 4 eVaR) (a1.const.items))), (fS (a1.op)), (.fz ((eL 1 eI) (a1.args)))])), (3, (.box 67 [(fI (a1.symbol)), (fI (a1.kind)), (fI (v5.1)), (fI (v5.2.1)), (fI (v5.2.2.1)), (fS (v5.2.2.2.1)), (.fz ((eL 4 eVaR) (v5.2.2.2.2.1))), (fS (v5.2.2.2.2.2.1)), (.fz ((eL 1 eI) (v5.2.2.2.2.2.2)))]))], [3, 2, 1]⟩) ?_ ?_
    ·replace h := hj
     clear hj
     refine awp_seq ?_
     refine awp_region ?_
     refine l_rk 2 tt_ok ⟨134, [(2, (.ref 1 0 0)), (3, (.ref 2 0 0)), (5, (.ref 3 0 0)), (27, (fI (a1.kind))), (28, (fB ((a1.kind == 1))))], (grammar_rule_m1 a0 a1), [3, 2, 1]⟩ (by kernel_rfl) ?_
     refine l_nil ?_
     rcases cond_some h with ⟨hb, h⟩ | ⟨hb, h⟩
     ·refine awp_cond_t (b := (a1.kind == 1)) (by kernel_rfl) hb ?_
      refine awp_region ?_
      refine l_rk 2 tt_ok ⟨134, [(2, (.ref 1 0 0)), (3, (.ref 2 0 0)), (5, (.ref 3 0 0))], [(1, (.box 27 [(fS (a0.name)), (.fz ((eL 1 eI) (a0.inputs))), (.fz ((eL 2 eSy) (a0.symbols))), (.fz ((eL 9 eRu) (a0.rules)))])), (2, (.box 67 [(fI (a1.symbol)), (fI (a1.kind)), (fI (a1.input)), (fI (a1.const.type)), (fI (a1.const.num)), (fS (a1.const.text)), (.fz ((eL 4 eVaR) (a1.const.items))), (fS (a1.op)), (.fz ((eL 1 eI) (a1.args)))])), (3, (.box 67 [(fI (a1.symbol)), (fI (a1.kind)), (fI (0)), (fI (a1.const.type)), (fI (a1.const.num)), (fS (a1.const.text)), (.fz ((eL 4 eVaR) (a1.const.items))), (fS (a1.op)), (.fz ((eL 1 eI) (a1.args)))]))], [3, 2, 1]⟩ (by kernel_rfl) ?_
      refine l_nil ?_
      obtain rfl := Option.some.inj h
      exact And.intro rfl (le_co (ids := [3, 2, 1]) (ts := [(2, .one .keep), (3, .one .keep), (5, .one .keep)]) (os := [(1, []), (2, []), (3, [.keep, .keep, .keep, .keep, .keep, .keep, .sl 4, .keep, .sl 1])]) (by kernel_rfl))
     ·refine awp_cond_f (b := (a1.kind == 1)) (by kernel_rfl) hb ?_
      refine awp_seq ?_
      refine awp_region ?_
      refine l_rk 2 tt_ok ⟨134, [(2, (.ref 1 0 0)), (3, (.ref 2 0 0)), (5, (.ref 3 0 0)), (27, (fI (a1.kind))), (31, (fB ((a1.kind == 2))))], (grammar_rule_m1 a0 a1), [3, 2, 1]⟩ (by kernel_rfl) ?_
      refine l_nil ?_
      rcases cond_some h with ⟨hb, h⟩ | ⟨hb, h⟩
      ·refine awp_cond_t (b := (a1.kind == 2)) (by kernel_rfl) hb ?_
       refine awp_region ?_
       refine l_rk 3 tt_ok ⟨134, [(2, (.ref 1 0 0)), (3, (.ref 2 0 0)), (5, (.ref 3 0 0))], [(1, (.box 27 [(fS (a0.name)), (.fz ((eL 1 eI) (a0.inputs))), (.fz ((eL 2 eSy) (a0.symbols))), (.fz ((eL 9 eRu) (a0.rules)))])), (2, (.box 67 [(fI (a1.symbol)), (fI (a1.kind)), (fI (a1.input)), (fI (a1.const.type)), (fI (a1.const.num)), (fS (a1.const.text)), (.fz ((eL 4 eVaR) (a1.const.items))), (fS (a1.op)), (.fz ((eL 1 eI) (a1.args)))])), (3, (.box 67 [(fI (a1.symbol)), (fI (a1.kind)), (fI (a1.input)), (fI (0)), (fI (0)), (fS ((⟨#[]⟩ : ByteArray))), (.fz (.atom (.slice none 0 0))), (fS (a1.op)), (.fz ((eL 1 eI) (a1.args)))]))], [3, 2, 1]⟩ (by kernel_rfl) ?_
       refine l_nil ?_
       obtain rfl := Option.some.inj h
       exact And.intro rfl (le_co (ids := [3, 2, 1]) (ts := [(2, .one .keep), (3, .one .keep), (5, .one .keep)]) (os := [(1, []), (2, []), (3, [.keep, .keep, .keep, .keep, .keep, .keep, .sl 4, .keep, .sl 1])]) (by kernel_rfl))
      ·refine awp_cond_f (b := (a1.kind == 2)) (by kernel_rfl) hb ?_
       refine awp_seq ?_
       refine awp_region ?_
       refine l_rk 2 tt_ok ⟨134, [(2, (.ref 1 0 0)), (3, (.ref 2 0 0)), (5, (.ref 3 0 0)), (35, (fB ((a1.kind == 3))))], (grammar_rule_m1 a0 a1), [3, 2, 1]⟩ (by kernel_rfl) ?_
       refine l_nil ?_
       rcases cond_some h with ⟨hb, h⟩ | ⟨hb, h⟩
       ·refine awp_cond_t (b := (a1.kind == 3)) (by kernel_rfl) hb ?_
        refine awp_region ?_
        refine l_rk 4 tt_ok ⟨134, [(2, (.ref 1 0 0)), (3, (.ref 2 0 0)), (5, (.ref 3 0 0))], [(1, (.box 27 [(fS (a0.name)), (.fz ((eL 1 eI) (a0.inputs))), (.fz ((eL 2 eSy) (a0.symbols))), (.fz ((eL 9 eRu) (a0.rules)))])), (2, (.box 67 [(fI (a1.symbol)), (fI (a1.kind)), (fI (a1.input)), (fI (a1.const.type)), (fI (a1.const.num)), (fS (a1.const.text)), (.fz ((eL 4 eVaR) (a1.const.items))), (fS (a1.op)), (.fz ((eL 1 eI) (a1.args)))])), (3, (.box 67 [(fI (a1.symbol)), (fI (a1.kind)), (fI (a1.input)), (fI (a1.const.type)), (fI (a1.const.num)), (fS (a1.const.text)), (.fz ((eL 4 eVaR) (a1.const.items))), (fS ((⟨#[]⟩ : ByteArray))), (.fz (.atom (.slice none 0 0)))]))], [3, 2, 1]⟩ (by kernel_rfl) ?_
        refine l_nil ?_
        obtain rfl := Option.some.inj h
        exact And.intro rfl (le_co (ids := [3, 2, 1]) (ts := [(2, .one .keep), (3, .one .keep), (5, .one .keep)]) (os := [(1, []), (2, []), (3, [.keep, .keep, .keep, .keep, .keep, .keep, .sl 4, .keep, .sl 1])]) (by kernel_rfl))
       ·refine awp_cond_f (b := (a1.kind == 3)) (by kernel_rfl) hb ?_
        refine awp_skip ?_
        obtain rfl := Option.some.inj h
        exact And.intro rfl (le_co (ids := [3, 2, 1]) (ts := [(2, .one .keep), (3, .one .keep), (5, .one .keep)]) (os := [(1, []), (2, []), (3, [.keep, .keep, .keep, .keep, .keep, .keep, .sl 4, .keep, .sl 1])]) (by kernel_rfl))
    ·clear hj
     intro e st' hq
     obtain ⟨rfl, hle⟩ := hq
     refine ⟨_, hle, ?_⟩
     refine awp_seq ?_
     refine awp_seq ?_
     refine awp_region ?_
     refine l_rk 6 tt_ok ⟨134, [(2, (.ref 1 0 0)), (3, (.ref 2 0 0)), (39, (.fz (.agg [(eI (a1.symbol)), (eI (a1.kind)), (eI (v5.1)), (eI (v5.2.1)), (eI (v5.2.2.1)), (eS (v5.2.2.2.1)), ((eL 4 eVaR) (v5.2.2.2.2.1)), (eS (v5.2.2.2.2.2.1)), ((eL 1 eI) (v5.2.2.2.2.2.2))]))), (44, (.fz (.agg [(eI (a1.symbol)), (eI (a1.kind)), (eI (0)), (eI (0)), (eI (0)), (eS ((⟨#[]⟩ : ByteArray))), (.atom (.slice none 0 0)), (eS ((⟨#[]⟩ : ByteArray))), (.atom (.slice none 0 0))])))], (grammar_rule_m0 a0 a1), [2, 1]⟩ (by kernel_rfl) ?_
     obtain ⟨v6, hv6, h⟩ := Option.bind_eq_some_iff.1 h
     refine l_step ((n_call (ys := [eRu ((Ru.mk (a1.symbol) (a1.kind) (v5.1) ((Va.mk (v5.2.1) (v5.2.2.1) (v5.2.2.2.1) (v5.2.2.2.2.1))) (v5.2.2.2.2.2.1) (v5.2.2.2.2.2.2))), eRu ((Ru.mk (a1.symbol) (a1.kind) (0) ((Va.mk (0) (0) ((⟨#[]⟩ : ByteArray)) (([] : List Va)))) ((⟨#[]⟩ : ByteArray)) (([] : List Int))))]) (cs := [(.ag [.keep, .keep, .keep, .keep, .keep, .keep, .sl 4, .keep, .sl 1]), (.ag [.keep, .keep, .keep, .keep, .keep, .keep, .sl 4, .keep, .sl 1])]) rfl (by kernel_rfl) (grammar_sameRule_ok ((Ru.mk (a1.symbol) (a1.kind) (v5.1) ((Va.mk (v5.2.1) (v5.2.2.1) (v5.2.2.2.1) (v5.2.2.2.2.1))) (v5.2.2.2.2.2.1) (v5.2.2.2.2.2.2))) ((Ru.mk (a1.symbol) (a1.kind) (0) ((Va.mk (0) (0) ((⟨#[]⟩ : ByteArray)) (([] : List Va)))) ((⟨#[]⟩ : ByteArray)) (([] : List Int)))) _ hv6)).step) (by kernel_rfl) (dst_of (by kernel_rfl)) ?_
     refine l_rk 1 tt_ok ⟨134, [(2, (.ref 1 0 0)), (3, (.ref 2 0 0)), (46, (fB ((!v6))))], (grammar_rule_m0 a0 a1), [2, 1]⟩ (by kernel_rfl) ?_
     refine l_nil ?_
     rcases cond_some h with ⟨hb, h⟩ | ⟨hb, h⟩
     ·refine awp_cond_t (b := (!v6)) (by kernel_rfl) hb ?_
      refine awp_seq ?_
      refine awp_region ?_
      refine l_rk 1 tt_ok ⟨134, [(4, (fI (4)))], [], []⟩ (by kernel_rfl) ?_
      refine l_nil ?_
      refine awp_ret ?_
      obtain rfl := Option.some.inj h
      exact (show retX _ _ _ _ = some _ from by kernel_rfl)
     ·refine awp_cond_f (b := (!v6)) (by kernel_rfl) hb ?_
      refine awp_skip ?_
      refine awp_seq ?_
      refine awp_region ?_
      refine l_rk 4 tt_ok ⟨134, [(2, (.ref 1 0 0)), (3, (.ref 2 0 0)), (48, (.fz ((eL 2 eSy) (a0.symbols)))), (50, (fI (a1.symbol)))], (grammar_rule_m0 a0 a1), [2, 1]⟩ (by kernel_rfl) ?_
      obtain ⟨v7, hv7, h⟩ := Option.bind_eq_some_iff.1 h
      refine l_step ((s_index (k := .i64) (d := tt24) (e := 72) (de := tt72) (enc := eSy) hv7 tt_ok rfl (by kernel_rfl) (by kernel_rfl) (by kernel_rfl) (by kernel_rfl) len_eSy (by kernel_rfl) rfl).step) (by kernel_rfl) (dst_of (by kernel_rfl)) ?_
      refine l_rk 3 tt_ok ⟨134, [(2, (.ref 1 0 0)), (3, (.ref 2 0 0)), (6, (fI (v7.type)))], (grammar_rule_m0 a0 a1), [2, 1]⟩ (by kernel_rfl) ?_
      refine l_nil ?_
      refine awp_seq ?_
      refine awp_seq ?_
      refine awp_region ?_
      refine l_rk 2 tt_ok ⟨134, [(2, (.ref 1 0 0)), (3, (.ref 2 0 0)), (6, (fI (v7.type))), (55, (fI (a1.kind)))], (grammar_rule_m0 a0 a1), [2, 1]⟩ (by kernel_rfl) ?_
      refine l_nil ?_
      refine awp_block ?_
      refine awp_seq ?_
      refine awp_region ?_
      refine l_rk 2 tt_ok ⟨134, [(2, (.ref 1 0 0)), (3, (.ref 2 0 0)), (6, (fI (v7.type))), (55, (fI (a1.kind))), (56, (fB ((a1.kind == 1))))], (grammar_rule_m0 a0 a1), [2, 1]⟩ (by kernel_rfl) ?_
      refine l_nil ?_
      rcases cond_some h with ⟨hb, h⟩ | ⟨hb, h⟩
      ·refine awp_cond_t (b := (a1.kind == 1)) (by kernel_rfl) hb ?_
       refine awp_seq ?_
       refine awp_seq ?_
       obtain ⟨v9, hj, h⟩ := Option.bind_eq_some_iff.1 h
       refine awp_join (Qa := fun e st => e = .normal ∧ LeSt st ⟨134, [(2, (.ref 1 0 0)), (3, (.ref 2 0 0)), (6, (fI (v7.type))), (68, (fB (v9)))], (grammar_rule_m0 a0 a1), [2, 1]⟩) ?_ ?_
       ·replace h := hj
        clear hj
        refine awp_region ?_
        refine l_rk 4 tt_ok ⟨134, [(2, (.ref 1 0 0)), (3, (.ref 2 0 0)), (6, (fI (v7.type))), (61, (fB ((decide (a1.input < 0)))))], (grammar_rule_m0 a0 a1), [2, 1]⟩ (by kernel_rfl) ?_
        rcases cond_some h with ⟨hb, h⟩ | ⟨hb, h⟩
        ·refine l_le (le_eq (t := 61) (x := .fz (eB (decide (a1.input < 0)))) (y := .fz (eB true)) (by kernel_rfl) (congrArg (fun b => AV.fz (eB b)) hb)) ?_
         refine l_rk 7 tt_ok ⟨134, [(2, (.ref 1 0 0)), (3, (.ref 2 0 0)), (6, (fI (v7.type))), (68, (fB (true)))], (grammar_rule_m0 a0 a1), [2, 1]⟩ (by kernel_rfl) ?_
         refine l_nil ?_
         obtain rfl := Option.some.inj h
         exact And.intro rfl (le_ck (by kernel_rfl))
        ·refine l_le (le_eq (t := 61) (x := .fz (eB (decide (a1.input < 0)))) (y := .fz (eB false)) (by kernel_rfl) (congrArg (fun b => AV.fz (eB b)) hb)) ?_
         refine l_rk 7 tt_ok ⟨134, [(2, (.ref 1 0 0)), (3, (.ref 2 0 0)), (6, (fI (v7.type))), (68, (fB ((decide ((List.length a0.inputs : Int) ≤ a1.input)))))], (grammar_rule_m0 a0 a1), [2, 1]⟩ (by kernel_rfl) ?_
         refine l_nil ?_
         obtain rfl := Option.some.inj h
         exact And.intro rfl (le_ck (by kernel_rfl))
       ·clear hj
        intro e st' hq
        obtain ⟨rfl, hle⟩ := hq
        refine ⟨_, hle, ?_⟩
        rcases cond_some h with ⟨hb, h⟩ | ⟨hb, h⟩
        ·refine awp_cond_t (b := v9) (by kernel_rfl) hb ?_
         refine awp_seq ?_
         refine awp_region ?_
         refine l_rk 1 tt_ok ⟨134, [(4, (fI (1)))], [], []⟩ (by kernel_rfl) ?_
         refine l_nil ?_
         refine awp_ret ?_
         obtain rfl := Option.some.inj h
         exact (show retX _ _ _ _ = some _ from by kernel_rfl)
        ·refine awp_cond_f (b := v9) (by kernel_rfl) hb ?_
         refine awp_skip ?_
         refine awp_seq ?_
         refine awp_region ?_
         refine l_rk 4 tt_ok ⟨134, [(6, (fI (v7.type))), (70, (.fz ((eL 1 eI) (a0.inputs)))), (72, (fI (a1.input)))], [], []⟩ (by kernel_rfl) ?_
         obtain ⟨v10, hv10, h⟩ := Option.bind_eq_some_iff.1 h
         refine l_step ((s_index (k := .i64) (d := tt23) (e := 3) (de := tt3) (enc := eI) hv10 tt_ok rfl (by kernel_rfl) (by kernel_rfl) (by kernel_rfl) (by kernel_rfl) len_eI (by kernel_rfl) rfl).step) (by kernel_rfl) (dst_of (by kernel_rfl)) ?_
         refine l_rk 2 tt_ok ⟨134, [(74, (fI (v10))), (75, (fI (v7.type)))], [], []⟩ (by kernel_rfl) ?_
         obtain ⟨v11, hv11, h⟩ := Option.bind_eq_some_iff.1 h
         refine l_step ((n_call (ys := [eI (v10), eI (v7.type)]) (cs := [(.one (.keep)), (.one (.keep))]) rfl (by kernel_rfl) (grammar_same_ok (v10) (v7.type) _ hv11)).step) (by kernel_rfl) (dst_of (by kernel_rfl)) ?_
         refine l_rk 1 tt_ok ⟨134, [(4, (fI (v11)))], [], []⟩ (by kernel_rfl) ?_
         refine l_nil ?_
         refine awp_ret ?_
         obtain rfl := Option.some.inj h
         exact (show retX _ _ _ _ = some _ from by kernel_rfl)
      ·refine awp_cond_f (b := (a1.kind == 1)) (by kernel_rfl) hb ?_
       refine awp_seq ?_
       refine awp_region ?_
       refine l_rk 2 tt_ok ⟨134, [(2, (.ref 1 0 0)), (3, (.ref 2 0 0)), (6, (fI (v7.type))), (77, (fB ((a1.kind == 2))))], (grammar_rule_m0 a0 a1), [2, 1]⟩ (by kernel_rfl) ?_
       refine l_nil ?_
       rcases cond_some h with ⟨hb, h⟩ | ⟨hb, h⟩
       ·refine awp_cond_t (b := (a1.kind == 2)) (by kernel_rfl) hb ?_
        refine awp_seq ?_
        refine awp_seq ?_
        refine awp_region ?_
        refine l_rk 2 tt_ok ⟨134, [(3, (.ref 2 0 0)), (6, (fI (v7.type))), (80, (.fz (eVa (a1.const))))], (grammar_rule_m4 a1), [2]⟩ (by kernel_rfl) ?_
        obtain ⟨v12, hv12, h⟩ := Option.bind_eq_some_iff.1 h
        refine l_step ((n_call (ys := [eVa (a1.const)]) (cs := [(.one .keep)]) rfl (by kernel_rfl) (value_Check_ok fuel (a1.const) _ hv12)).step) (by kernel_rfl) (dst_of (by kernel_rfl)) ?_
        refine l_rk 1 tt_ok ⟨134, [(3, (.ref 2 0 0)), (6, (fI (v7.type))), (7, (fI (v12)))], (grammar_rule_m4 a1), [2]⟩ (by kernel_rfl) ?_
        refine l_nil ?_
        refine awp_seq ?_
        refine awp_region ?_
        refine l_rk 2 tt_ok ⟨134, [(3, (.ref 2 0 0)), (6, (fI (v7.type))), (7, (fI (v12))), (83, (fB ((v12 != 0))))], (grammar_rule_m4 a1), [2]⟩ (by kernel_rfl) ?_
        refine l_nil ?_
        rcases cond_some h with ⟨hb, h⟩ | ⟨hb, h⟩
        ·refine awp_cond_t (b := (v12 != 0)) (by kernel_rfl) hb ?_
         refine awp_seq ?_
         refine awp_region ?_
         refine l_rk 2 tt_ok ⟨134, [(4, (fI (v12)))], [], []⟩ (by kernel_rfl) ?_
         refine l_nil ?_
         refine awp_ret ?_
         obtain rfl := Option.some.inj h
         exact (show retX _ _ _ _ = some _ from by kernel_rfl)
        ·refine awp_cond_f (b := (v12 != 0)) (by kernel_rfl) hb ?_
         refine awp_skip ?_
         refine awp_seq ?_
         refine awp_region ?_
         refine l_rk 4 tt_ok ⟨134, [(87, (fI (a1.const.type))), (88, (fI (v7.type)))], [], []⟩ (by kernel_rfl) ?_
         obtain ⟨v13, hv13, h⟩ := Option.bind_eq_some_iff.1 h
         refine l_step ((n_call (ys := [eI (a1.const.type), eI (v7.type)]) (cs := [(.one (.keep)), (.one (.keep))]) rfl (by kernel_rfl) (grammar_same_ok (a1.const.type) (v7.type) _ hv13)).step) (by kernel_rfl) (dst_of (by kernel_rfl)) ?_
         refine l_rk 1 tt_ok ⟨134, [(4, (fI (v13)))], [], []⟩ (by kernel_rfl) ?_
         refine l_nil ?_
         refine awp_ret ?_
         obtain rfl := Option.some.inj h
         exact (show retX _ _ _ _ = some _ from by kernel_rfl)
       ·refine awp_cond_f (b := (a1.kind == 2)) (by kernel_rfl) hb ?_
        refine awp_skip ?_
        refine awp_seq ?_
        refine awp_region ?_
        refine l_rk 2 tt_ok ⟨134, [(2, (.ref 1 0 0)), (3, (.ref 2 0 0)), (6, (fI (v7.type))), (92, (fS (a1.op)))], (grammar_rule_m0 a0 a1), [2, 1]⟩ (by kernel_rfl) ?_
        obtain ⟨v14, hv14, h⟩ := Option.bind_eq_some_iff.1 h
        refine l_step ((n_call (ys := [eS (a1.op)]) (cs := [(.one (.keep))]) rfl (by kernel_rfl) (operator_Find_ok (a1.op) _ hv14)).step) (by kernel_rfl) (dst_of (by kernel_rfl)) ?_
        refine l_rk 6 tt_ok ⟨134, [(2, (.ref 1 0 0)), (3, (.ref 2 0 0)), (6, (fI (v7.type))), (8, (.ref 3 0 0)), (9, (fB (v14.2)))], (grammar_rule_m3 a0 a1 v14), [3, 2, 1]⟩ (by kernel_rfl) ?_
        refine l_nil ?_
        refine awp_seq ?_
        refine awp_seq ?_
        refine awp_region ?_
        refine l_rk 2 tt_ok ⟨134, [(2, (.ref 1 0 0)), (3, (.ref 2 0 0)), (6, (fI (v7.type))), (8, (.ref 3 0 0)), (97, (fB ((!v14.2))))], (grammar_rule_m3 a0 a1 v14), [3, 2, 1]⟩ (by kernel_rfl) ?_
        refine l_nil ?_
        rcases cond_some h with ⟨hb, h⟩ | ⟨hb, h⟩
        ·refine awp_cond_t (b := (!v14.2)) (by kernel_rfl) hb ?_
         refine awp_seq ?_
         refine awp_region ?_
         refine l_rk 1 tt_ok ⟨134, [(4, (fI (5)))], [], []⟩ (by kernel_rfl) ?_
         refine l_nil ?_
         refine awp_ret ?_
         obtain rfl := Option.some.inj h
         exact (show retX _ _ _ _ = some _ from by kernel_rfl)
        ·refine awp_cond_f (b := (!v14.2)) (by kernel_rfl) hb ?_
         refine awp_skip ?_
         refine awp_seq ?_
         refine awp_seq ?_
         refine awp_region ?_
         refine l_rk 7 tt_ok ⟨134, [(2, (.ref 1 0 0)), (3, (.ref 2 0 0)), (6, (fI (v7.type))), (8, (.ref 3 0 0)), (104, (fB (((List.length a1.args : Int) != (List.length v14.1.f_Args : Int)))))], (grammar_rule_m3 a0 a1 v14), [3, 2, 1]⟩ (by kernel_rfl) ?_
         refine l_nil ?_
         rcases cond_some h with ⟨hb, h⟩ | ⟨hb, h⟩
         ·refine awp_cond_t (b := ((List.length a1.args : Int) != (List.length v14.1.f_Args : Int))) (by kernel_rfl) hb ?_
          refine awp_seq ?_
          refine awp_region ?_
          refine l_rk 1 tt_ok ⟨134, [(4, (fI (2)))], [], []⟩ (by kernel_rfl) ?_
          refine l_nil ?_
          refine awp_ret ?_
          obtain rfl := Option.some.inj h
          exact (show retX _ _ _ _ = some _ from by kernel_rfl)
         ·refine awp_cond_f (b := ((List.length a1.args : Int) != (List.length v14.1.f_Args : Int))) (by kernel_rfl) hb ?_
          refine awp_skip ?_
          refine awp_seq ?_
          refine awp_seq ?_
          refine awp_region ?_
          refine l_rk 4 tt_ok ⟨134, [(2, (.ref 1 0 0)), (6, (fI (v7.type))), (8, (.ref 3 0 0)), (106, (.fz ((eL 1 eI) (a1.args)))), (107, (fI ((List.length a1.args : Int)))), (108, (fI (0)))], (grammar_rule_m2 a0 v14), [3, 1]⟩ (by kernel_rfl) ?_
          refine l_nil ?_
          refine awp_block ?_
          obtain ⟨v20, hj, h⟩ := Option.bind_eq_some_iff.1 h
          refine awp_join (Qa := fun e st => Sum.elim (fun p => e = .exit 2 ∧ LeSt st ⟨134, [(6, (fI (v7.type))), (8, (.ref 3 0 0))], [(3, (.box 171 [(fS (v14.1.f_Name)), (.fz ((eL 1 eI) (v14.1.f_Args))), (fI (v14.1.f_Result))]))], [3]⟩) (fun p => e = .ret ∧ retX TT st Try.f145.results.toList [.one .keep] = some (eI (p))) v20) ?_ ?_
          ·refine awp_loopS (stOf := fun v15 => ⟨134, [(2, (.ref 1 0 0)), (6, (fI (v7.type))), (8, (.ref 3 0 0)), (106, (.fz ((eL 1 eI) (a1.args)))), (107, (fI ((List.length a1.args : Int)))), (108, (fI (v15)))], (grammar_rule_m2 a0 v14), [3, 1]⟩) (Qb := fun j e st => Sum.elim (fun p => e = .exit 2 ∧ LeSt st ⟨134, [(6, (fI (v7.type))), (8, (.ref 3 0 0))], [(3, (.box 171 [(fS (v14.1.f_Name)), (.fz ((eL 1 eI) (v14.1.f_Args))), (fI (v14.1.f_Result))]))], [3]⟩) (fun p => e = .ret ∧ retX TT st Try.f145.results.toList [.one .keep] = some (eI (p))) j) hj (le_ck (by kernel_rfl)) ?_
           clear hj h
           intro v15 r h
           unfold grammar_rule_l1 at h
           refine awp_seq ?_
           refine awp_region ?_
           refine l_rk 1 tt_ok ⟨134, [(2, (.ref 1 0 0)), (6, (fI (v7.type))), (8, (.ref 3 0 0)), (106, (.fz ((eL 1 eI) (a1.args)))), (107, (fI ((List.length a1.args : Int)))), (108, (fI (v15))), (109, (fB ((decide (v15 < (List.length a1.args : Int))))))], (grammar_rule_m2 a0 v14), [3, 1]⟩ (by kernel_rfl) ?_
           refine l_nil ?_
           refine awp_seq ?_
           rcases cond_some h with ⟨hb, h⟩ | ⟨hb, h⟩
           ·refine awp_cond_t (b := (decide (v15 < (List.length a1.args : Int)))) (by kernel_rfl) hb ?_
            refine awp_skip ?_
            refine awp_seq ?_
            refine awp_block ?_
            refine awp_seq ?_
            refine awp_region ?_
            refine l_rk 1 tt_ok ⟨134, [(2, (.ref 1 0 0)), (6, (fI (v7.type))), (8, (.ref 3 0 0)), (106, (.fz ((eL 1 eI) (a1.args)))), (107, (fI ((List.length a1.args : Int)))), (108, (fI (v15))), (110, (fI (v15)))], (grammar_rule_m2 a0 v14), [3, 1]⟩ (by kernel_rfl) ?_
            obtain ⟨v16, hv16, h⟩ := Option.bind_eq_some_iff.1 h
            refine l_step ((s_index (k := .i64) (d := tt23) (e := 3) (de := tt3) (enc := eI) hv16 tt_ok rfl (by kernel_rfl) (by kernel_rfl) (by kernel_rfl) (by kernel_rfl) len_eI (by kernel_rfl) rfl).step) (by kernel_rfl) (dst_of (by kernel_rfl)) ?_
            refine l_rk 3 tt_ok ⟨134, [(2, (.ref 1 0 0)), (6, (fI (v7.type))), (8, (.ref 3 0 0)), (10, (fI (v15))), (11, (fI (v16))), (106, (.fz ((eL 1 eI) (a1.args)))), (107, (fI ((List.length a1.args : Int)))), (108, (fI (v15)))], (grammar_rule_m2 a0 v14), [3, 1]⟩ (by kernel_rfl) ?_
            refine l_nil ?_
            refine awp_seq ?_
            refine awp_seq ?_
            refine awp_region ?_
            refine l_rk 2 tt_ok ⟨134, [(2, (.ref 1 0 0)), (6, (fI (v7.type))), (8, (.ref 3 0 0)), (10, (fI (v15))), (11, (fI (v16))), (106, (.fz ((eL 1 eI) (a1.args)))), (107, (fI ((List.length a1.args : Int)))), (108, (fI (v15))), (113, (.fz (eLa (a0)))), (114, (fI (v16)))], (grammar_rule_m2 a0 v14), [3, 1]⟩ (by kernel_rfl) ?_
            obtain ⟨v17, hv17, h⟩ := Option.bind_eq_some_iff.1 h
            refine l_step ((n_call (ys := [eLa (a0), eI (v16)]) (cs := [(.one .keep), (.one (.keep))]) rfl (by kernel_rfl) (grammar_symbol_ok (a0) (v16) _ hv17)).step) (by kernel_rfl) (dst_of (by kernel_rfl)) ?_
            refine l_rk 1 tt_ok ⟨134, [(2, (.ref 1 0 0)), (6, (fI (v7.type))), (8, (.ref 3 0 0)), (10, (fI (v15))), (11, (fI (v16))), (106, (.fz ((eL 1 eI) (a1.args)))), (107, (fI ((List.length a1.args : Int)))), (108, (fI (v15))), (116, (fB ((!v17))))], (grammar_rule_m2 a0 v14), [3, 1]⟩ (by kernel_rfl) ?_
            refine l_nil ?_
            rcases cond_some h with ⟨hb, h⟩ | ⟨hb, h⟩
            ·refine awp_cond_t (b := (!v17)) (by kernel_rfl) hb ?_
             refine awp_seq ?_
             refine awp_region ?_
             refine l_rk 1 tt_ok ⟨134, [(4, (fI (1)))], [], []⟩ (by kernel_rfl) ?_
             refine l_nil ?_
             refine awp_ret ?_
             obtain rfl := Option.some.inj h
             exact And.intro (And.intro (fun h => nomatch h) (fun h => nomatch h)) (And.intro rfl (show retX _ _ _ _ = some _ from by kernel_rfl))
            ·refine awp_cond_f (b := (!v17)) (by kernel_rfl) hb ?_
             refine awp_skip ?_
             refine awp_seq ?_
             obtain ⟨v18, hv18, h⟩ := Option.bind_eq_some_iff.1 h
             obtain ⟨v19, hv19, h⟩ := Option.bind_eq_some_iff.1 h
             refine awp_drawn (by kernel_rfl) [(.ref 1 0 2), (.fz ((eL 2 eSy) (a0.symbols))), (fI (v16)), (.fz (.fp [(eS (v18.name)), (eI (v18.type))])), (.fz (.fp [(eI (v18.type))])), (fI (v18.type)), (.ref 3 0 1), (.fz ((eL 1 eI) (v14.1.f_Args))), (fI (v15)), (.fz (.fp [(eI (v19))])), (fI (v19))] (by kernel_rfl) ?_
             refine ⟨.inl ⟨by kernel_rfl, (nstep_ok tt_ok (by kernel_rfl))⟩, ?_⟩
             refine ⟨.inl ⟨by kernel_rfl, (nstep_ok tt_ok (by kernel_rfl))⟩, ?_⟩
             refine ⟨.inl ⟨by kernel_rfl, (nstep_ok tt_ok (by kernel_rfl))⟩, ?_⟩
             refine ⟨.inl ⟨by kernel_rfl, (s_index (k := .i64) (d := tt24) (e := 72) (de := tt72) (enc := eSy) hv18 tt_ok rfl (by kernel_rfl) (by kernel_rfl) (by kernel_rfl) (by kernel_rfl) len_eSy (by kernel_rfl) rfl)⟩, ?_⟩
             refine ⟨.inl ⟨by kernel_rfl, (nstep_ok tt_ok (by kernel_rfl))⟩, ?_⟩
             refine ⟨.inl ⟨by kernel_rfl, (nstep_ok tt_ok (by kernel_rfl))⟩, ?_⟩
             refine ⟨.inl ⟨by kernel_rfl, (nstep_ok tt_ok (by kernel_rfl))⟩, ?_⟩
             refine ⟨.inl ⟨by kernel_rfl, (nstep_ok tt_ok (by kernel_rfl))⟩, ?_⟩
             refine ⟨.inl ⟨by kernel_rfl, (nstep_ok tt_ok (by kernel_rfl))⟩, ?_⟩
             refine ⟨.inl ⟨by kernel_rfl, (s_index (k := .i64) (d := tt23) (e := 3) (de := tt3) (enc := eI) hv19 tt_ok rfl (by kernel_rfl) (by kernel_rfl) (by kernel_rfl) (by kernel_rfl) len_eI (by kernel_rfl) rfl)⟩, ?_⟩
             refine ⟨.inl ⟨by kernel_rfl, (nstep_ok tt_ok (by kernel_rfl))⟩, ?_⟩
             refine l_rk 1 tt_ok ⟨134, [(2, (.ref 1 0 0)), (6, (fI (v7.type))), (8, (.ref 3 0 0)), (106, (.fz ((eL 1 eI) (a1.args)))), (107, (fI ((List.length a1.args : Int)))), (108, (fI (v15))), (128, (fB ((v18.type != v19))))], (grammar_rule_m2 a0 v14), [3, 1]⟩ (by kernel_rfl) ?_
             refine l_nil ?_
             rcases cond_some h with ⟨hb, h⟩ | ⟨hb, h⟩
             ·refine awp_cond_t (b := (v18.type != v19)) (by kernel_rfl) hb ?_
              refine awp_seq ?_
              refine awp_region ?_
              refine l_rk 1 tt_ok ⟨134, [(4, (fI (3)))], [], []⟩ (by kernel_rfl) ?_
              refine l_nil ?_
              refine awp_ret ?_
              obtain rfl := Option.some.inj h
              exact And.intro (And.intro (fun h => nomatch h) (fun h => nomatch h)) (And.intro rfl (show retX _ _ _ _ = some _ from by kernel_rfl))
             ·refine awp_cond_f (b := (v18.type != v19)) (by kernel_rfl) hb ?_
              refine awp_skip ?_
              refine awp_region ?_
              refine l_rk 2 tt_ok ⟨134, [(2, (.ref 1 0 0)), (6, (fI (v7.type))), (8, (.ref 3 0 0)), (106, (.fz ((eL 1 eI) (a1.args)))), (107, (fI ((List.length a1.args : Int)))), (108, (fI ((w64 (v15 + 1)))))], (grammar_rule_m2 a0 v14), [3, 1]⟩ (by kernel_rfl) ?_
              refine l_nil ?_
              obtain rfl := Option.some.inj h
              exact And.intro rfl (le_ck (by kernel_rfl))
           ·refine awp_cond_f (b := (decide (v15 < (List.length a1.args : Int)))) (by kernel_rfl) hb ?_
            refine awp_exit ?_
            obtain rfl := Option.some.inj h
            exact And.intro (And.intro (fun h => nomatch h) (fun h => nomatch h)) (And.intro rfl (le_ck (by kernel_rfl)))
          ·clear hj
           intro e st' hq
           rcases v20 with v21 | v23
           ·try simp only [Sum.elim_inl, Sum.elim_inr] at h
            obtain ⟨rfl, hle⟩ := hq
            refine ⟨_, hle, ?_⟩
            refine awp_seq ?_
            refine awp_region ?_
            refine l_rk 3 tt_ok ⟨134, [(131, (fI (v14.1.f_Result))), (132, (fI (v7.type)))], [], []⟩ (by kernel_rfl) ?_
            obtain ⟨v22, hv22, h⟩ := Option.bind_eq_some_iff.1 h
            refine l_step ((n_call (ys := [eI (v14.1.f_Result), eI (v7.type)]) (cs := [(.one (.keep)), (.one (.keep))]) rfl (by kernel_rfl) (grammar_same_ok (v14.1.f_Result) (v7.type) _ hv22)).step) (by kernel_rfl) (dst_of (by kernel_rfl)) ?_
            refine l_rk 1 tt_ok ⟨134, [(4, (fI (v22)))], [], []⟩ (by kernel_rfl) ?_
            refine l_nil ?_
            refine awp_ret ?_
            obtain rfl := Option.some.inj h
            exact (show retX _ _ _ _ = some _ from by kernel_rfl)
           ·try simp only [Sum.elim_inl, Sum.elim_inr] at h
            obtain ⟨rfl, hret⟩ := hq
            refine ⟨_, LeSt.refl, ?_⟩
            obtain rfl := Option.some.inj h
            exact hret

def grammar_Check_1_h_m0 (p0 : Env) (q0 : Nat → Prop) (w0 : World) (a1 : Ru) : List (Nat × AObj) := [(0, (.was p0 [1] q0 w0)), (1, (.box 67 [(fI (a1.symbol)), (fI (a1.kind)), (fI (a1.input)), (fI (a1.const.type)), (fI (a1.const.num)), (fS (a1.const.text)), (.fz ((eL 4 eVaR) (a1.const.items))), (fS (a1.op)), (.fz ((eL 1 eI) (a1.args)))]))]
def grammar_Check_1_h (a0 : Ru) (a1 : Ru) : Option ((Bool)) := (Option.bind (grammar_sameRule (a0) (a1)) fun v1 => (some (v1)))
theorem grammar_Check_1_h_ok (a0 : Ru) (a1 : Ru) (r : (Bool)) (h : grammar_Check_1_h a0 a1 = some r) : HCall Try.prog 147 ([(.fz (eRu (a0)))] ++ [(.ref 1 0 0)]) [(1, (.box 67 [(fI (a1.symbol)), (fI (a1.kind)), (fI (a1.input)), (fI (a1.const.type)), (fI (a1.const.num)), (fS (a1.const.text)), (.fz ((eL 4 eVaR) (a1.const.items))), (fS (a1.op)), (.fz ((eL 1 eI) (a1.args)))]))] [1] (.ret (fB (r))) [(1, (.box 67 [(fI (a1.symbol)), (fI (a1.kind)), (fI (a1.input)), (fI (a1.const.type)), (fI (a1.const.num)), (fS (a1.const.text)), (.fz ((eL 4 eVaR) (a1.const.items))), (fS (a1.op)), (.fz ((eL 1 eI) (a1.args)))]))] [1] := by
 unfold grammar_Check_1_h at h
 refine hcall_introQ (g := 0) tt_ok Try.func147 rfl (by kernel_rfl) (by kernel_rfl) (by kernel_rfl) (by kernel_rfl) (by kernel_rfl) (by kernel_rfl) (by kernel_rfl) ?_
 intro p0 q0 w0
 refine awp_le (st' := ⟨7, [(0, (.fz (eRu (a0)))), (1, (.ref 1 0 0))], (grammar_Check_1_h_m0 p0 q0 w0 a1), [0, 1]⟩) (le_ck (by kernel_rfl)) ?_
 refine awp_seq ?_
 refine awp_region ?_
 refine l_rk 2 tt_ok ⟨7, [(1, (.ref 1 0 0)), (2, (.ref 2 0 0))], [(0, (.was p0 [1] q0 w0)), (1, (.box 67 [(fI (a1.symbol)), (fI (a1.kind)), (fI (a1.input)), (fI (a1.const.type)), (fI (a1.const.num)), (fS (a1.const.text)), (.fz ((eL 4 eVaR) (a1.const.items))), (fS (a1.op)), (.fz ((eL 1 eI) (a1.args)))])), (2, (.box 67 [(fI (a0.symbol)), (fI (a0.kind)), (fI (a0.input)), (fI (a0.const.type)), (fI (a0.const.num)), (fS (a0.const.text)), (.fz ((eL 4 eVaR) (a0.const.items))), (fS (a0.op)), (.fz ((eL 1 eI) (a0.args)))]))], [2, 0, 1]⟩ (by kernel_rfl) ?_
 refine l_nil ?_
 refine awp_seq ?_
 refine awp_region ?_
 refine l_rk 2 tt_ok ⟨7, [(4, (.fz (eRu (a0)))), (5, (.fz (eRu (a1))))], (grammar_Check_1_h_m0 p0 q0 w0 a1), [0, 1]⟩ (by kernel_rfl) ?_
 obtain ⟨v1, hv1, h⟩ := Option.bind_eq_some_iff.1 h
 refine l_step ((n_call (ys := [eRu (a0), eRu (a1)]) (cs := [(.one .keep), (.one .keep)]) rfl (by kernel_rfl) (grammar_sameRule_ok (a0) (a1) _ hv1)).step) (by kernel_rfl) (dst_of (by kernel_rfl)) ?_
 refine l_rk 1 tt_ok ⟨7, [(3, (fB (v1)))], (grammar_Check_1_h_m0 p0 q0 w0 a1), [0, 1]⟩ (by kernel_rfl) ?_
 refine l_nil ?_
 refine awp_ret ?_
 obtain rfl := Option.some.inj h
 exact hQ_ret (st2 := ⟨7, [(3, (fB (v1)))], (grammar_Check_1_h_m0 p0 q0 w0 a1), [0, 1]⟩) (le_ck (by kernel_rfl)) rfl rfl (.inr rfl) (by kernel_rfl)

def slices_IndexFunc_api_Rule_api_Rule_h_m0 (p0 : Env) (q0 : Nat → Prop) (w0 : World) (a1 : Ru) : List (Nat × AObj) := [(0, (.was p0 [1] q0 w0)), (1, (.box 67 [(fI (a1.symbol)), (fI (a1.kind)), (fI (a1.input)), (fI (a1.const.type)), (fI (a1.const.num)), (fS (a1.const.text)), (.fz ((eL 4 eVaR) (a1.const.items))), (fS (a1.op)), (.fz ((eL 1 eI) (a1.args)))]))]
def slices_IndexFunc_api_Rule_api_Rule_h_l1 (a0 : List Ru) (a1 : Ru) (v1 : (Int)) : Option (((Int)) ⊕ (((Unit) ⊕ ((Int))))) := (bif (decide (v1 < (List.length a0 : Int))) then (Option.bind (idx a0 v1) fun v2 => (Option.bind (grammar_Check_1_h (v2) (a1)) fun v3 => (bif v3 then (some (.inr (.inr (v1)))) else (some (.inl ((w64 (v1 + 1)))))))) else (some (.inr (.inl ()))))
def slices_IndexFunc_api_Rule_api_Rule_h (a0 : List Ru) (a1 : Ru) : Option ((Int)) := (Option.bind (loopN (slices_IndexFunc_api_Rule_api_Rule_h_l1 a0 a1) fuel (0)) fun (v4 : ((Unit) ⊕ ((Int)))) => Sum.elim (fun v5 => (some ((-1)))) (fun v6 => (some (v6))) v4)
theorem slices_IndexFunc_api_Rule_api_Rule_h_ok (a0 : List Ru) (a1 : Ru) (r : (Int)) (h : slices_IndexFunc_api_Rule_api_Rule_h a0 a1 = some r) : HCall Try.prog 178 ([(.fz ((eL 9 eRu) (a0))), (.fn 147 [(.ref 1 0 0)])] ++ []) [(1, (.box 67 [(fI (a1.symbol)), (fI (a1.kind)), (fI (a1.input)), (fI (a1.const.type)), (fI (a1.const.num)), (fS (a1.const.text)), (.fz ((eL 4 eVaR) (a1.const.items))), (fS (a1.op)), (.fz ((eL 1 eI) (a1.args)))]))] [1] (.ret (fI (r))) [(1, (.box 67 [(fI (a1.symbol)), (fI (a1.kind)), (fI (a1.input)), (fI (a1.const.type)), (fI (a1.const.num)), (fS (a1.const.text)), (.fz ((eL 4 eVaR) (a1.const.items))), (fS (a1.op)), (.fz ((eL 1 eI) (a1.args)))]))] [1] := by
 unfold slices_IndexFunc_api_Rule_api_Rule_h at h
 refine hcall_introQ (g := 0) tt_ok Try.func178 rfl (by kernel_rfl) (by kernel_rfl) (by kernel_rfl) (by kernel_rfl) (by kernel_rfl) (by kernel_rfl) (by kernel_rfl) ?_
 intro p0 q0 w0
 refine awp_le (st' := ⟨19, [(0, (.fz ((eL 9 eRu) (a0)))), (1, (.fn 147 [(.ref 1 0 0)]))], (slices_IndexFunc_api_Rule_api_Rule_h_m0 p0 q0 w0 a1), [0, 1]⟩) (le_ck (by kernel_rfl)) ?_
 refine awp_seq ?_
 refine awp_region ?_
 refine l_rk 1 tt_ok ⟨19, [(0, (.fz ((eL 9 eRu) (a0)))), (1, (.fn 147 [(.ref 1 0 0)]))], (slices_IndexFunc_api_Rule_api_Rule_h_m0 p0 q0 w0 a1), [0, 1]⟩ (by kernel_rfl) ?_
 refine l_nil ?_
 refine awp_seq ?_
 refine awp_seq ?_
 refine awp_region ?_
 refine l_rk 3 tt_ok ⟨19, [(0, (.fz ((eL 9 eRu) (a0)))), (1, (.fn 147 [(.ref 1 0 0)])), (7, (fI ((List.length a0 : Int)))), (8, (fI (0)))], (slices_IndexFunc_api_Rule_api_Rule_h_m0 p0 q0 w0 a1), [0, 1]⟩ (by kernel_rfl) ?_
 refine l_nil ?_
 refine awp_block ?_
 obtain ⟨v4, hj, h⟩ := Option.bind_eq_some_iff.1 h
 refine awp_join (Qa := fun e st => Sum.elim (fun p => e = .exit 0 ∧ LeSt st ⟨19, [], (slices_IndexFunc_api_Rule_api_Rule_h_m0 p0 q0 w0 a1), [0, 1]⟩) (fun p => e = .ret ∧ LeSt st ⟨19, [(4, (fI (p)))], (slices_IndexFunc_api_Rule_api_Rule_h_m0 p0 q0 w0 a1), [0, 1]⟩) v4) ?_ ?_
 ·refine awp_loopS (stOf := fun v1 => ⟨19, [(0, (.fz ((eL 9 eRu) (a0)))), (1, (.fn 147 [(.ref 1 0 0)])), (7, (fI ((List.length a0 : Int)))), (8, (fI (v1)))], (slices_IndexFunc_api_Rule_api_Rule_h_m0 p0 q0 w0 a1), [0, 1]⟩) (Qb := fun j e st => Sum.elim (fun p => e = .exit 0 ∧ LeSt st ⟨19, [], (slices_IndexFunc_api_Rule_api_Rule_h_m0 p0 q0 w0 a1), [0, 1]⟩) (fun p => e = .ret ∧ LeSt st ⟨19, [(4, (fI (p)))], (slices_IndexFunc_api_Rule_api_Rule_h_m0 p0 q0 w0 a1), [0, 1]⟩) j) hj (le_ck (by kernel_rfl)) ?_
  clear hj h
  intro v1 r h
  unfold slices_IndexFunc_api_Rule_api_Rule_h_l1 at h
  refine awp_seq ?_
  refine awp_region ?_
  refine l_rk 1 tt_ok ⟨19, [(0, (.fz ((eL 9 eRu) (a0)))), (1, (.fn 147 [(.ref 1 0 0)])), (7, (fI ((List.length a0 : Int)))), (8, (fI (v1))), (9, (fB ((decide (v1 < (List.length a0 : Int))))))], (slices_IndexFunc_api_Rule_api_Rule_h_m0 p0 q0 w0 a1), [0, 1]⟩ (by kernel_rfl) ?_
  refine l_nil ?_
  refine awp_seq ?_
  rcases cond_some h with ⟨hb, h⟩ | ⟨hb, h⟩
  ·refine awp_cond_t (b := (decide (v1 < (List.length a0 : Int)))) (by kernel_rfl) hb ?_
   refine awp_skip ?_
   refine awp_seq ?_
   refine awp_block ?_
   refine awp_seq ?_
   refine awp_region ?_
   refine l_rk 2 tt_ok ⟨19, [(0, (.fz ((eL 9 eRu) (a0)))), (1, (.fn 147 [(.ref 1 0 0)])), (5, (fI (v1))), (7, (fI ((List.length a0 : Int)))), (8, (fI (v1)))], (slices_IndexFunc_api_Rule_api_Rule_h_m0 p0 q0 w0 a1), [0, 1]⟩ (by kernel_rfl) ?_
   refine l_nil ?_
   refine awp_seq ?_
   refine awp_region ?_
   refine l_rk 3 tt_ok ⟨19, [(0, (.fz ((eL 9 eRu) (a0)))), (1, (.fn 147 [(.ref 1 0 0)])), (5, (fI (v1))), (7, (fI ((List.length a0 : Int)))), (8, (fI (v1))), (11, (.fn 147 [(.ref 1 0 0)])), (12, (.fz ((eL 9 eRu) (a0)))), (13, (fI (v1)))], (slices_IndexFunc_api_Rule_api_Rule_h_m0 p0 q0 w0 a1), [0, 1]⟩ (by kernel_rfl) ?_
   obtain ⟨v2, hv2, h⟩ := Option.bind_eq_some_iff.1 h
   refine l_step ((s_index (k := .i64) (d := tt25) (e := 67) (de := tt67) (enc := eRu) hv2 tt_ok rfl (by kernel_rfl) (by kernel_rfl) (by kernel_rfl) (by kernel_rfl) len_eRu (by kernel_rfl) rfl).step) (by kernel_rfl) (dst_of (by kernel_rfl)) ?_
   refine l_rk 1 tt_ok ⟨19, [(0, (.fz ((eL 9 eRu) (a0)))), (1, (.fn 147 [(.ref 1 0 0)])), (5, (fI (v1))), (7, (fI ((List.length a0 : Int)))), (8, (fI (v1))), (11, (.fn 147 [(.ref 1 0 0)])), (15, (.fz (eRu (v2))))], (slices_IndexFunc_api_Rule_api_Rule_h_m0 p0 q0 w0 a1), [0, 1]⟩ (by kernel_rfl) ?_
   obtain ⟨v3, hv3, h⟩ := Option.bind_eq_some_iff.1 h
   refine l_step (h_step (f := 147) (cap := [(.ref 1 0 0)]) (cs := [.one .keep]) (keys := [1]) [(1, 1)] [(1, 1)] rfl (by kernel_rfl) (grammar_Check_1_h_ok (v2) (a1) _ hv3) (by kernel_rfl) (by kernel_rfl) (by kernel_rfl) (by kernel_rfl)) (by kernel_rfl) (dst_of (by kernel_rfl)) ?_
   refine l_nil ?_
   rcases cond_some h with ⟨hb, h⟩ | ⟨hb, h⟩
   ·refine awp_cond_t (b := v3) (by kernel_rfl) hb ?_
    refine awp_seq ?_
    refine awp_region ?_
    refine l_rk 2 tt_ok ⟨19, [(4, (fI (v1)))], (slices_IndexFunc_api_Rule_api_Rule_h_m0 p0 q0 w0 a1), [0, 1]⟩ (by kernel_rfl) ?_
    refine l_nil ?_
    refine awp_ret ?_
    obtain rfl := Option.some.inj h
    exact And.intro (And.intro (fun h => nomatch h) (fun h => nomatch h)) (And.intro rfl (le_ck (by kernel_rfl)))
   ·refine awp_cond_f (b := v3) (by kernel_rfl) hb ?_
    refine awp_skip ?_
    refine awp_region ?_
    refine l_rk 2 tt_ok ⟨19, [(0, (.fz ((eL 9 eRu) (a0)))), (1, (.fn 147 [(.ref 1 0 0)])), (7, (fI ((List.length a0 : Int)))), (8, (fI ((w64 (v1 + 1)))))], (slices_IndexFunc_api_Rule_api_Rule_h_m0 p0 q0 w0 a1), [0, 1]⟩ (by kernel_rfl) ?_
    refine l_nil ?_
    obtain rfl := Option.some.inj h
    exact And.intro rfl (le_ck (by kernel_rfl))
  ·refine awp_cond_f (b := (decide (v1 < (List.length a0 : Int)))) (by kernel_rfl) hb ?_
   refine awp_exit ?_
   obtain rfl := Option.some.inj h
   exact And.intro (And.intro (fun h => nomatch h) (fun h => nomatch h)) (And.intro rfl (le_ck (by kernel_rfl)))
 ·clear hj
  intro e st' hq
  rcases v4 with v5 | v6
  ·try simp only [Sum.elim_inl, Sum.elim_inr] at h
   obtain ⟨rfl, hle⟩ := hq
   refine ⟨_, hle, ?_⟩
   refine awp_seq ?_
   refine awp_region ?_
   refine l_rk 1 tt_ok ⟨19, [(4, (fI ((-1))))], (slices_IndexFunc_api_Rule_api_Rule_h_m0 p0 q0 w0 a1), [0, 1]⟩ (by kernel_rfl) ?_
   refine l_nil ?_
   refine awp_ret ?_
   obtain rfl := Option.some.inj h
   exact hQ_ret (st2 := ⟨19, [(4, (fI ((-1))))], (slices_IndexFunc_api_Rule_api_Rule_h_m0 p0 q0 w0 a1), [0, 1]⟩) (le_ck (by kernel_rfl)) rfl rfl (.inr rfl) (by kernel_rfl)
  ·try simp only [Sum.elim_inl, Sum.elim_inr] at h
   obtain ⟨rfl, hle⟩ := hq
   refine ⟨_, hle, ?_⟩
   obtain rfl := Option.some.inj h
   exact hQ_ret (st2 := ⟨19, [(4, (fI (v6)))], (slices_IndexFunc_api_Rule_api_Rule_h_m0 p0 q0 w0 a1), [0, 1]⟩) (le_ck (by kernel_rfl)) rfl rfl (.inr rfl) (by kernel_rfl)

def slices_ContainsFunc_api_Rule_api_Rule_h_m0 (p0 : Env) (q0 : Nat → Prop) (w0 : World) (a1 : Ru) : List (Nat × AObj) := [(0, (.was p0 [1] q0 w0)), (1, (.box 67 [(fI (a1.symbol)), (fI (a1.kind)), (fI (a1.input)), (fI (a1.const.type)), (fI (a1.const.num)), (fS (a1.const.text)), (.fz ((eL 4 eVaR) (a1.const.items))), (fS (a1.op)), (.fz ((eL 1 eI) (a1.args)))]))]
def slices_ContainsFunc_api_Rule_api_Rule_h (a0 : List Ru) (a1 : Ru) : Option ((Bool)) := (Option.bind (slices_IndexFunc_api_Rule_api_Rule_h (a0) (a1)) fun v1 => (some ((decide (0 ≤ v1)))))
theorem slices_ContainsFunc_api_Rule_api_Rule_h_ok (a0 : List Ru) (a1 : Ru) (r : (Bool)) (h : slices_ContainsFunc_api_Rule_api_Rule_h a0 a1 = some r) : HCall Try.prog 146 ([(.fz ((eL 9 eRu) (a0))), (.fn 147 [(.ref 1 0 0)])] ++ []) [(1, (.box 67 [(fI (a1.symbol)), (fI (a1.kind)), (fI (a1.input)), (fI (a1.const.type)), (fI (a1.const.num)), (fS (a1.const.text)), (.fz ((eL 4 eVaR) (a1.const.items))), (fS (a1.op)), (.fz ((eL 1 eI) (a1.args)))]))] [1] (.ret (fB (r))) [(1, (.box 67 [(fI (a1.symbol)), (fI (a1.kind)), (fI (a1.input)), (fI (a1.const.type)), (fI (a1.const.num)), (fS (a1.const.text)), (.fz ((eL 4 eVaR) (a1.const.items))), (fS (a1.op)), (.fz ((eL 1 eI) (a1.args)))]))] [1] := by
 unfold slices_ContainsFunc_api_Rule_api_Rule_h at h
 refine hcall_introQ (g := 0) tt_ok Try.func146 rfl (by kernel_rfl) (by kernel_rfl) (by kernel_rfl) (by kernel_rfl) (by kernel_rfl) (by kernel_rfl) (by kernel_rfl) ?_
 intro p0 q0 w0
 refine awp_le (st' := ⟨9, [(0, (.fz ((eL 9 eRu) (a0)))), (1, (.fn 147 [(.ref 1 0 0)]))], (slices_ContainsFunc_api_Rule_api_Rule_h_m0 p0 q0 w0 a1), [0, 1]⟩) (le_ck (by kernel_rfl)) ?_
 refine awp_seq ?_
 refine awp_region ?_
 refine l_rk 1 tt_ok ⟨9, [(0, (.fz ((eL 9 eRu) (a0)))), (1, (.fn 147 [(.ref 1 0 0)]))], (slices_ContainsFunc_api_Rule_api_Rule_h_m0 p0 q0 w0 a1), [0, 1]⟩ (by kernel_rfl) ?_
 refine l_nil ?_
 refine awp_seq ?_
 refine awp_region ?_
 refine l_rk 2 tt_ok ⟨9, [(5, (.fz ((eL 9 eRu) (a0)))), (6, (.fn 147 [(.ref 1 0 0)]))], (slices_ContainsFunc_api_Rule_api_Rule_h_m0 p0 q0 w0 a1), [0, 1]⟩ (by kernel_rfl) ?_
 obtain ⟨v1, hv1, h⟩ := Option.bind_eq_some_iff.1 h
 refine l_step (h_step (f := 178) (cap := []) (cs := [.one .keep, .one .keep]) (keys := [1]) [(1, 1)] [(1, 1)] rfl (by kernel_rfl) (slices_IndexFunc_api_Rule_api_Rule_h_ok (a0) (a1) _ hv1) (by kernel_rfl) (by kernel_rfl) (by kernel_rfl) (by kernel_rfl)) (by kernel_rfl) (dst_of (by kernel_rfl)) ?_
 refine l_rk 2 tt_ok ⟨9, [(4, (fB ((decide (0 ≤ v1)))))], (slices_ContainsFunc_api_Rule_api_Rule_h_m0 p0 q0 w0 a1), [0, 1]⟩ (by kernel_rfl) ?_
 refine l_nil ?_
 refine awp_ret ?_
 obtain rfl := Option.some.inj h
 exact hQ_ret (st2 := ⟨9, [(4, (fB ((decide (0 ≤ v1)))))], (slices_ContainsFunc_api_Rule_api_Rule_h_m0 p0 q0 w0 a1), [0, 1]⟩) (le_ck (by kernel_rfl)) rfl rfl (.inr rfl) (by kernel_rfl)

def grammar_Check_m0 (a0 : La) : List (Nat × AObj) := [(1, (.box 27 [(fS (a0.name)), (.fz ((eL 1 eI) (a0.inputs))), (.fz ((eL 2 eSy) (a0.symbols))), (.fz ((eL 9 eRu) (a0.rules)))]))]
def grammar_Check_l1 (a0 : La) (v15 : (Int)) : Option (((Int)) ⊕ (((Unit) ⊕ (Int)))) := (bif (decide (v15 < (List.length a0.rules : Int))) then (Option.bind (idx a0.rules v15) fun v16 => (Option.bind (grammar_rule (a0) (v16)) fun v17 => (bif (v17 != 0) then (some (.inr (.inr v17))) else (Option.bind (cutL a0.rules 0 v15) fun v18 => (Option.bind (slices_ContainsFunc_api_Rule_api_Rule_h (v18) (v16)) fun v19 => (bif v19 then (some (.inr (.inr 6))) else (some (.inl ((w64 (v15 + 1))))))))))) else (some (.inr (.inl ()))))
def grammar_Check_l2 (a0 : La) (v9 : (Int) × (List (ByteArray × Bool))) : Option (((Int) × (List (ByteArray × Bool))) ⊕ (((Unit) ⊕ (Int)))) := (bif (decide (v9.1 < (List.length a0.symbols : Int))) then (Option.bind (idx a0.symbols v9.1) fun v10 => (Option.bind (grammar_named (v10.name)) fun v11 => (bif (!v11) then (some (.inr (.inr 5))) else (bif (mget v9.2 v10.name false) then (some (.inr (.inr 6))) else (Option.bind (grammar_typed (v10.type)) fun v12 => (bif (!v12) then (some (.inr (.inr 3))) else (some (.inl ((w64 (v9.1 + 1)), (mput v9.2 v10.name true)))))))))) else (some (.inr (.inl ()))))
def grammar_Check_l3 (a0 : La) (v2 : (Int)) : Option (((Int)) ⊕ (((Unit) ⊕ (Int)))) := (bif (decide (v2 < (List.length a0.inputs : Int))) then (Option.bind (idx a0.inputs v2) fun v3 => (Option.bind (grammar_typed (v3)) fun v4 => (bif (!v4) then (some (.inr (.inr 3))) else (some (.inl ((w64 (v2 + 1)))))))) else (some (.inr (.inl ()))))
def grammar_Check (a0 : La) : Option (Int) := (Option.bind (grammar_named (a0.name)) fun v1 => (bif (!v1) then (some 5) else (bif (decide (4 < (List.length a0.inputs : Int))) then (some 2) else (Option.bind (loopN (grammar_Check_l3 a0) fuel (0)) fun (v5 : ((Unit) ⊕ (Int))) => Sum.elim (fun v6 => (Option.bind ((bif (decide ((List.length a0.symbols : Int) < 1)) then (some (true)) else (some ((decide (16 < (List.length a0.symbols : Int)))))) : Option ((Bool))) fun (v8 : (Bool)) => (bif v8 then (some 2) else (Option.bind (loopN (grammar_Check_l2 a0) fuel (0, ([] : List (ByteArray × Bool)))) fun (v13 : ((Unit) ⊕ (Int))) => Sum.elim (fun v14 => (bif (decide (96 < (List.length a0.rules : Int))) then (some 2) else (Option.bind (loopN (grammar_Check_l1 a0) fuel (0)) fun (v20 : ((Unit) ⊕ (Int))) => Sum.elim (fun v21 => (some 0)) (fun v22 => (some v22)) v20))) (fun v23 => (some v23)) v13)))) (fun v24 => (some v24)) v5))))
theorem grammar_Check_ok (a0 : La) (r : Int) (h : grammar_Check a0 = some r) : PCall Try.prog 85 [eLa a0] (eI (r)) := by
 unfold grammar_Check at h
 refine pcall_intro (T := TT) tt_ok [.one .keep] Try.func85 rfl (by kernel_rfl) (by kernel_rfl) ?_
 refine awp_le (st' := ⟨92, [(0, (.fz (eLa (a0))))], [], []⟩) (le_ck (by kernel_rfl)) ?_
 refine awp_seq ?_
 refine awp_region ?_
 refine l_rk 2 tt_ok ⟨92, [(1, (.ref 1 0 0))], (grammar_Check_m0 a0), [1]⟩ (by kernel_rfl) ?_
 refine l_nil ?_
 refine awp_seq ?_
 refine awp_seq ?_
 refine awp_region ?_
 refine l_rk 2 tt_ok ⟨92, [(1, (.ref 1 0 0)), (12, (fS (a0.name)))], (grammar_Check_m0 a0), [1]⟩ (by kernel_rfl) ?_
 obtain ⟨v1, hv1, h⟩ := Option.bind_eq_some_iff.1 h
 refine l_step ((n_call (ys := [eS (a0.name)]) (cs := [(.one (.keep))]) rfl (by kernel_rfl) (grammar_named_ok (a0.name) _ hv1)).step) (by kernel_rfl) (dst_of (by kernel_rfl)) ?_
 refine l_rk 1 tt_ok ⟨92, [(1, (.ref 1 0 0)), (14, (fB ((!v1))))], (grammar_Check_m0 a0), [1]⟩ (by kernel_rfl) ?_
 refine l_nil ?_
 rcases cond_some h with ⟨hb, h⟩ | ⟨hb, h⟩
 ·refine awp_cond_t (b := (!v1)) (by kernel_rfl) hb ?_
  refine awp_seq ?_
  refine awp_region ?_
  refine l_rk 1 tt_ok ⟨92, [(2, (fI (5)))], [], []⟩ (by kernel_rfl) ?_
  refine l_nil ?_
  refine awp_ret ?_
  obtain rfl := Option.some.inj h
  exact (show retX _ _ _ _ = some _ from by kernel_rfl)
 ·refine awp_cond_f (b := (!v1)) (by kernel_rfl) hb ?_
  refine awp_skip ?_
  refine awp_seq ?_
  refine awp_seq ?_
  refine awp_region ?_
  refine l_rk 4 tt_ok ⟨92, [(1, (.ref 1 0 0)), (18, (fB ((decide (4 < (List.length a0.inputs : Int))))))], (grammar_Check_m0 a0), [1]⟩ (by kernel_rfl) ?_
  refine l_nil ?_
  rcases cond_some h with ⟨hb, h⟩ | ⟨hb, h⟩
  ·refine awp_cond_t (b := (decide (4 < (List.length a0.inputs : Int)))) (by kernel_rfl) hb ?_
   refine awp_seq ?_
   refine awp_region ?_
   refine l_rk 1 tt_ok ⟨92, [(2, (fI (2)))], [], []⟩ (by kernel_rfl) ?_
   refine l_nil ?_
   refine awp_ret ?_
   obtain rfl := Option.some.inj h
   exact (show retX _ _ _ _ = some _ from by kernel_rfl)
  ·refine awp_cond_f (b := (decide (4 < (List.length a0.inputs : Int)))) (by kernel_rfl) hb ?_
   refine awp_skip ?_
   refine awp_seq ?_
   refine awp_seq ?_
   refine awp_region ?_
   refine l_rk 4 tt_ok ⟨92, [(1, (.ref 1 0 0)), (20, (.fz ((eL 1 eI) (a0.inputs)))), (21, (fI ((List.length a0.inputs : Int)))), (22, (fI (0)))], (grammar_Check_m0 a0), [1]⟩ (by kernel_rfl) ?_
   refine l_nil ?_
   refine awp_block ?_
   obtain ⟨v5, hj, h⟩ := Option.bind_eq_some_iff.1 h
   refine awp_join (Qa := fun e st => Sum.elim (fun p => e = .exit 0 ∧ LeSt st ⟨92, [(1, (.ref 1 0 0))], (grammar_Check_m0 a0), [1]⟩) (fun p => e = .ret ∧ retX TT st Try.f85.results.toList [.one .keep] = some (eI (p))) v5) ?_ ?_
   ·refine awp_loopS (stOf := fun v2 => ⟨92, [(1, (.ref 1 0 0)), (20, (.fz ((eL 1 eI) (a0.inputs)))), (21, (fI ((List.length a0.inputs : Int)))), (22, (fI (v2)))], (grammar_Check_m0 a0), [1]⟩) (Qb := fun j e st => Sum.elim (fun p => e = .exit 0 ∧ LeSt st ⟨92, [(1, (.ref 1 0 0))], (grammar_Check_m0 a0), [1]⟩) (fun p => e = .ret ∧ retX TT st Try.f85.results.toList [.one .keep] = some (eI (p))) j) hj (le_ck (by kernel_rfl)) ?_
    clear hj h
    intro v2 r h
    unfold grammar_Check_l3 at h
    refine awp_seq ?_
    refine awp_region ?_
    refine l_rk 1 tt_ok ⟨92, [(1, (.ref 1 0 0)), (20, (.fz ((eL 1 eI) (a0.inputs)))), (21, (fI ((List.length a0.inputs : Int)))), (22, (fI (v2))), (23, (fB ((decide (v2 < (List.length a0.inputs : Int))))))], (grammar_Check_m0 a0), [1]⟩ (by kernel_rfl) ?_
    refine l_nil ?_
    refine awp_seq ?_
    rcases cond_some h with ⟨hb, h⟩ | ⟨hb, h⟩
    ·refine awp_cond_t (b := (decide (v2 < (List.length a0.inputs : Int)))) (by kernel_rfl) hb ?_
     refine awp_skip ?_
     refine awp_seq ?_
     refine awp_block ?_
     refine awp_seq ?_
     refine awp_region ?_
     obtain ⟨v3, hv3, h⟩ := Option.bind_eq_some_iff.1 h
     refine l_step ((s_index (k := .i64) (d := tt23) (e := 3) (de := tt3) (enc := eI) hv3 tt_ok rfl (by kernel_rfl) (by kernel_rfl) (by kernel_rfl) (by kernel_rfl) len_eI (by kernel_rfl) rfl).step) (by kernel_rfl) (dst_of (by kernel_rfl)) ?_
     refine l_rk 2 tt_ok ⟨92, [(1, (.ref 1 0 0)), (4, (fI (v3))), (20, (.fz ((eL 1 eI) (a0.inputs)))), (21, (fI ((List.length a0.inputs : Int)))), (22, (fI (v2)))], (grammar_Check_m0 a0), [1]⟩ (by kernel_rfl) ?_
     refine l_nil ?_
     refine awp_seq ?_
     refine awp_region ?_
     refine l_rk 1 tt_ok ⟨92, [(1, (.ref 1 0 0)), (20, (.fz ((eL 1 eI) (a0.inputs)))), (21, (fI ((List.length a0.inputs : Int)))), (22, (fI (v2))), (26, (fI (v3)))], (grammar_Check_m0 a0), [1]⟩ (by kernel_rfl) ?_
     obtain ⟨v4, hv4, h⟩ := Option.bind_eq_some_iff.1 h
     refine l_step ((n_call (ys := [eI (v3)]) (cs := [(.one (.keep))]) rfl (by kernel_rfl) (grammar_typed_ok (v3) _ hv4)).step) (by kernel_rfl) (dst_of (by kernel_rfl)) ?_
     refine l_rk 1 tt_ok ⟨92, [(1, (.ref 1 0 0)), (20, (.fz ((eL 1 eI) (a0.inputs)))), (21, (fI ((List.length a0.inputs : Int)))), (22, (fI (v2))), (28, (fB ((!v4))))], (grammar_Check_m0 a0), [1]⟩ (by kernel_rfl) ?_
     refine l_nil ?_
     rcases cond_some h with ⟨hb, h⟩ | ⟨hb, h⟩
     ·refine awp_cond_t (b := (!v4)) (by kernel_rfl) hb ?_
      refine awp_seq ?_
      refine awp_region ?_
      refine l_rk 1 tt_ok ⟨92, [(2, (fI (3)))], [], []⟩ (by kernel_rfl) ?_
      refine l_nil ?_
      refine awp_ret ?_
      obtain rfl := Option.some.inj h
      exact And.intro (And.intro (fun h => nomatch h) (fun h => nomatch h)) (And.intro rfl (show retX _ _ _ _ = some _ from by kernel_rfl))
     ·refine awp_cond_f (b := (!v4)) (by kernel_rfl) hb ?_
      refine awp_skip ?_
      refine awp_region ?_
      refine l_rk 2 tt_ok ⟨92, [(1, (.ref 1 0 0)), (20, (.fz ((eL 1 eI) (a0.inputs)))), (21, (fI ((List.length a0.inputs : Int)))), (22, (fI ((w64 (v2 + 1)))))], (grammar_Check_m0 a0), [1]⟩ (by kernel_rfl) ?_
      refine l_nil ?_
      obtain rfl := Option.some.inj h
      exact And.intro rfl (le_ck (by kernel_rfl))
    ·refine awp_cond_f (b := (decide (v2 < (List.length a0.inputs : Int)))) (by kernel_rfl) hb ?_
     refine awp_exit ?_
     obtain rfl := Option.some.inj h
     exact And.intro (And.intro (fun h => nomatch h) (fun h => nomatch h)) (And.intro rfl (le_ck (by kernel_rfl)))
   ·clear hj
    intro e st' hq
    rcases v5 with v6 | v24
    ·try simp only [Sum.elim_inl, Sum.elim_inr] at h
     obtain ⟨rfl, hle⟩ := hq
     refine ⟨_, hle, ?_⟩
     refine awp_seq ?_
     refine awp_seq ?_
     obtain ⟨v8, hj, h⟩ := Option.bind_eq_some_iff.1 h
     refine awp_join (Qa := fun e st => e = .normal ∧ LeSt st ⟨92, [(1, (.ref 1 0 0)), (39, (fB (v8)))], (grammar_Check_m0 a0), [1]⟩) ?_ ?_
     ·replace h := hj
      clear hj
      refine awp_region ?_
      refine l_rk 5 tt_ok ⟨92, [(1, (.ref 1 0 0)), (34, (fB ((decide ((List.length a0.symbols : Int) < 1)))))], (grammar_Check_m0 a0), [1]⟩ (by kernel_rfl) ?_
      rcases cond_some h with ⟨hb, h⟩ | ⟨hb, h⟩
      ·refine l_le (le_eq (t := 34) (x := .fz (eB (decide ((List.length a0.symbols : Int) < 1)))) (y := .fz (eB true)) (by kernel_rfl) (congrArg (fun b => AV.fz (eB b)) hb)) ?_
       refine l_rk 5 tt_ok ⟨92, [(1, (.ref 1 0 0)), (39, (fB (true)))], (grammar_Check_m0 a0), [1]⟩ (by kernel_rfl) ?_
       refine l_nil ?_
       obtain rfl := Option.some.inj h
       exact And.intro rfl (le_ck (by kernel_rfl))
      ·refine l_le (le_eq (t := 34) (x := .fz (eB (decide ((List.length a0.symbols : Int) < 1)))) (y := .fz (eB false)) (by kernel_rfl) (congrArg (fun b => AV.fz (eB b)) hb)) ?_
       refine l_rk 5 tt_ok ⟨92, [(1, (.ref 1 0 0)), (39, (fB ((decide (16 < (List.length a0.symbols : Int))))))], (grammar_Check_m0 a0), [1]⟩ (by kernel_rfl) ?_
       refine l_nil ?_
       obtain rfl := Option.some.inj h
       exact And.intro rfl (le_ck (by kernel_rfl))
     ·clear hj
      intro e st' hq
      obtain ⟨rfl, hle⟩ := hq
      refine ⟨_, hle, ?_⟩
      rcases cond_some h with ⟨hb, h⟩ | ⟨hb, h⟩
      ·refine awp_cond_t (b := v8) (by kernel_rfl) hb ?_
       refine awp_seq ?_
       refine awp_region ?_
       refine l_rk 1 tt_ok ⟨92, [(2, (fI (2)))], [], []⟩ (by kernel_rfl) ?_
       refine l_nil ?_
       refine awp_ret ?_
       obtain rfl := Option.some.inj h
       exact (show retX _ _ _ _ = some _ from by kernel_rfl)
      ·refine awp_cond_f (b := v8) (by kernel_rfl) hb ?_
       refine awp_skip ?_
       refine awp_seq ?_
       refine awp_region ?_
       refine l_step (e_makeMap (id := 2) rfl (by kernel_rfl)) (by kernel_rfl) (dst_of (by kernel_rfl)) ?_
       refine l_rk 1 tt_ok ⟨92, [(1, (.ref 1 0 0)), (5, (.mp 2))], [(1, (.box 27 [(fS (a0.name)), (.fz ((eL 1 eI) (a0.inputs))), (.fz ((eL 2 eSy) (a0.symbols))), (.fz ((eL 9 eRu) (a0.rules)))])), (2, (.smap (List.map (fun p => (p.1, eB p.2)) (([] : List (ByteArray × Bool))))))], [2, 1]⟩ (by kernel_rfl) ?_
       refine l_nil ?_
       refine awp_seq ?_
       refine awp_seq ?_
       refine awp_region ?_
       refine l_rk 4 tt_ok ⟨92, [(1, (.ref 1 0 0)), (5, (.mp 2)), (42, (.fz ((eL 2 eSy) (a0.symbols)))), (43, (fI ((List.length a0.symbols : Int)))), (44, (fI (0)))], [(1, (.box 27 [(fS (a0.name)), (.fz ((eL 1 eI) (a0.inputs))), (.fz ((eL 2 eSy) (a0.symbols))), (.fz ((eL 9 eRu) (a0.rules)))])), (2, (.smap (List.map (fun p => (p.1, eB p.2)) (([] : List (ByteArray × Bool))))))], [2, 1]⟩ (by kernel_rfl) ?_
       refine l_nil ?_
       refine awp_block ?_
       obtain ⟨v13, hj, h⟩ := Option.bind_eq_some_iff.1 h
       refine awp_join (Qa := fun e st => Sum.elim (fun p => e = .exit 2 ∧ LeSt st ⟨92, [(1, (.ref 1 0 0))], (grammar_Check_m0 a0), [1]⟩) (fun p => e = .ret ∧ retX TT st Try.f85.results.toList [.one .keep] = some (eI (p))) v13) ?_ ?_
       ·refine awp_loopS (stOf := fun v9 => ⟨92, [(1, (.ref 1 0 0)), (5, (.mp 2)), (42, (.fz ((eL 2 eSy) (a0.symbols)))), (43, (fI ((List.length a0.symbols : Int)))), (44, (fI (v9.1)))], [(1, (.box 27 [(fS (a0.name)), (.fz ((eL 1 eI) (a0.inputs))), (.fz ((eL 2 eSy) (a0.symbols))), (.fz ((eL 9 eRu) (a0.rules)))])), (2, (.smap (List.map (fun p => (p.1, eB p.2)) (v9.2))))], [2, 1]⟩) (Qb := fun j e st => Sum.elim (fun p => e = .exit 2 ∧ LeSt st ⟨92, [(1, (.ref 1 0 0))], (grammar_Check_m0 a0), [1]⟩) (fun p => e = .ret ∧ retX TT st Try.f85.results.toList [.one .keep] = some (eI (p))) j) hj (le_ck (by kernel_rfl)) ?_
        clear hj h
        intro v9 r h
        unfold grammar_Check_l2 at h
        refine awp_seq ?_
        refine awp_region ?_
        refine l_rk 1 tt_ok ⟨92, [(1, (.ref 1 0 0)), (5, (.mp 2)), (42, (.fz ((eL 2 eSy) (a0.symbols)))), (43, (fI ((List.length a0.symbols : Int)))), (44, (fI (v9.1))), (45, (fB ((decide (v9.1 < (List.length a0.symbols : Int))))))], [(1, (.box 27 [(fS (a0.name)), (.fz ((eL 1 eI) (a0.inputs))), (.fz ((eL 2 eSy) (a0.symbols))), (.fz ((eL 9 eRu) (a0.rules)))])), (2, (.smap (List.map (fun p => (p.1, eB p.2)) (v9.2))))], [2, 1]⟩ (by kernel_rfl) ?_
        refine l_nil ?_
        refine awp_seq ?_
        rcases cond_some h with ⟨hb, h⟩ | ⟨hb, h⟩
        ·refine awp_cond_t (b := (decide (v9.1 < (List.length a0.symbols : Int)))) (by kernel_rfl) hb ?_
         refine awp_skip ?_
         refine awp_seq ?_
         refine awp_block ?_
         refine awp_seq ?_
         refine awp_region ?_
         obtain ⟨v10, hv10, h⟩ := Option.bind_eq_some_iff.1 h
         refine l_step ((s_index (k := .i64) (d := tt24) (e := 72) (de := tt72) (enc := eSy) hv10 tt_ok rfl (by kernel_rfl) (by kernel_rfl) (by kernel_rfl) (by kernel_rfl) len_eSy (by kernel_rfl) rfl).step) (by kernel_rfl) (dst_of (by kernel_rfl)) ?_
         refine l_rk 3 tt_ok ⟨92, [(1, (.ref 1 0 0)), (5, (.mp 2)), (7, (.ref 3 0 0)), (42, (.fz ((eL 2 eSy) (a0.symbols)))), (43, (fI ((List.length a0.symbols : Int)))), (44, (fI (v9.1)))], [(1, (.box 27 [(fS (a0.name)), (.fz ((eL 1 eI) (a0.inputs))), (.fz ((eL 2 eSy) (a0.symbols))), (.fz ((eL 9 eRu) (a0.rules)))])), (2, (.smap (List.map (fun p => (p.1, eB p.2)) (v9.2)))), (3, (.box 72 [(fS (v10.name)), (fI (v10.type))]))], [3, 2, 1]⟩ (by kernel_rfl) ?_
         refine l_nil ?_
         refine awp_seq ?_
         refine awp_block ?_
         refine awp_seq ?_
         refine awp_region ?_
         refine l_rk 2 tt_ok ⟨92, [(1, (.ref 1 0 0)), (5, (.mp 2)), (7, (.ref 3 0 0)), (42, (.fz ((eL 2 eSy) (a0.symbols)))), (43, (fI ((List.length a0.symbols : Int)))), (44, (fI (v9.1))), (50, (fS (v10.name)))], [(1, (.box 27 [(fS (a0.name)), (.fz ((eL 1 eI) (a0.inputs))), (.fz ((eL 2 eSy) (a0.symbols))), (.fz ((eL 9 eRu) (a0.rules)))])), (2, (.smap (List.map (fun p => (p.1, eB p.2)) (v9.2)))), (3, (.box 72 [(fS (v10.name)), (fI (v10.type))]))], [3, 2, 1]⟩ (by kernel_rfl) ?_
         obtain ⟨v11, hv11, h⟩ := Option.bind_eq_some_iff.1 h
         refine l_step ((n_call (ys := [eS (v10.name)]) (cs := [(.one (.keep))]) rfl (by kernel_rfl) (grammar_named_ok (v10.name) _ hv11)).step) (by kernel_rfl) (dst_of (by kernel_rfl)) ?_
         refine l_rk 2 tt_ok ⟨92, [(1, (.ref 1 0 0)), (5, (.mp 2)), (7, (.ref 3 0 0)), (42, (.fz ((eL 2 eSy) (a0.symbols)))), (43, (fI ((List.length a0.symbols : Int)))), (44, (fI (v9.1))), (48, (fB ((!v11))))], [(1, (.box 27 [(fS (a0.name)), (.fz ((eL 1 eI) (a0.inputs))), (.fz ((eL 2 eSy) (a0.symbols))), (.fz ((eL 9 eRu) (a0.rules)))])), (2, (.smap (List.map (fun p => (p.1, eB p.2)) (v9.2)))), (3, (.box 72 [(fS (v10.name)), (fI (v10.type))]))], [3, 2, 1]⟩ (by kernel_rfl) ?_
         refine l_nil ?_
         rcases cond_some h with ⟨hb, h⟩ | ⟨hb, h⟩
         ·refine awp_cond_t (b := (!v11)) (by kernel_rfl) hb ?_
          refine awp_seq ?_
          refine awp_region ?_
          refine l_rk 1 tt_ok ⟨92, [(2, (fI (5)))], [], []⟩ (by kernel_rfl) ?_
          refine l_nil ?_
          refine awp_ret ?_
          obtain rfl := Option.some.inj h
          exact And.intro (And.intro (fun h => nomatch h) (fun h => nomatch h)) (And.intro rfl (show retX _ _ _ _ = some _ from by kernel_rfl))
         ·refine awp_cond_f (b := (!v11)) (by kernel_rfl) hb ?_
          refine awp_seq ?_
          refine awp_region ?_
          refine l_rk 3 tt_ok ⟨92, [(1, (.ref 1 0 0)), (5, (.mp 2)), (7, (.ref 3 0 0)), (42, (.fz ((eL 2 eSy) (a0.symbols)))), (43, (fI ((List.length a0.symbols : Int)))), (44, (fI (v9.1))), (54, (.mp 2)), (56, (fS (v10.name)))], [(1, (.box 27 [(fS (a0.name)), (.fz ((eL 1 eI) (a0.inputs))), (.fz ((eL 2 eSy) (a0.symbols))), (.fz ((eL 9 eRu) (a0.rules)))])), (2, (.smap (List.map (fun p => (p.1, eB p.2)) (v9.2)))), (3, (.box 72 [(fS (v10.name)), (fI (v10.type))]))], [3, 2, 1]⟩ (by kernel_rfl) ?_
          refine l_step ((n_lookup (enc := eB) (m := v9.2) (s := v10.name) (z := false) (id := 2) (d := tt149) (kt := 9) (et := 4) (kd := tt9) (.bool false) rfl tt_ok rfl (by kernel_rfl) rfl (by kernel_rfl) Try.t4 (by kernel_rfl) (by kernel_rfl) (by kernel_rfl) rfl (by kernel_rfl) (by kernel_rfl) (by kernel_rfl)).step) (by kernel_rfl) (dst_of (by kernel_rfl)) ?_
          refine l_rk 1 tt_ok ⟨92, [(1, (.ref 1 0 0)), (5, (.mp 2)), (7, (.ref 3 0 0)), (42, (.fz ((eL 2 eSy) (a0.symbols)))), (43, (fI ((List.length a0.symbols : Int)))), (44, (fI (v9.1))), (53, (fB ((mget v9.2 v10.name false))))], [(1, (.box 27 [(fS (a0.name)), (.fz ((eL 1 eI) (a0.inputs))), (.fz ((eL 2 eSy) (a0.symbols))), (.fz ((eL 9 eRu) (a0.rules)))])), (2, (.smap (List.map (fun p => (p.1, eB p.2)) (v9.2)))), (3, (.box 72 [(fS (v10.name)), (fI (v10.type))]))], [3, 2, 1]⟩ (by kernel_rfl) ?_
          refine l_nil ?_
          rcases cond_some h with ⟨hb, h⟩ | ⟨hb, h⟩
          ·refine awp_cond_t (b := (mget v9.2 v10.name false)) (by kernel_rfl) hb ?_
           refine awp_seq ?_
           refine awp_region ?_
           refine l_rk 1 tt_ok ⟨92, [(2, (fI (6)))], [], []⟩ (by kernel_rfl) ?_
           refine l_nil ?_
           refine awp_ret ?_
           obtain rfl := Option.some.inj h
           exact And.intro (And.intro (fun h => nomatch h) (fun h => nomatch h)) (And.intro rfl (show retX _ _ _ _ = some _ from by kernel_rfl))
          ·refine awp_cond_f (b := (mget v9.2 v10.name false)) (by kernel_rfl) hb ?_
           refine awp_seq ?_
           refine awp_region ?_
           refine l_rk 2 tt_ok ⟨92, [(1, (.ref 1 0 0)), (5, (.mp 2)), (7, (.ref 3 0 0)), (42, (.fz ((eL 2 eSy) (a0.symbols)))), (43, (fI ((List.length a0.symbols : Int)))), (44, (fI (v9.1))), (60, (fI (v10.type)))], [(1, (.box 27 [(fS (a0.name)), (.fz ((eL 1 eI) (a0.inputs))), (.fz ((eL 2 eSy) (a0.symbols))), (.fz ((eL 9 eRu) (a0.rules)))])), (2, (.smap (List.map (fun p => (p.1, eB p.2)) (v9.2)))), (3, (.box 72 [(fS (v10.name)), (fI (v10.type))]))], [3, 2, 1]⟩ (by kernel_rfl) ?_
           obtain ⟨v12, hv12, h⟩ := Option.bind_eq_some_iff.1 h
           refine l_step ((n_call (ys := [eI (v10.type)]) (cs := [(.one (.keep))]) rfl (by kernel_rfl) (grammar_typed_ok (v10.type) _ hv12)).step) (by kernel_rfl) (dst_of (by kernel_rfl)) ?_
           refine l_rk 2 tt_ok ⟨92, [(1, (.ref 1 0 0)), (5, (.mp 2)), (7, (.ref 3 0 0)), (42, (.fz ((eL 2 eSy) (a0.symbols)))), (43, (fI ((List.length a0.symbols : Int)))), (44, (fI (v9.1))), (58, (fB ((!v12))))], [(1, (.box 27 [(fS (a0.name)), (.fz ((eL 1 eI) (a0.inputs))), (.fz ((eL 2 eSy) (a0.symbols))), (.fz ((eL 9 eRu) (a0.rules)))])), (2, (.smap (List.map (fun p => (p.1, eB p.2)) (v9.2)))), (3, (.box 72 [(fS (v10.name)), (fI (v10.type))]))], [3, 2, 1]⟩ (by kernel_rfl) ?_
           refine l_nil ?_
           rcases cond_some h with ⟨hb, h⟩ | ⟨hb, h⟩
           ·refine awp_cond_t (b := (!v12)) (by kernel_rfl) hb ?_
            refine awp_seq ?_
            refine awp_region ?_
            refine l_rk 1 tt_ok ⟨92, [(2, (fI (3)))], [], []⟩ (by kernel_rfl) ?_
            refine l_nil ?_
            refine awp_ret ?_
            obtain rfl := Option.some.inj h
            exact And.intro (And.intro (fun h => nomatch h) (fun h => nomatch h)) (And.intro rfl (show retX _ _ _ _ = some _ from by kernel_rfl))
           ·refine awp_cond_f (b := (!v12)) (by kernel_rfl) hb ?_
            refine awp_skip ?_
            refine awp_region ?_
            refine l_rk 3 tt_ok ⟨92, [(1, (.ref 1 0 0)), (5, (.mp 2)), (42, (.fz ((eL 2 eSy) (a0.symbols)))), (43, (fI ((List.length a0.symbols : Int)))), (44, (fI (v9.1))), (63, (.mp 2)), (65, (fS (v10.name)))], [(1, (.box 27 [(fS (a0.name)), (.fz ((eL 1 eI) (a0.inputs))), (.fz ((eL 2 eSy) (a0.symbols))), (.fz ((eL 9 eRu) (a0.rules)))])), (2, (.smap (List.map (fun p => (p.1, eB p.2)) (v9.2))))], [2, 1]⟩ (by kernel_rfl) ?_
            refine l_step (e_mapUpdate (enc := eB) (m := v9.2) (s := v10.name) (z := true) (id := 2) (d := tt149) (kt := 9) (et := 4) (kd := tt9) rfl tt_ok rfl (by kernel_rfl) rfl (by kernel_rfl) (by kernel_rfl) (by kernel_rfl) (by kernel_rfl) (by kernel_rfl)) (by kernel_rfl) (dst_of (by kernel_rfl)) ?_
            refine l_nil ?_
            refine awp_region ?_
            refine l_rk 2 tt_ok ⟨92, [(1, (.ref 1 0 0)), (5, (.mp 2)), (42, (.fz ((eL 2 eSy) (a0.symbols)))), (43, (fI ((List.length a0.symbols : Int)))), (44, (fI ((w64 (v9.1 + 1)))))], [(1, (.box 27 [(fS (a0.name)), (.fz ((eL 1 eI) (a0.inputs))), (.fz ((eL 2 eSy) (a0.symbols))), (.fz ((eL 9 eRu) (a0.rules)))])), (2, (.smap (List.map (fun p => (p.1, eB p.2)) ((mput v9.2 v10.name true)))))], [2, 1]⟩ (by kernel_rfl) ?_
            refine l_nil ?_
            obtain rfl := Option.some.inj h
            exact And.intro rfl (le_ck (by kernel_rfl))
        ·refine awp_cond_f (b := (decide (v9.1 < (List.length a0.symbols : Int)))) (by kernel_rfl) hb ?_
         refine awp_exit ?_
         obtain rfl := Option.some.inj h
         exact And.intro (And.intro (fun h => nomatch h) (fun h => nomatch h)) (And.intro rfl (le_ck (by kernel_rfl)))
       ·clear hj
        intro e st' hq
        rcases v13 with v14 | v23
        ·try simp only [Sum.elim_inl, Sum.elim_inr] at h
         obtain ⟨rfl, hle⟩ := hq
         refine ⟨_, hle, ?_⟩
         refine awp_seq ?_
         refine awp_seq ?_
         refine awp_region ?_
         refine l_rk 4 tt_ok ⟨92, [(1, (.ref 1 0 0)), (70, (fB ((decide (96 < (List.length a0.rules : Int))))))], (grammar_Check_m0 a0), [1]⟩ (by kernel_rfl) ?_
         refine l_nil ?_
         rcases cond_some h with ⟨hb, h⟩ | ⟨hb, h⟩
         ·refine awp_cond_t (b := (decide (96 < (List.length a0.rules : Int)))) (by kernel_rfl) hb ?_
          refine awp_seq ?_
          refine awp_region ?_
          refine l_rk 1 tt_ok ⟨92, [(2, (fI (2)))], [], []⟩ (by kernel_rfl) ?_
          refine l_nil ?_
          refine awp_ret ?_
          obtain rfl := Option.some.inj h
          exact (show retX _ _ _ _ = some _ from by kernel_rfl)
         ·refine awp_cond_f (b := (decide (96 < (List.length a0.rules : Int)))) (by kernel_rfl) hb ?_
          refine awp_skip ?_
          refine awp_seq ?_
          refine awp_seq ?_
          refine awp_region ?_
          refine l_rk 4 tt_ok ⟨92, [(1, (.ref 1 0 0)), (72, (.fz ((eL 9 eRu) (a0.rules)))), (73, (fI ((List.length a0.rules : Int)))), (74, (fI (0)))], (grammar_Check_m0 a0), [1]⟩ (by kernel_rfl) ?_
          refine l_nil ?_
          refine awp_block ?_
          obtain ⟨v20, hj, h⟩ := Option.bind_eq_some_iff.1 h
          refine awp_join (Qa := fun e st => Sum.elim (fun p => e = .exit 5 ∧ LeSt st ⟨92, [], [], []⟩) (fun p => e = .ret ∧ retX TT st Try.f85.results.toList [.one .keep] = some (eI (p))) v20) ?_ ?_
          ·refine awp_loopS (stOf := fun v15 => ⟨92, [(1, (.ref 1 0 0)), (72, (.fz ((eL 9 eRu) (a0.rules)))), (73, (fI ((List.length a0.rules : Int)))), (74, (fI (v15)))], (grammar_Check_m0 a0), [1]⟩) (Qb := fun j e st => Sum.elim (fun p => e = .exit 5 ∧ LeSt st ⟨92, [], [], []⟩) (fun p => e = .ret ∧ retX TT st Try.f85.results.toList [.one .keep] = some (eI (p))) j) hj (le_ck (by kernel_rfl)) ?_
           clear hj h
           intro v15 r h
           unfold grammar_Check_l1 at h
           refine awp_seq ?_
           refine awp_region ?_
           refine l_rk 1 tt_ok ⟨92, [(1, (.ref 1 0 0)), (72, (.fz ((eL 9 eRu) (a0.rules)))), (73, (fI ((List.length a0.rules : Int)))), (74, (fI (v15))), (75, (fB ((decide (v15 < (List.length a0.rules : Int))))))], (grammar_Check_m0 a0), [1]⟩ (by kernel_rfl) ?_
           refine l_nil ?_
           refine awp_seq ?_
           rcases cond_some h with ⟨hb, h⟩ | ⟨hb, h⟩
           ·refine awp_cond_t (b := (decide (v15 < (List.length a0.rules : Int)))) (by kernel_rfl) hb ?_
            refine awp_skip ?_
            refine awp_seq ?_
            refine awp_block ?_
            refine awp_seq ?_
            refine awp_region ?_
            refine l_rk 1 tt_ok ⟨92, [(1, (.ref 1 0 0)), (72, (.fz ((eL 9 eRu) (a0.rules)))), (73, (fI ((List.length a0.rules : Int)))), (74, (fI (v15))), (76, (fI (v15)))], (grammar_Check_m0 a0), [1]⟩ (by kernel_rfl) ?_
            obtain ⟨v16, hv16, h⟩ := Option.bind_eq_some_iff.1 h
            refine l_step ((s_index (k := .i64) (d := tt25) (e := 67) (de := tt67) (enc := eRu) hv16 tt_ok rfl (by kernel_rfl) (by kernel_rfl) (by kernel_rfl) (by kernel_rfl) len_eRu (by kernel_rfl) rfl).step) (by kernel_rfl) (dst_of (by kernel_rfl)) ?_
            refine l_rk 4 tt_ok ⟨92, [(1, (.ref 1 0 0)), (8, (fI (v15))), (9, (.ref 2 0 0)), (72, (.fz ((eL 9 eRu) (a0.rules)))), (73, (fI ((List.length a0.rules : Int)))), (74, (fI (v15)))], [(1, (.box 27 [(fS (a0.name)), (.fz ((eL 1 eI) (a0.inputs))), (.fz ((eL 2 eSy) (a0.symbols))), (.fz ((eL 9 eRu) (a0.rules)))])), (2, (.box 67 [(fI (v16.symbol)), (fI (v16.kind)), (fI (v16.input)), (fI (v16.const.type)), (fI (v16.const.num)), (fS (v16.const.text)), (.fz ((eL 4 eVaR) (v16.const.items))), (fS (v16.op)), (.fz ((eL 1 eI) (v16.args)))]))], [2, 1]⟩ (by kernel_rfl) ?_
            refine l_nil ?_
            refine awp_seq ?_
            refine awp_seq ?_
            refine awp_region ?_
            refine l_rk 2 tt_ok ⟨92, [(1, (.ref 1 0 0)), (8, (fI (v15))), (9, (.ref 2 0 0)), (72, (.fz ((eL 9 eRu) (a0.rules)))), (73, (fI ((List.length a0.rules : Int)))), (74, (fI (v15))), (79, (.fz (eLa (a0)))), (80, (.fz (eRu (v16))))], [(1, (.box 27 [(fS (a0.name)), (.fz ((eL 1 eI) (a0.inputs))), (.fz ((eL 2 eSy) (a0.symbols))), (.fz ((eL 9 eRu) (a0.rules)))])), (2, (.box 67 [(fI (v16.symbol)), (fI (v16.kind)), (fI (v16.input)), (fI (v16.const.type)), (fI (v16.const.num)), (fS (v16.const.text)), (.fz ((eL 4 eVaR) (v16.const.items))), (fS (v16.op)), (.fz ((eL 1 eI) (v16.args)))]))], [2, 1]⟩ (by kernel_rfl) ?_
            obtain ⟨v17, hv17, h⟩ := Option.bind_eq_some_iff.1 h
            refine l_step ((n_call (ys := [eLa (a0), eRu (v16)]) (cs := [(.one .keep), (.one .keep)]) rfl (by kernel_rfl) (grammar_rule_ok (a0) (v16) _ hv17)).step) (by kernel_rfl) (dst_of (by kernel_rfl)) ?_
            refine l_rk 1 tt_ok ⟨92, [(1, (.ref 1 0 0)), (8, (fI (v15))), (9, (.ref 2 0 0)), (10, (fI (v17))), (72, (.fz ((eL 9 eRu) (a0.rules)))), (73, (fI ((List.length a0.rules : Int)))), (74, (fI (v15)))], [(1, (.box 27 [(fS (a0.name)), (.fz ((eL 1 eI) (a0.inputs))), (.fz ((eL 2 eSy) (a0.symbols))), (.fz ((eL 9 eRu) (a0.rules)))])), (2, (.box 67 [(fI (v16.symbol)), (fI (v16.kind)), (fI (v16.input)), (fI (v16.const.type)), (fI (v16.const.num)), (fS (v16.const.text)), (.fz ((eL 4 eVaR) (v16.const.items))), (fS (v16.op)), (.fz ((eL 1 eI) (v16.args)))]))], [2, 1]⟩ (by kernel_rfl) ?_
            refine l_nil ?_
            refine awp_seq ?_
            refine awp_region ?_
            refine l_rk 2 tt_ok ⟨92, [(1, (.ref 1 0 0)), (8, (fI (v15))), (9, (.ref 2 0 0)), (10, (fI (v17))), (72, (.fz ((eL 9 eRu) (a0.rules)))), (73, (fI ((List.length a0.rules : Int)))), (74, (fI (v15))), (83, (fB ((v17 != 0))))], [(1, (.box 27 [(fS (a0.name)), (.fz ((eL 1 eI) (a0.inputs))), (.fz ((eL 2 eSy) (a0.symbols))), (.fz ((eL 9 eRu) (a0.rules)))])), (2, (.box 67 [(fI (v16.symbol)), (fI (v16.kind)), (fI (v16.input)), (fI (v16.const.type)), (fI (v16.const.num)), (fS (v16.const.text)), (.fz ((eL 4 eVaR) (v16.const.items))), (fS (v16.op)), (.fz ((eL 1 eI) (v16.args)))]))], [2, 1]⟩ (by kernel_rfl) ?_
            refine l_nil ?_
            rcases cond_some h with ⟨hb, h⟩ | ⟨hb, h⟩
            ·refine awp_cond_t (b := (v17 != 0)) (by kernel_rfl) hb ?_
             refine awp_seq ?_
             refine awp_region ?_
             refine l_rk 2 tt_ok ⟨92, [(2, (fI (v17)))], [], []⟩ (by kernel_rfl) ?_
             refine l_nil ?_
             refine awp_ret ?_
             obtain rfl := Option.some.inj h
             exact And.intro (And.intro (fun h => nomatch h) (fun h => nomatch h)) (And.intro rfl (show retX _ _ _ _ = some _ from by kernel_rfl))
            ·refine awp_cond_f (b := (v17 != 0)) (by kernel_rfl) hb ?_
             refine awp_skip ?_
             refine awp_seq ?_
             refine awp_region ?_
             refine l_rk 3 tt_ok ⟨92, [(1, (.ref 1 0 0)), (9, (.ref 2 0 0)), (72, (.fz ((eL 9 eRu) (a0.rules)))), (73, (fI ((List.length a0.rules : Int)))), (74, (fI (v15))), (86, (.fz ((eL 9 eRu) (a0.rules)))), (87, (fI (v15)))], [(1, (.box 27 [(fS (a0.name)), (.fz ((eL 1 eI) (a0.inputs))), (.fz ((eL 2 eSy) (a0.symbols))), (.fz ((eL 9 eRu) (a0.rules)))])), (2, (.box 67 [(fI (v16.symbol)), (fI (v16.kind)), (fI (v16.input)), (fI (v16.const.type)), (fI (v16.const.num)), (fS (v16.const.text)), (.fz ((eL 4 eVaR) (v16.const.items))), (fS (v16.op)), (.fz ((eL 1 eI) (v16.args)))]))], [2, 1]⟩ (by kernel_rfl) ?_
             obtain ⟨v18, hv18, h⟩ := Option.bind_eq_some_iff.1 h
             refine l_step ((s_cutL (d := tt25) (e := 67) (de := tt67) (size := 9) (enc := eRu) (xs := a0.rules) (l := none) (h := (some v15)) hv18 tt_ok rfl (by kernel_rfl) (by kernel_rfl) (by kernel_rfl) (by kernel_rfl) (by kernel_rfl) (by kernel_rfl) (by kernel_rfl)).step) (by kernel_rfl) (dst_of (by kernel_rfl)) ?_
             refine l_rk 1 tt_ok ⟨92, [(1, (.ref 1 0 0)), (72, (.fz ((eL 9 eRu) (a0.rules)))), (73, (fI ((List.length a0.rules : Int)))), (74, (fI (v15))), (88, (.fz ((eL 9 eRu) (v18)))), (89, (.fn 147 [(.ref 2 0 0)]))], [(1, (.box 27 [(fS (a0.name)), (.fz ((eL 1 eI) (a0.inputs))), (.fz ((eL 2 eSy) (a0.symbols))), (.fz ((eL 9 eRu) (a0.rules)))])), (2, (.box 67 [(fI (v16.symbol)), (fI (v16.kind)), (fI (v16.input)), (fI (v16.const.type)), (fI (v16.const.num)), (fS (v16.const.text)), (.fz ((eL 4 eVaR) (v16.const.items))), (fS (v16.op)), (.fz ((eL 1 eI) (v16.args)))]))], [2, 1]⟩ (by kernel_rfl) ?_
             obtain ⟨v19, hv19, h⟩ := Option.bind_eq_some_iff.1 h
             refine l_step (h_step (f := 146) (cap := []) (cs := [.one .keep, .one .keep]) (keys := [1]) [(2, 1)] [(1, 2)] rfl (by kernel_rfl) (slices_ContainsFunc_api_Rule_api_Rule_h_ok (v18) (v16) _ hv19) (by kernel_rfl) (by kernel_rfl) (by kernel_rfl) (by kernel_rfl)) (by kernel_rfl) (dst_of (by kernel_rfl)) ?_
             refine l_nil ?_
             rcases cond_some h with ⟨hb, h⟩ | ⟨hb, h⟩
             ·refine awp_cond_t (b := v19) (by kernel_rfl) hb ?_
              refine awp_seq ?_
              refine awp_region ?_
              refine l_rk 1 tt_ok ⟨92, [(2, (fI (6)))], [], []⟩ (by kernel_rfl) ?_
              refine l_nil ?_
              refine awp_ret ?_
              obtain rfl := Option.some.inj h
              exact And.intro (And.intro (fun h => nomatch h) (fun h => nomatch h)) (And.intro rfl (show retX _ _ _ _ = some _ from by kernel_rfl))
             ·refine awp_cond_f (b := v19) (by kernel_rfl) hb ?_
              refine awp_skip ?_
              refine awp_region ?_
              refine l_rk 2 tt_ok ⟨92, [(1, (.ref 1 0 0)), (72, (.fz ((eL 9 eRu) (a0.rules)))), (73, (fI ((List.length a0.rules : Int)))), (74, (fI ((w64 (v15 + 1)))))], (grammar_Check_m0 a0), [1]⟩ (by kernel_rfl) ?_
              refine l_nil ?_
              obtain rfl := Option.some.inj h
              exact And.intro rfl (le_ck (by kernel_rfl))
           ·refine awp_cond_f (b := (decide (v15 < (List.length a0.rules : Int)))) (by kernel_rfl) hb ?_
            refine awp_exit ?_
            obtain rfl := Option.some.inj h
            exact And.intro (And.intro (fun h => nomatch h) (fun h => nomatch h)) (And.intro rfl (le_ck (by kernel_rfl)))
          ·clear hj
           intro e st' hq
           rcases v20 with v21 | v22
           ·try simp only [Sum.elim_inl, Sum.elim_inr] at h
            obtain ⟨rfl, hle⟩ := hq
            refine ⟨_, hle, ?_⟩
            refine awp_seq ?_
            refine awp_region ?_
            refine l_rk 1 tt_ok ⟨92, [(2, (fI (0)))], [], []⟩ (by kernel_rfl) ?_
            refine l_nil ?_
            refine awp_ret ?_
            obtain rfl := Option.some.inj h
            exact (show retX _ _ _ _ = some _ from by kernel_rfl)
           ·try simp only [Sum.elim_inl, Sum.elim_inr] at h
            obtain ⟨rfl, hret⟩ := hq
            refine ⟨_, LeSt.refl, ?_⟩
            obtain rfl := Option.some.inj h
            exact hret
        ·try simp only [Sum.elim_inl, Sum.elim_inr] at h
         obtain ⟨rfl, hret⟩ := hq
         refine ⟨_, LeSt.refl, ?_⟩
         obtain rfl := Option.some.inj h
         exact hret
    ·try simp only [Sum.elim_inl, Sum.elim_inr] at h
     obtain ⟨rfl, hret⟩ := hq
     refine ⟨_, LeSt.refl, ?_⟩
     obtain rfl := Option.some.inj h
     exact hret

def term_within_l1 (a0 : Tm) (r86 : (Tm) → (Int) → Option (Int)) (v1 : (Int) × (Int)) : Option (((Int) × (Int)) ⊕ ((((Int)) ⊕ (Int)))) := (bif (decide (v1.2 < (List.length a0.args : Int))) then (Option.bind (idx a0.args v1.2) fun v2 => (bif (decide (v1.1 < 0)) then (some (.inr (.inr v1.1))) else (Option.bind (r86 (v2) (v1.1)) fun v3 => (some (.inl (v3, (w64 (v1.2 + 1)))))))) else (some (.inr (.inl (v1.1)))))
def term_within_b (r86 : (Tm) → (Int) → Option (Int)) (a0 : Tm) (a1 : Int) : Option (Int) := (Option.bind (loopN (term_within_l1 a0 r86) fuel ((w64 (a1 - 1)), 0)) fun (v4 : (((Int)) ⊕ (Int))) => Sum.elim (fun v5 => (some v5)) (fun v6 => (some v6)) v4)
theorem term_within_b_ok (r86 : (Tm) → (Int) → Option (Int)) (ih86 : ∀ (x0 : Tm) (x1 : Int) r, r86 x0 x1 = some r → PCall Try.prog 86 [eTm x0, eI x1] (eI (r))) (a0 : Tm) (a1 : Int) (r : Int) (h : term_within_b r86 a0 a1 = some r) : PCall Try.prog 86 [eTm a0, eI a1] (eI (r)) := by
 unfold term_within_b at h
 refine pcall_intro (T := TT) tt_ok [.one .keep] Try.func86 rfl (by kernel_rfl) (by kernel_rfl) ?_
 refine awp_le (st' := ⟨24, [(0, (.fz (eTm (a0)))), (1, (fI (a1)))], [], []⟩) (le_ck (by kernel_rfl)) ?_
 refine awp_seq ?_
 refine awp_region ?_
 refine l_rk 2 tt_ok ⟨24, [(1, (fI (a1))), (2, (.ref 1 0 0))], [(1, (.box 42 [(fI (a0.rule)), (.fz ((eL 2 eTmR) (a0.args)))]))], [1]⟩ (by kernel_rfl) ?_
 refine l_nil ?_
 refine awp_seq ?_
 refine awp_region ?_
 refine l_rk 3 tt_ok ⟨24, [(1, (fI ((w64 (a1 - 1))))), (2, (.ref 1 0 0))], [(1, (.box 42 [(fI (a0.rule)), (.fz ((eL 2 eTmR) (a0.args)))]))], [1]⟩ (by kernel_rfl) ?_
 refine l_nil ?_
 refine awp_seq ?_
 refine awp_seq ?_
 refine awp_region ?_
 refine l_rk 4 tt_ok ⟨24, [(1, (fI ((w64 (a1 - 1))))), (10, (.fz ((eL 2 eTmR) (a0.args)))), (11, (fI ((List.length a0.args : Int)))), (12, (fI (0)))], [], []⟩ (by kernel_rfl) ?_
 refine l_nil ?_
 refine awp_block ?_
 obtain ⟨v4, hj, h⟩ := Option.bind_eq_some_iff.1 h
 refine awp_join (Qa := fun e st => Sum.elim (fun p => e = .exit 0 ∧ LeSt st ⟨24, [(1, (fI (p)))], [], []⟩) (fun p => e = .ret ∧ retX TT st Try.f86.results.toList [.one .keep] = some (eI (p))) v4) ?_ ?_
 ·refine awp_loopS (stOf := fun v1 => ⟨24, [(1, (fI (v1.1))), (10, (.fz ((eL 2 eTmR) (a0.args)))), (11, (fI ((List.length a0.args : Int)))), (12, (fI (v1.2)))], [], []⟩) (Qb := fun j e st => Sum.elim (fun p => e = .exit 0 ∧ LeSt st ⟨24, [(1, (fI (p)))], [], []⟩) (fun p => e = .ret ∧ retX TT st Try.f86.results.toList [.one .keep] = some (eI (p))) j) hj (le_ck (by kernel_rfl)) ?_
  clear hj h
  intro v1 r h
  unfold term_within_l1 at h
  refine awp_seq ?_
  refine awp_region ?_
  refine l_rk 1 tt_ok ⟨24, [(1, (fI (v1.1))), (10, (.fz ((eL 2 eTmR) (a0.args)))), (11, (fI ((List.length a0.args : Int)))), (12, (fI (v1.2))), (13, (fB ((decide (v1.2 < (List.length a0.args : Int))))))], [], []⟩ (by kernel_rfl) ?_
  refine l_nil ?_
  refine awp_seq ?_
  rcases cond_some h with ⟨hb, h⟩ | ⟨hb, h⟩
  ·refine awp_cond_t (b := (decide (v1.2 < (List.length a0.args : Int)))) (by kernel_rfl) hb ?_
   refine awp_skip ?_
   refine awp_seq ?_
   refine awp_block ?_
   refine awp_seq ?_
   refine awp_region ?_
   obtain ⟨v2, hv2, h⟩ := Option.bind_eq_some_iff.1 h
   refine l_step ((s_index (k := .i64) (d := tt40) (e := 42) (de := tt42) (enc := eTmR) hv2 tt_ok rfl (by kernel_rfl) (by kernel_rfl) (by kernel_rfl) (by kernel_rfl) len_eTmR (by kernel_rfl) (cells_eTmR v2)).step) (by kernel_rfl) (dst_of (by kernel_rfl)) ?_
   refine l_rk 3 tt_ok ⟨24, [(1, (fI (v1.1))), (6, (.ref 1 0 0)), (10, (.fz ((eL 2 eTmR) (a0.args)))), (11, (fI ((List.length a0.args : Int)))), (12, (fI (v1.2)))], [(1, (.box 42 [(fI (v2.rule)), (.fz ((eL 2 eTmR) (v2.args)))]))], [1]⟩ (by kernel_rfl) ?_
   refine l_nil ?_
   refine awp_seq ?_
   refine awp_seq ?_
   refine awp_region ?_
   refine l_rk 2 tt_ok ⟨24, [(1, (fI (v1.1))), (6, (.ref 1 0 0)), (10, (.fz ((eL 2 eTmR) (a0.args)))), (11, (fI ((List.length a0.args : Int)))), (12, (fI (v1.2))), (17, (fB ((decide (v1.1 < 0)))))], [(1, (.box 42 [(fI (v2.rule)), (.fz ((eL 2 eTmR) (v2.args)))]))], [1]⟩ (by kernel_rfl) ?_
   refine l_nil ?_
   rcases cond_some h with ⟨hb, h⟩ | ⟨hb, h⟩
   ·refine awp_cond_t (b := (decide (v1.1 < 0))) (by kernel_rfl) hb ?_
    refine awp_seq ?_
    refine awp_region ?_
    refine l_rk 2 tt_ok ⟨24, [(4, (fI (v1.1)))], [], []⟩ (by kernel_rfl) ?_
    refine l_nil ?_
    refine awp_ret ?_
    obtain rfl := Option.some.inj h
    exact And.intro (And.intro (fun h => nomatch h) (fun h => nomatch h)) (And.intro rfl (show retX _ _ _ _ = some _ from by kernel_rfl))
   ·refine awp_cond_f (b := (decide (v1.1 < 0))) (by kernel_rfl) hb ?_
    refine awp_skip ?_
    refine awp_region ?_
    refine l_rk 2 tt_ok ⟨24, [(10, (.fz ((eL 2 eTmR) (a0.args)))), (11, (fI ((List.length a0.args : Int)))), (12, (fI (v1.2))), (19, (.fz (eTm (v2)))), (20, (fI (v1.1)))], [], []⟩ (by kernel_rfl) ?_
    obtain ⟨v3, hv3, h⟩ := Option.bind_eq_some_iff.1 h
    refine l_step ((n_call (ys := [eTm (v2), eI (v1.1)]) (cs := [(.one .keep), (.one (.keep))]) rfl (by kernel_rfl) (ih86 (v2) (v1.1) _ hv3)).step) (by kernel_rfl) (dst_of (by kernel_rfl)) ?_
    refine l_rk 1 tt_ok ⟨24, [(1, (fI (v3))), (10, (.fz ((eL 2 eTmR) (a0.args)))), (11, (fI ((List.length a0.args : Int)))), (12, (fI (v1.2)))], [], []⟩ (by kernel_rfl) ?_
    refine l_nil ?_
    refine awp_region ?_
    refine l_rk 2 tt_ok ⟨24, [(1, (fI (v3))), (10, (.fz ((eL 2 eTmR) (a0.args)))), (11, (fI ((List.length a0.args : Int)))), (12, (fI ((w64 (v1.2 + 1)))))], [], []⟩ (by kernel_rfl) ?_
    refine l_nil ?_
    obtain rfl := Option.some.inj h
    exact And.intro rfl (le_ck (by kernel_rfl))
  ·refine awp_cond_f (b := (decide (v1.2 < (List.length a0.args : Int)))) (by kernel_rfl) hb ?_
   refine awp_exit ?_
   obtain rfl := Option.some.inj h
   exact And.intro (And.intro (fun h => nomatch h) (fun h => nomatch h)) (And.intro rfl (le_ck (by kernel_rfl)))
 ·clear hj
  intro e st' hq
  rcases v4 with v5 | v6
  ·try simp only [Sum.elim_inl, Sum.elim_inr] at h
   obtain ⟨rfl, hle⟩ := hq
   refine ⟨_, hle, ?_⟩
   refine awp_seq ?_
   refine awp_region ?_
   refine l_rk 2 tt_ok ⟨24, [(4, (fI (v5)))], [], []⟩ (by kernel_rfl) ?_
   refine l_nil ?_
   refine awp_ret ?_
   obtain rfl := Option.some.inj h
   exact (show retX _ _ _ _ = some _ from by kernel_rfl)
  ·try simp only [Sum.elim_inl, Sum.elim_inr] at h
   obtain ⟨rfl, hret⟩ := hq
   refine ⟨_, LeSt.refl, ?_⟩
   obtain rfl := Option.some.inj h
   exact hret
def term_within : Nat → (Tm) → (Int) → Option (Int)
  | 0 => fun _ _ => none
  | n + 1 => term_within_b (term_within n)
theorem term_within_ok : ∀ (n : Nat) (x0 : Tm) (x1 : Int) r, term_within n x0 x1 = some r → PCall Try.prog 86 [eTm x0, eI x1] (eI (r))
  | 0, _, _, _, h => by cases h
  | n + 1, x0, x1, r, h => term_within_b_ok (term_within n) (term_within_ok n) x0 x1 r h

def term_shallow_l1 (a0 : Tm) (a1 : Int) (r87 : (Tm) → (Int) → Option (Bool)) (v1 : (Int)) : Option (((Int)) ⊕ (((Unit) ⊕ (Bool)))) := (bif (decide (v1 < (List.length a0.args : Int))) then (Option.bind (idx a0.args v1) fun v2 => (Option.bind (r87 (v2) ((w64 (a1 - 1)))) fun v3 => (bif (!v3) then (some (.inr (.inr false))) else (some (.inl ((w64 (v1 + 1)))))))) else (some (.inr (.inl ()))))
def term_shallow_b (r87 : (Tm) → (Int) → Option (Bool)) (a0 : Tm) (a1 : Int) : Option (Bool) := (bif (a1 == 0) then (some false) else (Option.bind (loopN (term_shallow_l1 a0 a1 r87) fuel (0)) fun (v4 : ((Unit) ⊕ (Bool))) => Sum.elim (fun v5 => (some true)) (fun v6 => (some v6)) v4))
theorem term_shallow_b_ok (r87 : (Tm) → (Int) → Option (Bool)) (ih87 : ∀ (x0 : Tm) (x1 : Int) r, r87 x0 x1 = some r → PCall Try.prog 87 [eTm x0, eI x1] (eB (r))) (a0 : Tm) (a1 : Int) (r : Bool) (h : term_shallow_b r87 a0 a1 = some r) : PCall Try.prog 87 [eTm a0, eI a1] (eB (r)) := by
 unfold term_shallow_b at h
 refine pcall_intro (T := TT) tt_ok [.one .keep] Try.func87 rfl (by kernel_rfl) (by kernel_rfl) ?_
 refine awp_le (st' := ⟨22, [(0, (.fz (eTm (a0)))), (1, (fI (a1)))], [], []⟩) (le_ck (by kernel_rfl)) ?_
 refine awp_seq ?_
 refine awp_region ?_
 refine l_rk 2 tt_ok ⟨22, [(1, (fI (a1))), (2, (.ref 1 0 0))], [(1, (.box 42 [(fI (a0.rule)), (.fz ((eL 2 eTmR) (a0.args)))]))], [1]⟩ (by kernel_rfl) ?_
 refine l_nil ?_
 refine awp_seq ?_
 refine awp_seq ?_
 refine awp_region ?_
 refine l_rk 2 tt_ok ⟨22, [(1, (fI (a1))), (2, (.ref 1 0 0)), (8, (fB ((a1 == 0))))], [(1, (.box 42 [(fI (a0.rule)), (.fz ((eL 2 eTmR) (a0.args)))]))], [1]⟩ (by kernel_rfl) ?_
 refine l_nil ?_
 rcases cond_some h with ⟨hb, h⟩ | ⟨hb, h⟩
 ·refine awp_cond_t (b := (a1 == 0)) (by kernel_rfl) hb ?_
  refine awp_seq ?_
  refine awp_region ?_
  refine l_rk 1 tt_ok ⟨22, [(4, (fB (false)))], [], []⟩ (by kernel_rfl) ?_
  refine l_nil ?_
  refine awp_ret ?_
  obtain rfl := Option.some.inj h
  exact (show retX _ _ _ _ = some _ from by kernel_rfl)
 ·refine awp_cond_f (b := (a1 == 0)) (by kernel_rfl) hb ?_
  refine awp_skip ?_
  refine awp_seq ?_
  refine awp_seq ?_
  refine awp_region ?_
  refine l_rk 4 tt_ok ⟨22, [(1, (fI (a1))), (10, (.fz ((eL 2 eTmR) (a0.args)))), (11, (fI ((List.length a0.args : Int)))), (12, (fI (0)))], [], []⟩ (by kernel_rfl) ?_
  refine l_nil ?_
  refine awp_block ?_
  obtain ⟨v4, hj, h⟩ := Option.bind_eq_some_iff.1 h
  refine awp_join (Qa := fun e st => Sum.elim (fun p => e = .exit 0 ∧ LeSt st ⟨22, [], [], []⟩) (fun p => e = .ret ∧ retX TT st Try.f87.results.toList [.one .keep] = some (eB (p))) v4) ?_ ?_
  ·refine awp_loopS (stOf := fun v1 => ⟨22, [(1, (fI (a1))), (10, (.fz ((eL 2 eTmR) (a0.args)))), (11, (fI ((List.length a0.args : Int)))), (12, (fI (v1)))], [], []⟩) (Qb := fun j e st => Sum.elim (fun p => e = .exit 0 ∧ LeSt st ⟨22, [], [], []⟩) (fun p => e = .ret ∧ retX TT st Try.f87.results.toList [.one .keep] = some (eB (p))) j) hj (le_ck (by kernel_rfl)) ?_
   clear hj h
   intro v1 r h
   unfold term_shallow_l1 at h
   refine awp_seq ?_
   refine awp_region ?_
   refine l_rk 1 tt_ok ⟨22, [(1, (fI (a1))), (10, (.fz ((eL 2 eTmR) (a0.args)))), (11, (fI ((List.length a0.args : Int)))), (12, (fI (v1))), (13, (fB ((decide (v1 < (List.length a0.args : Int))))))], [], []⟩ (by kernel_rfl) ?_
   refine l_nil ?_
   refine awp_seq ?_
   rcases cond_some h with ⟨hb, h⟩ | ⟨hb, h⟩
   ·refine awp_cond_t (b := (decide (v1 < (List.length a0.args : Int)))) (by kernel_rfl) hb ?_
    refine awp_skip ?_
    refine awp_seq ?_
    refine awp_block ?_
    refine awp_seq ?_
    refine awp_region ?_
    obtain ⟨v2, hv2, h⟩ := Option.bind_eq_some_iff.1 h
    refine l_step ((s_index (k := .i64) (d := tt40) (e := 42) (de := tt42) (enc := eTmR) hv2 tt_ok rfl (by kernel_rfl) (by kernel_rfl) (by kernel_rfl) (by kernel_rfl) len_eTmR (by kernel_rfl) (cells_eTmR v2)).step) (by kernel_rfl) (dst_of (by kernel_rfl)) ?_
    refine l_rk 3 tt_ok ⟨22, [(1, (fI (a1))), (6, (.ref 1 0 0)), (10, (.fz ((eL 2 eTmR) (a0.args)))), (11, (fI ((List.length a0.args : Int)))), (12, (fI (v1)))], [(1, (.box 42 [(fI (v2.rule)), (.fz ((eL 2 eTmR) (v2.args)))]))], [1]⟩ (by kernel_rfl) ?_
    refine l_nil ?_
    refine awp_seq ?_
    refine awp_region ?_
    refine l_rk 3 tt_ok ⟨22, [(1, (fI (a1))), (10, (.fz ((eL 2 eTmR) (a0.args)))), (11, (fI ((List.length a0.args : Int)))), (12, (fI (v1))), (16, (.fz (eTm (v2)))), (18, (fI ((w64 (a1 - 1)))))], [], []⟩ (by kernel_rfl) ?_
    obtain ⟨v3, hv3, h⟩ := Option.bind_eq_some_iff.1 h
    refine l_step ((n_call (ys := [eTm (v2), eI ((w64 (a1 - 1)))]) (cs := [(.one .keep), (.one (.keep))]) rfl (by kernel_rfl) (ih87 (v2) ((w64 (a1 - 1))) _ hv3)).step) (by kernel_rfl) (dst_of (by kernel_rfl)) ?_
    refine l_rk 1 tt_ok ⟨22, [(1, (fI (a1))), (10, (.fz ((eL 2 eTmR) (a0.args)))), (11, (fI ((List.length a0.args : Int)))), (12, (fI (v1))), (20, (fB ((!v3))))], [], []⟩ (by kernel_rfl) ?_
    refine l_nil ?_
    rcases cond_some h with ⟨hb, h⟩ | ⟨hb, h⟩
    ·refine awp_cond_t (b := (!v3)) (by kernel_rfl) hb ?_
     refine awp_seq ?_
     refine awp_region ?_
     refine l_rk 1 tt_ok ⟨22, [(4, (fB (false)))], [], []⟩ (by kernel_rfl) ?_
     refine l_nil ?_
     refine awp_ret ?_
     obtain rfl := Option.some.inj h
     exact And.intro (And.intro (fun h => nomatch h) (fun h => nomatch h)) (And.intro rfl (show retX _ _ _ _ = some _ from by kernel_rfl))
    ·refine awp_cond_f (b := (!v3)) (by kernel_rfl) hb ?_
     refine awp_skip ?_
     refine awp_region ?_
     refine l_rk 2 tt_ok ⟨22, [(1, (fI (a1))), (10, (.fz ((eL 2 eTmR) (a0.args)))), (11, (fI ((List.length a0.args : Int)))), (12, (fI ((w64 (v1 + 1)))))], [], []⟩ (by kernel_rfl) ?_
     refine l_nil ?_
     obtain rfl := Option.some.inj h
     exact And.intro rfl (le_ck (by kernel_rfl))
   ·refine awp_cond_f (b := (decide (v1 < (List.length a0.args : Int)))) (by kernel_rfl) hb ?_
    refine awp_exit ?_
    obtain rfl := Option.some.inj h
    exact And.intro (And.intro (fun h => nomatch h) (fun h => nomatch h)) (And.intro rfl (le_ck (by kernel_rfl)))
  ·clear hj
   intro e st' hq
   rcases v4 with v5 | v6
   ·try simp only [Sum.elim_inl, Sum.elim_inr] at h
    obtain ⟨rfl, hle⟩ := hq
    refine ⟨_, hle, ?_⟩
    refine awp_seq ?_
    refine awp_region ?_
    refine l_rk 1 tt_ok ⟨22, [(4, (fB (true)))], [], []⟩ (by kernel_rfl) ?_
    refine l_nil ?_
    refine awp_ret ?_
    obtain rfl := Option.some.inj h
    exact (show retX _ _ _ _ = some _ from by kernel_rfl)
   ·try simp only [Sum.elim_inl, Sum.elim_inr] at h
    obtain ⟨rfl, hret⟩ := hq
    refine ⟨_, LeSt.refl, ?_⟩
    obtain rfl := Option.some.inj h
    exact hret
def term_shallow : Nat → (Tm) → (Int) → Option (Bool)
  | 0 => fun _ _ => none
  | n + 1 => term_shallow_b (term_shallow n)
theorem term_shallow_ok : ∀ (n : Nat) (x0 : Tm) (x1 : Int) r, term_shallow n x0 x1 = some r → PCall Try.prog 87 [eTm x0, eI x1] (eB (r))
  | 0, _, _, _, h => by cases h
  | n + 1, x0, x1, r, h => term_shallow_b_ok (term_shallow n) (term_shallow_ok n) x0 x1 r h
end Go.Proofs.Ytaeicmnimjfbaaa
