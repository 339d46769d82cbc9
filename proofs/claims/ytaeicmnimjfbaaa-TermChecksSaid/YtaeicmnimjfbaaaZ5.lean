/- Typed programs and what computes them. -/
import Derived.Test.YtaeicmnimjfbaaaZ4
set_option linter.unusedVariables false
set_option linter.unusedSimpArgs false
set_option maxRecDepth 100000
namespace Go.Proofs.Ytaeicmnimjfbaaa
open Go Go.RowKit Go.Proofs
def term_derived_m0 (a0 : La) (v3 : Ru) : List (Nat × AObj) := [(1, (.box 27 [(fS (a0.name)), (.fz ((eL 1 eI) (a0.inputs))), (.fz ((eL 2 eSy) (a0.symbols))), (.fz ((eL 9 eRu) (a0.rules)))])), (3, (.box 67 [(fI (v3.symbol)), (fI (v3.kind)), (fI (v3.input)), (fI (v3.const.type)), (fI (v3.const.num)), (fS (v3.const.text)), (.fz ((eL 4 eVaR) (v3.const.items))), (fS (v3.op)), (.fz ((eL 1 eI) (v3.args)))]))]
def term_derived_m1 (a0 : La) (a2 : Tm) (v3 : Ru) : List (Nat × AObj) := [(1, (.box 27 [(fS (a0.name)), (.fz ((eL 1 eI) (a0.inputs))), (.fz ((eL 2 eSy) (a0.symbols))), (.fz ((eL 9 eRu) (a0.rules)))])), (2, (.box 42 [(fI (a2.rule)), (.fz ((eL 2 eTmR) (a2.args)))])), (3, (.box 67 [(fI (v3.symbol)), (fI (v3.kind)), (fI (v3.input)), (fI (v3.const.type)), (fI (v3.const.num)), (fS (v3.const.text)), (.fz ((eL 4 eVaR) (v3.const.items))), (fS (v3.op)), (.fz ((eL 1 eI) (v3.args)))]))]
def term_derived_m2 (a0 : La) (a2 : Tm) : List (Nat × AObj) := [(1, (.box 27 [(fS (a0.name)), (.fz ((eL 1 eI) (a0.inputs))), (.fz ((eL 2 eSy) (a0.symbols))), (.fz ((eL 9 eRu) (a0.rules)))])), (2, (.box 42 [(fI (a2.rule)), (.fz ((eL 2 eTmR) (a2.args)))]))]
def term_derived_l1 (a0 : La) (a2 : Tm) (r88 : (La) → (Int) → (Tm) → Option (Int)) (v3 : Ru) (v4 : (Int)) : Option (((Int)) ⊕ (((Unit) ⊕ (Int)))) := (bif (decide (v4 < (List.length a2.args : Int))) then (Option.bind (idx a2.args v4) fun v5 => (Option.bind (idx v3.args v4) fun v6 => (Option.bind (r88 (a0) (v6) (v5)) fun v7 => (bif (v7 != 0) then (some (.inr (.inr v7))) else (some (.inl ((w64 (v4 + 1))))))))) else (some (.inr (.inl ()))))
def term_derived_b (r88 : (La) → (Int) → (Tm) → Option (Int)) (a0 : La) (a1 : Int) (a2 : Tm) : Option (Int) := (Option.bind ((bif (decide (a2.rule < 0)) then (some (true)) else (some ((decide ((List.length a0.rules : Int) ≤ a2.rule))))) : Option ((Bool))) fun (v2 : (Bool)) => (bif v2 then (some 1) else (Option.bind (idx a0.rules a2.rule) fun v3 => (bif (v3.symbol != a1) then (some 3) else (bif ((List.length a2.args : Int) != (List.length v3.args : Int)) then (some 4) else (Option.bind (loopN (term_derived_l1 a0 a2 r88 v3) fuel (0)) fun (v8 : ((Unit) ⊕ (Int))) => Sum.elim (fun v9 => (some 0)) (fun v10 => (some v10)) v8))))))
theorem term_derived_b_ok (r88 : (La) → (Int) → (Tm) → Option (Int)) (ih88 : ∀ (x0 : La) (x1 : Int) (x2 : Tm) r, r88 x0 x1 x2 = some r → PCall Try.prog 88 [eLa x0, eI x1, eTm x2] (eI (r))) (a0 : La) (a1 : Int) (a2 : Tm) (r : Int) (h : term_derived_b r88 a0 a1 a2 = some r) : PCall Try.prog 88 [eLa a0, eI a1, eTm a2] (eI (r)) := by
 unfold term_derived_b at h
 refine pcall_intro (T := TT) tt_ok [.one .keep] Try.func88 rfl (by kernel_rfl) (by kernel_rfl) ?_
 refine awp_le (st' := ⟨59, [(0, (.fz (eLa (a0)))), (1, (fI (a1))), (2, (.fz (eTm (a2))))], [], []⟩) (le_ck (by kernel_rfl)) ?_
 refine awp_seq ?_
 refine awp_region ?_
 refine l_rk 3 tt_ok ⟨59, [(1, (fI (a1))), (3, (.ref 1 0 0)), (5, (.ref 2 0 0))], (term_derived_m2 a0 a2), [2, 1]⟩ (by kernel_rfl) ?_
 refine l_nil ?_
 refine awp_seq ?_
 refine awp_seq ?_
 obtain ⟨v2, hj, h⟩ := Option.bind_eq_some_iff.1 h
 refine awp_join (Qa := fun e st => e = .normal ∧ LeSt st ⟨59, [(1, (fI (a1))), (3, (.ref 1 0 0)), (5, (.ref 2 0 0)), (21, (fB (v2)))], (term_derived_m2 a0 a2), [2, 1]⟩) ?_ ?_
 ·replace h := hj
  clear hj
  refine awp_region ?_
  refine l_rk 4 tt_ok ⟨59, [(1, (fI (a1))), (3, (.ref 1 0 0)), (5, (.ref 2 0 0)), (14, (fB ((decide (a2.rule < 0)))))], (term_derived_m2 a0 a2), [2, 1]⟩ (by kernel_rfl) ?_
  rcases cond_some h with ⟨hb, h⟩ | ⟨hb, h⟩
  ·refine l_le (le_eq (t := 14) (x := .fz (eB (decide (a2.rule < 0)))) (y := .fz (eB true)) (by kernel_rfl) (congrArg (fun b => AV.fz (eB b)) hb)) ?_
   refine l_rk 7 tt_ok ⟨59, [(1, (fI (a1))), (3, (.ref 1 0 0)), (5, (.ref 2 0 0)), (21, (fB (true)))], (term_derived_m2 a0 a2), [2, 1]⟩ (by kernel_rfl) ?_
   refine l_nil ?_
   obtain rfl := Option.some.inj h
   exact And.intro rfl (le_ck (by kernel_rfl))
  ·refine l_le (le_eq (t := 14) (x := .fz (eB (decide (a2.rule < 0)))) (y := .fz (eB false)) (by kernel_rfl) (congrArg (fun b => AV.fz (eB b)) hb)) ?_
   refine l_rk 7 tt_ok ⟨59, [(1, (fI (a1))), (3, (.ref 1 0 0)), (5, (.ref 2 0 0)), (21, (fB ((decide ((List.length a0.rules : Int) ≤ a2.rule)))))], (term_derived_m2 a0 a2), [2, 1]⟩ (by kernel_rfl) ?_
   refine l_nil ?_
   obtain rfl := Option.some.inj h
   exact And.intro rfl (le_ck (by kernel_rfl))
 ·clear hj
  intro e st' hq
  obtain ⟨rfl, hle⟩ := hq
  refine ⟨_, hle, ?_⟩
  rcases cond_some h with ⟨hb, h⟩ | ⟨hb, h⟩
  ·refine awp_cond_t (b := v2) (by kernel_rfl) hb ?_
   refine awp_seq ?_
   refine awp_region ?_
   refine l_rk 1 tt_ok ⟨59, [(6, (fI (1)))], [], []⟩ (by kernel_rfl) ?_
   refine l_nil ?_
   refine awp_ret ?_
   obtain rfl := Option.some.inj h
   exact (show retX _ _ _ _ = some _ from by kernel_rfl)
  ·refine awp_cond_f (b := v2) (by kernel_rfl) hb ?_
   refine awp_skip ?_
   refine awp_seq ?_
   refine awp_region ?_
   refine l_rk 4 tt_ok ⟨59, [(1, (fI (a1))), (3, (.ref 1 0 0)), (5, (.ref 2 0 0)), (23, (.fz ((eL 9 eRu) (a0.rules)))), (25, (fI (a2.rule)))], (term_derived_m2 a0 a2), [2, 1]⟩ (by kernel_rfl) ?_
   obtain ⟨v3, hv3, h⟩ := Option.bind_eq_some_iff.1 h
   refine l_step ((s_index (k := .i64) (d := tt25) (e := 67) (de := tt67) (enc := eRu) hv3 tt_ok rfl (by kernel_rfl) (by kernel_rfl) (by kernel_rfl) (by kernel_rfl) len_eRu (by kernel_rfl) rfl).step) (by kernel_rfl) (dst_of (by kernel_rfl)) ?_
   refine l_rk 3 tt_ok ⟨59, [(1, (fI (a1))), (3, (.ref 1 0 0)), (5, (.ref 2 0 0)), (7, (.ref 3 0 0))], (term_derived_m1 a0 a2 v3), [3, 2, 1]⟩ (by kernel_rfl) ?_
   refine l_nil ?_
   refine awp_seq ?_
   refine awp_seq ?_
   refine awp_region ?_
   refine l_rk 4 tt_ok ⟨59, [(3, (.ref 1 0 0)), (5, (.ref 2 0 0)), (7, (.ref 3 0 0)), (31, (fB ((v3.symbol != a1))))], (term_derived_m1 a0 a2 v3), [3, 2, 1]⟩ (by kernel_rfl) ?_
   refine l_nil ?_
   rcases cond_some h with ⟨hb, h⟩ | ⟨hb, h⟩
   ·refine awp_cond_t (b := (v3.symbol != a1)) (by kernel_rfl) hb ?_
    refine awp_seq ?_
    refine awp_region ?_
    refine l_rk 1 tt_ok ⟨59, [(6, (fI (3)))], [], []⟩ (by kernel_rfl) ?_
    refine l_nil ?_
    refine awp_ret ?_
    obtain rfl := Option.some.inj h
    exact (show retX _ _ _ _ = some _ from by kernel_rfl)
   ·refine awp_cond_f (b := (v3.symbol != a1)) (by kernel_rfl) hb ?_
    refine awp_skip ?_
    refine awp_seq ?_
    refine awp_seq ?_
    refine awp_region ?_
    refine l_rk 7 tt_ok ⟨59, [(3, (.ref 1 0 0)), (5, (.ref 2 0 0)), (7, (.ref 3 0 0)), (38, (fB (((List.length a2.args : Int) != (List.length v3.args : Int)))))], (term_derived_m1 a0 a2 v3), [3, 2, 1]⟩ (by kernel_rfl) ?_
    refine l_nil ?_
    rcases cond_some h with ⟨hb, h⟩ | ⟨hb, h⟩
    ·refine awp_cond_t (b := ((List.length a2.args : Int) != (List.length v3.args : Int))) (by kernel_rfl) hb ?_
     refine awp_seq ?_
     refine awp_region ?_
     refine l_rk 1 tt_ok ⟨59, [(6, (fI (4)))], [], []⟩ (by kernel_rfl) ?_
     refine l_nil ?_
     refine awp_ret ?_
     obtain rfl := Option.some.inj h
     exact (show retX _ _ _ _ = some _ from by kernel_rfl)
    ·refine awp_cond_f (b := ((List.length a2.args : Int) != (List.length v3.args : Int))) (by kernel_rfl) hb ?_
     refine awp_skip ?_
     refine awp_seq ?_
     refine awp_seq ?_
     refine awp_region ?_
     refine l_rk 4 tt_ok ⟨59, [(3, (.ref 1 0 0)), (7, (.ref 3 0 0)), (40, (.fz ((eL 2 eTmR) (a2.args)))), (41, (fI ((List.length a2.args : Int)))), (42, (fI (0)))], (term_derived_m0 a0 v3), [3, 1]⟩ (by kernel_rfl) ?_
     refine l_nil ?_
     refine awp_block ?_
     obtain ⟨v8, hj, h⟩ := Option.bind_eq_some_iff.1 h
     refine awp_join (Qa := fun e st => Sum.elim (fun p => e = .exit 0 ∧ LeSt st ⟨59, [], [], []⟩) (fun p => e = .ret ∧ retX TT st Try.f88.results.toList [.one .keep] = some (eI (p))) v8) ?_ ?_
     ·refine awp_loopS (stOf := fun v4 => ⟨59, [(3, (.ref 1 0 0)), (7, (.ref 3 0 0)), (40, (.fz ((eL 2 eTmR) (a2.args)))), (41, (fI ((List.length a2.args : Int)))), (42, (fI (v4)))], (term_derived_m0 a0 v3), [3, 1]⟩) (Qb := fun j e st => Sum.elim (fun p => e = .exit 0 ∧ LeSt st ⟨59, [], [], []⟩) (fun p => e = .ret ∧ retX TT st Try.f88.results.toList [.one .keep] = some (eI (p))) j) hj (le_ck (by kernel_rfl)) ?_
      clear hj h
      intro v4 r h
      unfold term_derived_l1 at h
      refine awp_seq ?_
      refine awp_region ?_
      refine l_rk 1 tt_ok ⟨59, [(3, (.ref 1 0 0)), (7, (.ref 3 0 0)), (40, (.fz ((eL 2 eTmR) (a2.args)))), (41, (fI ((List.length a2.args : Int)))), (42, (fI (v4))), (43, (fB ((decide (v4 < (List.length a2.args : Int))))))], (term_derived_m0 a0 v3), [3, 1]⟩ (by kernel_rfl) ?_
      refine l_nil ?_
      refine awp_seq ?_
      rcases cond_some h with ⟨hb, h⟩ | ⟨hb, h⟩
      ·refine awp_cond_t (b := (decide (v4 < (List.length a2.args : Int)))) (by kernel_rfl) hb ?_
       refine awp_skip ?_
       refine awp_seq ?_
       refine awp_block ?_
       refine awp_seq ?_
       refine awp_region ?_
       refine l_rk 1 tt_ok ⟨59, [(3, (.ref 1 0 0)), (7, (.ref 3 0 0)), (40, (.fz ((eL 2 eTmR) (a2.args)))), (41, (fI ((List.length a2.args : Int)))), (42, (fI (v4))), (44, (fI (v4)))], (term_derived_m0 a0 v3), [3, 1]⟩ (by kernel_rfl) ?_
       obtain ⟨v5, hv5, h⟩ := Option.bind_eq_some_iff.1 h
       refine l_step ((s_index (k := .i64) (d := tt40) (e := 42) (de := tt42) (enc := eTmR) hv5 tt_ok rfl (by kernel_rfl) (by kernel_rfl) (by kernel_rfl) (by kernel_rfl) len_eTmR (by kernel_rfl) (cells_eTmR v5)).step) (by kernel_rfl) (dst_of (by kernel_rfl)) ?_
       refine l_rk 4 tt_ok ⟨59, [(3, (.ref 1 0 0)), (7, (.ref 3 0 0)), (8, (fI (v4))), (9, (.ref 4 0 0)), (40, (.fz ((eL 2 eTmR) (a2.args)))), (41, (fI ((List.length a2.args : Int)))), (42, (fI (v4)))], [(1, (.box 27 [(fS (a0.name)), (.fz ((eL 1 eI) (a0.inputs))), (.fz ((eL 2 eSy) (a0.symbols))), (.fz ((eL 9 eRu) (a0.rules)))])), (3, (.box 67 [(fI (v3.symbol)), (fI (v3.kind)), (fI (v3.input)), (fI (v3.const.type)), (fI (v3.const.num)), (fS (v3.const.text)), (.fz ((eL 4 eVaR) (v3.const.items))), (fS (v3.op)), (.fz ((eL 1 eI) (v3.args)))])), (4, (.box 42 [(fI (v5.rule)), (.fz ((eL 2 eTmR) (v5.args)))]))], [4, 3, 1]⟩ (by kernel_rfl) ?_
       refine l_nil ?_
       refine awp_seq ?_
       obtain ⟨v6, hv6, h⟩ := Option.bind_eq_some_iff.1 h
       refine awp_drawn (by kernel_rfl) [(.fz (eLa (a0))), (.ref 3 0 8), (.fz ((eL 1 eI) (v3.args))), (fI (v4)), (.fz (.fp [(eI (v6))])), (fI (v6)), (.fz (eTm (v5)))] (by kernel_rfl) ?_
       refine ⟨.inl ⟨by kernel_rfl, (nstep_ok tt_ok (by kernel_rfl))⟩, ?_⟩
       refine ⟨.inl ⟨by kernel_rfl, (nstep_ok tt_ok (by kernel_rfl))⟩, ?_⟩
       refine ⟨.inl ⟨by kernel_rfl, (nstep_ok tt_ok (by kernel_rfl))⟩, ?_⟩
       refine ⟨.inl ⟨by kernel_rfl, (nstep_ok tt_ok (by kernel_rfl))⟩, ?_⟩
       refine ⟨.inl ⟨by kernel_rfl, (s_index (k := .i64) (d := tt23) (e := 3) (de := tt3) (enc := eI) hv6 tt_ok rfl (by kernel_rfl) (by kernel_rfl) (by kernel_rfl) (by kernel_rfl) len_eI (by kernel_rfl) rfl)⟩, ?_⟩
       refine ⟨.inl ⟨by kernel_rfl, (nstep_ok tt_ok (by kernel_rfl))⟩, ?_⟩
       refine ⟨.inl ⟨by kernel_rfl, (nstep_ok tt_ok (by kernel_rfl))⟩, ?_⟩
       refine l_rk 0 tt_ok ⟨59, [(3, (.ref 1 0 0)), (7, (.ref 3 0 0)), (40, (.fz ((eL 2 eTmR) (a2.args)))), (41, (fI ((List.length a2.args : Int)))), (42, (fI (v4))), (47, (.fz (eLa (a0)))), (52, (fI (v6))), (53, (.fz (eTm (v5))))], (term_derived_m0 a0 v3), [3, 1]⟩ (by kernel_rfl) ?_
       obtain ⟨v7, hv7, h⟩ := Option.bind_eq_some_iff.1 h
       refine l_step ((n_call (ys := [eLa (a0), eI (v6), eTm (v5)]) (cs := [(.one .keep), (.one (.keep)), (.one .keep)]) rfl (by kernel_rfl) (ih88 (a0) (v6) (v5) _ hv7)).step) (by kernel_rfl) (dst_of (by kernel_rfl)) ?_
       refine l_rk 1 tt_ok ⟨59, [(3, (.ref 1 0 0)), (7, (.ref 3 0 0)), (10, (fI (v7))), (40, (.fz ((eL 2 eTmR) (a2.args)))), (41, (fI ((List.length a2.args : Int)))), (42, (fI (v4)))], (term_derived_m0 a0 v3), [3, 1]⟩ (by kernel_rfl) ?_
       refine l_nil ?_
       refine awp_seq ?_
       refine awp_region ?_
       refine l_rk 2 tt_ok ⟨59, [(3, (.ref 1 0 0)), (7, (.ref 3 0 0)), (10, (fI (v7))), (40, (.fz ((eL 2 eTmR) (a2.args)))), (41, (fI ((List.length a2.args : Int)))), (42, (fI (v4))), (56, (fB ((v7 != 0))))], (term_derived_m0 a0 v3), [3, 1]⟩ (by kernel_rfl) ?_
       refine l_nil ?_
       rcases cond_some h with ⟨hb, h⟩ | ⟨hb, h⟩
       ·refine awp_cond_t (b := (v7 != 0)) (by kernel_rfl) hb ?_
        refine awp_seq ?_
        refine awp_region ?_
        refine l_rk 2 tt_ok ⟨59, [(6, (fI (v7)))], [], []⟩ (by kernel_rfl) ?_
        refine l_nil ?_
        refine awp_ret ?_
        obtain rfl := Option.some.inj h
        exact And.intro (And.intro (fun h => nomatch h) (fun h => nomatch h)) (And.intro rfl (show retX _ _ _ _ = some _ from by kernel_rfl))
       ·refine awp_cond_f (b := (v7 != 0)) (by kernel_rfl) hb ?_
        refine awp_skip ?_
        refine awp_region ?_
        refine l_rk 2 tt_ok ⟨59, [(3, (.ref 1 0 0)), (7, (.ref 3 0 0)), (40, (.fz ((eL 2 eTmR) (a2.args)))), (41, (fI ((List.length a2.args : Int)))), (42, (fI ((w64 (v4 + 1)))))], (term_derived_m0 a0 v3), [3, 1]⟩ (by kernel_rfl) ?_
        refine l_nil ?_
        obtain rfl := Option.some.inj h
        exact And.intro rfl (le_ck (by kernel_rfl))
      ·refine awp_cond_f (b := (decide (v4 < (List.length a2.args : Int)))) (by kernel_rfl) hb ?_
       refine awp_exit ?_
       obtain rfl := Option.some.inj h
       exact And.intro (And.intro (fun h => nomatch h) (fun h => nomatch h)) (And.intro rfl (le_ck (by kernel_rfl)))
     ·clear hj
      intro e st' hq
      rcases v8 with v9 | v10
      ·try simp only [Sum.elim_inl, Sum.elim_inr] at h
       obtain ⟨rfl, hle⟩ := hq
       refine ⟨_, hle, ?_⟩
       refine awp_seq ?_
       refine awp_region ?_
       refine l_rk 1 tt_ok ⟨59, [(6, (fI (0)))], [], []⟩ (by kernel_rfl) ?_
       refine l_nil ?_
       refine awp_ret ?_
       obtain rfl := Option.some.inj h
       exact (show retX _ _ _ _ = some _ from by kernel_rfl)
      ·try simp only [Sum.elim_inl, Sum.elim_inr] at h
       obtain ⟨rfl, hret⟩ := hq
       refine ⟨_, LeSt.refl, ?_⟩
       obtain rfl := Option.some.inj h
       exact hret
def term_derived : Nat → (La) → (Int) → (Tm) → Option (Int)
  | 0 => fun _ _ _ => none
  | n + 1 => term_derived_b (term_derived n)
theorem term_derived_ok : ∀ (n : Nat) (x0 : La) (x1 : Int) (x2 : Tm) r, term_derived n x0 x1 x2 = some r → PCall Try.prog 88 [eLa x0, eI x1, eTm x2] (eI (r))
  | 0, _, _, _, _, h => by cases h
  | n + 1, x0, x1, x2, r, h => term_derived_b_ok (term_derived n) (term_derived_ok n) x0 x1 x2 r h

def term_Check_m0 (a0 : La) (a2 : Tm) : List (Nat × AObj) := [(1, (.box 27 [(fS (a0.name)), (.fz ((eL 1 eI) (a0.inputs))), (.fz ((eL 2 eSy) (a0.symbols))), (.fz ((eL 9 eRu) (a0.rules)))])), (2, (.box 42 [(fI (a2.rule)), (.fz ((eL 2 eTmR) (a2.args)))]))]
def term_Check (a0 : La) (a1 : Int) (a2 : Tm) : Option (Int) := (Option.bind (grammar_Check (a0)) fun v1 => (bif (v1 != 0) then (some v1) else (Option.bind ((bif (decide (a1 < 0)) then (some (true)) else (some ((decide ((List.length a0.symbols : Int) ≤ a1))))) : Option ((Bool))) fun (v3 : (Bool)) => (bif v3 then (some 1) else (Option.bind ((Option.bind (term_within fuel (a2) (4096)) fun v4 => (bif (decide (v4 < 0)) then (some (true)) else (Option.bind (term_shallow fuel (a2) (32)) fun v5 => (some ((!v5)))))) : Option ((Bool))) fun (v7 : (Bool)) => (bif v7 then (some 2) else (Option.bind (term_derived fuel (a0) (a1) (a2)) fun v8 => (some v8))))))))
theorem term_Check_ok (a0 : La) (a1 : Int) (a2 : Tm) (r : Int) (h : term_Check a0 a1 a2 = some r) : PCall Try.prog 36 [eLa a0, eI a1, eTm a2] (eI (r)) := by
 unfold term_Check at h
 refine pcall_intro (T := TT) tt_ok [.one .keep] Try.func36 rfl (by kernel_rfl) (by kernel_rfl) ?_
 refine awp_le (st' := ⟨34, [(0, (.fz (eLa (a0)))), (1, (fI (a1))), (2, (.fz (eTm (a2))))], [], []⟩) (le_ck (by kernel_rfl)) ?_
 refine awp_seq ?_
 refine awp_region ?_
 refine l_rk 3 tt_ok ⟨34, [(1, (fI (a1))), (3, (.ref 1 0 0)), (5, (.ref 2 0 0))], (term_Check_m0 a0 a2), [2, 1]⟩ (by kernel_rfl) ?_
 refine l_nil ?_
 refine awp_seq ?_
 refine awp_seq ?_
 refine awp_region ?_
 refine l_rk 1 tt_ok ⟨34, [(1, (fI (a1))), (3, (.ref 1 0 0)), (5, (.ref 2 0 0)), (8, (.fz (eLa (a0))))], (term_Check_m0 a0 a2), [2, 1]⟩ (by kernel_rfl) ?_
 obtain ⟨v1, hv1, h⟩ := Option.bind_eq_some_iff.1 h
 refine l_step ((n_call (ys := [eLa (a0)]) (cs := [(.one .keep)]) rfl (by kernel_rfl) (grammar_Check_ok (a0) _ hv1)).step) (by kernel_rfl) (dst_of (by kernel_rfl)) ?_
 refine l_rk 1 tt_ok ⟨34, [(1, (fI (a1))), (3, (.ref 1 0 0)), (5, (.ref 2 0 0)), (7, (fI (v1)))], (term_Check_m0 a0 a2), [2, 1]⟩ (by kernel_rfl) ?_
 refine l_nil ?_
 refine awp_seq ?_
 refine awp_region ?_
 refine l_rk 2 tt_ok ⟨34, [(1, (fI (a1))), (3, (.ref 1 0 0)), (5, (.ref 2 0 0)), (7, (fI (v1))), (11, (fB ((v1 != 0))))], (term_Check_m0 a0 a2), [2, 1]⟩ (by kernel_rfl) ?_
 refine l_nil ?_
 rcases cond_some h with ⟨hb, h⟩ | ⟨hb, h⟩
 ·refine awp_cond_t (b := (v1 != 0)) (by kernel_rfl) hb ?_
  refine awp_seq ?_
  refine awp_region ?_
  refine l_rk 2 tt_ok ⟨34, [(6, (fI (v1)))], [], []⟩ (by kernel_rfl) ?_
  refine l_nil ?_
  refine awp_ret ?_
  obtain rfl := Option.some.inj h
  exact (show retX _ _ _ _ = some _ from by kernel_rfl)
 ·refine awp_cond_f (b := (v1 != 0)) (by kernel_rfl) hb ?_
  refine awp_skip ?_
  refine awp_seq ?_
  refine awp_seq ?_
  obtain ⟨v3, hj, h⟩ := Option.bind_eq_some_iff.1 h
  refine awp_join (Qa := fun e st => e = .normal ∧ LeSt st ⟨34, [(1, (fI (a1))), (3, (.ref 1 0 0)), (5, (.ref 2 0 0)), (21, (fB (v3)))], (term_Check_m0 a0 a2), [2, 1]⟩) ?_ ?_
  ·replace h := hj
   clear hj
   refine awp_region ?_
   refine l_rk 3 tt_ok ⟨34, [(1, (fI (a1))), (3, (.ref 1 0 0)), (5, (.ref 2 0 0)), (15, (fB ((decide (a1 < 0)))))], (term_Check_m0 a0 a2), [2, 1]⟩ (by kernel_rfl) ?_
   rcases cond_some h with ⟨hb, h⟩ | ⟨hb, h⟩
   ·refine l_le (le_eq (t := 15) (x := .fz (eB (decide (a1 < 0)))) (y := .fz (eB true)) (by kernel_rfl) (congrArg (fun b => AV.fz (eB b)) hb)) ?_
    refine l_rk 6 tt_ok ⟨34, [(1, (fI (a1))), (3, (.ref 1 0 0)), (5, (.ref 2 0 0)), (21, (fB (true)))], (term_Check_m0 a0 a2), [2, 1]⟩ (by kernel_rfl) ?_
    refine l_nil ?_
    obtain rfl := Option.some.inj h
    exact And.intro rfl (le_ck (by kernel_rfl))
   ·refine l_le (le_eq (t := 15) (x := .fz (eB (decide (a1 < 0)))) (y := .fz (eB false)) (by kernel_rfl) (congrArg (fun b => AV.fz (eB b)) hb)) ?_
    refine l_rk 6 tt_ok ⟨34, [(1, (fI (a1))), (3, (.ref 1 0 0)), (5, (.ref 2 0 0)), (21, (fB ((decide ((List.length a0.symbols : Int) ≤ a1)))))], (term_Check_m0 a0 a2), [2, 1]⟩ (by kernel_rfl) ?_
    refine l_nil ?_
    obtain rfl := Option.some.inj h
    exact And.intro rfl (le_ck (by kernel_rfl))
  ·clear hj
   intro e st' hq
   obtain ⟨rfl, hle⟩ := hq
   refine ⟨_, hle, ?_⟩
   rcases cond_some h with ⟨hb, h⟩ | ⟨hb, h⟩
   ·refine awp_cond_t (b := v3) (by kernel_rfl) hb ?_
    refine awp_seq ?_
    refine awp_region ?_
    refine l_rk 1 tt_ok ⟨34, [(6, (fI (1)))], [], []⟩ (by kernel_rfl) ?_
    refine l_nil ?_
    refine awp_ret ?_
    obtain rfl := Option.some.inj h
    exact (show retX _ _ _ _ = some _ from by kernel_rfl)
   ·refine awp_cond_f (b := v3) (by kernel_rfl) hb ?_
    refine awp_skip ?_
    refine awp_seq ?_
    refine awp_seq ?_
    obtain ⟨v7, hj, h⟩ := Option.bind_eq_some_iff.1 h
    refine awp_join (Qa := fun e st => e = .normal ∧ LeSt st ⟨34, [(1, (fI (a1))), (3, (.ref 1 0 0)), (5, (.ref 2 0 0)), (29, (fB (v7)))], (term_Check_m0 a0 a2), [2, 1]⟩) ?_ ?_
    ·replace h := hj
     clear hj
     refine awp_region ?_
     refine l_rk 1 tt_ok ⟨34, [(1, (fI (a1))), (3, (.ref 1 0 0)), (5, (.ref 2 0 0)), (22, (.fz (eTm (a2))))], (term_Check_m0 a0 a2), [2, 1]⟩ (by kernel_rfl) ?_
     obtain ⟨v4, hv4, h⟩ := Option.bind_eq_some_iff.1 h
     refine l_step ((n_call (ys := [eTm (a2), eI (4096)]) (cs := [(.one .keep), (.one (.keep))]) rfl (by kernel_rfl) (term_within_ok fuel (a2) (4096) _ hv4)).step) (by kernel_rfl) (dst_of (by kernel_rfl)) ?_
     refine l_rk 2 tt_ok ⟨34, [(1, (fI (a1))), (3, (.ref 1 0 0)), (5, (.ref 2 0 0)), (25, (fB ((decide (v4 < 0)))))], (term_Check_m0 a0 a2), [2, 1]⟩ (by kernel_rfl) ?_
     rcases cond_some h with ⟨hb, h⟩ | ⟨hb, h⟩
     ·refine l_le (le_eq (t := 25) (x := .fz (eB (decide (v4 < 0)))) (y := .fz (eB true)) (by kernel_rfl) (congrArg (fun b => AV.fz (eB b)) hb)) ?_
      refine l_rk 4 tt_ok ⟨34, [(1, (fI (a1))), (3, (.ref 1 0 0)), (5, (.ref 2 0 0)), (29, (fB (true)))], (term_Check_m0 a0 a2), [2, 1]⟩ (by kernel_rfl) ?_
      refine l_nil ?_
      obtain rfl := Option.some.inj h
      exact And.intro rfl (le_ck (by kernel_rfl))
     ·refine l_le (le_eq (t := 25) (x := .fz (eB (decide (v4 < 0)))) (y := .fz (eB false)) (by kernel_rfl) (congrArg (fun b => AV.fz (eB b)) hb)) ?_
      refine l_rk 1 tt_ok ⟨34, [(1, (fI (a1))), (3, (.ref 1 0 0)), (5, (.ref 2 0 0)), (25, (fB (false))), (26, (.fz (eTm (a2))))], (term_Check_m0 a0 a2), [2, 1]⟩ (by kernel_rfl) ?_
      obtain ⟨v5, hv5, h⟩ := Option.bind_eq_some_iff.1 h
      refine l_step ((n_call (ys := [eTm (a2), eI (32)]) (cs := [(.one .keep), (.one (.keep))]) rfl (by kernel_rfl) (term_shallow_ok fuel (a2) (32) _ hv5)).step) (by kernel_rfl) (dst_of (by kernel_rfl)) ?_
      refine l_rk 2 tt_ok ⟨34, [(1, (fI (a1))), (3, (.ref 1 0 0)), (5, (.ref 2 0 0)), (29, (fB ((!v5))))], (term_Check_m0 a0 a2), [2, 1]⟩ (by kernel_rfl) ?_
      refine l_nil ?_
      obtain rfl := Option.some.inj h
      exact And.intro rfl (le_ck (by kernel_rfl))
    ·clear hj
     intro e st' hq
     obtain ⟨rfl, hle⟩ := hq
     refine ⟨_, hle, ?_⟩
     rcases cond_some h with ⟨hb, h⟩ | ⟨hb, h⟩
     ·refine awp_cond_t (b := v7) (by kernel_rfl) hb ?_
      refine awp_seq ?_
      refine awp_region ?_
      refine l_rk 1 tt_ok ⟨34, [(6, (fI (2)))], [], []⟩ (by kernel_rfl) ?_
      refine l_nil ?_
      refine awp_ret ?_
      obtain rfl := Option.some.inj h
      exact (show retX _ _ _ _ = some _ from by kernel_rfl)
     ·refine awp_cond_f (b := v7) (by kernel_rfl) hb ?_
      refine awp_skip ?_
      refine awp_seq ?_
      refine awp_region ?_
      refine l_rk 3 tt_ok ⟨34, [(30, (.fz (eLa (a0)))), (31, (fI (a1))), (32, (.fz (eTm (a2))))], [], []⟩ (by kernel_rfl) ?_
      obtain ⟨v8, hv8, h⟩ := Option.bind_eq_some_iff.1 h
      refine l_step ((n_call (ys := [eLa (a0), eI (a1), eTm (a2)]) (cs := [(.one .keep), (.one (.keep)), (.one .keep)]) rfl (by kernel_rfl) (term_derived_ok fuel (a0) (a1) (a2) _ hv8)).step) (by kernel_rfl) (dst_of (by kernel_rfl)) ?_
      refine l_rk 1 tt_ok ⟨34, [(6, (fI (v8)))], [], []⟩ (by kernel_rfl) ?_
      refine l_nil ?_
      refine awp_ret ?_
      obtain rfl := Option.some.inj h
      exact (show retX _ _ _ _ = some _ from by kernel_rfl)

def synthesisref11_Name_l1 (a0 : ByteArray) (v1 : (Int)) : Option (((Int)) ⊕ (((Unit) ⊕ (Bool)))) := (bif (decide (v1 < (a0.size : Int))) then (Option.bind ((Option.bind (byt a0 v1) fun v2 => (bif (decide (97 ≤ v2)) then (Option.bind (byt a0 v1) fun v3 => (bif (decide (v3 ≤ 122)) then (some (true)) else (Option.bind (byt a0 v1) fun v4 => (bif (decide (65 ≤ v4)) then (Option.bind (byt a0 v1) fun v5 => (some ((decide (v5 ≤ 90))))) else (some (false)))))) else (Option.bind (byt a0 v1) fun v6 => (bif (decide (65 ≤ v6)) then (Option.bind (byt a0 v1) fun v7 => (some ((decide (v7 ≤ 90))))) else (some (false)))))) : Option ((Bool))) fun (v9 : (Bool)) => (Option.bind ((bif (!v9) then (bif (v1 == 0) then (some (true)) else (Option.bind (byt a0 v1) fun v10 => (bif (v10 != 45) then (Option.bind (byt a0 v1) fun v11 => (bif (decide (v11 < 48)) then (some (true)) else (Option.bind (byt a0 v1) fun v12 => (some ((decide (57 < v12))))))) else (some (false))))) else (some (false))) : Option ((Bool))) fun (v14 : (Bool)) => (bif v14 then (some (.inr (.inr false))) else (some (.inl ((w64 (v1 + 1)))))))) else (some (.inr (.inl ()))))
def synthesisref11_Name (a0 : ByteArray) : Option (Bool) := (Option.bind (loopN (synthesisref11_Name_l1 a0) fuel (0)) fun (v15 : ((Unit) ⊕ (Bool))) => Sum.elim (fun v16 => (Option.bind ((bif (decide (1 ≤ (a0.size : Int))) then (some ((decide ((a0.size : Int) ≤ 24)))) else (some (false))) : Option ((Bool))) fun (v18 : (Bool)) => (some v18))) (fun v19 => (some v19)) v15)
theorem synthesisref11_Name_ok (a0 : ByteArray) (r : Bool) (h : synthesisref11_Name a0 = some r) : PCall Try.prog 149 [eS a0] (eB (r)) := by
 unfold synthesisref11_Name at h
 refine pcall_intro (T := TT) tt_ok [.one .keep] Try.func149 rfl (by kernel_rfl) (by kernel_rfl) ?_
 refine awp_le (st' := ⟨65, [(0, (fS (a0)))], [], []⟩) (le_ck (by kernel_rfl)) ?_
 refine awp_seq ?_
 refine awp_region ?_
 refine l_rk 1 tt_ok ⟨65, [(0, (fS (a0)))], [], []⟩ (by kernel_rfl) ?_
 refine l_nil ?_
 refine awp_seq ?_
 refine awp_seq ?_
 refine awp_region ?_
 refine l_rk 1 tt_ok ⟨65, [(0, (fS (a0))), (3, (fI (0)))], [], []⟩ (by kernel_rfl) ?_
 refine l_nil ?_
 refine awp_block ?_
 obtain ⟨v15, hj, h⟩ := Option.bind_eq_some_iff.1 h
 refine awp_join (Qa := fun e st => Sum.elim (fun p => e = .exit 0 ∧ LeSt st ⟨65, [(0, (fS (a0)))], [], []⟩) (fun p => e = .ret ∧ retX TT st Try.f149.results.toList [.one .keep] = some (eB (p))) v15) ?_ ?_
 ·refine awp_loopS (stOf := fun v1 => ⟨65, [(0, (fS (a0))), (3, (fI (v1)))], [], []⟩) (Qb := fun j e st => Sum.elim (fun p => e = .exit 0 ∧ LeSt st ⟨65, [(0, (fS (a0)))], [], []⟩) (fun p => e = .ret ∧ retX TT st Try.f149.results.toList [.one .keep] = some (eB (p))) j) hj (le_ck (by kernel_rfl)) ?_
  clear hj h
  intro v1 r h
  unfold synthesisref11_Name_l1 at h
  refine awp_seq ?_
  refine awp_seq ?_
  refine awp_region ?_
  refine l_rk 4 tt_ok ⟨65, [(0, (fS (a0))), (3, (fI (v1))), (8, (fB ((decide (v1 < (a0.size : Int))))))], [], []⟩ (by kernel_rfl) ?_
  refine l_nil ?_
  rcases cond_some h with ⟨hb, h⟩ | ⟨hb, h⟩
  ·refine awp_cond_t (b := (decide (v1 < (a0.size : Int)))) (by kernel_rfl) hb ?_
   refine awp_skip ?_
   refine awp_seq ?_
   refine awp_block ?_
   refine awp_seq ?_
   obtain ⟨v9, hj, h⟩ := Option.bind_eq_some_iff.1 h
   refine awp_join (Qa := fun e st => e = .normal ∧ LeSt st ⟨65, [(0, (fS (a0))), (3, (fI (v1))), (4, (fB (v9)))], [], []⟩) ?_ ?_
   ·replace h := hj
    clear hj
    refine awp_region ?_
    refine l_rk 2 tt_ok ⟨65, [(0, (fS (a0))), (3, (fI (v1))), (11, (fS (a0))), (12, (fI (v1)))], [], []⟩ (by kernel_rfl) ?_
    obtain ⟨v2, hv2, h⟩ := Option.bind_eq_some_iff.1 h
    refine l_step ((s_byte (k := .i64) (d := tt9) (s := a0) hv2 tt_ok rfl (by kernel_rfl) (by kernel_rfl) (by kernel_rfl) (by kernel_rfl)).step) (by kernel_rfl) (dst_of (by kernel_rfl)) ?_
    refine l_rk 2 tt_ok ⟨65, [(0, (fS (a0))), (3, (fI (v1))), (15, (fB ((decide (97 ≤ v2)))))], [], []⟩ (by kernel_rfl) ?_
    rcases cond_some h with ⟨hb, h⟩ | ⟨hb, h⟩
    ·refine l_le (le_eq (t := 15) (x := .fz (eB (decide (97 ≤ v2)))) (y := .fz (eB true)) (by kernel_rfl) (congrArg (fun b => AV.fz (eB b)) hb)) ?_
     refine l_rk 2 tt_ok ⟨65, [(0, (fS (a0))), (3, (fI (v1))), (15, (fB (true))), (16, (fS (a0))), (17, (fI (v1)))], [], []⟩ (by kernel_rfl) ?_
     obtain ⟨v3, hv3, h⟩ := Option.bind_eq_some_iff.1 h
     refine l_step ((s_byte (k := .i64) (d := tt9) (s := a0) hv3 tt_ok rfl (by kernel_rfl) (by kernel_rfl) (by kernel_rfl) (by kernel_rfl)).step) (by kernel_rfl) (dst_of (by kernel_rfl)) ?_
     refine l_rk 3 tt_ok ⟨65, [(0, (fS (a0))), (3, (fI (v1))), (21, (fB ((decide (v3 ≤ 122)))))], [], []⟩ (by kernel_rfl) ?_
     rcases cond_some h with ⟨hb, h⟩ | ⟨hb, h⟩
     ·refine l_le (le_eq (t := 21) (x := .fz (eB (decide (v3 ≤ 122)))) (y := .fz (eB true)) (by kernel_rfl) (congrArg (fun b => AV.fz (eB b)) hb)) ?_
      refine l_rk 12 tt_ok ⟨65, [(0, (fS (a0))), (3, (fI (v1))), (4, (fB (true)))], [], []⟩ (by kernel_rfl) ?_
      refine l_nil ?_
      obtain rfl := Option.some.inj h
      exact And.intro rfl (le_ck (by kernel_rfl))
     ·refine l_le (le_eq (t := 21) (x := .fz (eB (decide (v3 ≤ 122)))) (y := .fz (eB false)) (by kernel_rfl) (congrArg (fun b => AV.fz (eB b)) hb)) ?_
      refine l_rk 2 tt_ok ⟨65, [(0, (fS (a0))), (3, (fI (v1))), (21, (fB (false))), (22, (fS (a0))), (23, (fI (v1)))], [], []⟩ (by kernel_rfl) ?_
      obtain ⟨v4, hv4, h⟩ := Option.bind_eq_some_iff.1 h
      refine l_step ((s_byte (k := .i64) (d := tt9) (s := a0) hv4 tt_ok rfl (by kernel_rfl) (by kernel_rfl) (by kernel_rfl) (by kernel_rfl)).step) (by kernel_rfl) (dst_of (by kernel_rfl)) ?_
      refine l_rk 2 tt_ok ⟨65, [(0, (fS (a0))), (3, (fI (v1))), (21, (fB (false))), (26, (fB ((decide (65 ≤ v4)))))], [], []⟩ (by kernel_rfl) ?_
      rcases cond_some h with ⟨hb, h⟩ | ⟨hb, h⟩
      ·refine l_le (le_eq (t := 26) (x := .fz (eB (decide (65 ≤ v4)))) (y := .fz (eB true)) (by kernel_rfl) (congrArg (fun b => AV.fz (eB b)) hb)) ?_
       refine l_rk 2 tt_ok ⟨65, [(0, (fS (a0))), (3, (fI (v1))), (21, (fB (false))), (26, (fB (true))), (27, (fS (a0))), (28, (fI (v1)))], [], []⟩ (by kernel_rfl) ?_
       obtain ⟨v5, hv5, h⟩ := Option.bind_eq_some_iff.1 h
       refine l_step ((s_byte (k := .i64) (d := tt9) (s := a0) hv5 tt_ok rfl (by kernel_rfl) (by kernel_rfl) (by kernel_rfl) (by kernel_rfl)).step) (by kernel_rfl) (dst_of (by kernel_rfl)) ?_
       refine l_rk 4 tt_ok ⟨65, [(0, (fS (a0))), (3, (fI (v1))), (4, (fB ((decide (v5 ≤ 90)))))], [], []⟩ (by kernel_rfl) ?_
       refine l_nil ?_
       obtain rfl := Option.some.inj h
       exact And.intro rfl (le_ck (by kernel_rfl))
      ·refine l_le (le_eq (t := 26) (x := .fz (eB (decide (65 ≤ v4)))) (y := .fz (eB false)) (by kernel_rfl) (congrArg (fun b => AV.fz (eB b)) hb)) ?_
       refine l_rk 7 tt_ok ⟨65, [(0, (fS (a0))), (3, (fI (v1))), (4, (fB (false)))], [], []⟩ (by kernel_rfl) ?_
       refine l_nil ?_
       obtain rfl := Option.some.inj h
       exact And.intro rfl (le_ck (by kernel_rfl))
    ·refine l_le (le_eq (t := 15) (x := .fz (eB (decide (97 ≤ v2)))) (y := .fz (eB false)) (by kernel_rfl) (congrArg (fun b => AV.fz (eB b)) hb)) ?_
     refine l_rk 8 tt_ok ⟨65, [(0, (fS (a0))), (3, (fI (v1))), (21, (fB (false))), (22, (fS (a0))), (23, (fI (v1)))], [], []⟩ (by kernel_rfl) ?_
     obtain ⟨v6, hv6, h⟩ := Option.bind_eq_some_iff.1 h
     refine l_step ((s_byte (k := .i64) (d := tt9) (s := a0) hv6 tt_ok rfl (by kernel_rfl) (by kernel_rfl) (by kernel_rfl) (by kernel_rfl)).step) (by kernel_rfl) (dst_of (by kernel_rfl)) ?_
     refine l_rk 2 tt_ok ⟨65, [(0, (fS (a0))), (3, (fI (v1))), (21, (fB (false))), (26, (fB ((decide (65 ≤ v6)))))], [], []⟩ (by kernel_rfl) ?_
     rcases cond_some h with ⟨hb, h⟩ | ⟨hb, h⟩
     ·refine l_le (le_eq (t := 26) (x := .fz (eB (decide (65 ≤ v6)))) (y := .fz (eB true)) (by kernel_rfl) (congrArg (fun b => AV.fz (eB b)) hb)) ?_
      refine l_rk 2 tt_ok ⟨65, [(0, (fS (a0))), (3, (fI (v1))), (21, (fB (false))), (26, (fB (true))), (27, (fS (a0))), (28, (fI (v1)))], [], []⟩ (by kernel_rfl) ?_
      obtain ⟨v7, hv7, h⟩ := Option.bind_eq_some_iff.1 h
      refine l_step ((s_byte (k := .i64) (d := tt9) (s := a0) hv7 tt_ok rfl (by kernel_rfl) (by kernel_rfl) (by kernel_rfl) (by kernel_rfl)).step) (by kernel_rfl) (dst_of (by kernel_rfl)) ?_
      refine l_rk 4 tt_ok ⟨65, [(0, (fS (a0))), (3, (fI (v1))), (4, (fB ((decide (v7 ≤ 90)))))], [], []⟩ (by kernel_rfl) ?_
      refine l_nil ?_
      obtain rfl := Option.some.inj h
      exact And.intro rfl (le_ck (by kernel_rfl))
     ·refine l_le (le_eq (t := 26) (x := .fz (eB (decide (65 ≤ v6)))) (y := .fz (eB false)) (by kernel_rfl) (congrArg (fun b => AV.fz (eB b)) hb)) ?_
      refine l_rk 7 tt_ok ⟨65, [(0, (fS (a0))), (3, (fI (v1))), (4, (fB (false)))], [], []⟩ (by kernel_rfl) ?_
      refine l_nil ?_
      obtain rfl := Option.some.inj h
      exact And.intro rfl (le_ck (by kernel_rfl))
   ·clear hj
    intro e st' hq
    obtain ⟨rfl, hle⟩ := hq
    refine ⟨_, hle, ?_⟩
    refine awp_seq ?_
    obtain ⟨v14, hj, h⟩ := Option.bind_eq_some_iff.1 h
    refine awp_join (Qa := fun e st => e = .normal ∧ LeSt st ⟨65, [(0, (fS (a0))), (3, (fI (v1))), (56, (fB (v14)))], [], []⟩) ?_ ?_
    ·replace h := hj
     clear hj
     refine awp_region ?_
     refine l_rk 3 tt_ok ⟨65, [(0, (fS (a0))), (3, (fI (v1))), (35, (fB ((!v9))))], [], []⟩ (by kernel_rfl) ?_
     rcases cond_some h with ⟨hb, h⟩ | ⟨hb, h⟩
     ·refine l_le (le_eq (t := 35) (x := .fz (eB (!v9))) (y := .fz (eB true)) (by kernel_rfl) (congrArg (fun b => AV.fz (eB b)) hb)) ?_
      refine l_rk 3 tt_ok ⟨65, [(0, (fS (a0))), (3, (fI (v1))), (35, (fB (true))), (38, (fB ((v1 == 0))))], [], []⟩ (by kernel_rfl) ?_
      rcases cond_some h with ⟨hb, h⟩ | ⟨hb, h⟩
      ·refine l_le (le_eq (t := 38) (x := .fz (eB (v1 == 0))) (y := .fz (eB true)) (by kernel_rfl) (congrArg (fun b => AV.fz (eB b)) hb)) ?_
       refine l_rk 18 tt_ok ⟨65, [(0, (fS (a0))), (3, (fI (v1))), (56, (fB (true)))], [], []⟩ (by kernel_rfl) ?_
       refine l_nil ?_
       obtain rfl := Option.some.inj h
       exact And.intro rfl (le_ck (by kernel_rfl))
      ·refine l_le (le_eq (t := 38) (x := .fz (eB (v1 == 0))) (y := .fz (eB false)) (by kernel_rfl) (congrArg (fun b => AV.fz (eB b)) hb)) ?_
       refine l_rk 2 tt_ok ⟨65, [(0, (fS (a0))), (3, (fI (v1))), (35, (fB (true))), (38, (fB (false))), (39, (fS (a0))), (40, (fI (v1)))], [], []⟩ (by kernel_rfl) ?_
       obtain ⟨v10, hv10, h⟩ := Option.bind_eq_some_iff.1 h
       refine l_step ((s_byte (k := .i64) (d := tt9) (s := a0) hv10 tt_ok rfl (by kernel_rfl) (by kernel_rfl) (by kernel_rfl) (by kernel_rfl)).step) (by kernel_rfl) (dst_of (by kernel_rfl)) ?_
       refine l_rk 2 tt_ok ⟨65, [(0, (fS (a0))), (3, (fI (v1))), (35, (fB (true))), (38, (fB (false))), (43, (fB ((v10 != 45))))], [], []⟩ (by kernel_rfl) ?_
       rcases cond_some h with ⟨hb, h⟩ | ⟨hb, h⟩
       ·refine l_le (le_eq (t := 43) (x := .fz (eB (v10 != 45))) (y := .fz (eB true)) (by kernel_rfl) (congrArg (fun b => AV.fz (eB b)) hb)) ?_
        refine l_rk 2 tt_ok ⟨65, [(0, (fS (a0))), (3, (fI (v1))), (35, (fB (true))), (38, (fB (false))), (43, (fB (true))), (44, (fS (a0))), (45, (fI (v1)))], [], []⟩ (by kernel_rfl) ?_
        obtain ⟨v11, hv11, h⟩ := Option.bind_eq_some_iff.1 h
        refine l_step ((s_byte (k := .i64) (d := tt9) (s := a0) hv11 tt_ok rfl (by kernel_rfl) (by kernel_rfl) (by kernel_rfl) (by kernel_rfl)).step) (by kernel_rfl) (dst_of (by kernel_rfl)) ?_
        refine l_rk 2 tt_ok ⟨65, [(0, (fS (a0))), (3, (fI (v1))), (35, (fB (true))), (38, (fB (false))), (43, (fB (true))), (48, (fB ((decide (v11 < 48)))))], [], []⟩ (by kernel_rfl) ?_
        rcases cond_some h with ⟨hb, h⟩ | ⟨hb, h⟩
        ·refine l_le (le_eq (t := 48) (x := .fz (eB (decide (v11 < 48)))) (y := .fz (eB true)) (by kernel_rfl) (congrArg (fun b => AV.fz (eB b)) hb)) ?_
         refine l_rk 8 tt_ok ⟨65, [(0, (fS (a0))), (3, (fI (v1))), (56, (fB (true)))], [], []⟩ (by kernel_rfl) ?_
         refine l_nil ?_
         obtain rfl := Option.some.inj h
         exact And.intro rfl (le_ck (by kernel_rfl))
        ·refine l_le (le_eq (t := 48) (x := .fz (eB (decide (v11 < 48)))) (y := .fz (eB false)) (by kernel_rfl) (congrArg (fun b => AV.fz (eB b)) hb)) ?_
         refine l_rk 2 tt_ok ⟨65, [(0, (fS (a0))), (3, (fI (v1))), (35, (fB (true))), (38, (fB (false))), (43, (fB (true))), (48, (fB (false))), (49, (fS (a0))), (50, (fI (v1)))], [], []⟩ (by kernel_rfl) ?_
         obtain ⟨v12, hv12, h⟩ := Option.bind_eq_some_iff.1 h
         refine l_step ((s_byte (k := .i64) (d := tt9) (s := a0) hv12 tt_ok rfl (by kernel_rfl) (by kernel_rfl) (by kernel_rfl) (by kernel_rfl)).step) (by kernel_rfl) (dst_of (by kernel_rfl)) ?_
         refine l_rk 5 tt_ok ⟨65, [(0, (fS (a0))), (3, (fI (v1))), (56, (fB ((decide (57 < v12)))))], [], []⟩ (by kernel_rfl) ?_
         refine l_nil ?_
         obtain rfl := Option.some.inj h
         exact And.intro rfl (le_ck (by kernel_rfl))
       ·refine l_le (le_eq (t := 43) (x := .fz (eB (v10 != 45))) (y := .fz (eB false)) (by kernel_rfl) (congrArg (fun b => AV.fz (eB b)) hb)) ?_
        refine l_rk 13 tt_ok ⟨65, [(0, (fS (a0))), (3, (fI (v1))), (56, (fB (false)))], [], []⟩ (by kernel_rfl) ?_
        refine l_nil ?_
        obtain rfl := Option.some.inj h
        exact And.intro rfl (le_ck (by kernel_rfl))
     ·refine l_le (le_eq (t := 35) (x := .fz (eB (!v9))) (y := .fz (eB false)) (by kernel_rfl) (congrArg (fun b => AV.fz (eB b)) hb)) ?_
      refine l_rk 21 tt_ok ⟨65, [(0, (fS (a0))), (3, (fI (v1))), (56, (fB (false)))], [], []⟩ (by kernel_rfl) ?_
      refine l_nil ?_
      obtain rfl := Option.some.inj h
      exact And.intro rfl (le_ck (by kernel_rfl))
    ·clear hj
     intro e st' hq
     obtain ⟨rfl, hle⟩ := hq
     refine ⟨_, hle, ?_⟩
     rcases cond_some h with ⟨hb, h⟩ | ⟨hb, h⟩
     ·refine awp_cond_t (b := v14) (by kernel_rfl) hb ?_
      refine awp_seq ?_
      refine awp_region ?_
      refine l_rk 1 tt_ok ⟨65, [(2, (fB (false)))], [], []⟩ (by kernel_rfl) ?_
      refine l_nil ?_
      refine awp_ret ?_
      obtain rfl := Option.some.inj h
      exact And.intro (And.intro (fun h => nomatch h) (fun h => nomatch h)) (And.intro rfl (show retX _ _ _ _ = some _ from by kernel_rfl))
     ·refine awp_cond_f (b := v14) (by kernel_rfl) hb ?_
      refine awp_skip ?_
      refine awp_region ?_
      refine l_rk 3 tt_ok ⟨65, [(0, (fS (a0))), (3, (fI ((w64 (v1 + 1)))))], [], []⟩ (by kernel_rfl) ?_
      refine l_nil ?_
      obtain rfl := Option.some.inj h
      exact And.intro rfl (le_ck (by kernel_rfl))
  ·refine awp_cond_f (b := (decide (v1 < (a0.size : Int)))) (by kernel_rfl) hb ?_
   refine awp_exit ?_
   obtain rfl := Option.some.inj h
   exact And.intro (And.intro (fun h => nomatch h) (fun h => nomatch h)) (And.intro rfl (le_ck (by kernel_rfl)))
 ·clear hj
  intro e st' hq
  rcases v15 with v16 | v19
  ·try simp only [Sum.elim_inl, Sum.elim_inr] at h
   obtain ⟨rfl, hle⟩ := hq
   refine ⟨_, hle, ?_⟩
   refine awp_seq ?_
   obtain ⟨v18, hj, h⟩ := Option.bind_eq_some_iff.1 h
   refine awp_join (Qa := fun e st => e = .normal ∧ LeSt st ⟨65, [(2, (fB (v18)))], [], []⟩) ?_ ?_
   ·replace h := hj
    clear hj
    refine awp_region ?_
    refine l_rk 4 tt_ok ⟨65, [(0, (fS (a0))), (60, (fB ((decide (1 ≤ (a0.size : Int))))))], [], []⟩ (by kernel_rfl) ?_
    rcases cond_some h with ⟨hb, h⟩ | ⟨hb, h⟩
    ·refine l_le (le_eq (t := 60) (x := .fz (eB (decide (1 ≤ (a0.size : Int))))) (y := .fz (eB true)) (by kernel_rfl) (congrArg (fun b => AV.fz (eB b)) hb)) ?_
     refine l_rk 5 tt_ok ⟨65, [(2, (fB ((decide ((a0.size : Int) ≤ 24)))))], [], []⟩ (by kernel_rfl) ?_
     refine l_nil ?_
     obtain rfl := Option.some.inj h
     exact And.intro rfl (le_ck (by kernel_rfl))
    ·refine l_le (le_eq (t := 60) (x := .fz (eB (decide (1 ≤ (a0.size : Int))))) (y := .fz (eB false)) (by kernel_rfl) (congrArg (fun b => AV.fz (eB b)) hb)) ?_
     refine l_rk 5 tt_ok ⟨65, [(2, (fB (false)))], [], []⟩ (by kernel_rfl) ?_
     refine l_nil ?_
     obtain rfl := Option.some.inj h
     exact And.intro rfl (le_ck (by kernel_rfl))
   ·clear hj
    intro e st' hq
    obtain ⟨rfl, hle⟩ := hq
    refine ⟨_, hle, ?_⟩
    refine awp_ret ?_
    obtain rfl := Option.some.inj h
    exact (show retX _ _ _ _ = some _ from by kernel_rfl)
  ·try simp only [Sum.elim_inl, Sum.elim_inr] at h
   obtain ⟨rfl, hret⟩ := hq
   refine ⟨_, LeSt.refl, ?_⟩
   obtain rfl := Option.some.inj h
   exact hret

def synthesisref11_typed (a0 : Int) : Option (Bool) := (Option.bind ((bif (decide (1 ≤ a0)) then (some ((decide (a0 ≤ 8)))) else (some (false))) : Option ((Bool))) fun (v2 : (Bool)) => (some v2))
theorem synthesisref11_typed_ok (a0 : Int) (r : Bool) (h : synthesisref11_typed a0 = some r) : PCall Try.prog 150 [eI a0] (eB (r)) := by
 unfold synthesisref11_typed at h
 refine pcall_intro (T := TT) tt_ok [.one .keep] Try.func150 rfl (by kernel_rfl) (by kernel_rfl) ?_
 refine awp_le (st' := ⟨9, [(0, (fI (a0)))], [], []⟩) (le_ck (by kernel_rfl)) ?_
 refine awp_seq ?_
 refine awp_region ?_
 refine l_rk 1 tt_ok ⟨9, [(0, (fI (a0)))], [], []⟩ (by kernel_rfl) ?_
 refine l_nil ?_
 refine awp_seq ?_
 obtain ⟨v2, hj, h⟩ := Option.bind_eq_some_iff.1 h
 refine awp_join (Qa := fun e st => e = .normal ∧ LeSt st ⟨9, [(2, (fB (v2)))], [], []⟩) ?_ ?_
 ·replace h := hj
  clear hj
  refine awp_region ?_
  refine l_rk 3 tt_ok ⟨9, [(0, (fI (a0))), (5, (fB ((decide (1 ≤ a0)))))], [], []⟩ (by kernel_rfl) ?_
  rcases cond_some h with ⟨hb, h⟩ | ⟨hb, h⟩
  ·refine l_le (le_eq (t := 5) (x := .fz (eB (decide (1 ≤ a0)))) (y := .fz (eB true)) (by kernel_rfl) (congrArg (fun b => AV.fz (eB b)) hb)) ?_
   refine l_rk 4 tt_ok ⟨9, [(2, (fB ((decide (a0 ≤ 8)))))], [], []⟩ (by kernel_rfl) ?_
   refine l_nil ?_
   obtain rfl := Option.some.inj h
   exact And.intro rfl (le_ck (by kernel_rfl))
  ·refine l_le (le_eq (t := 5) (x := .fz (eB (decide (1 ≤ a0)))) (y := .fz (eB false)) (by kernel_rfl) (congrArg (fun b => AV.fz (eB b)) hb)) ?_
   refine l_rk 4 tt_ok ⟨9, [(2, (fB (false)))], [], []⟩ (by kernel_rfl) ?_
   refine l_nil ?_
   obtain rfl := Option.some.inj h
   exact And.intro rfl (le_ck (by kernel_rfl))
 ·clear hj
  intro e st' hq
  obtain ⟨rfl, hle⟩ := hq
  refine ⟨_, hle, ?_⟩
  refine awp_ret ?_
  obtain rfl := Option.some.inj h
  exact (show retX _ _ _ _ = some _ from by kernel_rfl)

def synthesisref11_zero_m0 (a0 : Ru) : List (Nat × AObj) := [(1, (.box 67 [(fI (a0.symbol)), (fI (a0.kind)), (fI (a0.input)), (fI (a0.const.type)), (fI (a0.const.num)), (fS (a0.const.text)), (.fz ((eL 4 eVaR) (a0.const.items))), (fS (a0.op)), (.fz ((eL 1 eI) (a0.args)))]))]
def synthesisref11_zero (a0 : Ru) : Option (Bool) := (Option.bind (synthesisref01_Equal (a0.const) ((Va.mk (0) (0) ((⟨#[]⟩ : ByteArray)) (([] : List Va))))) fun v1 => (bif (a0.kind == 1) then (Option.bind ((bif v1 then (bif (a0.op.toList == (⟨#[]⟩ : ByteArray).toList) then (some (((List.length a0.args : Int) == 0))) else (some (false))) else (some (false))) : Option ((Bool))) fun (v3 : (Bool)) => (some v3)) else (bif (a0.kind == 2) then (Option.bind ((bif (a0.input == 0) then (bif (a0.op.toList == (⟨#[]⟩ : ByteArray).toList) then (some (((List.length a0.args : Int) == 0))) else (some (false))) else (some (false))) : Option ((Bool))) fun (v5 : (Bool)) => (some v5)) else (Option.bind ((bif (a0.input == 0) then (some (v1)) else (some (false))) : Option ((Bool))) fun (v7 : (Bool)) => (some v7)))))
theorem synthesisref11_zero_ok (a0 : Ru) (r : Bool) (h : synthesisref11_zero a0 = some r) : PCall Try.prog 180 [eRu a0] (eB (r)) := by
 unfold synthesisref11_zero at h
 refine pcall_intro (T := TT) tt_ok [.one .keep] Try.func180 rfl (by kernel_rfl) (by kernel_rfl) ?_
 refine awp_le (st' := ⟨46, [(0, (.fz (eRu (a0))))], [], []⟩) (le_ck (by kernel_rfl)) ?_
 refine awp_seq ?_
 refine awp_region ?_
 refine l_rk 2 tt_ok ⟨46, [(1, (.ref 1 0 0))], (synthesisref11_zero_m0 a0), [1]⟩ (by kernel_rfl) ?_
 refine l_nil ?_
 refine awp_seq ?_
 refine awp_region ?_
 refine l_rk 3 tt_ok ⟨46, [(1, (.ref 1 0 0)), (5, (.fz (eVa (a0.const)))), (6, (.fz (.agg [(eI (0)), (eI (0)), (eS ((⟨#[]⟩ : ByteArray))), (.atom (.slice none 0 0))])))], (synthesisref11_zero_m0 a0), [1]⟩ (by kernel_rfl) ?_
 obtain ⟨v1, hv1, h⟩ := Option.bind_eq_some_iff.1 h
 refine l_step ((n_call (ys := [eVa (a0.const), eVa ((Va.mk (0) (0) ((⟨#[]⟩ : ByteArray)) (([] : List Va))))]) (cs := [(.one .keep), (.ag [.keep, .keep, .keep, .sl 4])]) rfl (by kernel_rfl) (synthesisref01_Equal_ok (a0.const) ((Va.mk (0) (0) ((⟨#[]⟩ : ByteArray)) (([] : List Va)))) _ hv1)).step) (by kernel_rfl) (dst_of (by kernel_rfl)) ?_
 refine l_rk 1 tt_ok ⟨46, [(1, (.ref 1 0 0)), (3, (fB (v1)))], (synthesisref11_zero_m0 a0), [1]⟩ (by kernel_rfl) ?_
 refine l_nil ?_
 refine awp_seq ?_
 refine awp_seq ?_
 refine awp_region ?_
 refine l_rk 2 tt_ok ⟨46, [(1, (.ref 1 0 0)), (3, (fB (v1))), (9, (fI (a0.kind)))], (synthesisref11_zero_m0 a0), [1]⟩ (by kernel_rfl) ?_
 refine l_nil ?_
 refine awp_block ?_
 refine awp_seq ?_
 refine awp_region ?_
 refine l_rk 2 tt_ok ⟨46, [(1, (.ref 1 0 0)), (3, (fB (v1))), (9, (fI (a0.kind))), (10, (fB ((a0.kind == 1))))], (synthesisref11_zero_m0 a0), [1]⟩ (by kernel_rfl) ?_
 refine l_nil ?_
 rcases cond_some h with ⟨hb, h⟩ | ⟨hb, h⟩
 ·refine awp_cond_t (b := (a0.kind == 1)) (by kernel_rfl) hb ?_
  refine awp_seq ?_
  obtain ⟨v3, hj, h⟩ := Option.bind_eq_some_iff.1 h
  refine awp_join (Qa := fun e st => e = .normal ∧ LeSt st ⟨46, [(2, (fB (v3)))], [], []⟩) ?_ ?_
  ·replace h := hj
   clear hj
   refine awp_region ?_
   refine l_rk 2 tt_ok ⟨46, [(1, (.ref 1 0 0)), (13, (fB (v1)))], (synthesisref11_zero_m0 a0), [1]⟩ (by kernel_rfl) ?_
   rcases cond_some h with ⟨hb, h⟩ | ⟨hb, h⟩
   ·refine l_le (le_eq (t := 13) (x := .fz (eB v1)) (y := .fz (eB true)) (by kernel_rfl) (congrArg (fun b => AV.fz (eB b)) hb)) ?_
    refine l_rk 5 tt_ok ⟨46, [(1, (.ref 1 0 0)), (18, (fB ((a0.op.toList == (⟨#[]⟩ : ByteArray).toList))))], (synthesisref11_zero_m0 a0), [1]⟩ (by kernel_rfl) ?_
    rcases cond_some h with ⟨hb, h⟩ | ⟨hb, h⟩
    ·refine l_le (le_eq (t := 18) (x := .fz (eB (a0.op.toList == (⟨#[]⟩ : ByteArray).toList))) (y := .fz (eB true)) (by kernel_rfl) (congrArg (fun b => AV.fz (eB b)) hb)) ?_
     refine l_rk 6 tt_ok ⟨46, [(2, (fB (((List.length a0.args : Int) == 0))))], [], []⟩ (by kernel_rfl) ?_
     refine l_nil ?_
     obtain rfl := Option.some.inj h
     exact And.intro rfl (le_ck (by kernel_rfl))
    ·refine l_le (le_eq (t := 18) (x := .fz (eB (a0.op.toList == (⟨#[]⟩ : ByteArray).toList))) (y := .fz (eB false)) (by kernel_rfl) (congrArg (fun b => AV.fz (eB b)) hb)) ?_
     refine l_rk 6 tt_ok ⟨46, [(2, (fB (false)))], [], []⟩ (by kernel_rfl) ?_
     refine l_nil ?_
     obtain rfl := Option.some.inj h
     exact And.intro rfl (le_ck (by kernel_rfl))
   ·refine l_le (le_eq (t := 13) (x := .fz (eB v1)) (y := .fz (eB false)) (by kernel_rfl) (congrArg (fun b => AV.fz (eB b)) hb)) ?_
    refine l_rk 11 tt_ok ⟨46, [(2, (fB (false)))], [], []⟩ (by kernel_rfl) ?_
    refine l_nil ?_
    obtain rfl := Option.some.inj h
    exact And.intro rfl (le_ck (by kernel_rfl))
  ·clear hj
   intro e st' hq
   obtain ⟨rfl, hle⟩ := hq
   refine ⟨_, hle, ?_⟩
   refine awp_ret ?_
   obtain rfl := Option.some.inj h
   exact (show retX _ _ _ _ = some _ from by kernel_rfl)
 ·refine awp_cond_f (b := (a0.kind == 1)) (by kernel_rfl) hb ?_
  refine awp_seq ?_
  refine awp_region ?_
  refine l_rk 2 tt_ok ⟨46, [(1, (.ref 1 0 0)), (3, (fB (v1))), (24, (fB ((a0.kind == 2))))], (synthesisref11_zero_m0 a0), [1]⟩ (by kernel_rfl) ?_
  refine l_nil ?_
  rcases cond_some h with ⟨hb, h⟩ | ⟨hb, h⟩
  ·refine awp_cond_t (b := (a0.kind == 2)) (by kernel_rfl) hb ?_
   refine awp_seq ?_
   obtain ⟨v5, hj, h⟩ := Option.bind_eq_some_iff.1 h
   refine awp_join (Qa := fun e st => e = .normal ∧ LeSt st ⟨46, [(2, (fB (v5)))], [], []⟩) ?_ ?_
   ·replace h := hj
    clear hj
    refine awp_region ?_
    refine l_rk 4 tt_ok ⟨46, [(1, (.ref 1 0 0)), (29, (fB ((a0.input == 0))))], (synthesisref11_zero_m0 a0), [1]⟩ (by kernel_rfl) ?_
    rcases cond_some h with ⟨hb, h⟩ | ⟨hb, h⟩
    ·refine l_le (le_eq (t := 29) (x := .fz (eB (a0.input == 0))) (y := .fz (eB true)) (by kernel_rfl) (congrArg (fun b => AV.fz (eB b)) hb)) ?_
     refine l_rk 5 tt_ok ⟨46, [(1, (.ref 1 0 0)), (34, (fB ((a0.op.toList == (⟨#[]⟩ : ByteArray).toList))))], (synthesisref11_zero_m0 a0), [1]⟩ (by kernel_rfl) ?_
     rcases cond_some h with ⟨hb, h⟩ | ⟨hb, h⟩
     ·refine l_le (le_eq (t := 34) (x := .fz (eB (a0.op.toList == (⟨#[]⟩ : ByteArray).toList))) (y := .fz (eB true)) (by kernel_rfl) (congrArg (fun b => AV.fz (eB b)) hb)) ?_
      refine l_rk 6 tt_ok ⟨46, [(2, (fB (((List.length a0.args : Int) == 0))))], [], []⟩ (by kernel_rfl) ?_
      refine l_nil ?_
      obtain rfl := Option.some.inj h
      exact And.intro rfl (le_ck (by kernel_rfl))
     ·refine l_le (le_eq (t := 34) (x := .fz (eB (a0.op.toList == (⟨#[]⟩ : ByteArray).toList))) (y := .fz (eB false)) (by kernel_rfl) (congrArg (fun b => AV.fz (eB b)) hb)) ?_
      refine l_rk 6 tt_ok ⟨46, [(2, (fB (false)))], [], []⟩ (by kernel_rfl) ?_
      refine l_nil ?_
      obtain rfl := Option.some.inj h
      exact And.intro rfl (le_ck (by kernel_rfl))
    ·refine l_le (le_eq (t := 29) (x := .fz (eB (a0.input == 0))) (y := .fz (eB false)) (by kernel_rfl) (congrArg (fun b => AV.fz (eB b)) hb)) ?_
     refine l_rk 11 tt_ok ⟨46, [(2, (fB (false)))], [], []⟩ (by kernel_rfl) ?_
     refine l_nil ?_
     obtain rfl := Option.some.inj h
     exact And.intro rfl (le_ck (by kernel_rfl))
   ·clear hj
    intro e st' hq
    obtain ⟨rfl, hle⟩ := hq
    refine ⟨_, hle, ?_⟩
    refine awp_ret ?_
    obtain rfl := Option.some.inj h
    exact (show retX _ _ _ _ = some _ from by kernel_rfl)
  ·refine awp_cond_f (b := (a0.kind == 2)) (by kernel_rfl) hb ?_
   refine awp_skip ?_
   refine awp_seq ?_
   obtain ⟨v7, hj, h⟩ := Option.bind_eq_some_iff.1 h
   refine awp_join (Qa := fun e st => e = .normal ∧ LeSt st ⟨46, [(2, (fB (v7)))], [], []⟩) ?_ ?_
   ·replace h := hj
    clear hj
    refine awp_region ?_
    refine l_rk 4 tt_ok ⟨46, [(3, (fB (v1))), (43, (fB ((a0.input == 0))))], [], []⟩ (by kernel_rfl) ?_
    rcases cond_some h with ⟨hb, h⟩ | ⟨hb, h⟩
    ·refine l_le (le_eq (t := 43) (x := .fz (eB (a0.input == 0))) (y := .fz (eB true)) (by kernel_rfl) (congrArg (fun b => AV.fz (eB b)) hb)) ?_
     refine l_rk 3 tt_ok ⟨46, [(2, (fB (v1)))], [], []⟩ (by kernel_rfl) ?_
     refine l_nil ?_
     obtain rfl := Option.some.inj h
     exact And.intro rfl (le_ck (by kernel_rfl))
    ·refine l_le (le_eq (t := 43) (x := .fz (eB (a0.input == 0))) (y := .fz (eB false)) (by kernel_rfl) (congrArg (fun b => AV.fz (eB b)) hb)) ?_
     refine l_rk 3 tt_ok ⟨46, [(2, (fB (false)))], [], []⟩ (by kernel_rfl) ?_
     refine l_nil ?_
     obtain rfl := Option.some.inj h
     exact And.intro rfl (le_ck (by kernel_rfl))
   ·clear hj
    intro e st' hq
    obtain ⟨rfl, hle⟩ := hq
    refine ⟨_, hle, ?_⟩
    refine awp_ret ?_
    obtain rfl := Option.some.inj h
    exact (show retX _ _ _ _ = some _ from by kernel_rfl)

structure S_a189 where
  f_0 : ByteArray
  f_1 : ByteArray
  f_2 : ByteArray
def eS_a189 (x : S_a189) : FV := .agg [eS (x.f_0), eS (x.f_1), eS (x.f_2)]
theorem len_eS_a189 (x : S_a189) : (eS_a189 x).cells.length = 3 := rfl
def synthesisref09_catalog (a0 : ByteArray) : Option (List S_a189) := (bif (a0.toList == (⟨#[108, 111, 103, 105, 99]⟩ : ByteArray).toList) then (some ([(S_a189.mk ((⟨#[97, 110, 100]⟩ : ByteArray)) ((⟨#[66, 66]⟩ : ByteArray)) ((⟨#[66]⟩ : ByteArray))), (S_a189.mk ((⟨#[111, 114]⟩ : ByteArray)) ((⟨#[66, 66]⟩ : ByteArray)) ((⟨#[66]⟩ : ByteArray))), (S_a189.mk ((⟨#[110, 111, 116]⟩ : ByteArray)) ((⟨#[66]⟩ : ByteArray)) ((⟨#[66]⟩ : ByteArray))), (S_a189.mk ((⟨#[105, 102, 105, 110, 116]⟩ : ByteArray)) ((⟨#[66, 73, 73]⟩ : ByteArray)) ((⟨#[73]⟩ : ByteArray))), (S_a189.mk ((⟨#[105, 102, 116, 101, 120, 116]⟩ : ByteArray)) ((⟨#[66, 84, 84]⟩ : ByteArray)) ((⟨#[84]⟩ : ByteArray))), (S_a189.mk ((⟨#[105, 102, 98, 105, 116, 115]⟩ : ByteArray)) ((⟨#[66, 86, 86]⟩ : ByteArray)) ((⟨#[86]⟩ : ByteArray)))] : List (S_a189))) else (bif (a0.toList == (⟨#[110, 117, 109, 98, 101, 114, 115]⟩ : ByteArray).toList) then (some ([(S_a189.mk ((⟨#[97, 100, 100]⟩ : ByteArray)) ((⟨#[73, 73]⟩ : ByteArray)) ((⟨#[73]⟩ : ByteArray))), (S_a189.mk ((⟨#[115, 117, 98]⟩ : ByteArray)) ((⟨#[73, 73]⟩ : ByteArray)) ((⟨#[73]⟩ : ByteArray))), (S_a189.mk ((⟨#[109, 117, 108]⟩ : ByteArray)) ((⟨#[73, 73]⟩ : ByteArray)) ((⟨#[73]⟩ : ByteArray))), (S_a189.mk ((⟨#[110, 101, 103]⟩ : ByteArray)) ((⟨#[73]⟩ : ByteArray)) ((⟨#[73]⟩ : ByteArray))), (S_a189.mk ((⟨#[109, 105, 110]⟩ : ByteArray)) ((⟨#[73, 73]⟩ : ByteArray)) ((⟨#[73]⟩ : ByteArray))), (S_a189.mk ((⟨#[109, 97, 120]⟩ : ByteArray)) ((⟨#[73, 73]⟩ : ByteArray)) ((⟨#[73]⟩ : ByteArray))), (S_a189.mk ((⟨#[101, 113, 105, 110, 116]⟩ : ByteArray)) ((⟨#[73, 73]⟩ : ByteArray)) ((⟨#[66]⟩ : ByteArray))), (S_a189.mk ((⟨#[108, 101, 115, 115]⟩ : ByteArray)) ((⟨#[73, 73]⟩ : ByteArray)) ((⟨#[66]⟩ : ByteArray)))] : List (S_a189))) else (bif (a0.toList == (⟨#[116, 101, 120, 116, 115]⟩ : ByteArray).toList) then (some ([(S_a189.mk ((⟨#[99, 111, 110, 99, 97, 116]⟩ : ByteArray)) ((⟨#[84, 84]⟩ : ByteArray)) ((⟨#[84]⟩ : ByteArray))), (S_a189.mk ((⟨#[115, 108, 105, 99, 101]⟩ : ByteArray)) ((⟨#[84, 73, 73]⟩ : ByteArray)) ((⟨#[84]⟩ : ByteArray))), (S_a189.mk ((⟨#[108, 101, 110]⟩ : ByteArray)) ((⟨#[84]⟩ : ByteArray)) ((⟨#[73]⟩ : ByteArray))), (S_a189.mk ((⟨#[117, 112, 112, 101, 114]⟩ : ByteArray)) ((⟨#[84]⟩ : ByteArray)) ((⟨#[84]⟩ : ByteArray))), (S_a189.mk ((⟨#[108, 111, 119, 101, 114]⟩ : ByteArray)) ((⟨#[84]⟩ : ByteArray)) ((⟨#[84]⟩ : ByteArray))), (S_a189.mk ((⟨#[116, 114, 105, 109]⟩ : ByteArray)) ((⟨#[84]⟩ : ByteArray)) ((⟨#[84]⟩ : ByteArray))), (S_a189.mk ((⟨#[102, 105, 110, 100]⟩ : ByteArray)) ((⟨#[84, 84]⟩ : ByteArray)) ((⟨#[73]⟩ : ByteArray))), (S_a189.mk ((⟨#[114, 101, 112, 108, 97, 99, 101]⟩ : ByteArray)) ((⟨#[84, 84, 84]⟩ : ByteArray)) ((⟨#[84]⟩ : ByteArray))), (S_a189.mk ((⟨#[119, 111, 114, 100]⟩ : ByteArray)) ((⟨#[84, 73]⟩ : ByteArray)) ((⟨#[84]⟩ : ByteArray))), (S_a189.mk ((⟨#[99, 104, 97, 114]⟩ : ByteArray)) ((⟨#[84, 73]⟩ : ByteArray)) ((⟨#[84]⟩ : ByteArray))), (S_a189.mk ((⟨#[114, 101, 112, 101, 97, 116]⟩ : ByteArray)) ((⟨#[84, 73]⟩ : ByteArray)) ((⟨#[84]⟩ : ByteArray))), (S_a189.mk ((⟨#[115, 104, 111, 119]⟩ : ByteArray)) ((⟨#[73]⟩ : ByteArray)) ((⟨#[84]⟩ : ByteArray))), (S_a189.mk ((⟨#[114, 101, 97, 100]⟩ : ByteArray)) ((⟨#[84]⟩ : ByteArray)) ((⟨#[73]⟩ : ByteArray))), (S_a189.mk ((⟨#[101, 113, 116, 101, 120, 116]⟩ : ByteArray)) ((⟨#[84, 84]⟩ : ByteArray)) ((⟨#[66]⟩ : ByteArray))), (S_a189.mk ((⟨#[115, 112, 108, 105, 116]⟩ : ByteArray)) ((⟨#[84, 84]⟩ : ByteArray)) ((⟨#[83]⟩ : ByteArray))), (S_a189.mk ((⟨#[106, 111, 105, 110]⟩ : ByteArray)) ((⟨#[83, 84]⟩ : ByteArray)) ((⟨#[84]⟩ : ByteArray))), (S_a189.mk ((⟨#[105, 116, 101, 109]⟩ : ByteArray)) ((⟨#[83, 73]⟩ : ByteArray)) ((⟨#[84]⟩ : ByteArray))), (S_a189.mk ((⟨#[115, 111, 114, 116, 116, 101, 120, 116, 115]⟩ : ByteArray)) ((⟨#[83]⟩ : ByteArray)) ((⟨#[83]⟩ : ByteArray))), (S_a189.mk ((⟨#[114, 101, 118, 116, 101, 120, 116, 115]⟩ : ByteArray)) ((⟨#[83]⟩ : ByteArray)) ((⟨#[83]⟩ : ByteArray)))] : List (S_a189))) else (bif (a0.toList == (⟨#[112, 97, 116, 116, 101, 114, 110, 115]⟩ : ByteArray).toList) then (some ([(S_a189.mk ((⟨#[115, 116, 97, 114, 116]⟩ : ByteArray)) ((⟨#[84, 80, 73]⟩ : ByteArray)) ((⟨#[73]⟩ : ByteArray))), (S_a189.mk ((⟨#[101, 110, 100]⟩ : ByteArray)) ((⟨#[84, 80, 73]⟩ : ByteArray)) ((⟨#[73]⟩ : ByteArray))), (S_a189.mk ((⟨#[101, 120, 116, 114, 97, 99, 116]⟩ : ByteArray)) ((⟨#[84, 80, 73]⟩ : ByteArray)) ((⟨#[84]⟩ : ByteArray))), (S_a189.mk ((⟨#[101, 114, 97, 115, 101]⟩ : ByteArray)) ((⟨#[84, 80]⟩ : ByteArray)) ((⟨#[84]⟩ : ByteArray))), (S_a189.mk ((⟨#[111, 99, 99, 117, 114, 115]⟩ : ByteArray)) ((⟨#[84, 80]⟩ : ByteArray)) ((⟨#[73]⟩ : ByteArray))), (S_a189.mk ((⟨#[109, 97, 116, 99, 104, 101, 115]⟩ : ByteArray)) ((⟨#[84, 80]⟩ : ByteArray)) ((⟨#[66]⟩ : ByteArray))), (S_a189.mk ((⟨#[112, 108, 105, 116]⟩ : ByteArray)) ((⟨#[84]⟩ : ByteArray)) ((⟨#[80]⟩ : ByteArray))), (S_a189.mk ((⟨#[112, 99, 97, 116]⟩ : ByteArray)) ((⟨#[80, 80]⟩ : ByteArray)) ((⟨#[80]⟩ : ByteArray))), (S_a189.mk ((⟨#[112, 97, 108, 116]⟩ : ByteArray)) ((⟨#[80, 80]⟩ : ByteArray)) ((⟨#[80]⟩ : ByteArray))), (S_a189.mk ((⟨#[112, 115, 116, 97, 114]⟩ : ByteArray)) ((⟨#[80]⟩ : ByteArray)) ((⟨#[80]⟩ : ByteArray)))] : List (S_a189))) else (bif (a0.toList == (⟨#[108, 105, 115, 116, 115]⟩ : ByteArray).toList) then (some ([(S_a189.mk ((⟨#[104, 101, 97, 100]⟩ : ByteArray)) ((⟨#[76]⟩ : ByteArray)) ((⟨#[73]⟩ : ByteArray))), (S_a189.mk ((⟨#[108, 97, 115, 116]⟩ : ByteArray)) ((⟨#[76]⟩ : ByteArray)) ((⟨#[73]⟩ : ByteArray))), (S_a189.mk ((⟨#[116, 97, 107, 101]⟩ : ByteArray)) ((⟨#[76, 73]⟩ : ByteArray)) ((⟨#[76]⟩ : ByteArray))), (S_a189.mk ((⟨#[100, 114, 111, 112]⟩ : ByteArray)) ((⟨#[76, 73]⟩ : ByteArray)) ((⟨#[76]⟩ : ByteArray))), (S_a189.mk ((⟨#[114, 101, 118, 101, 114, 115, 101]⟩ : ByteArray)) ((⟨#[76]⟩ : ByteArray)) ((⟨#[76]⟩ : ByteArray))), (S_a189.mk ((⟨#[115, 111, 114, 116]⟩ : ByteArray)) ((⟨#[76]⟩ : ByteArray)) ((⟨#[76]⟩ : ByteArray))), (S_a189.mk ((⟨#[117, 110, 105, 113, 117, 101]⟩ : ByteArray)) ((⟨#[76]⟩ : ByteArray)) ((⟨#[76]⟩ : ByteArray))), (S_a189.mk ((⟨#[115, 117, 109]⟩ : ByteArray)) ((⟨#[76]⟩ : ByteArray)) ((⟨#[73]⟩ : ByteArray))), (S_a189.mk ((⟨#[115, 104, 105, 102, 116]⟩ : ByteArray)) ((⟨#[76, 73]⟩ : ByteArray)) ((⟨#[76]⟩ : ByteArray))), (S_a189.mk ((⟨#[115, 99, 97, 108, 101]⟩ : ByteArray)) ((⟨#[76, 73]⟩ : ByteArray)) ((⟨#[76]⟩ : ByteArray))), (S_a189.mk ((⟨#[97, 98, 111, 118, 101]⟩ : ByteArray)) ((⟨#[76, 73]⟩ : ByteArray)) ((⟨#[76]⟩ : ByteArray))), (S_a189.mk ((⟨#[101, 118, 101, 110]⟩ : ByteArray)) ((⟨#[76]⟩ : ByteArray)) ((⟨#[76]⟩ : ByteArray))), (S_a189.mk ((⟨#[122, 105, 112]⟩ : ByteArray)) ((⟨#[76, 76]⟩ : ByteArray)) ((⟨#[76]⟩ : ByteArray))), (S_a189.mk ((⟨#[97, 112, 112, 101, 110, 100]⟩ : ByteArray)) ((⟨#[76, 76]⟩ : ByteArray)) ((⟨#[76]⟩ : ByteArray))), (S_a189.mk ((⟨#[101, 108, 101, 109, 101, 110, 116]⟩ : ByteArray)) ((⟨#[76, 73]⟩ : ByteArray)) ((⟨#[73]⟩ : ByteArray))), (S_a189.mk ((⟨#[99, 111, 117, 110, 116]⟩ : ByteArray)) ((⟨#[76, 73]⟩ : ByteArray)) ((⟨#[73]⟩ : ByteArray))), (S_a189.mk ((⟨#[109, 97, 120, 105, 109, 117, 109]⟩ : ByteArray)) ((⟨#[76]⟩ : ByteArray)) ((⟨#[73]⟩ : ByteArray))), (S_a189.mk ((⟨#[109, 105, 110, 105, 109, 117, 109]⟩ : ByteArray)) ((⟨#[76]⟩ : ByteArray)) ((⟨#[73]⟩ : ByteArray))), (S_a189.mk ((⟨#[114, 117, 110, 110, 105, 110, 103]⟩ : ByteArray)) ((⟨#[76]⟩ : ByteArray)) ((⟨#[76]⟩ : ByteArray))), (S_a189.mk ((⟨#[108, 101, 110, 103, 116, 104]⟩ : ByteArray)) ((⟨#[76]⟩ : ByteArray)) ((⟨#[73]⟩ : ByteArray)))] : List (S_a189))) else (bif (a0.toList == (⟨#[116, 97, 98, 108, 101, 115]⟩ : ByteArray).toList) then (some ([(S_a189.mk ((⟨#[116, 114, 97, 110, 115, 112, 111, 115, 101]⟩ : ByteArray)) ((⟨#[77]⟩ : ByteArray)) ((⟨#[77]⟩ : ByteArray))), (S_a189.mk ((⟨#[114, 111, 119]⟩ : ByteArray)) ((⟨#[77, 73]⟩ : ByteArray)) ((⟨#[83]⟩ : ByteArray))), (S_a189.mk ((⟨#[99, 111, 108, 117, 109, 110]⟩ : ByteArray)) ((⟨#[77, 73]⟩ : ByteArray)) ((⟨#[83]⟩ : ByteArray))), (S_a189.mk ((⟨#[100, 114, 111, 112, 114, 111, 119]⟩ : ByteArray)) ((⟨#[77, 73]⟩ : ByteArray)) ((⟨#[77]⟩ : ByteArray))), (S_a189.mk ((⟨#[100, 114, 111, 112, 99, 111, 108, 117, 109, 110]⟩ : ByteArray)) ((⟨#[77, 73]⟩ : ByteArray)) ((⟨#[77]⟩ : ByteArray))), (S_a189.mk ((⟨#[115, 111, 114, 116, 116, 97, 98, 108, 101]⟩ : ByteArray)) ((⟨#[77, 73]⟩ : ByteArray)) ((⟨#[77]⟩ : ByteArray))), (S_a189.mk ((⟨#[102, 105, 108, 108]⟩ : ByteArray)) ((⟨#[77]⟩ : ByteArray)) ((⟨#[77]⟩ : ByteArray))), (S_a189.mk ((⟨#[117, 110, 112, 105, 118, 111, 116]⟩ : ByteArray)) ((⟨#[77, 73]⟩ : ByteArray)) ((⟨#[77]⟩ : ByteArray))), (S_a189.mk ((⟨#[112, 105, 118, 111, 116]⟩ : ByteArray)) ((⟨#[77]⟩ : ByteArray)) ((⟨#[77]⟩ : ByteArray))), (S_a189.mk ((⟨#[99, 101, 108, 108]⟩ : ByteArray)) ((⟨#[77, 73, 73]⟩ : ByteArray)) ((⟨#[84]⟩ : ByteArray))), (S_a189.mk ((⟨#[115, 116, 97, 99, 107]⟩ : ByteArray)) ((⟨#[77, 77]⟩ : ByteArray)) ((⟨#[77]⟩ : ByteArray))), (S_a189.mk ((⟨#[98, 101, 115, 105, 100, 101]⟩ : ByteArray)) ((⟨#[77, 77]⟩ : ByteArray)) ((⟨#[77]⟩ : ByteArray))), (S_a189.mk ((⟨#[115, 112, 108, 105, 116, 99, 111, 108, 117, 109, 110]⟩ : ByteArray)) ((⟨#[77, 73, 84]⟩ : ByteArray)) ((⟨#[77]⟩ : ByteArray)))] : List (S_a189))) else (some ([(S_a189.mk ((⟨#[98, 97, 110, 100]⟩ : ByteArray)) ((⟨#[86, 86]⟩ : ByteArray)) ((⟨#[86]⟩ : ByteArray))), (S_a189.mk ((⟨#[98, 111, 114]⟩ : ByteArray)) ((⟨#[86, 86]⟩ : ByteArray)) ((⟨#[86]⟩ : ByteArray))), (S_a189.mk ((⟨#[98, 120, 111, 114]⟩ : ByteArray)) ((⟨#[86, 86]⟩ : ByteArray)) ((⟨#[86]⟩ : ByteArray))), (S_a189.mk ((⟨#[98, 110, 111, 116]⟩ : ByteArray)) ((⟨#[86]⟩ : ByteArray)) ((⟨#[86]⟩ : ByteArray))), (S_a189.mk ((⟨#[98, 97, 100, 100]⟩ : ByteArray)) ((⟨#[86, 86]⟩ : ByteArray)) ((⟨#[86]⟩ : ByteArray))), (S_a189.mk ((⟨#[98, 115, 117, 98]⟩ : ByteArray)) ((⟨#[86, 86]⟩ : ByteArray)) ((⟨#[86]⟩ : ByteArray))), (S_a189.mk ((⟨#[98, 109, 117, 108]⟩ : ByteArray)) ((⟨#[86, 86]⟩ : ByteArray)) ((⟨#[86]⟩ : ByteArray))), (S_a189.mk ((⟨#[98, 108, 101, 102, 116]⟩ : ByteArray)) ((⟨#[86, 73]⟩ : ByteArray)) ((⟨#[86]⟩ : ByteArray))), (S_a189.mk ((⟨#[98, 114, 105, 103, 104, 116]⟩ : ByteArray)) ((⟨#[86, 73]⟩ : ByteArray)) ((⟨#[86]⟩ : ByteArray))), (S_a189.mk ((⟨#[98, 97, 114, 105, 116, 104]⟩ : ByteArray)) ((⟨#[86, 73]⟩ : ByteArray)) ((⟨#[86]⟩ : ByteArray))), (S_a189.mk ((⟨#[111, 110, 101, 115]⟩ : ByteArray)) ((⟨#[86]⟩ : ByteArray)) ((⟨#[73]⟩ : ByteArray))), (S_a189.mk ((⟨#[101, 113, 98, 105, 116, 115]⟩ : ByteArray)) ((⟨#[86, 86]⟩ : ByteArray)) ((⟨#[66]⟩ : ByteArray)))] : List (S_a189)))))))))
theorem synthesisref09_catalog_ok (a0 : ByteArray) (r : List S_a189) (h : synthesisref09_catalog a0 = some r) : PCall Try.prog 195 [eS a0] ((eL 3 eS_a189) (r)) := by
 unfold synthesisref09_catalog at h
 refine pcall_intro (T := TT) tt_ok [.one (.sl 3)] Try.func195 rfl (by kernel_rfl) (by kernel_rfl) ?_
 refine awp_le (st' := ⟨111, [(0, (fS (a0)))], [], []⟩) (le_ck (by kernel_rfl)) ?_
 refine awp_seq ?_
 refine awp_region ?_
 refine l_rk 1 tt_ok ⟨111, [(0, (fS (a0)))], [], []⟩ (by kernel_rfl) ?_
 refine l_nil ?_
 refine awp_seq ?_
 refine awp_seq ?_
 refine awp_region ?_
 refine l_rk 1 tt_ok ⟨111, [(3, (fS (a0)))], [], []⟩ (by kernel_rfl) ?_
 refine l_nil ?_
 refine awp_block ?_
 refine awp_seq ?_
 refine awp_region ?_
 refine l_rk 2 tt_ok ⟨111, [(3, (fS (a0))), (4, (fB ((a0.toList == (⟨#[108, 111, 103, 105, 99]⟩ : ByteArray).toList))))], [], []⟩ (by kernel_rfl) ?_
 refine l_nil ?_
 rcases cond_some h with ⟨hb, h⟩ | ⟨hb, h⟩
 ·refine awp_cond_t (b := (a0.toList == (⟨#[108, 111, 103, 105, 99]⟩ : ByteArray).toList)) (by kernel_rfl) hb ?_
  refine awp_seq ?_
  refine awp_region ?_
  refine l_rk 8 tt_ok ⟨111, [(2, (.lim 3 (List.length (([(S_a189.mk ((⟨#[97, 110, 100]⟩ : ByteArray)) ((⟨#[66, 66]⟩ : ByteArray)) ((⟨#[66]⟩ : ByteArray))), (S_a189.mk ((⟨#[111, 114]⟩ : ByteArray)) ((⟨#[66, 66]⟩ : ByteArray)) ((⟨#[66]⟩ : ByteArray))), (S_a189.mk ((⟨#[110, 111, 116]⟩ : ByteArray)) ((⟨#[66]⟩ : ByteArray)) ((⟨#[66]⟩ : ByteArray))), (S_a189.mk ((⟨#[105, 102, 105, 110, 116]⟩ : ByteArray)) ((⟨#[66, 73, 73]⟩ : ByteArray)) ((⟨#[73]⟩ : ByteArray))), (S_a189.mk ((⟨#[105, 102, 116, 101, 120, 116]⟩ : ByteArray)) ((⟨#[66, 84, 84]⟩ : ByteArray)) ((⟨#[84]⟩ : ByteArray))), (S_a189.mk ((⟨#[105, 102, 98, 105, 116, 115]⟩ : ByteArray)) ((⟨#[66, 86, 86]⟩ : ByteArray)) ((⟨#[86]⟩ : ByteArray)))] : List (S_a189)))) (List.map eS_a189 (([(S_a189.mk ((⟨#[97, 110, 100]⟩ : ByteArray)) ((⟨#[66, 66]⟩ : ByteArray)) ((⟨#[66]⟩ : ByteArray))), (S_a189.mk ((⟨#[111, 114]⟩ : ByteArray)) ((⟨#[66, 66]⟩ : ByteArray)) ((⟨#[66]⟩ : ByteArray))), (S_a189.mk ((⟨#[110, 111, 116]⟩ : ByteArray)) ((⟨#[66]⟩ : ByteArray)) ((⟨#[66]⟩ : ByteArray))), (S_a189.mk ((⟨#[105, 102, 105, 110, 116]⟩ : ByteArray)) ((⟨#[66, 73, 73]⟩ : ByteArray)) ((⟨#[73]⟩ : ByteArray))), (S_a189.mk ((⟨#[105, 102, 116, 101, 120, 116]⟩ : ByteArray)) ((⟨#[66, 84, 84]⟩ : ByteArray)) ((⟨#[84]⟩ : ByteArray))), (S_a189.mk ((⟨#[105, 102, 98, 105, 116, 115]⟩ : ByteArray)) ((⟨#[66, 86, 86]⟩ : ByteArray)) ((⟨#[86]⟩ : ByteArray)))] : List (S_a189))))))], [], []⟩ (by kernel_rfl) ?_
  refine l_nil ?_
  refine awp_ret ?_
  obtain rfl := Option.some.inj h
  exact (show retX _ _ _ _ = some _ from by kernel_rfl)
 ·refine awp_cond_f (b := (a0.toList == (⟨#[108, 111, 103, 105, 99]⟩ : ByteArray).toList)) (by kernel_rfl) hb ?_
  refine awp_seq ?_
  refine awp_region ?_
  refine l_rk 2 tt_ok ⟨111, [(3, (fS (a0))), (13, (fB ((a0.toList == (⟨#[110, 117, 109, 98, 101, 114, 115]⟩ : ByteArray).toList))))], [], []⟩ (by kernel_rfl) ?_
  refine l_nil ?_
  rcases cond_some h with ⟨hb, h⟩ | ⟨hb, h⟩
  ·refine awp_cond_t (b := (a0.toList == (⟨#[110, 117, 109, 98, 101, 114, 115]⟩ : ByteArray).toList)) (by kernel_rfl) hb ?_
   refine awp_seq ?_
   refine awp_region ?_
   refine l_rk 10 tt_ok ⟨111, [(2, (.lim 3 (List.length (([(S_a189.mk ((⟨#[97, 100, 100]⟩ : ByteArray)) ((⟨#[73, 73]⟩ : ByteArray)) ((⟨#[73]⟩ : ByteArray))), (S_a189.mk ((⟨#[115, 117, 98]⟩ : ByteArray)) ((⟨#[73, 73]⟩ : ByteArray)) ((⟨#[73]⟩ : ByteArray))), (S_a189.mk ((⟨#[109, 117, 108]⟩ : ByteArray)) ((⟨#[73, 73]⟩ : ByteArray)) ((⟨#[73]⟩ : ByteArray))), (S_a189.mk ((⟨#[110, 101, 103]⟩ : ByteArray)) ((⟨#[73]⟩ : ByteArray)) ((⟨#[73]⟩ : ByteArray))), (S_a189.mk ((⟨#[109, 105, 110]⟩ : ByteArray)) ((⟨#[73, 73]⟩ : ByteArray)) ((⟨#[73]⟩ : ByteArray))), (S_a189.mk ((⟨#[109, 97, 120]⟩ : ByteArray)) ((⟨#[73, 73]⟩ : ByteArray)) ((⟨#[73]⟩ : ByteArray))), (S_a189.mk ((⟨#[101, 113, 105, 110, 116]⟩ : ByteArray)) ((⟨#[73, 73]⟩ : ByteArray)) ((⟨#[66]⟩ : ByteArray))), (S_a189.mk ((⟨#[108, 101, 115, 115]⟩ : ByteArray)) ((⟨#[73, 73]⟩ : ByteArray)) ((⟨#[66]⟩ : ByteArray)))] : List (S_a189)))) (List.map eS_a189 (([(S_a189.mk ((⟨#[97, 100, 100]⟩ : ByteArray)) ((⟨#[73, 73]⟩ : ByteArray)) ((⟨#[73]⟩ : ByteArray))), (S_a189.mk ((⟨#[115, 117, 98]⟩ : ByteArray)) ((⟨#[73, 73]⟩ : ByteArray)) ((⟨#[73]⟩ : ByteArray))), (S_a189.mk ((⟨#[109, 117, 108]⟩ : ByteArray)) ((⟨#[73, 73]⟩ : ByteArray)) ((⟨#[73]⟩ : ByteArray))), (S_a189.mk ((⟨#[110, 101, 103]⟩ : ByteArray)) ((⟨#[73]⟩ : ByteArray)) ((⟨#[73]⟩ : ByteArray))), (S_a189.mk ((⟨#[109, 105, 110]⟩ : ByteArray)) ((⟨#[73, 73]⟩ : ByteArray)) ((⟨#[73]⟩ : ByteArray))), (S_a189.mk ((⟨#[109, 97, 120]⟩ : ByteArray)) ((⟨#[73, 73]⟩ : ByteArray)) ((⟨#[73]⟩ : ByteArray))), (S_a189.mk ((⟨#[101, 113, 105, 110, 116]⟩ : ByteArray)) ((⟨#[73, 73]⟩ : ByteArray)) ((⟨#[66]⟩ : ByteArray))), (S_a189.mk ((⟨#[108, 101, 115, 115]⟩ : ByteArray)) ((⟨#[73, 73]⟩ : ByteArray)) ((⟨#[66]⟩ : ByteArray)))] : List (S_a189))))))], [], []⟩ (by kernel_rfl) ?_
   refine l_nil ?_
   refine awp_ret ?_
   obtain rfl := Option.some.inj h
   exact (show retX _ _ _ _ = some _ from by kernel_rfl)
  ·refine awp_cond_f (b := (a0.toList == (⟨#[110, 117, 109, 98, 101, 114, 115]⟩ : ByteArray).toList)) (by kernel_rfl) hb ?_
   refine awp_seq ?_
   refine awp_region ?_
   refine l_rk 2 tt_ok ⟨111, [(3, (fS (a0))), (24, (fB ((a0.toList == (⟨#[116, 101, 120, 116, 115]⟩ : ByteArray).toList))))], [], []⟩ (by kernel_rfl) ?_
   refine l_nil ?_
   rcases cond_some h with ⟨hb, h⟩ | ⟨hb, h⟩
   ·refine awp_cond_t (b := (a0.toList == (⟨#[116, 101, 120, 116, 115]⟩ : ByteArray).toList)) (by kernel_rfl) hb ?_
    refine awp_seq ?_
    refine awp_region ?_
    refine l_rk 21 tt_ok ⟨111, [(2, (.lim 3 (List.length (([(S_a189.mk ((⟨#[99, 111, 110, 99, 97, 116]⟩ : ByteArray)) ((⟨#[84, 84]⟩ : ByteArray)) ((⟨#[84]⟩ : ByteArray))), (S_a189.mk ((⟨#[115, 108, 105, 99, 101]⟩ : ByteArray)) ((⟨#[84, 73, 73]⟩ : ByteArray)) ((⟨#[84]⟩ : ByteArray))), (S_a189.mk ((⟨#[108, 101, 110]⟩ : ByteArray)) ((⟨#[84]⟩ : ByteArray)) ((⟨#[73]⟩ : ByteArray))), (S_a189.mk ((⟨#[117, 112, 112, 101, 114]⟩ : ByteArray)) ((⟨#[84]⟩ : ByteArray)) ((⟨#[84]⟩ : ByteArray))), (S_a189.mk ((⟨#[108, 111, 119, 101, 114]⟩ : ByteArray)) ((⟨#[84]⟩ : ByteArray)) ((⟨#[84]⟩ : ByteArray))), (S_a189.mk ((⟨#[116, 114, 105, 109]⟩ : ByteArray)) ((⟨#[84]⟩ : ByteArray)) ((⟨#[84]⟩ : ByteArray))), (S_a189.mk ((⟨#[102, 105, 110, 100]⟩ : ByteArray)) ((⟨#[84, 84]⟩ : ByteArray)) ((⟨#[73]⟩ : ByteArray))), (S_a189.mk ((⟨#[114, 101, 112, 108, 97, 99, 101]⟩ : ByteArray)) ((⟨#[84, 84, 84]⟩ : ByteArray)) ((⟨#[84]⟩ : ByteArray))), (S_a189.mk ((⟨#[119, 111, 114, 100]⟩ : ByteArray)) ((⟨#[84, 73]⟩ : ByteArray)) ((⟨#[84]⟩ : ByteArray))), (S_a189.mk ((⟨#[99, 104, 97, 114]⟩ : ByteArray)) ((⟨#[84, 73]⟩ : ByteArray)) ((⟨#[84]⟩ : ByteArray))), (S_a189.mk ((⟨#[114, 101, 112, 101, 97, 116]⟩ : ByteArray)) ((⟨#[84, 73]⟩ : ByteArray)) ((⟨#[84]⟩ : ByteArray))), (S_a189.mk ((⟨#[115, 104, 111, 119]⟩ : ByteArray)) ((⟨#[73]⟩ : ByteArray)) ((⟨#[84]⟩ : ByteArray))), (S_a189.mk ((⟨#[114, 101, 97, 100]⟩ : ByteArray)) ((⟨#[84]⟩ : ByteArray)) ((⟨#[73]⟩ : ByteArray))), (S_a189.mk ((⟨#[101, 113, 116, 101, 120, 116]⟩ : ByteArray)) ((⟨#[84, 84]⟩ : ByteArray)) ((⟨#[66]⟩ : ByteArray))), (S_a189.mk ((⟨#[115, 112, 108, 105, 116]⟩ : ByteArray)) ((⟨#[84, 84]⟩ : ByteArray)) ((⟨#[83]⟩ : ByteArray))), (S_a189.mk ((⟨#[106, 111, 105, 110]⟩ : ByteArray)) ((⟨#[83, 84]⟩ : ByteArray)) ((⟨#[84]⟩ : ByteArray))), (S_a189.mk ((⟨#[105, 116, 101, 109]⟩ : ByteArray)) ((⟨#[83, 73]⟩ : ByteArray)) ((⟨#[84]⟩ : ByteArray))), (S_a189.mk ((⟨#[115, 111, 114, 116, 116, 101, 120, 116, 115]⟩ : ByteArray)) ((⟨#[83]⟩ : ByteArray)) ((⟨#[83]⟩ : ByteArray))), (S_a189.mk ((⟨#[114, 101, 118, 116, 101, 120, 116, 115]⟩ : ByteArray)) ((⟨#[83]⟩ : ByteArray)) ((⟨#[83]⟩ : ByteArray)))] : List (S_a189)))) (List.map eS_a189 (([(S_a189.mk ((⟨#[99, 111, 110, 99, 97, 116]⟩ : ByteArray)) ((⟨#[84, 84]⟩ : ByteArray)) ((⟨#[84]⟩ : ByteArray))), (S_a189.mk ((⟨#[115, 108, 105, 99, 101]⟩ : ByteArray)) ((⟨#[84, 73, 73]⟩ : ByteArray)) ((⟨#[84]⟩ : ByteArray))), (S_a189.mk ((⟨#[108, 101, 110]⟩ : ByteArray)) ((⟨#[84]⟩ : ByteArray)) ((⟨#[73]⟩ : ByteArray))), (S_a189.mk ((⟨#[117, 112, 112, 101, 114]⟩ : ByteArray)) ((⟨#[84]⟩ : ByteArray)) ((⟨#[84]⟩ : ByteArray))), (S_a189.mk ((⟨#[108, 111, 119, 101, 114]⟩ : ByteArray)) ((⟨#[84]⟩ : ByteArray)) ((⟨#[84]⟩ : ByteArray))), (S_a189.mk ((⟨#[116, 114, 105, 109]⟩ : ByteArray)) ((⟨#[84]⟩ : ByteArray)) ((⟨#[84]⟩ : ByteArray))), (S_a189.mk ((⟨#[102, 105, 110, 100]⟩ : ByteArray)) ((⟨#[84, 84]⟩ : ByteArray)) ((⟨#[73]⟩ : ByteArray))), (S_a189.mk ((⟨#[114, 101, 112, 108, 97, 99, 101]⟩ : ByteArray)) ((⟨#[84, 84, 84]⟩ : ByteArray)) ((⟨#[84]⟩ : ByteArray))), (S_a189.mk ((⟨#[119, 111, 114, 100]⟩ : ByteArray)) ((⟨#[84, 73]⟩ : ByteArray)) ((⟨#[84]⟩ : ByteArray))), (S_a189.mk ((⟨#[99, 104, 97, 114]⟩ : ByteArray)) ((⟨#[84, 73]⟩ : ByteArray)) ((⟨#[84]⟩ : ByteArray))), (S_a189.mk ((⟨#[114, 101, 112, 101, 97, 116]⟩ : ByteArray)) ((⟨#[84, 73]⟩ : ByteArray)) ((⟨#[84]⟩ : ByteArray))), (S_a189.mk ((⟨#[115, 104, 111, 119]⟩ : ByteArray)) ((⟨#[73]⟩ : ByteArray)) ((⟨#[84]⟩ : ByteArray))), (S_a189.mk ((⟨#[114, 101, 97, 100]⟩ : ByteArray)) ((⟨#[84]⟩ : ByteArray)) ((⟨#[73]⟩ : ByteArray))), (S_a189.mk ((⟨#[101, 113, 116, 101, 120, 116]⟩ : ByteArray)) ((⟨#[84, 84]⟩ : ByteArray)) ((⟨#[66]⟩ : ByteArray))), (S_a189.mk ((⟨#[115, 112, 108, 105, 116]⟩ : ByteArray)) ((⟨#[84, 84]⟩ : ByteArray)) ((⟨#[83]⟩ : ByteArray))), (S_a189.mk ((⟨#[106, 111, 105, 110]⟩ : ByteArray)) ((⟨#[83, 84]⟩ : ByteArray)) ((⟨#[84]⟩ : ByteArray))), (S_a189.mk ((⟨#[105, 116, 101, 109]⟩ : ByteArray)) ((⟨#[83, 73]⟩ : ByteArray)) ((⟨#[84]⟩ : ByteArray))), (S_a189.mk ((⟨#[115, 111, 114, 116, 116, 101, 120, 116, 115]⟩ : ByteArray)) ((⟨#[83]⟩ : ByteArray)) ((⟨#[83]⟩ : ByteArray))), (S_a189.mk ((⟨#[114, 101, 118, 116, 101, 120, 116, 115]⟩ : ByteArray)) ((⟨#[83]⟩ : ByteArray)) ((⟨#[83]⟩ : ByteArray)))] : List (S_a189))))))], [], []⟩ (by kernel_rfl) ?_
    refine l_nil ?_
    refine awp_ret ?_
    obtain rfl := Option.some.inj h
    exact (show retX _ _ _ _ = some _ from by kernel_rfl)
   ·refine awp_cond_f (b := (a0.toList == (⟨#[116, 101, 120, 116, 115]⟩ : ByteArray).toList)) (by kernel_rfl) hb ?_
    refine awp_seq ?_
    refine awp_region ?_
    refine l_rk 2 tt_ok ⟨111, [(3, (fS (a0))), (46, (fB ((a0.toList == (⟨#[112, 97, 116, 116, 101, 114, 110, 115]⟩ : ByteArray).toList))))], [], []⟩ (by kernel_rfl) ?_
    refine l_nil ?_
    rcases cond_some h with ⟨hb, h⟩ | ⟨hb, h⟩
    ·refine awp_cond_t (b := (a0.toList == (⟨#[112, 97, 116, 116, 101, 114, 110, 115]⟩ : ByteArray).toList)) (by kernel_rfl) hb ?_
     refine awp_seq ?_
     refine awp_region ?_
     refine l_rk 12 tt_ok ⟨111, [(2, (.lim 3 (List.length (([(S_a189.mk ((⟨#[115, 116, 97, 114, 116]⟩ : ByteArray)) ((⟨#[84, 80, 73]⟩ : ByteArray)) ((⟨#[73]⟩ : ByteArray))), (S_a189.mk ((⟨#[101, 110, 100]⟩ : ByteArray)) ((⟨#[84, 80, 73]⟩ : ByteArray)) ((⟨#[73]⟩ : ByteArray))), (S_a189.mk ((⟨#[101, 120, 116, 114, 97, 99, 116]⟩ : ByteArray)) ((⟨#[84, 80, 73]⟩ : ByteArray)) ((⟨#[84]⟩ : ByteArray))), (S_a189.mk ((⟨#[101, 114, 97, 115, 101]⟩ : ByteArray)) ((⟨#[84, 80]⟩ : ByteArray)) ((⟨#[84]⟩ : ByteArray))), (S_a189.mk ((⟨#[111, 99, 99, 117, 114, 115]⟩ : ByteArray)) ((⟨#[84, 80]⟩ : ByteArray)) ((⟨#[73]⟩ : ByteArray))), (S_a189.mk ((⟨#[109, 97, 116, 99, 104, 101, 115]⟩ : ByteArray)) ((⟨#[84, 80]⟩ : ByteArray)) ((⟨#[66]⟩ : ByteArray))), (S_a189.mk ((⟨#[112, 108, 105, 116]⟩ : ByteArray)) ((⟨#[84]⟩ : ByteArray)) ((⟨#[80]⟩ : ByteArray))), (S_a189.mk ((⟨#[112, 99, 97, 116]⟩ : ByteArray)) ((⟨#[80, 80]⟩ : ByteArray)) ((⟨#[80]⟩ : ByteArray))), (S_a189.mk ((⟨#[112, 97, 108, 116]⟩ : ByteArray)) ((⟨#[80, 80]⟩ : ByteArray)) ((⟨#[80]⟩ : ByteArray))), (S_a189.mk ((⟨#[112, 115, 116, 97, 114]⟩ : ByteArray)) ((⟨#[80]⟩ : ByteArray)) ((⟨#[80]⟩ : ByteArray)))] : List (S_a189)))) (List.map eS_a189 (([(S_a189.mk ((⟨#[115, 116, 97, 114, 116]⟩ : ByteArray)) ((⟨#[84, 80, 73]⟩ : ByteArray)) ((⟨#[73]⟩ : ByteArray))), (S_a189.mk ((⟨#[101, 110, 100]⟩ : ByteArray)) ((⟨#[84, 80, 73]⟩ : ByteArray)) ((⟨#[73]⟩ : ByteArray))), (S_a189.mk ((⟨#[101, 120, 116, 114, 97, 99, 116]⟩ : ByteArray)) ((⟨#[84, 80, 73]⟩ : ByteArray)) ((⟨#[84]⟩ : ByteArray))), (S_a189.mk ((⟨#[101, 114, 97, 115, 101]⟩ : ByteArray)) ((⟨#[84, 80]⟩ : ByteArray)) ((⟨#[84]⟩ : ByteArray))), (S_a189.mk ((⟨#[111, 99, 99, 117, 114, 115]⟩ : ByteArray)) ((⟨#[84, 80]⟩ : ByteArray)) ((⟨#[73]⟩ : ByteArray))), (S_a189.mk ((⟨#[109, 97, 116, 99, 104, 101, 115]⟩ : ByteArray)) ((⟨#[84, 80]⟩ : ByteArray)) ((⟨#[66]⟩ : ByteArray))), (S_a189.mk ((⟨#[112, 108, 105, 116]⟩ : ByteArray)) ((⟨#[84]⟩ : ByteArray)) ((⟨#[80]⟩ : ByteArray))), (S_a189.mk ((⟨#[112, 99, 97, 116]⟩ : ByteArray)) ((⟨#[80, 80]⟩ : ByteArray)) ((⟨#[80]⟩ : ByteArray))), (S_a189.mk ((⟨#[112, 97, 108, 116]⟩ : ByteArray)) ((⟨#[80, 80]⟩ : ByteArray)) ((⟨#[80]⟩ : ByteArray))), (S_a189.mk ((⟨#[112, 115, 116, 97, 114]⟩ : ByteArray)) ((⟨#[80]⟩ : ByteArray)) ((⟨#[80]⟩ : ByteArray)))] : List (S_a189))))))], [], []⟩ (by kernel_rfl) ?_
     refine l_nil ?_
     refine awp_ret ?_
     obtain rfl := Option.some.inj h
     exact (show retX _ _ _ _ = some _ from by kernel_rfl)
    ·refine awp_cond_f (b := (a0.toList == (⟨#[112, 97, 116, 116, 101, 114, 110, 115]⟩ : ByteArray).toList)) (by kernel_rfl) hb ?_
     refine awp_seq ?_
     refine awp_region ?_
     refine l_rk 2 tt_ok ⟨111, [(3, (fS (a0))), (59, (fB ((a0.toList == (⟨#[108, 105, 115, 116, 115]⟩ : ByteArray).toList))))], [], []⟩ (by kernel_rfl) ?_
     refine l_nil ?_
     rcases cond_some h with ⟨hb, h⟩ | ⟨hb, h⟩
     ·refine awp_cond_t (b := (a0.toList == (⟨#[108, 105, 115, 116, 115]⟩ : ByteArray).toList)) (by kernel_rfl) hb ?_
      refine awp_seq ?_
      refine awp_region ?_
      refine l_rk 22 tt_ok ⟨111, [(2, (.lim 3 (List.length (([(S_a189.mk ((⟨#[104, 101, 97, 100]⟩ : ByteArray)) ((⟨#[76]⟩ : ByteArray)) ((⟨#[73]⟩ : ByteArray))), (S_a189.mk ((⟨#[108, 97, 115, 116]⟩ : ByteArray)) ((⟨#[76]⟩ : ByteArray)) ((⟨#[73]⟩ : ByteArray))), (S_a189.mk ((⟨#[116, 97, 107, 101]⟩ : ByteArray)) ((⟨#[76, 73]⟩ : ByteArray)) ((⟨#[76]⟩ : ByteArray))), (S_a189.mk ((⟨#[100, 114, 111, 112]⟩ : ByteArray)) ((⟨#[76, 73]⟩ : ByteArray)) ((⟨#[76]⟩ : ByteArray))), (S_a189.mk ((⟨#[114, 101, 118, 101, 114, 115, 101]⟩ : ByteArray)) ((⟨#[76]⟩ : ByteArray)) ((⟨#[76]⟩ : ByteArray))), (S_a189.mk ((⟨#[115, 111, 114, 116]⟩ : ByteArray)) ((⟨#[76]⟩ : ByteArray)) ((⟨#[76]⟩ : ByteArray))), (S_a189.mk ((⟨#[117, 110, 105, 113, 117, 101]⟩ : ByteArray)) ((⟨#[76]⟩ : ByteArray)) ((⟨#[76]⟩ : ByteArray))), (S_a189.mk ((⟨#[115, 117, 109]⟩ : ByteArray)) ((⟨#[76]⟩ : ByteArray)) ((⟨#[73]⟩ : ByteArray))), (S_a189.mk ((⟨#[115, 104, 105, 102, 116]⟩ : ByteArray)) ((⟨#[76, 73]⟩ : ByteArray)) ((⟨#[76]⟩ : ByteArray))), (S_a189.mk ((⟨#[115, 99, 97, 108, 101]⟩ : ByteArray)) ((⟨#[76, 73]⟩ : ByteArray)) ((⟨#[76]⟩ : ByteArray))), (S_a189.mk ((⟨#[97, 98, 111, 118, 101]⟩ : ByteArray)) ((⟨#[76, 73]⟩ : ByteArray)) ((⟨#[76]⟩ : ByteArray))), (S_a189.mk ((⟨#[101, 118, 101, 110]⟩ : ByteArray)) ((⟨#[76]⟩ : ByteArray)) ((⟨#[76]⟩ : ByteArray))), (S_a189.mk ((⟨#[122, 105, 112]⟩ : ByteArray)) ((⟨#[76, 76]⟩ : ByteArray)) ((⟨#[76]⟩ : ByteArray))), (S_a189.mk ((⟨#[97, 112, 112, 101, 110, 100]⟩ : ByteArray)) ((⟨#[76, 76]⟩ : ByteArray)) ((⟨#[76]⟩ : ByteArray))), (S_a189.mk ((⟨#[101, 108, 101, 109, 101, 110, 116]⟩ : ByteArray)) ((⟨#[76, 73]⟩ : ByteArray)) ((⟨#[73]⟩ : ByteArray))), (S_a189.mk ((⟨#[99, 111, 117, 110, 116]⟩ : ByteArray)) ((⟨#[76, 73]⟩ : ByteArray)) ((⟨#[73]⟩ : ByteArray))), (S_a189.mk ((⟨#[109, 97, 120, 105, 109, 117, 109]⟩ : ByteArray)) ((⟨#[76]⟩ : ByteArray)) ((⟨#[73]⟩ : ByteArray))), (S_a189.mk ((⟨#[109, 105, 110, 105, 109, 117, 109]⟩ : ByteArray)) ((⟨#[76]⟩ : ByteArray)) ((⟨#[73]⟩ : ByteArray))), (S_a189.mk ((⟨#[114, 117, 110, 110, 105, 110, 103]⟩ : ByteArray)) ((⟨#[76]⟩ : ByteArray)) ((⟨#[76]⟩ : ByteArray))), (S_a189.mk ((⟨#[108, 101, 110, 103, 116, 104]⟩ : ByteArray)) ((⟨#[76]⟩ : ByteArray)) ((⟨#[73]⟩ : ByteArray)))] : List (S_a189)))) (List.map eS_a189 (([(S_a189.mk ((⟨#[104, 101, 97, 100]⟩ : ByteArray)) ((⟨#[76]⟩ : ByteArray)) ((⟨#[73]⟩ : ByteArray))), (S_a189.mk ((⟨#[108, 97, 115, 116]⟩ : ByteArray)) ((⟨#[76]⟩ : ByteArray)) ((⟨#[73]⟩ : ByteArray))), (S_a189.mk ((⟨#[116, 97, 107, 101]⟩ : ByteArray)) ((⟨#[76, 73]⟩ : ByteArray)) ((⟨#[76]⟩ : ByteArray))), (S_a189.mk ((⟨#[100, 114, 111, 112]⟩ : ByteArray)) ((⟨#[76, 73]⟩ : ByteArray)) ((⟨#[76]⟩ : ByteArray))), (S_a189.mk ((⟨#[114, 101, 118, 101, 114, 115, 101]⟩ : ByteArray)) ((⟨#[76]⟩ : ByteArray)) ((⟨#[76]⟩ : ByteArray))), (S_a189.mk ((⟨#[115, 111, 114, 116]⟩ : ByteArray)) ((⟨#[76]⟩ : ByteArray)) ((⟨#[76]⟩ : ByteArray))), (S_a189.mk ((⟨#[117, 110, 105, 113, 117, 101]⟩ : ByteArray)) ((⟨#[76]⟩ : ByteArray)) ((⟨#[76]⟩ : ByteArray))), (S_a189.mk ((⟨#[115, 117, 109]⟩ : ByteArray)) ((⟨#[76]⟩ : ByteArray)) ((⟨#[73]⟩ : ByteArray))), (S_a189.mk ((⟨#[115, 104, 105, 102, 116]⟩ : ByteArray)) ((⟨#[76, 73]⟩ : ByteArray)) ((⟨#[76]⟩ : ByteArray))), (S_a189.mk ((⟨#[115, 99, 97, 108, 101]⟩ : ByteArray)) ((⟨#[76, 73]⟩ : ByteArray)) ((⟨#[76]⟩ : ByteArray))), (S_a189.mk ((⟨#[97, 98, 111, 118, 101]⟩ : ByteArray)) ((⟨#[76, 73]⟩ : ByteArray)) ((⟨#[76]⟩ : ByteArray))), (S_a189.mk ((⟨#[101, 118, 101, 110]⟩ : ByteArray)) ((⟨#[76]⟩ : ByteArray)) ((⟨#[76]⟩ : ByteArray))), (S_a189.mk ((⟨#[122, 105, 112]⟩ : ByteArray)) ((⟨#[76, 76]⟩ : ByteArray)) ((⟨#[76]⟩ : ByteArray))), (S_a189.mk ((⟨#[97, 112, 112, 101, 110, 100]⟩ : ByteArray)) ((⟨#[76, 76]⟩ : ByteArray)) ((⟨#[76]⟩ : ByteArray))), (S_a189.mk ((⟨#[101, 108, 101, 109, 101, 110, 116]⟩ : ByteArray)) ((⟨#[76, 73]⟩ : ByteArray)) ((⟨#[73]⟩ : ByteArray))), (S_a189.mk ((⟨#[99, 111, 117, 110, 116]⟩ : ByteArray)) ((⟨#[76, 73]⟩ : ByteArray)) ((⟨#[73]⟩ : ByteArray))), (S_a189.mk ((⟨#[109, 97, 120, 105, 109, 117, 109]⟩ : ByteArray)) ((⟨#[76]⟩ : ByteArray)) ((⟨#[73]⟩ : ByteArray))), (S_a189.mk ((⟨#[109, 105, 110, 105, 109, 117, 109]⟩ : ByteArray)) ((⟨#[76]⟩ : ByteArray)) ((⟨#[73]⟩ : ByteArray))), (S_a189.mk ((⟨#[114, 117, 110, 110, 105, 110, 103]⟩ : ByteArray)) ((⟨#[76]⟩ : ByteArray)) ((⟨#[76]⟩ : ByteArray))), (S_a189.mk ((⟨#[108, 101, 110, 103, 116, 104]⟩ : ByteArray)) ((⟨#[76]⟩ : ByteArray)) ((⟨#[73]⟩ : ByteArray)))] : List (S_a189))))))], [], []⟩ (by kernel_rfl) ?_
      refine l_nil ?_
      refine awp_ret ?_
      obtain rfl := Option.some.inj h
      exact (show retX _ _ _ _ = some _ from by kernel_rfl)
     ·refine awp_cond_f (b := (a0.toList == (⟨#[108, 105, 115, 116, 115]⟩ : ByteArray).toList)) (by kernel_rfl) hb ?_
      refine awp_seq ?_
      refine awp_region ?_
      refine l_rk 2 tt_ok ⟨111, [(82, (fB ((a0.toList == (⟨#[116, 97, 98, 108, 101, 115]⟩ : ByteArray).toList))))], [], []⟩ (by kernel_rfl) ?_
      refine l_nil ?_
      rcases cond_some h with ⟨hb, h⟩ | ⟨hb, h⟩
      ·refine awp_cond_t (b := (a0.toList == (⟨#[116, 97, 98, 108, 101, 115]⟩ : ByteArray).toList)) (by kernel_rfl) hb ?_
       refine awp_seq ?_
       refine awp_region ?_
       refine l_rk 15 tt_ok ⟨111, [(2, (.lim 3 (List.length (([(S_a189.mk ((⟨#[116, 114, 97, 110, 115, 112, 111, 115, 101]⟩ : ByteArray)) ((⟨#[77]⟩ : ByteArray)) ((⟨#[77]⟩ : ByteArray))), (S_a189.mk ((⟨#[114, 111, 119]⟩ : ByteArray)) ((⟨#[77, 73]⟩ : ByteArray)) ((⟨#[83]⟩ : ByteArray))), (S_a189.mk ((⟨#[99, 111, 108, 117, 109, 110]⟩ : ByteArray)) ((⟨#[77, 73]⟩ : ByteArray)) ((⟨#[83]⟩ : ByteArray))), (S_a189.mk ((⟨#[100, 114, 111, 112, 114, 111, 119]⟩ : ByteArray)) ((⟨#[77, 73]⟩ : ByteArray)) ((⟨#[77]⟩ : ByteArray))), (S_a189.mk ((⟨#[100, 114, 111, 112, 99, 111, 108, 117, 109, 110]⟩ : ByteArray)) ((⟨#[77, 73]⟩ : ByteArray)) ((⟨#[77]⟩ : ByteArray))), (S_a189.mk ((⟨#[115, 111, 114, 116, 116, 97, 98, 108, 101]⟩ : ByteArray)) ((⟨#[77, 73]⟩ : ByteArray)) ((⟨#[77]⟩ : ByteArray))), (S_a189.mk ((⟨#[102, 105, 108, 108]⟩ : ByteArray)) ((⟨#[77]⟩ : ByteArray)) ((⟨#[77]⟩ : ByteArray))), (S_a189.mk ((⟨#[117, 110, 112, 105, 118, 111, 116]⟩ : ByteArray)) ((⟨#[77, 73]⟩ : ByteArray)) ((⟨#[77]⟩ : ByteArray))), (S_a189.mk ((⟨#[112, 105, 118, 111, 116]⟩ : ByteArray)) ((⟨#[77]⟩ : ByteArray)) ((⟨#[77]⟩ : ByteArray))), (S_a189.mk ((⟨#[99, 101, 108, 108]⟩ : ByteArray)) ((⟨#[77, 73, 73]⟩ : ByteArray)) ((⟨#[84]⟩ : ByteArray))), (S_a189.mk ((⟨#[115, 116, 97, 99, 107]⟩ : ByteArray)) ((⟨#[77, 77]⟩ : ByteArray)) ((⟨#[77]⟩ : ByteArray))), (S_a189.mk ((⟨#[98, 101, 115, 105, 100, 101]⟩ : ByteArray)) ((⟨#[77, 77]⟩ : ByteArray)) ((⟨#[77]⟩ : ByteArray))), (S_a189.mk ((⟨#[115, 112, 108, 105, 116, 99, 111, 108, 117, 109, 110]⟩ : ByteArray)) ((⟨#[77, 73, 84]⟩ : ByteArray)) ((⟨#[77]⟩ : ByteArray)))] : List (S_a189)))) (List.map eS_a189 (([(S_a189.mk ((⟨#[116, 114, 97, 110, 115, 112, 111, 115, 101]⟩ : ByteArray)) ((⟨#[77]⟩ : ByteArray)) ((⟨#[77]⟩ : ByteArray))), (S_a189.mk ((⟨#[114, 111, 119]⟩ : ByteArray)) ((⟨#[77, 73]⟩ : ByteArray)) ((⟨#[83]⟩ : ByteArray))), (S_a189.mk ((⟨#[99, 111, 108, 117, 109, 110]⟩ : ByteArray)) ((⟨#[77, 73]⟩ : ByteArray)) ((⟨#[83]⟩ : ByteArray))), (S_a189.mk ((⟨#[100, 114, 111, 112, 114, 111, 119]⟩ : ByteArray)) ((⟨#[77, 73]⟩ : ByteArray)) ((⟨#[77]⟩ : ByteArray))), (S_a189.mk ((⟨#[100, 114, 111, 112, 99, 111, 108, 117, 109, 110]⟩ : ByteArray)) ((⟨#[77, 73]⟩ : ByteArray)) ((⟨#[77]⟩ : ByteArray))), (S_a189.mk ((⟨#[115, 111, 114, 116, 116, 97, 98, 108, 101]⟩ : ByteArray)) ((⟨#[77, 73]⟩ : ByteArray)) ((⟨#[77]⟩ : ByteArray))), (S_a189.mk ((⟨#[102, 105, 108, 108]⟩ : ByteArray)) ((⟨#[77]⟩ : ByteArray)) ((⟨#[77]⟩ : ByteArray))), (S_a189.mk ((⟨#[117, 110, 112, 105, 118, 111, 116]⟩ : ByteArray)) ((⟨#[77, 73]⟩ : ByteArray)) ((⟨#[77]⟩ : ByteArray))), (S_a189.mk ((⟨#[112, 105, 118, 111, 116]⟩ : ByteArray)) ((⟨#[77]⟩ : ByteArray)) ((⟨#[77]⟩ : ByteArray))), (S_a189.mk ((⟨#[99, 101, 108, 108]⟩ : ByteArray)) ((⟨#[77, 73, 73]⟩ : ByteArray)) ((⟨#[84]⟩ : ByteArray))), (S_a189.mk ((⟨#[115, 116, 97, 99, 107]⟩ : ByteArray)) ((⟨#[77, 77]⟩ : ByteArray)) ((⟨#[77]⟩ : ByteArray))), (S_a189.mk ((⟨#[98, 101, 115, 105, 100, 101]⟩ : ByteArray)) ((⟨#[77, 77]⟩ : ByteArray)) ((⟨#[77]⟩ : ByteArray))), (S_a189.mk ((⟨#[115, 112, 108, 105, 116, 99, 111, 108, 117, 109, 110]⟩ : ByteArray)) ((⟨#[77, 73, 84]⟩ : ByteArray)) ((⟨#[77]⟩ : ByteArray)))] : List (S_a189))))))], [], []⟩ (by kernel_rfl) ?_
       refine l_nil ?_
       refine awp_ret ?_
       obtain rfl := Option.some.inj h
       exact (show retX _ _ _ _ = some _ from by kernel_rfl)
      ·refine awp_cond_f (b := (a0.toList == (⟨#[116, 97, 98, 108, 101, 115]⟩ : ByteArray).toList)) (by kernel_rfl) hb ?_
       refine awp_skip ?_
       refine awp_seq ?_
       refine awp_region ?_
       refine l_rk 14 tt_ok ⟨111, [(2, (.lim 3 (List.length (([(S_a189.mk ((⟨#[98, 97, 110, 100]⟩ : ByteArray)) ((⟨#[86, 86]⟩ : ByteArray)) ((⟨#[86]⟩ : ByteArray))), (S_a189.mk ((⟨#[98, 111, 114]⟩ : ByteArray)) ((⟨#[86, 86]⟩ : ByteArray)) ((⟨#[86]⟩ : ByteArray))), (S_a189.mk ((⟨#[98, 120, 111, 114]⟩ : ByteArray)) ((⟨#[86, 86]⟩ : ByteArray)) ((⟨#[86]⟩ : ByteArray))), (S_a189.mk ((⟨#[98, 110, 111, 116]⟩ : ByteArray)) ((⟨#[86]⟩ : ByteArray)) ((⟨#[86]⟩ : ByteArray))), (S_a189.mk ((⟨#[98, 97, 100, 100]⟩ : ByteArray)) ((⟨#[86, 86]⟩ : ByteArray)) ((⟨#[86]⟩ : ByteArray))), (S_a189.mk ((⟨#[98, 115, 117, 98]⟩ : ByteArray)) ((⟨#[86, 86]⟩ : ByteArray)) ((⟨#[86]⟩ : ByteArray))), (S_a189.mk ((⟨#[98, 109, 117, 108]⟩ : ByteArray)) ((⟨#[86, 86]⟩ : ByteArray)) ((⟨#[86]⟩ : ByteArray))), (S_a189.mk ((⟨#[98, 108, 101, 102, 116]⟩ : ByteArray)) ((⟨#[86, 73]⟩ : ByteArray)) ((⟨#[86]⟩ : ByteArray))), (S_a189.mk ((⟨#[98, 114, 105, 103, 104, 116]⟩ : ByteArray)) ((⟨#[86, 73]⟩ : ByteArray)) ((⟨#[86]⟩ : ByteArray))), (S_a189.mk ((⟨#[98, 97, 114, 105, 116, 104]⟩ : ByteArray)) ((⟨#[86, 73]⟩ : ByteArray)) ((⟨#[86]⟩ : ByteArray))), (S_a189.mk ((⟨#[111, 110, 101, 115]⟩ : ByteArray)) ((⟨#[86]⟩ : ByteArray)) ((⟨#[73]⟩ : ByteArray))), (S_a189.mk ((⟨#[101, 113, 98, 105, 116, 115]⟩ : ByteArray)) ((⟨#[86, 86]⟩ : ByteArray)) ((⟨#[66]⟩ : ByteArray)))] : List (S_a189)))) (List.map eS_a189 (([(S_a189.mk ((⟨#[98, 97, 110, 100]⟩ : ByteArray)) ((⟨#[86, 86]⟩ : ByteArray)) ((⟨#[86]⟩ : ByteArray))), (S_a189.mk ((⟨#[98, 111, 114]⟩ : ByteArray)) ((⟨#[86, 86]⟩ : ByteArray)) ((⟨#[86]⟩ : ByteArray))), (S_a189.mk ((⟨#[98, 120, 111, 114]⟩ : ByteArray)) ((⟨#[86, 86]⟩ : ByteArray)) ((⟨#[86]⟩ : ByteArray))), (S_a189.mk ((⟨#[98, 110, 111, 116]⟩ : ByteArray)) ((⟨#[86]⟩ : ByteArray)) ((⟨#[86]⟩ : ByteArray))), (S_a189.mk ((⟨#[98, 97, 100, 100]⟩ : ByteArray)) ((⟨#[86, 86]⟩ : ByteArray)) ((⟨#[86]⟩ : ByteArray))), (S_a189.mk ((⟨#[98, 115, 117, 98]⟩ : ByteArray)) ((⟨#[86, 86]⟩ : ByteArray)) ((⟨#[86]⟩ : ByteArray))), (S_a189.mk ((⟨#[98, 109, 117, 108]⟩ : ByteArray)) ((⟨#[86, 86]⟩ : ByteArray)) ((⟨#[86]⟩ : ByteArray))), (S_a189.mk ((⟨#[98, 108, 101, 102, 116]⟩ : ByteArray)) ((⟨#[86, 73]⟩ : ByteArray)) ((⟨#[86]⟩ : ByteArray))), (S_a189.mk ((⟨#[98, 114, 105, 103, 104, 116]⟩ : ByteArray)) ((⟨#[86, 73]⟩ : ByteArray)) ((⟨#[86]⟩ : ByteArray))), (S_a189.mk ((⟨#[98, 97, 114, 105, 116, 104]⟩ : ByteArray)) ((⟨#[86, 73]⟩ : ByteArray)) ((⟨#[86]⟩ : ByteArray))), (S_a189.mk ((⟨#[111, 110, 101, 115]⟩ : ByteArray)) ((⟨#[86]⟩ : ByteArray)) ((⟨#[73]⟩ : ByteArray))), (S_a189.mk ((⟨#[101, 113, 98, 105, 116, 115]⟩ : ByteArray)) ((⟨#[86, 86]⟩ : ByteArray)) ((⟨#[66]⟩ : ByteArray)))] : List (S_a189))))))], [], []⟩ (by kernel_rfl) ?_
       refine l_nil ?_
       refine awp_ret ?_
       obtain rfl := Option.some.inj h
       exact (show retX _ _ _ _ = some _ from by kernel_rfl)

def synthesisref09_families  : Option (List ByteArray) := (some ([(⟨#[108, 111, 103, 105, 99]⟩ : ByteArray), (⟨#[110, 117, 109, 98, 101, 114, 115]⟩ : ByteArray), (⟨#[116, 101, 120, 116, 115]⟩ : ByteArray), (⟨#[112, 97, 116, 116, 101, 114, 110, 115]⟩ : ByteArray), (⟨#[108, 105, 115, 116, 115]⟩ : ByteArray), (⟨#[116, 97, 98, 108, 101, 115]⟩ : ByteArray), (⟨#[98, 105, 116, 115]⟩ : ByteArray)] : List (ByteArray)))
theorem synthesisref09_families_ok  (r : List ByteArray) (h : synthesisref09_families  = some r) : PCall Try.prog 198 [] ((eL 1 eS) (r)) := by
 unfold synthesisref09_families at h
 refine pcall_intro (T := TT) tt_ok [.one (.sl 1)] Try.func198 rfl (by kernel_rfl) (by kernel_rfl) ?_
 refine awp_le (st' := ⟨2, [], [], []⟩) (le_ck (by kernel_rfl)) ?_
 refine awp_seq ?_
 refine awp_region ?_
 refine l_rk 1 tt_ok ⟨2, [], [], []⟩ (by kernel_rfl) ?_
 refine l_nil ?_
 refine awp_seq ?_
 refine awp_region ?_
 refine l_rk 2 tt_ok ⟨2, [(0, (.lim 1 (List.length (([(⟨#[108, 111, 103, 105, 99]⟩ : ByteArray), (⟨#[110, 117, 109, 98, 101, 114, 115]⟩ : ByteArray), (⟨#[116, 101, 120, 116, 115]⟩ : ByteArray), (⟨#[112, 97, 116, 116, 101, 114, 110, 115]⟩ : ByteArray), (⟨#[108, 105, 115, 116, 115]⟩ : ByteArray), (⟨#[116, 97, 98, 108, 101, 115]⟩ : ByteArray), (⟨#[98, 105, 116, 115]⟩ : ByteArray)] : List (ByteArray)))) (List.map eS (([(⟨#[108, 111, 103, 105, 99]⟩ : ByteArray), (⟨#[110, 117, 109, 98, 101, 114, 115]⟩ : ByteArray), (⟨#[116, 101, 120, 116, 115]⟩ : ByteArray), (⟨#[112, 97, 116, 116, 101, 114, 110, 115]⟩ : ByteArray), (⟨#[108, 105, 115, 116, 115]⟩ : ByteArray), (⟨#[116, 97, 98, 108, 101, 115]⟩ : ByteArray), (⟨#[98, 105, 116, 115]⟩ : ByteArray)] : List (ByteArray))))))], [], []⟩ (by kernel_rfl) ?_
 refine l_nil ?_
 refine awp_ret ?_
 obtain rfl := Option.some.inj h
 exact (show retX _ _ _ _ = some _ from by kernel_rfl)
end Go.Proofs.Ytaeicmnimjfbaaa
