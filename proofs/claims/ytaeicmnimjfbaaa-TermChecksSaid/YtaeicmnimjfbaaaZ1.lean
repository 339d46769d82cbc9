/- Typed programs and what computes them. -/
import Derived.Test.YtaeicmnimjfbaaaZ0
set_option linter.unusedVariables false
set_option linter.unusedSimpArgs false
set_option maxRecDepth 100000
namespace Go.Proofs.Ytaeicmnimjfbaaa
open Go Go.RowKit Go.Proofs
def synthesisref01_Compare_m0 (a0 : Va) (a1 : Va) : List (Nat × AObj) := [(1, (.box 65 [(fI (a0.type)), (fI (a0.num)), (fS (a0.text)), (.fz ((eL 4 eVaR) (a0.items)))])), (2, (.box 65 [(fI (a1.type)), (fI (a1.num)), (fS (a1.text)), (.fz ((eL 4 eVaR) (a1.items)))]))]
def synthesisref01_Compare_b (r162 : (Va) → (Va) → Option (Int)) (r186 : (List Va) → (List Va) → Option (Int)) (a0 : Va) (a1 : Va) : Option (Int) := (bif (a0.type != a1.type) then (Option.bind (synthesisref01_sign ((decide (a0.type < a1.type)))) fun v1 => (some v1)) else (bif (a0.num != a1.num) then (Option.bind (synthesisref01_sign ((decide (a0.num < a1.num)))) fun v2 => (some v2)) else (bif (!(a0.text.toList == a1.text.toList)) then (Option.bind (synthesisref01_sign ((Op.bytesLess a0.text.toList a1.text.toList))) fun v3 => (some v3)) else (Option.bind (r186 (a0.items) (a1.items)) fun v4 => (some v4)))))
theorem synthesisref01_Compare_b_ok (r162 : (Va) → (Va) → Option (Int)) (r186 : (List Va) → (List Va) → Option (Int)) (ih162 : ∀ (x0 : Va) (x1 : Va) r, r162 x0 x1 = some r → PCall Try.prog 162 [eVa x0, eVa x1] (eI (r))) (ih186 : ∀ (x0 : List Va) (x1 : List Va) r, r186 x0 x1 = some r → PCall Try.prog 186 [(eL 4 eVaR) x0, (eL 4 eVaR) x1] (eI (r))) (a0 : Va) (a1 : Va) (r : Int) (h : synthesisref01_Compare_b r162 r186 a0 a1 = some r) : PCall Try.prog 162 [eVa a0, eVa a1] (eI (r)) := by
 unfold synthesisref01_Compare_b at h
 refine pcall_intro (T := TT) tt_ok [.one .keep] Try.func162 rfl (by kernel_rfl) (by kernel_rfl) ?_
 refine awp_le (st' := ⟨46, [(0, (.fz (eVa (a0)))), (1, (.fz (eVa (a1))))], [], []⟩) (le_ck (by kernel_rfl)) ?_
 refine awp_seq ?_
 refine awp_region ?_
 refine l_rk 3 tt_ok ⟨46, [(2, (.ref 1 0 0)), (3, (.ref 2 0 0))], (synthesisref01_Compare_m0 a0 a1), [2, 1]⟩ (by kernel_rfl) ?_
 refine l_nil ?_
 refine awp_seq ?_
 refine awp_block ?_
 refine awp_seq ?_
 refine awp_region ?_
 refine l_rk 6 tt_ok ⟨46, [(2, (.ref 1 0 0)), (3, (.ref 2 0 0)), (5, (fB ((a0.type != a1.type))))], (synthesisref01_Compare_m0 a0 a1), [2, 1]⟩ (by kernel_rfl) ?_
 refine l_nil ?_
 rcases cond_some h with ⟨hb, h⟩ | ⟨hb, h⟩
 ·refine awp_cond_t (b := (a0.type != a1.type)) (by kernel_rfl) hb ?_
  refine awp_seq ?_
  refine awp_region ?_
  refine l_rk 5 tt_ok ⟨46, [(15, (fB ((decide (a0.type < a1.type)))))], [], []⟩ (by kernel_rfl) ?_
  obtain ⟨v1, hv1, h⟩ := Option.bind_eq_some_iff.1 h
  refine l_step ((n_call (ys := [eB ((decide (a0.type < a1.type)))]) (cs := [(.one (.keep))]) rfl (by kernel_rfl) (synthesisref01_sign_ok ((decide (a0.type < a1.type))) _ hv1)).step) (by kernel_rfl) (dst_of (by kernel_rfl)) ?_
  refine l_rk 1 tt_ok ⟨46, [(4, (fI (v1)))], [], []⟩ (by kernel_rfl) ?_
  refine l_nil ?_
  refine awp_ret ?_
  obtain rfl := Option.some.inj h
  exact (show retX _ _ _ _ = some _ from by kernel_rfl)
 ·refine awp_cond_f (b := (a0.type != a1.type)) (by kernel_rfl) hb ?_
  refine awp_seq ?_
  refine awp_region ?_
  refine l_rk 6 tt_ok ⟨46, [(2, (.ref 1 0 0)), (3, (.ref 2 0 0)), (17, (fB ((a0.num != a1.num))))], (synthesisref01_Compare_m0 a0 a1), [2, 1]⟩ (by kernel_rfl) ?_
  refine l_nil ?_
  rcases cond_some h with ⟨hb, h⟩ | ⟨hb, h⟩
  ·refine awp_cond_t (b := (a0.num != a1.num)) (by kernel_rfl) hb ?_
   refine awp_seq ?_
   refine awp_region ?_
   refine l_rk 5 tt_ok ⟨46, [(27, (fB ((decide (a0.num < a1.num)))))], [], []⟩ (by kernel_rfl) ?_
   obtain ⟨v2, hv2, h⟩ := Option.bind_eq_some_iff.1 h
   refine l_step ((n_call (ys := [eB ((decide (a0.num < a1.num)))]) (cs := [(.one (.keep))]) rfl (by kernel_rfl) (synthesisref01_sign_ok ((decide (a0.num < a1.num))) _ hv2)).step) (by kernel_rfl) (dst_of (by kernel_rfl)) ?_
   refine l_rk 1 tt_ok ⟨46, [(4, (fI (v2)))], [], []⟩ (by kernel_rfl) ?_
   refine l_nil ?_
   refine awp_ret ?_
   obtain rfl := Option.some.inj h
   exact (show retX _ _ _ _ = some _ from by kernel_rfl)
  ·refine awp_cond_f (b := (a0.num != a1.num)) (by kernel_rfl) hb ?_
   refine awp_seq ?_
   refine awp_region ?_
   refine l_rk 6 tt_ok ⟨46, [(2, (.ref 1 0 0)), (3, (.ref 2 0 0)), (29, (fB ((!(a0.text.toList == a1.text.toList)))))], (synthesisref01_Compare_m0 a0 a1), [2, 1]⟩ (by kernel_rfl) ?_
   refine l_nil ?_
   rcases cond_some h with ⟨hb, h⟩ | ⟨hb, h⟩
   ·refine awp_cond_t (b := (!(a0.text.toList == a1.text.toList))) (by kernel_rfl) hb ?_
    refine awp_seq ?_
    refine awp_region ?_
    refine l_rk 5 tt_ok ⟨46, [(39, (fB ((Op.bytesLess a0.text.toList a1.text.toList))))], [], []⟩ (by kernel_rfl) ?_
    obtain ⟨v3, hv3, h⟩ := Option.bind_eq_some_iff.1 h
    refine l_step ((n_call (ys := [eB ((Op.bytesLess a0.text.toList a1.text.toList))]) (cs := [(.one (.keep))]) rfl (by kernel_rfl) (synthesisref01_sign_ok ((Op.bytesLess a0.text.toList a1.text.toList)) _ hv3)).step) (by kernel_rfl) (dst_of (by kernel_rfl)) ?_
    refine l_rk 1 tt_ok ⟨46, [(4, (fI (v3)))], [], []⟩ (by kernel_rfl) ?_
    refine l_nil ?_
    refine awp_ret ?_
    obtain rfl := Option.some.inj h
    exact (show retX _ _ _ _ = some _ from by kernel_rfl)
   ·refine awp_cond_f (b := (!(a0.text.toList == a1.text.toList))) (by kernel_rfl) hb ?_
    refine awp_skip ?_
    refine awp_seq ?_
    refine awp_region ?_
    refine l_rk 4 tt_ok ⟨46, [(42, (.fz ((eL 4 eVaR) (a0.items)))), (44, (.fz ((eL 4 eVaR) (a1.items))))], [], []⟩ (by kernel_rfl) ?_
    obtain ⟨v4, hv4, h⟩ := Option.bind_eq_some_iff.1 h
    refine l_step ((n_call (ys := [(eL 4 eVaR) (a0.items), (eL 4 eVaR) (a1.items)]) (cs := [(.one (.sl 4)), (.one (.sl 4))]) rfl (by kernel_rfl) (ih186 (a0.items) (a1.items) _ hv4)).step) (by kernel_rfl) (dst_of (by kernel_rfl)) ?_
    refine l_rk 1 tt_ok ⟨46, [(4, (fI (v4)))], [], []⟩ (by kernel_rfl) ?_
    refine l_nil ?_
    refine awp_ret ?_
    obtain rfl := Option.some.inj h
    exact (show retX _ _ _ _ = some _ from by kernel_rfl)
def synthesisref01_CompareAll_l1 (a0 : List Va) (a1 : List Va) (r162 : (Va) → (Va) → Option (Int)) (v1 : (Int)) : Option (((Int)) ⊕ (((Unit) ⊕ (Int)))) := (Option.bind ((bif (decide (v1 < (List.length a0 : Int))) then (some ((decide (v1 < (List.length a1 : Int))))) else (some (false))) : Option ((Bool))) fun (v3 : (Bool)) => (bif v3 then (Option.bind (idx a0 v1) fun v4 => (Option.bind (idx a1 v1) fun v5 => (Option.bind (r162 (v4) (v5)) fun v6 => (bif (v6 != 0) then (some (.inr (.inr v6))) else (some (.inl ((w64 (v1 + 1))))))))) else (some (.inr (.inl ())))))
def synthesisref01_CompareAll_b (r162 : (Va) → (Va) → Option (Int)) (r186 : (List Va) → (List Va) → Option (Int)) (a0 : List Va) (a1 : List Va) : Option (Int) := (Option.bind (loopN (synthesisref01_CompareAll_l1 a0 a1 r162) fuel (0)) fun (v7 : ((Unit) ⊕ (Int))) => Sum.elim (fun v8 => (bif ((List.length a0 : Int) == (List.length a1 : Int)) then (some 0) else (Option.bind (synthesisref01_sign ((decide ((List.length a0 : Int) < (List.length a1 : Int))))) fun v9 => (some v9)))) (fun v10 => (some v10)) v7)
theorem synthesisref01_CompareAll_b_ok (r162 : (Va) → (Va) → Option (Int)) (r186 : (List Va) → (List Va) → Option (Int)) (ih162 : ∀ (x0 : Va) (x1 : Va) r, r162 x0 x1 = some r → PCall Try.prog 162 [eVa x0, eVa x1] (eI (r))) (ih186 : ∀ (x0 : List Va) (x1 : List Va) r, r186 x0 x1 = some r → PCall Try.prog 186 [(eL 4 eVaR) x0, (eL 4 eVaR) x1] (eI (r))) (a0 : List Va) (a1 : List Va) (r : Int) (h : synthesisref01_CompareAll_b r162 r186 a0 a1 = some r) : PCall Try.prog 186 [(eL 4 eVaR) a0, (eL 4 eVaR) a1] (eI (r)) := by
 unfold synthesisref01_CompareAll_b at h
 refine pcall_intro (T := TT) tt_ok [.one .keep] Try.func186 rfl (by kernel_rfl) (by kernel_rfl) ?_
 refine awp_le (st' := ⟨42, [(0, (.fz ((eL 4 eVaR) (a0)))), (1, (.fz ((eL 4 eVaR) (a1))))], [], []⟩) (le_ck (by kernel_rfl)) ?_
 refine awp_seq ?_
 refine awp_region ?_
 refine l_rk 1 tt_ok ⟨42, [(0, (.fz ((eL 4 eVaR) (a0)))), (1, (.fz ((eL 4 eVaR) (a1))))], [], []⟩ (by kernel_rfl) ?_
 refine l_nil ?_
 refine awp_seq ?_
 refine awp_seq ?_
 refine awp_region ?_
 refine l_rk 1 tt_ok ⟨42, [(0, (.fz ((eL 4 eVaR) (a0)))), (1, (.fz ((eL 4 eVaR) (a1)))), (5, (fI (0)))], [], []⟩ (by kernel_rfl) ?_
 refine l_nil ?_
 refine awp_block ?_
 obtain ⟨v7, hj, h⟩ := Option.bind_eq_some_iff.1 h
 refine awp_join (Qa := fun e st => Sum.elim (fun p => e = .exit 0 ∧ LeSt st ⟨42, [(0, (.fz ((eL 4 eVaR) (a0)))), (1, (.fz ((eL 4 eVaR) (a1))))], [], []⟩) (fun p => e = .ret ∧ retX TT st Try.f186.results.toList [.one .keep] = some (eI (p))) v7) ?_ ?_
 ·refine awp_loopS (stOf := fun v1 => ⟨42, [(0, (.fz ((eL 4 eVaR) (a0)))), (1, (.fz ((eL 4 eVaR) (a1)))), (5, (fI (v1)))], [], []⟩) (Qb := fun j e st => Sum.elim (fun p => e = .exit 0 ∧ LeSt st ⟨42, [(0, (.fz ((eL 4 eVaR) (a0)))), (1, (.fz ((eL 4 eVaR) (a1))))], [], []⟩) (fun p => e = .ret ∧ retX TT st Try.f186.results.toList [.one .keep] = some (eI (p))) j) hj (le_ck (by kernel_rfl)) ?_
  clear hj h
  intro v1 r h
  unfold synthesisref01_CompareAll_l1 at h
  refine awp_seq ?_
  refine awp_seq ?_
  obtain ⟨v3, hj, h⟩ := Option.bind_eq_some_iff.1 h
  refine awp_join (Qa := fun e st => e = .normal ∧ LeSt st ⟨42, [(0, (.fz ((eL 4 eVaR) (a0)))), (1, (.fz ((eL 4 eVaR) (a1)))), (5, (fI (v1))), (16, (fB (v3)))], [], []⟩) ?_ ?_
  ·replace h := hj
   clear hj
   refine awp_region ?_
   refine l_rk 5 tt_ok ⟨42, [(0, (.fz ((eL 4 eVaR) (a0)))), (1, (.fz ((eL 4 eVaR) (a1)))), (5, (fI (v1))), (11, (fB ((decide (v1 < (List.length a0 : Int))))))], [], []⟩ (by kernel_rfl) ?_
   rcases cond_some h with ⟨hb, h⟩ | ⟨hb, h⟩
   ·refine l_le (le_eq (t := 11) (x := .fz (eB (decide (v1 < (List.length a0 : Int))))) (y := .fz (eB true)) (by kernel_rfl) (congrArg (fun b => AV.fz (eB b)) hb)) ?_
    refine l_rk 5 tt_ok ⟨42, [(0, (.fz ((eL 4 eVaR) (a0)))), (1, (.fz ((eL 4 eVaR) (a1)))), (5, (fI (v1))), (16, (fB ((decide (v1 < (List.length a1 : Int))))))], [], []⟩ (by kernel_rfl) ?_
    refine l_nil ?_
    obtain rfl := Option.some.inj h
    exact And.intro rfl (le_ck (by kernel_rfl))
   ·refine l_le (le_eq (t := 11) (x := .fz (eB (decide (v1 < (List.length a0 : Int))))) (y := .fz (eB false)) (by kernel_rfl) (congrArg (fun b => AV.fz (eB b)) hb)) ?_
    refine l_rk 5 tt_ok ⟨42, [(0, (.fz ((eL 4 eVaR) (a0)))), (1, (.fz ((eL 4 eVaR) (a1)))), (5, (fI (v1))), (16, (fB (false)))], [], []⟩ (by kernel_rfl) ?_
    refine l_nil ?_
    obtain rfl := Option.some.inj h
    exact And.intro rfl (le_ck (by kernel_rfl))
  ·clear hj
   intro e st' hq
   obtain ⟨rfl, hle⟩ := hq
   refine ⟨_, hle, ?_⟩
   rcases cond_some h with ⟨hb, h⟩ | ⟨hb, h⟩
   ·refine awp_cond_t (b := v3) (by kernel_rfl) hb ?_
    refine awp_skip ?_
    refine awp_seq ?_
    refine awp_block ?_
    refine awp_seq ?_
    obtain ⟨v4, hv4, h⟩ := Option.bind_eq_some_iff.1 h
    obtain ⟨v5, hv5, h⟩ := Option.bind_eq_some_iff.1 h
    refine awp_drawn (by kernel_rfl) [(.fz ((eL 4 eVaR) (a0))), (fI (v1)), (.fz (.fp [(eI (v4.type)), (eI (v4.num)), (eS (v4.text)), ((eL 4 eVaR) (v4.items))])), (.fz (eVa (v4))), (.fz ((eL 4 eVaR) (a1))), (fI (v1)), (.fz (.fp [(eI (v5.type)), (eI (v5.num)), (eS (v5.text)), ((eL 4 eVaR) (v5.items))])), (.fz (eVa (v5)))] (by kernel_rfl) ?_
    refine ⟨.inl ⟨by kernel_rfl, (nstep_ok tt_ok (by kernel_rfl))⟩, ?_⟩
    refine ⟨.inl ⟨by kernel_rfl, (nstep_ok tt_ok (by kernel_rfl))⟩, ?_⟩
    refine ⟨.inl ⟨by kernel_rfl, (s_index (k := .i64) (d := tt63) (e := 65) (de := tt65) (enc := eVaR) hv4 tt_ok rfl (by kernel_rfl) (by kernel_rfl) (by kernel_rfl) (by kernel_rfl) len_eVaR (by kernel_rfl) (cells_eVaR v4))⟩, ?_⟩
    refine ⟨.inl ⟨by kernel_rfl, (nstep_ok tt_ok (by kernel_rfl))⟩, ?_⟩
    refine ⟨.inl ⟨by kernel_rfl, (nstep_ok tt_ok (by kernel_rfl))⟩, ?_⟩
    refine ⟨.inl ⟨by kernel_rfl, (nstep_ok tt_ok (by kernel_rfl))⟩, ?_⟩
    refine ⟨.inl ⟨by kernel_rfl, (s_index (k := .i64) (d := tt63) (e := 65) (de := tt65) (enc := eVaR) hv5 tt_ok rfl (by kernel_rfl) (by kernel_rfl) (by kernel_rfl) (by kernel_rfl) len_eVaR (by kernel_rfl) (cells_eVaR v5))⟩, ?_⟩
    refine ⟨.inl ⟨by kernel_rfl, (nstep_ok tt_ok (by kernel_rfl))⟩, ?_⟩
    refine l_rk 0 tt_ok ⟨42, [(0, (.fz ((eL 4 eVaR) (a0)))), (1, (.fz ((eL 4 eVaR) (a1)))), (5, (fI (v1))), (22, (.fz (eVa (v4)))), (26, (.fz (eVa (v5))))], [], []⟩ (by kernel_rfl) ?_
    obtain ⟨v6, hv6, h⟩ := Option.bind_eq_some_iff.1 h
    refine l_step ((n_call (ys := [eVa (v4), eVa (v5)]) (cs := [(.one .keep), (.one .keep)]) rfl (by kernel_rfl) (ih162 (v4) (v5) _ hv6)).step) (by kernel_rfl) (dst_of (by kernel_rfl)) ?_
    refine l_rk 1 tt_ok ⟨42, [(0, (.fz ((eL 4 eVaR) (a0)))), (1, (.fz ((eL 4 eVaR) (a1)))), (5, (fI (v1))), (6, (fI (v6)))], [], []⟩ (by kernel_rfl) ?_
    refine l_nil ?_
    refine awp_seq ?_
    refine awp_region ?_
    refine l_rk 2 tt_ok ⟨42, [(0, (.fz ((eL 4 eVaR) (a0)))), (1, (.fz ((eL 4 eVaR) (a1)))), (5, (fI (v1))), (6, (fI (v6))), (29, (fB ((v6 != 0))))], [], []⟩ (by kernel_rfl) ?_
    refine l_nil ?_
    rcases cond_some h with ⟨hb, h⟩ | ⟨hb, h⟩
    ·refine awp_cond_t (b := (v6 != 0)) (by kernel_rfl) hb ?_
     refine awp_seq ?_
     refine awp_region ?_
     refine l_rk 2 tt_ok ⟨42, [(4, (fI (v6)))], [], []⟩ (by kernel_rfl) ?_
     refine l_nil ?_
     refine awp_ret ?_
     obtain rfl := Option.some.inj h
     exact And.intro (And.intro (fun h => nomatch h) (fun h => nomatch h)) (And.intro rfl (show retX _ _ _ _ = some _ from by kernel_rfl))
    ·refine awp_cond_f (b := (v6 != 0)) (by kernel_rfl) hb ?_
     refine awp_skip ?_
     refine awp_region ?_
     refine l_rk 3 tt_ok ⟨42, [(0, (.fz ((eL 4 eVaR) (a0)))), (1, (.fz ((eL 4 eVaR) (a1)))), (5, (fI ((w64 (v1 + 1)))))], [], []⟩ (by kernel_rfl) ?_
     refine l_nil ?_
     obtain rfl := Option.some.inj h
     exact And.intro rfl (le_ck (by kernel_rfl))
   ·refine awp_cond_f (b := v3) (by kernel_rfl) hb ?_
    refine awp_exit ?_
    obtain rfl := Option.some.inj h
    exact And.intro (And.intro (fun h => nomatch h) (fun h => nomatch h)) (And.intro rfl (le_ck (by kernel_rfl)))
 ·clear hj
  intro e st' hq
  rcases v7 with v8 | v10
  ·try simp only [Sum.elim_inl, Sum.elim_inr] at h
   obtain ⟨rfl, hle⟩ := hq
   refine ⟨_, hle, ?_⟩
   refine awp_seq ?_
   refine awp_seq ?_
   refine awp_region ?_
   refine l_rk 5 tt_ok ⟨42, [(0, (.fz ((eL 4 eVaR) (a0)))), (1, (.fz ((eL 4 eVaR) (a1)))), (35, (fB (((List.length a0 : Int) == (List.length a1 : Int)))))], [], []⟩ (by kernel_rfl) ?_
   refine l_nil ?_
   rcases cond_some h with ⟨hb, h⟩ | ⟨hb, h⟩
   ·refine awp_cond_t (b := ((List.length a0 : Int) == (List.length a1 : Int))) (by kernel_rfl) hb ?_
    refine awp_seq ?_
    refine awp_region ?_
    refine l_rk 1 tt_ok ⟨42, [(4, (fI (0)))], [], []⟩ (by kernel_rfl) ?_
    refine l_nil ?_
    refine awp_ret ?_
    obtain rfl := Option.some.inj h
    exact (show retX _ _ _ _ = some _ from by kernel_rfl)
   ·refine awp_cond_f (b := ((List.length a0 : Int) == (List.length a1 : Int))) (by kernel_rfl) hb ?_
    refine awp_skip ?_
    refine awp_seq ?_
    refine awp_region ?_
    refine l_rk 5 tt_ok ⟨42, [(40, (fB ((decide ((List.length a0 : Int) < (List.length a1 : Int))))))], [], []⟩ (by kernel_rfl) ?_
    obtain ⟨v9, hv9, h⟩ := Option.bind_eq_some_iff.1 h
    refine l_step ((n_call (ys := [eB ((decide ((List.length a0 : Int) < (List.length a1 : Int))))]) (cs := [(.one (.keep))]) rfl (by kernel_rfl) (synthesisref01_sign_ok ((decide ((List.length a0 : Int) < (List.length a1 : Int)))) _ hv9)).step) (by kernel_rfl) (dst_of (by kernel_rfl)) ?_
    refine l_rk 1 tt_ok ⟨42, [(4, (fI (v9)))], [], []⟩ (by kernel_rfl) ?_
    refine l_nil ?_
    refine awp_ret ?_
    obtain rfl := Option.some.inj h
    exact (show retX _ _ _ _ = some _ from by kernel_rfl)
  ·try simp only [Sum.elim_inl, Sum.elim_inr] at h
   obtain ⟨rfl, hret⟩ := hq
   refine ⟨_, LeSt.refl, ?_⟩
   obtain rfl := Option.some.inj h
   exact hret
def synthesisref01_Compare_all : Nat → ((Va) → (Va) → Option (Int)) × ((List Va) → (List Va) → Option (Int))
  | 0 => (fun _ _ => none, fun _ _ => none)
  | n + 1 => (synthesisref01_Compare_b ((synthesisref01_Compare_all n).1) ((synthesisref01_Compare_all n).2), synthesisref01_CompareAll_b ((synthesisref01_Compare_all n).1) ((synthesisref01_Compare_all n).2))
def synthesisref01_Compare (n : Nat) : (Va) → (Va) → Option (Int) := (synthesisref01_Compare_all n).1
def synthesisref01_CompareAll (n : Nat) : (List Va) → (List Va) → Option (Int) := (synthesisref01_Compare_all n).2
theorem synthesisref01_Compare_all_ok : ∀ n : Nat, (∀ (x0 : Va) (x1 : Va) r, synthesisref01_Compare n x0 x1 = some r → PCall Try.prog 162 [eVa x0, eVa x1] (eI (r))) ∧ (∀ (x0 : List Va) (x1 : List Va) r, synthesisref01_CompareAll n x0 x1 = some r → PCall Try.prog 186 [(eL 4 eVaR) x0, (eL 4 eVaR) x1] (eI (r)))
  | 0 => ⟨(fun _ _ _ h => nomatch h), (fun _ _ _ h => nomatch h)⟩
  | n + 1 => ⟨(synthesisref01_Compare_b_ok _ _ ((synthesisref01_Compare_all_ok n).1) ((synthesisref01_Compare_all_ok n).2)), (synthesisref01_CompareAll_b_ok _ _ ((synthesisref01_Compare_all_ok n).1) ((synthesisref01_Compare_all_ok n).2))⟩
theorem synthesisref01_Compare_ok (n : Nat) : ∀ (x0 : Va) (x1 : Va) r, synthesisref01_Compare n x0 x1 = some r → PCall Try.prog 162 [eVa x0, eVa x1] (eI (r)) := (synthesisref01_Compare_all_ok n).1
theorem synthesisref01_CompareAll_ok (n : Nat) : ∀ (x0 : List Va) (x1 : List Va) r, synthesisref01_CompareAll n x0 x1 = some r → PCall Try.prog 186 [(eL 4 eVaR) x0, (eL 4 eVaR) x1] (eI (r)) := (synthesisref01_Compare_all_ok n).2

def synthesisref01_Equal (a0 : Va) (a1 : Va) : Option (Bool) := (Option.bind (synthesisref01_Compare fuel (a0) (a1)) fun v1 => (some (v1 == 0)))
theorem synthesisref01_Equal_ok (a0 : Va) (a1 : Va) (r : Bool) (h : synthesisref01_Equal a0 a1 = some r) : PCall Try.prog 127 [eVa a0, eVa a1] (eB (r)) := by
 unfold synthesisref01_Equal at h
 refine pcall_intro (T := TT) tt_ok [.one .keep] Try.func127 rfl (by kernel_rfl) (by kernel_rfl) ?_
 refine awp_le (st' := ⟨9, [(0, (.fz (eVa (a0)))), (1, (.fz (eVa (a1))))], [], []⟩) (le_ck (by kernel_rfl)) ?_
 refine awp_seq ?_
 refine awp_region ?_
 refine l_rk 3 tt_ok ⟨9, [(2, (.ref 1 0 0)), (3, (.ref 2 0 0))], [(1, (.box 65 [(fI (a0.type)), (fI (a0.num)), (fS (a0.text)), (.fz ((eL 4 eVaR) (a0.items)))])), (2, (.box 65 [(fI (a1.type)), (fI (a1.num)), (fS (a1.text)), (.fz ((eL 4 eVaR) (a1.items)))]))], [2, 1]⟩ (by kernel_rfl) ?_
 refine l_nil ?_
 refine awp_seq ?_
 refine awp_region ?_
 refine l_rk 2 tt_ok ⟨9, [(5, (.fz (eVa (a0)))), (6, (.fz (eVa (a1))))], [], []⟩ (by kernel_rfl) ?_
 obtain ⟨v1, hv1, h⟩ := Option.bind_eq_some_iff.1 h
 refine l_step ((n_call (ys := [eVa (a0), eVa (a1)]) (cs := [(.one .keep), (.one .keep)]) rfl (by kernel_rfl) (synthesisref01_Compare_ok fuel (a0) (a1) _ hv1)).step) (by kernel_rfl) (dst_of (by kernel_rfl)) ?_
 refine l_rk 2 tt_ok ⟨9, [(4, (fB ((v1 == 0))))], [], []⟩ (by kernel_rfl) ?_
 refine l_nil ?_
 refine awp_ret ?_
 obtain rfl := Option.some.inj h
 exact (show retX _ _ _ _ = some _ from by kernel_rfl)

def synthesisref01_within (a0 : Int) (a1 : Int) (a2 : Int) : Option (Int) := (Option.bind ((bif (decide (a0 < a1)) then (some (true)) else (some ((decide (a2 < a0))))) : Option ((Bool))) fun (v2 : (Bool)) => (bif v2 then (some 1) else (some 0)))
theorem synthesisref01_within_ok (a0 : Int) (a1 : Int) (a2 : Int) (r : Int) (h : synthesisref01_within a0 a1 a2 = some r) : PCall Try.prog 169 [eI a0, eI a1, eI a2] (eI (r)) := by
 unfold synthesisref01_within at h
 refine pcall_intro (T := TT) tt_ok [.one .keep] Try.func169 rfl (by kernel_rfl) (by kernel_rfl) ?_
 refine awp_le (st' := ⟨15, [(0, (fI (a0))), (1, (fI (a1))), (2, (fI (a2)))], [], []⟩) (le_ck (by kernel_rfl)) ?_
 refine awp_seq ?_
 refine awp_region ?_
 refine l_rk 1 tt_ok ⟨15, [(0, (fI (a0))), (1, (fI (a1))), (2, (fI (a2)))], [], []⟩ (by kernel_rfl) ?_
 refine l_nil ?_
 refine awp_seq ?_
 refine awp_seq ?_
 obtain ⟨v2, hj, h⟩ := Option.bind_eq_some_iff.1 h
 refine awp_join (Qa := fun e st => e = .normal ∧ LeSt st ⟨15, [(14, (fB (v2)))], [], []⟩) ?_ ?_
 ·replace h := hj
  clear hj
  refine awp_region ?_
  refine l_rk 4 tt_ok ⟨15, [(0, (fI (a0))), (2, (fI (a2))), (10, (fB ((decide (a0 < a1)))))], [], []⟩ (by kernel_rfl) ?_
  rcases cond_some h with ⟨hb, h⟩ | ⟨hb, h⟩
  ·refine l_le (le_eq (t := 10) (x := .fz (eB (decide (a0 < a1)))) (y := .fz (eB true)) (by kernel_rfl) (congrArg (fun b => AV.fz (eB b)) hb)) ?_
   refine l_rk 4 tt_ok ⟨15, [(14, (fB (true)))], [], []⟩ (by kernel_rfl) ?_
   refine l_nil ?_
   obtain rfl := Option.some.inj h
   exact And.intro rfl (le_ck (by kernel_rfl))
  ·refine l_le (le_eq (t := 10) (x := .fz (eB (decide (a0 < a1)))) (y := .fz (eB false)) (by kernel_rfl) (congrArg (fun b => AV.fz (eB b)) hb)) ?_
   refine l_rk 4 tt_ok ⟨15, [(14, (fB ((decide (a2 < a0)))))], [], []⟩ (by kernel_rfl) ?_
   refine l_nil ?_
   obtain rfl := Option.some.inj h
   exact And.intro rfl (le_ck (by kernel_rfl))
 ·clear hj
  intro e st' hq
  obtain ⟨rfl, hle⟩ := hq
  refine ⟨_, hle, ?_⟩
  rcases cond_some h with ⟨hb, h⟩ | ⟨hb, h⟩
  ·refine awp_cond_t (b := v2) (by kernel_rfl) hb ?_
   refine awp_seq ?_
   refine awp_region ?_
   refine l_rk 1 tt_ok ⟨15, [(6, (fI (1)))], [], []⟩ (by kernel_rfl) ?_
   refine l_nil ?_
   refine awp_ret ?_
   obtain rfl := Option.some.inj h
   exact (show retX _ _ _ _ = some _ from by kernel_rfl)
  ·refine awp_cond_f (b := v2) (by kernel_rfl) hb ?_
   refine awp_skip ?_
   refine awp_seq ?_
   refine awp_region ?_
   refine l_rk 1 tt_ok ⟨15, [(6, (fI (0)))], [], []⟩ (by kernel_rfl) ?_
   refine l_nil ?_
   refine awp_ret ?_
   obtain rfl := Option.some.inj h
   exact (show retX _ _ _ _ = some _ from by kernel_rfl)

def synthesisref01_plain_l1 (a0 : ByteArray) (v3 : (Int)) : Option (((Int)) ⊕ (((Unit) ⊕ (Int)))) := (bif (decide (v3 < (a0.size : Int))) then (Option.bind ((Option.bind (byt a0 v3) fun v4 => (bif (decide (v4 < 32)) then (some (true)) else (Option.bind (byt a0 v3) fun v5 => (some ((decide (126 < v5))))))) : Option ((Bool))) fun (v7 : (Bool)) => (bif v7 then (some (.inr (.inr 1))) else (some (.inl ((w64 (v3 + 1))))))) else (some (.inr (.inl ()))))
def synthesisref01_plain (a0 : ByteArray) (a1 : Int) (a2 : Int) : Option (Int) := (Option.bind ((bif (decide ((a0.size : Int) < a1)) then (some (true)) else (some ((decide (a2 < (a0.size : Int)))))) : Option ((Bool))) fun (v2 : (Bool)) => (bif v2 then (some 2) else (Option.bind (loopN (synthesisref01_plain_l1 a0) fuel (0)) fun (v8 : ((Unit) ⊕ (Int))) => Sum.elim (fun v9 => (some 0)) (fun v10 => (some v10)) v8)))
theorem synthesisref01_plain_ok (a0 : ByteArray) (a1 : Int) (a2 : Int) (r : Int) (h : synthesisref01_plain a0 a1 a2 = some r) : PCall Try.prog 170 [eS a0, eI a1, eI a2] (eI (r)) := by
 unfold synthesisref01_plain at h
 refine pcall_intro (T := TT) tt_ok [.one .keep] Try.func170 rfl (by kernel_rfl) (by kernel_rfl) ?_
 refine awp_le (st' := ⟨34, [(0, (fS (a0))), (1, (fI (a1))), (2, (fI (a2)))], [], []⟩) (le_ck (by kernel_rfl)) ?_
 refine awp_seq ?_
 refine awp_region ?_
 refine l_rk 1 tt_ok ⟨34, [(0, (fS (a0))), (1, (fI (a1))), (2, (fI (a2)))], [], []⟩ (by kernel_rfl) ?_
 refine l_nil ?_
 refine awp_seq ?_
 refine awp_seq ?_
 obtain ⟨v2, hj, h⟩ := Option.bind_eq_some_iff.1 h
 refine awp_join (Qa := fun e st => e = .normal ∧ LeSt st ⟨34, [(0, (fS (a0))), (17, (fB (v2)))], [], []⟩) ?_ ?_
 ·replace h := hj
  clear hj
  refine awp_region ?_
  refine l_rk 5 tt_ok ⟨34, [(0, (fS (a0))), (2, (fI (a2))), (12, (fB ((decide ((a0.size : Int) < a1)))))], [], []⟩ (by kernel_rfl) ?_
  rcases cond_some h with ⟨hb, h⟩ | ⟨hb, h⟩
  ·refine l_le (le_eq (t := 12) (x := .fz (eB (decide ((a0.size : Int) < a1)))) (y := .fz (eB true)) (by kernel_rfl) (congrArg (fun b => AV.fz (eB b)) hb)) ?_
   refine l_rk 5 tt_ok ⟨34, [(0, (fS (a0))), (17, (fB (true)))], [], []⟩ (by kernel_rfl) ?_
   refine l_nil ?_
   obtain rfl := Option.some.inj h
   exact And.intro rfl (le_ck (by kernel_rfl))
  ·refine l_le (le_eq (t := 12) (x := .fz (eB (decide ((a0.size : Int) < a1)))) (y := .fz (eB false)) (by kernel_rfl) (congrArg (fun b => AV.fz (eB b)) hb)) ?_
   refine l_rk 5 tt_ok ⟨34, [(0, (fS (a0))), (17, (fB ((decide (a2 < (a0.size : Int))))))], [], []⟩ (by kernel_rfl) ?_
   refine l_nil ?_
   obtain rfl := Option.some.inj h
   exact And.intro rfl (le_ck (by kernel_rfl))
 ·clear hj
  intro e st' hq
  obtain ⟨rfl, hle⟩ := hq
  refine ⟨_, hle, ?_⟩
  rcases cond_some h with ⟨hb, h⟩ | ⟨hb, h⟩
  ·refine awp_cond_t (b := v2) (by kernel_rfl) hb ?_
   refine awp_seq ?_
   refine awp_region ?_
   refine l_rk 1 tt_ok ⟨34, [(6, (fI (2)))], [], []⟩ (by kernel_rfl) ?_
   refine l_nil ?_
   refine awp_ret ?_
   obtain rfl := Option.some.inj h
   exact (show retX _ _ _ _ = some _ from by kernel_rfl)
  ·refine awp_cond_f (b := v2) (by kernel_rfl) hb ?_
   refine awp_skip ?_
   refine awp_seq ?_
   refine awp_seq ?_
   refine awp_region ?_
   refine l_rk 1 tt_ok ⟨34, [(0, (fS (a0))), (7, (fI (0)))], [], []⟩ (by kernel_rfl) ?_
   refine l_nil ?_
   refine awp_block ?_
   obtain ⟨v8, hj, h⟩ := Option.bind_eq_some_iff.1 h
   refine awp_join (Qa := fun e st => Sum.elim (fun p => e = .exit 0 ∧ LeSt st ⟨34, [], [], []⟩) (fun p => e = .ret ∧ retX TT st Try.f170.results.toList [.one .keep] = some (eI (p))) v8) ?_ ?_
   ·refine awp_loopS (stOf := fun v3 => ⟨34, [(0, (fS (a0))), (7, (fI (v3)))], [], []⟩) (Qb := fun j e st => Sum.elim (fun p => e = .exit 0 ∧ LeSt st ⟨34, [], [], []⟩) (fun p => e = .ret ∧ retX TT st Try.f170.results.toList [.one .keep] = some (eI (p))) j) hj (le_ck (by kernel_rfl)) ?_
    clear hj h
    intro v3 r h
    unfold synthesisref01_plain_l1 at h
    refine awp_seq ?_
    refine awp_seq ?_
    refine awp_region ?_
    refine l_rk 4 tt_ok ⟨34, [(0, (fS (a0))), (7, (fI (v3))), (21, (fB ((decide (v3 < (a0.size : Int))))))], [], []⟩ (by kernel_rfl) ?_
    refine l_nil ?_
    rcases cond_some h with ⟨hb, h⟩ | ⟨hb, h⟩
    ·refine awp_cond_t (b := (decide (v3 < (a0.size : Int)))) (by kernel_rfl) hb ?_
     refine awp_skip ?_
     refine awp_seq ?_
     refine awp_block ?_
     refine awp_seq ?_
     obtain ⟨v7, hj, h⟩ := Option.bind_eq_some_iff.1 h
     refine awp_join (Qa := fun e st => e = .normal ∧ LeSt st ⟨34, [(0, (fS (a0))), (7, (fI (v3))), (33, (fB (v7)))], [], []⟩) ?_ ?_
     ·replace h := hj
      clear hj
      refine awp_region ?_
      refine l_rk 2 tt_ok ⟨34, [(0, (fS (a0))), (7, (fI (v3))), (24, (fS (a0))), (25, (fI (v3)))], [], []⟩ (by kernel_rfl) ?_
      obtain ⟨v4, hv4, h⟩ := Option.bind_eq_some_iff.1 h
      refine l_step ((s_byte (k := .i64) (d := tt9) (s := a0) hv4 tt_ok rfl (by kernel_rfl) (by kernel_rfl) (by kernel_rfl) (by kernel_rfl)).step) (by kernel_rfl) (dst_of (by kernel_rfl)) ?_
      refine l_rk 2 tt_ok ⟨34, [(0, (fS (a0))), (7, (fI (v3))), (28, (fB ((decide (v4 < 32)))))], [], []⟩ (by kernel_rfl) ?_
      rcases cond_some h with ⟨hb, h⟩ | ⟨hb, h⟩
      ·refine l_le (le_eq (t := 28) (x := .fz (eB (decide (v4 < 32)))) (y := .fz (eB true)) (by kernel_rfl) (congrArg (fun b => AV.fz (eB b)) hb)) ?_
       refine l_rk 5 tt_ok ⟨34, [(0, (fS (a0))), (7, (fI (v3))), (33, (fB (true)))], [], []⟩ (by kernel_rfl) ?_
       refine l_nil ?_
       obtain rfl := Option.some.inj h
       exact And.intro rfl (le_ck (by kernel_rfl))
      ·refine l_le (le_eq (t := 28) (x := .fz (eB (decide (v4 < 32)))) (y := .fz (eB false)) (by kernel_rfl) (congrArg (fun b => AV.fz (eB b)) hb)) ?_
       refine l_rk 2 tt_ok ⟨34, [(0, (fS (a0))), (7, (fI (v3))), (28, (fB (false))), (29, (fS (a0))), (30, (fI (v3)))], [], []⟩ (by kernel_rfl) ?_
       obtain ⟨v5, hv5, h⟩ := Option.bind_eq_some_iff.1 h
       refine l_step ((s_byte (k := .i64) (d := tt9) (s := a0) hv5 tt_ok rfl (by kernel_rfl) (by kernel_rfl) (by kernel_rfl) (by kernel_rfl)).step) (by kernel_rfl) (dst_of (by kernel_rfl)) ?_
       refine l_rk 2 tt_ok ⟨34, [(0, (fS (a0))), (7, (fI (v3))), (33, (fB ((decide (126 < v5)))))], [], []⟩ (by kernel_rfl) ?_
       refine l_nil ?_
       obtain rfl := Option.some.inj h
       exact And.intro rfl (le_ck (by kernel_rfl))
     ·clear hj
      intro e st' hq
      obtain ⟨rfl, hle⟩ := hq
      refine ⟨_, hle, ?_⟩
      rcases cond_some h with ⟨hb, h⟩ | ⟨hb, h⟩
      ·refine awp_cond_t (b := v7) (by kernel_rfl) hb ?_
       refine awp_seq ?_
       refine awp_region ?_
       refine l_rk 1 tt_ok ⟨34, [(6, (fI (1)))], [], []⟩ (by kernel_rfl) ?_
       refine l_nil ?_
       refine awp_ret ?_
       obtain rfl := Option.some.inj h
       exact And.intro (And.intro (fun h => nomatch h) (fun h => nomatch h)) (And.intro rfl (show retX _ _ _ _ = some _ from by kernel_rfl))
      ·refine awp_cond_f (b := v7) (by kernel_rfl) hb ?_
       refine awp_skip ?_
       refine awp_region ?_
       refine l_rk 3 tt_ok ⟨34, [(0, (fS (a0))), (7, (fI ((w64 (v3 + 1)))))], [], []⟩ (by kernel_rfl) ?_
       refine l_nil ?_
       obtain rfl := Option.some.inj h
       exact And.intro rfl (le_ck (by kernel_rfl))
    ·refine awp_cond_f (b := (decide (v3 < (a0.size : Int)))) (by kernel_rfl) hb ?_
     refine awp_exit ?_
     obtain rfl := Option.some.inj h
     exact And.intro (And.intro (fun h => nomatch h) (fun h => nomatch h)) (And.intro rfl (le_ck (by kernel_rfl)))
   ·clear hj
    intro e st' hq
    rcases v8 with v9 | v10
    ·try simp only [Sum.elim_inl, Sum.elim_inr] at h
     obtain ⟨rfl, hle⟩ := hq
     refine ⟨_, hle, ?_⟩
     refine awp_seq ?_
     refine awp_region ?_
     refine l_rk 1 tt_ok ⟨34, [(6, (fI (0)))], [], []⟩ (by kernel_rfl) ?_
     refine l_nil ?_
     refine awp_ret ?_
     obtain rfl := Option.some.inj h
     exact (show retX _ _ _ _ = some _ from by kernel_rfl)
    ·try simp only [Sum.elim_inl, Sum.elim_inr] at h
     obtain ⟨rfl, hret⟩ := hq
     refine ⟨_, LeSt.refl, ?_⟩
     obtain rfl := Option.some.inj h
     exact hret

def synthesisref01_Check_m0 (a0 : Va) : List (Nat × AObj) := [(1, (.box 65 [(fI (a0.type)), (fI (a0.num)), (fS (a0.text)), (.fz ((eL 4 eVaR) (a0.items)))]))]
def synthesisref01_Check_b (r131 : (Va) → Option (Int)) (r171 : (List Va) → (Int) → Option (Int)) (r172 : (List Va) → Option (Int)) (a0 : Va) : Option (Int) := (Option.bind ((bif (decide (a0.type < 1)) then (some (true)) else (some ((decide (8 < a0.type))))) : Option ((Bool))) fun (v2 : (Bool)) => (bif v2 then (some 3) else (Option.bind ((bif (a0.type == 1) then (some (true)) else (bif (a0.type == 2) then (some (true)) else (some ((a0.type == 4))))) : Option ((Bool))) fun (v4 : (Bool)) => (Option.bind ((bif (a0.type == 3) then (some (true)) else (some ((a0.type == 8)))) : Option ((Bool))) fun (v6 : (Bool)) => (Option.bind ((bif (!v4) then (bif (a0.num != 0) then (some (true)) else (bif (!v6) then (bif (!(a0.text.toList == (⟨#[]⟩ : ByteArray).toList)) then (some (true)) else (bif v4 then (some ((decide (0 < (List.length a0.items : Int))))) else (bif v6 then (some ((decide (0 < (List.length a0.items : Int))))) else (some (false))))) else (bif v4 then (some ((decide (0 < (List.length a0.items : Int))))) else (bif v6 then (some ((decide (0 < (List.length a0.items : Int))))) else (some (false)))))) else (bif (!v6) then (bif (!(a0.text.toList == (⟨#[]⟩ : ByteArray).toList)) then (some (true)) else (bif v4 then (some ((decide (0 < (List.length a0.items : Int))))) else (bif v6 then (some ((decide (0 < (List.length a0.items : Int))))) else (some (false))))) else (bif v4 then (some ((decide (0 < (List.length a0.items : Int))))) else (bif v6 then (some ((decide (0 < (List.length a0.items : Int))))) else (some (false)))))) : Option ((Bool))) fun (v8 : (Bool)) => (bif v8 then (some 4) else (bif (a0.type == 1) then (Option.bind (synthesisref01_within (a0.num) (0) (1)) fun v9 => (some v9)) else (bif (a0.type == 2) then (Option.bind (synthesisref01_within (a0.num) ((-1000000)) (1000000)) fun v10 => (some v10)) else (bif (a0.type == 4) then (Option.bind (synthesisref01_within (a0.num) (0) (255)) fun v11 => (some v11)) else (bif (a0.type == 3) then (Option.bind (synthesisref01_plain (a0.text) (0) (64)) fun v12 => (some v12)) else (bif (a0.type == 8) then (Option.bind (synthesisref01_plain (a0.text) (1) (40)) fun v13 => (some v13)) else (bif (a0.type == 5) then (Option.bind (r171 (a0.items) (2)) fun v14 => (some v14)) else (bif (a0.type == 6) then (Option.bind (r171 (a0.items) (3)) fun v15 => (some v15)) else (Option.bind (r172 (a0.items)) fun v16 => (some v16)))))))))))))))
theorem synthesisref01_Check_b_ok (r131 : (Va) → Option (Int)) (r171 : (List Va) → (Int) → Option (Int)) (r172 : (List Va) → Option (Int)) (ih131 : ∀ (x0 : Va) r, r131 x0 = some r → PCall Try.prog 131 [eVa x0] (eI (r))) (ih171 : ∀ (x0 : List Va) (x1 : Int) r, r171 x0 x1 = some r → PCall Try.prog 171 [(eL 4 eVaR) x0, eI x1] (eI (r))) (ih172 : ∀ (x0 : List Va) r, r172 x0 = some r → PCall Try.prog 172 [(eL 4 eVaR) x0] (eI (r))) (a0 : Va) (r : Int) (h : synthesisref01_Check_b r131 r171 r172 a0 = some r) : PCall Try.prog 131 [eVa a0] (eI (r)) := by
 unfold synthesisref01_Check_b at h
 refine pcall_intro (T := TT) tt_ok [.one .keep] Try.func131 rfl (by kernel_rfl) (by kernel_rfl) ?_
 refine awp_le (st' := ⟨102, [(0, (.fz (eVa (a0))))], [], []⟩) (le_ck (by kernel_rfl)) ?_
 refine awp_seq ?_
 refine awp_region ?_
 refine l_rk 2 tt_ok ⟨102, [(1, (.ref 1 0 0))], (synthesisref01_Check_m0 a0), [1]⟩ (by kernel_rfl) ?_
 refine l_nil ?_
 refine awp_seq ?_
 refine awp_seq ?_
 obtain ⟨v2, hj, h⟩ := Option.bind_eq_some_iff.1 h
 refine awp_join (Qa := fun e st => e = .normal ∧ LeSt st ⟨102, [(1, (.ref 1 0 0)), (12, (fB (v2)))], (synthesisref01_Check_m0 a0), [1]⟩) ?_ ?_
 ·replace h := hj
  clear hj
  refine awp_region ?_
  refine l_rk 4 tt_ok ⟨102, [(1, (.ref 1 0 0)), (8, (fB ((decide (a0.type < 1)))))], (synthesisref01_Check_m0 a0), [1]⟩ (by kernel_rfl) ?_
  rcases cond_some h with ⟨hb, h⟩ | ⟨hb, h⟩
  ·refine l_le (le_eq (t := 8) (x := .fz (eB (decide (a0.type < 1)))) (y := .fz (eB true)) (by kernel_rfl) (congrArg (fun b => AV.fz (eB b)) hb)) ?_
   refine l_rk 4 tt_ok ⟨102, [(1, (.ref 1 0 0)), (12, (fB (true)))], (synthesisref01_Check_m0 a0), [1]⟩ (by kernel_rfl) ?_
   refine l_nil ?_
   obtain rfl := Option.some.inj h
   exact And.intro rfl (le_ck (by kernel_rfl))
  ·refine l_le (le_eq (t := 8) (x := .fz (eB (decide (a0.type < 1)))) (y := .fz (eB false)) (by kernel_rfl) (congrArg (fun b => AV.fz (eB b)) hb)) ?_
   refine l_rk 4 tt_ok ⟨102, [(1, (.ref 1 0 0)), (12, (fB ((decide (8 < a0.type)))))], (synthesisref01_Check_m0 a0), [1]⟩ (by kernel_rfl) ?_
   refine l_nil ?_
   obtain rfl := Option.some.inj h
   exact And.intro rfl (le_ck (by kernel_rfl))
 ·clear hj
  intro e st' hq
  obtain ⟨rfl, hle⟩ := hq
  refine ⟨_, hle, ?_⟩
  rcases cond_some h with ⟨hb, h⟩ | ⟨hb, h⟩
  ·refine awp_cond_t (b := v2) (by kernel_rfl) hb ?_
   refine awp_seq ?_
   refine awp_region ?_
   refine l_rk 1 tt_ok ⟨102, [(2, (fI (3)))], [], []⟩ (by kernel_rfl) ?_
   refine l_nil ?_
   refine awp_ret ?_
   obtain rfl := Option.some.inj h
   exact (show retX _ _ _ _ = some _ from by kernel_rfl)
  ·refine awp_cond_f (b := v2) (by kernel_rfl) hb ?_
   refine awp_skip ?_
   refine awp_seq ?_
   obtain ⟨v4, hj, h⟩ := Option.bind_eq_some_iff.1 h
   refine awp_join (Qa := fun e st => e = .normal ∧ LeSt st ⟨102, [(1, (.ref 1 0 0)), (3, (fB (v4)))], (synthesisref01_Check_m0 a0), [1]⟩) ?_ ?_
   ·replace h := hj
    clear hj
    refine awp_region ?_
    refine l_rk 4 tt_ok ⟨102, [(1, (.ref 1 0 0)), (16, (fB ((a0.type == 1))))], (synthesisref01_Check_m0 a0), [1]⟩ (by kernel_rfl) ?_
    rcases cond_some h with ⟨hb, h⟩ | ⟨hb, h⟩
    ·refine l_le (le_eq (t := 16) (x := .fz (eB (a0.type == 1))) (y := .fz (eB true)) (by kernel_rfl) (congrArg (fun b => AV.fz (eB b)) hb)) ?_
     refine l_rk 10 tt_ok ⟨102, [(1, (.ref 1 0 0)), (3, (fB (true)))], (synthesisref01_Check_m0 a0), [1]⟩ (by kernel_rfl) ?_
     refine l_nil ?_
     obtain rfl := Option.some.inj h
     exact And.intro rfl (le_ck (by kernel_rfl))
    ·refine l_le (le_eq (t := 16) (x := .fz (eB (a0.type == 1))) (y := .fz (eB false)) (by kernel_rfl) (congrArg (fun b => AV.fz (eB b)) hb)) ?_
     refine l_rk 5 tt_ok ⟨102, [(1, (.ref 1 0 0)), (21, (fB ((a0.type == 2))))], (synthesisref01_Check_m0 a0), [1]⟩ (by kernel_rfl) ?_
     rcases cond_some h with ⟨hb, h⟩ | ⟨hb, h⟩
     ·refine l_le (le_eq (t := 21) (x := .fz (eB (a0.type == 2))) (y := .fz (eB true)) (by kernel_rfl) (congrArg (fun b => AV.fz (eB b)) hb)) ?_
      refine l_rk 5 tt_ok ⟨102, [(1, (.ref 1 0 0)), (3, (fB (true)))], (synthesisref01_Check_m0 a0), [1]⟩ (by kernel_rfl) ?_
      refine l_nil ?_
      obtain rfl := Option.some.inj h
      exact And.intro rfl (le_ck (by kernel_rfl))
     ·refine l_le (le_eq (t := 21) (x := .fz (eB (a0.type == 2))) (y := .fz (eB false)) (by kernel_rfl) (congrArg (fun b => AV.fz (eB b)) hb)) ?_
      refine l_rk 5 tt_ok ⟨102, [(1, (.ref 1 0 0)), (3, (fB ((a0.type == 4))))], (synthesisref01_Check_m0 a0), [1]⟩ (by kernel_rfl) ?_
      refine l_nil ?_
      obtain rfl := Option.some.inj h
      exact And.intro rfl (le_ck (by kernel_rfl))
   ·clear hj
    intro e st' hq
    obtain ⟨rfl, hle⟩ := hq
    refine ⟨_, hle, ?_⟩
    refine awp_seq ?_
    obtain ⟨v6, hj, h⟩ := Option.bind_eq_some_iff.1 h
    refine awp_join (Qa := fun e st => e = .normal ∧ LeSt st ⟨102, [(1, (.ref 1 0 0)), (3, (fB (v4))), (4, (fB (v6)))], (synthesisref01_Check_m0 a0), [1]⟩) ?_ ?_
    ·replace h := hj
     clear hj
     refine awp_region ?_
     refine l_rk 4 tt_ok ⟨102, [(1, (.ref 1 0 0)), (3, (fB (v4))), (29, (fB ((a0.type == 3))))], (synthesisref01_Check_m0 a0), [1]⟩ (by kernel_rfl) ?_
     rcases cond_some h with ⟨hb, h⟩ | ⟨hb, h⟩
     ·refine l_le (le_eq (t := 29) (x := .fz (eB (a0.type == 3))) (y := .fz (eB true)) (by kernel_rfl) (congrArg (fun b => AV.fz (eB b)) hb)) ?_
      refine l_rk 5 tt_ok ⟨102, [(1, (.ref 1 0 0)), (3, (fB (v4))), (4, (fB (true)))], (synthesisref01_Check_m0 a0), [1]⟩ (by kernel_rfl) ?_
      refine l_nil ?_
      obtain rfl := Option.some.inj h
      exact And.intro rfl (le_ck (by kernel_rfl))
     ·refine l_le (le_eq (t := 29) (x := .fz (eB (a0.type == 3))) (y := .fz (eB false)) (by kernel_rfl) (congrArg (fun b => AV.fz (eB b)) hb)) ?_
      refine l_rk 5 tt_ok ⟨102, [(1, (.ref 1 0 0)), (3, (fB (v4))), (4, (fB ((a0.type == 8))))], (synthesisref01_Check_m0 a0), [1]⟩ (by kernel_rfl) ?_
      refine l_nil ?_
      obtain rfl := Option.some.inj h
      exact And.intro rfl (le_ck (by kernel_rfl))
    ·clear hj
     intro e st' hq
     obtain ⟨rfl, hle⟩ := hq
     refine ⟨_, hle, ?_⟩
     refine awp_seq ?_
     refine awp_seq ?_
     obtain ⟨v8, hj, h⟩ := Option.bind_eq_some_iff.1 h
     refine awp_join (Qa := fun e st => e = .normal ∧ LeSt st ⟨102, [(1, (.ref 1 0 0)), (61, (fB (v8)))], (synthesisref01_Check_m0 a0), [1]⟩) ?_ ?_
     ·replace h := hj
      clear hj
      refine awp_region ?_
      refine l_rk 3 tt_ok ⟨102, [(1, (.ref 1 0 0)), (3, (fB (v4))), (4, (fB (v6))), (36, (fB ((!v4))))], (synthesisref01_Check_m0 a0), [1]⟩ (by kernel_rfl) ?_
      rcases cond_some h with ⟨hb, h⟩ | ⟨hb, h⟩
      ·refine l_le (le_eq (t := 36) (x := .fz (eB (!v4))) (y := .fz (eB true)) (by kernel_rfl) (congrArg (fun b => AV.fz (eB b)) hb)) ?_
       refine l_rk 5 tt_ok ⟨102, [(1, (.ref 1 0 0)), (3, (fB (v4))), (4, (fB (v6))), (41, (fB ((a0.num != 0))))], (synthesisref01_Check_m0 a0), [1]⟩ (by kernel_rfl) ?_
       rcases cond_some h with ⟨hb, h⟩ | ⟨hb, h⟩
       ·refine l_le (le_eq (t := 41) (x := .fz (eB (a0.num != 0))) (y := .fz (eB true)) (by kernel_rfl) (congrArg (fun b => AV.fz (eB b)) hb)) ?_
        refine l_rk 20 tt_ok ⟨102, [(1, (.ref 1 0 0)), (61, (fB (true)))], (synthesisref01_Check_m0 a0), [1]⟩ (by kernel_rfl) ?_
        refine l_nil ?_
        obtain rfl := Option.some.inj h
        exact And.intro rfl (le_ck (by kernel_rfl))
       ·refine l_le (le_eq (t := 41) (x := .fz (eB (a0.num != 0))) (y := .fz (eB false)) (by kernel_rfl) (congrArg (fun b => AV.fz (eB b)) hb)) ?_
        refine l_rk 3 tt_ok ⟨102, [(1, (.ref 1 0 0)), (3, (fB (v4))), (4, (fB (v6))), (41, (fB (false))), (44, (fB ((!v6))))], (synthesisref01_Check_m0 a0), [1]⟩ (by kernel_rfl) ?_
        rcases cond_some h with ⟨hb, h⟩ | ⟨hb, h⟩
        ·refine l_le (le_eq (t := 44) (x := .fz (eB (!v6))) (y := .fz (eB true)) (by kernel_rfl) (congrArg (fun b => AV.fz (eB b)) hb)) ?_
         refine l_rk 6 tt_ok ⟨102, [(1, (.ref 1 0 0)), (3, (fB (v4))), (4, (fB (v6))), (50, (fB ((!(a0.text.toList == (⟨#[]⟩ : ByteArray).toList)))))], (synthesisref01_Check_m0 a0), [1]⟩ (by kernel_rfl) ?_
         rcases cond_some h with ⟨hb, h⟩ | ⟨hb, h⟩
         ·refine l_le (le_eq (t := 50) (x := .fz (eB (!(a0.text.toList == (⟨#[]⟩ : ByteArray).toList)))) (y := .fz (eB true)) (by kernel_rfl) (congrArg (fun b => AV.fz (eB b)) hb)) ?_
          refine l_rk 11 tt_ok ⟨102, [(1, (.ref 1 0 0)), (61, (fB (true)))], (synthesisref01_Check_m0 a0), [1]⟩ (by kernel_rfl) ?_
          refine l_nil ?_
          obtain rfl := Option.some.inj h
          exact And.intro rfl (le_ck (by kernel_rfl))
         ·refine l_le (le_eq (t := 50) (x := .fz (eB (!(a0.text.toList == (⟨#[]⟩ : ByteArray).toList)))) (y := .fz (eB false)) (by kernel_rfl) (congrArg (fun b => AV.fz (eB b)) hb)) ?_
          refine l_rk 2 tt_ok ⟨102, [(1, (.ref 1 0 0)), (4, (fB (v6))), (50, (fB (false))), (52, (fB (v4)))], (synthesisref01_Check_m0 a0), [1]⟩ (by kernel_rfl) ?_
          rcases cond_some h with ⟨hb, h⟩ | ⟨hb, h⟩
          ·refine l_le (le_eq (t := 52) (x := .fz (eB v4)) (y := .fz (eB true)) (by kernel_rfl) (congrArg (fun b => AV.fz (eB b)) hb)) ?_
           refine l_rk 9 tt_ok ⟨102, [(1, (.ref 1 0 0)), (61, (fB ((decide (0 < (List.length a0.items : Int))))))], (synthesisref01_Check_m0 a0), [1]⟩ (by kernel_rfl) ?_
           refine l_nil ?_
           obtain rfl := Option.some.inj h
           exact And.intro rfl (le_ck (by kernel_rfl))
          ·refine l_le (le_eq (t := 52) (x := .fz (eB v4)) (y := .fz (eB false)) (by kernel_rfl) (congrArg (fun b => AV.fz (eB b)) hb)) ?_
           refine l_rk 3 tt_ok ⟨102, [(1, (.ref 1 0 0)), (50, (fB (false))), (55, (fB (v6)))], (synthesisref01_Check_m0 a0), [1]⟩ (by kernel_rfl) ?_
           rcases cond_some h with ⟨hb, h⟩ | ⟨hb, h⟩
           ·refine l_le (le_eq (t := 55) (x := .fz (eB v6)) (y := .fz (eB true)) (by kernel_rfl) (congrArg (fun b => AV.fz (eB b)) hb)) ?_
            refine l_rk 6 tt_ok ⟨102, [(1, (.ref 1 0 0)), (61, (fB ((decide (0 < (List.length a0.items : Int))))))], (synthesisref01_Check_m0 a0), [1]⟩ (by kernel_rfl) ?_
            refine l_nil ?_
            obtain rfl := Option.some.inj h
            exact And.intro rfl (le_ck (by kernel_rfl))
           ·refine l_le (le_eq (t := 55) (x := .fz (eB v6)) (y := .fz (eB false)) (by kernel_rfl) (congrArg (fun b => AV.fz (eB b)) hb)) ?_
            refine l_rk 6 tt_ok ⟨102, [(1, (.ref 1 0 0)), (61, (fB (false)))], (synthesisref01_Check_m0 a0), [1]⟩ (by kernel_rfl) ?_
            refine l_nil ?_
            obtain rfl := Option.some.inj h
            exact And.intro rfl (le_ck (by kernel_rfl))
        ·refine l_le (le_eq (t := 44) (x := .fz (eB (!v6))) (y := .fz (eB false)) (by kernel_rfl) (congrArg (fun b => AV.fz (eB b)) hb)) ?_
         refine l_rk 8 tt_ok ⟨102, [(1, (.ref 1 0 0)), (4, (fB (v6))), (50, (fB (false))), (52, (fB (v4)))], (synthesisref01_Check_m0 a0), [1]⟩ (by kernel_rfl) ?_
         rcases cond_some h with ⟨hb, h⟩ | ⟨hb, h⟩
         ·refine l_le (le_eq (t := 52) (x := .fz (eB v4)) (y := .fz (eB true)) (by kernel_rfl) (congrArg (fun b => AV.fz (eB b)) hb)) ?_
          refine l_rk 9 tt_ok ⟨102, [(1, (.ref 1 0 0)), (61, (fB ((decide (0 < (List.length a0.items : Int))))))], (synthesisref01_Check_m0 a0), [1]⟩ (by kernel_rfl) ?_
          refine l_nil ?_
          obtain rfl := Option.some.inj h
          exact And.intro rfl (le_ck (by kernel_rfl))
         ·refine l_le (le_eq (t := 52) (x := .fz (eB v4)) (y := .fz (eB false)) (by kernel_rfl) (congrArg (fun b => AV.fz (eB b)) hb)) ?_
          refine l_rk 3 tt_ok ⟨102, [(1, (.ref 1 0 0)), (50, (fB (false))), (55, (fB (v6)))], (synthesisref01_Check_m0 a0), [1]⟩ (by kernel_rfl) ?_
          rcases cond_some h with ⟨hb, h⟩ | ⟨hb, h⟩
          ·refine l_le (le_eq (t := 55) (x := .fz (eB v6)) (y := .fz (eB true)) (by kernel_rfl) (congrArg (fun b => AV.fz (eB b)) hb)) ?_
           refine l_rk 6 tt_ok ⟨102, [(1, (.ref 1 0 0)), (61, (fB ((decide (0 < (List.length a0.items : Int))))))], (synthesisref01_Check_m0 a0), [1]⟩ (by kernel_rfl) ?_
           refine l_nil ?_
           obtain rfl := Option.some.inj h
           exact And.intro rfl (le_ck (by kernel_rfl))
          ·refine l_le (le_eq (t := 55) (x := .fz (eB v6)) (y := .fz (eB false)) (by kernel_rfl) (congrArg (fun b => AV.fz (eB b)) hb)) ?_
           refine l_rk 6 tt_ok ⟨102, [(1, (.ref 1 0 0)), (61, (fB (false)))], (synthesisref01_Check_m0 a0), [1]⟩ (by kernel_rfl) ?_
           refine l_nil ?_
           obtain rfl := Option.some.inj h
           exact And.intro rfl (le_ck (by kernel_rfl))
      ·refine l_le (le_eq (t := 36) (x := .fz (eB (!v4))) (y := .fz (eB false)) (by kernel_rfl) (congrArg (fun b => AV.fz (eB b)) hb)) ?_
       refine l_rk 8 tt_ok ⟨102, [(1, (.ref 1 0 0)), (3, (fB (v4))), (4, (fB (v6))), (41, (fB (false))), (44, (fB ((!v6))))], (synthesisref01_Check_m0 a0), [1]⟩ (by kernel_rfl) ?_
       rcases cond_some h with ⟨hb, h⟩ | ⟨hb, h⟩
       ·refine l_le (le_eq (t := 44) (x := .fz (eB (!v6))) (y := .fz (eB true)) (by kernel_rfl) (congrArg (fun b => AV.fz (eB b)) hb)) ?_
        refine l_rk 6 tt_ok ⟨102, [(1, (.ref 1 0 0)), (3, (fB (v4))), (4, (fB (v6))), (50, (fB ((!(a0.text.toList == (⟨#[]⟩ : ByteArray).toList)))))], (synthesisref01_Check_m0 a0), [1]⟩ (by kernel_rfl) ?_
        rcases cond_some h with ⟨hb, h⟩ | ⟨hb, h⟩
        ·refine l_le (le_eq (t := 50) (x := .fz (eB (!(a0.text.toList == (⟨#[]⟩ : ByteArray).toList)))) (y := .fz (eB true)) (by kernel_rfl) (congrArg (fun b => AV.fz (eB b)) hb)) ?_
         refine l_rk 11 tt_ok ⟨102, [(1, (.ref 1 0 0)), (61, (fB (true)))], (synthesisref01_Check_m0 a0), [1]⟩ (by kernel_rfl) ?_
         refine l_nil ?_
         obtain rfl := Option.some.inj h
         exact And.intro rfl (le_ck (by kernel_rfl))
        ·refine l_le (le_eq (t := 50) (x := .fz (eB (!(a0.text.toList == (⟨#[]⟩ : ByteArray).toList)))) (y := .fz (eB false)) (by kernel_rfl) (congrArg (fun b => AV.fz (eB b)) hb)) ?_
         refine l_rk 2 tt_ok ⟨102, [(1, (.ref 1 0 0)), (4, (fB (v6))), (50, (fB (false))), (52, (fB (v4)))], (synthesisref01_Check_m0 a0), [1]⟩ (by kernel_rfl) ?_
         rcases cond_some h with ⟨hb, h⟩ | ⟨hb, h⟩
         ·refine l_le (le_eq (t := 52) (x := .fz (eB v4)) (y := .fz (eB true)) (by kernel_rfl) (congrArg (fun b => AV.fz (eB b)) hb)) ?_
          refine l_rk 9 tt_ok ⟨102, [(1, (.ref 1 0 0)), (61, (fB ((decide (0 < (List.length a0.items : Int))))))], (synthesisref01_Check_m0 a0), [1]⟩ (by kernel_rfl) ?_
          refine l_nil ?_
          obtain rfl := Option.some.inj h
          exact And.intro rfl (le_ck (by kernel_rfl))
         ·refine l_le (le_eq (t := 52) (x := .fz (eB v4)) (y := .fz (eB false)) (by kernel_rfl) (congrArg (fun b => AV.fz (eB b)) hb)) ?_
          refine l_rk 3 tt_ok ⟨102, [(1, (.ref 1 0 0)), (50, (fB (false))), (55, (fB (v6)))], (synthesisref01_Check_m0 a0), [1]⟩ (by kernel_rfl) ?_
          rcases cond_some h with ⟨hb, h⟩ | ⟨hb, h⟩
          ·refine l_le (le_eq (t := 55) (x := .fz (eB v6)) (y := .fz (eB true)) (by kernel_rfl) (congrArg (fun b => AV.fz (eB b)) hb)) ?_
           refine l_rk 6 tt_ok ⟨102, [(1, (.ref 1 0 0)), (61, (fB ((decide (0 < (List.length a0.items : Int))))))], (synthesisref01_Check_m0 a0), [1]⟩ (by kernel_rfl) ?_
           refine l_nil ?_
           obtain rfl := Option.some.inj h
           exact And.intro rfl (le_ck (by kernel_rfl))
          ·refine l_le (le_eq (t := 55) (x := .fz (eB v6)) (y := .fz (eB false)) (by kernel_rfl) (congrArg (fun b => AV.fz (eB b)) hb)) ?_
           refine l_rk 6 tt_ok ⟨102, [(1, (.ref 1 0 0)), (61, (fB (false)))], (synthesisref01_Check_m0 a0), [1]⟩ (by kernel_rfl) ?_
           refine l_nil ?_
           obtain rfl := Option.some.inj h
           exact And.intro rfl (le_ck (by kernel_rfl))
       ·refine l_le (le_eq (t := 44) (x := .fz (eB (!v6))) (y := .fz (eB false)) (by kernel_rfl) (congrArg (fun b => AV.fz (eB b)) hb)) ?_
        refine l_rk 8 tt_ok ⟨102, [(1, (.ref 1 0 0)), (4, (fB (v6))), (50, (fB (false))), (52, (fB (v4)))], (synthesisref01_Check_m0 a0), [1]⟩ (by kernel_rfl) ?_
        rcases cond_some h with ⟨hb, h⟩ | ⟨hb, h⟩
        ·refine l_le (le_eq (t := 52) (x := .fz (eB v4)) (y := .fz (eB true)) (by kernel_rfl) (congrArg (fun b => AV.fz (eB b)) hb)) ?_
         refine l_rk 9 tt_ok ⟨102, [(1, (.ref 1 0 0)), (61, (fB ((decide (0 < (List.length a0.items : Int))))))], (synthesisref01_Check_m0 a0), [1]⟩ (by kernel_rfl) ?_
         refine l_nil ?_
         obtain rfl := Option.some.inj h
         exact And.intro rfl (le_ck (by kernel_rfl))
        ·refine l_le (le_eq (t := 52) (x := .fz (eB v4)) (y := .fz (eB false)) (by kernel_rfl) (congrArg (fun b => AV.fz (eB b)) hb)) ?_
         refine l_rk 3 tt_ok ⟨102, [(1, (.ref 1 0 0)), (50, (fB (false))), (55, (fB (v6)))], (synthesisref01_Check_m0 a0), [1]⟩ (by kernel_rfl) ?_
         rcases cond_some h with ⟨hb, h⟩ | ⟨hb, h⟩
         ·refine l_le (le_eq (t := 55) (x := .fz (eB v6)) (y := .fz (eB true)) (by kernel_rfl) (congrArg (fun b => AV.fz (eB b)) hb)) ?_
          refine l_rk 6 tt_ok ⟨102, [(1, (.ref 1 0 0)), (61, (fB ((decide (0 < (List.length a0.items : Int))))))], (synthesisref01_Check_m0 a0), [1]⟩ (by kernel_rfl) ?_
          refine l_nil ?_
          obtain rfl := Option.some.inj h
          exact And.intro rfl (le_ck (by kernel_rfl))
         ·refine l_le (le_eq (t := 55) (x := .fz (eB v6)) (y := .fz (eB false)) (by kernel_rfl) (congrArg (fun b => AV.fz (eB b)) hb)) ?_
          refine l_rk 6 tt_ok ⟨102, [(1, (.ref 1 0 0)), (61, (fB (false)))], (synthesisref01_Check_m0 a0), [1]⟩ (by kernel_rfl) ?_
          refine l_nil ?_
          obtain rfl := Option.some.inj h
          exact And.intro rfl (le_ck (by kernel_rfl))
     ·clear hj
      intro e st' hq
      obtain ⟨rfl, hle⟩ := hq
      refine ⟨_, hle, ?_⟩
      rcases cond_some h with ⟨hb, h⟩ | ⟨hb, h⟩
      ·refine awp_cond_t (b := v8) (by kernel_rfl) hb ?_
       refine awp_seq ?_
       refine awp_region ?_
       refine l_rk 1 tt_ok ⟨102, [(2, (fI (4)))], [], []⟩ (by kernel_rfl) ?_
       refine l_nil ?_
       refine awp_ret ?_
       obtain rfl := Option.some.inj h
       exact (show retX _ _ _ _ = some _ from by kernel_rfl)
      ·refine awp_cond_f (b := v8) (by kernel_rfl) hb ?_
       refine awp_skip ?_
       refine awp_seq ?_
       refine awp_seq ?_
       refine awp_region ?_
       refine l_rk 2 tt_ok ⟨102, [(1, (.ref 1 0 0)), (63, (fI (a0.type)))], (synthesisref01_Check_m0 a0), [1]⟩ (by kernel_rfl) ?_
       refine l_nil ?_
       refine awp_block ?_
       refine awp_seq ?_
       refine awp_region ?_
       refine l_rk 2 tt_ok ⟨102, [(1, (.ref 1 0 0)), (63, (fI (a0.type))), (64, (fB ((a0.type == 1))))], (synthesisref01_Check_m0 a0), [1]⟩ (by kernel_rfl) ?_
       refine l_nil ?_
       rcases cond_some h with ⟨hb, h⟩ | ⟨hb, h⟩
       ·refine awp_cond_t (b := (a0.type == 1)) (by kernel_rfl) hb ?_
        refine awp_seq ?_
        refine awp_region ?_
        refine l_rk 2 tt_ok ⟨102, [(67, (fI (a0.num)))], [], []⟩ (by kernel_rfl) ?_
        obtain ⟨v9, hv9, h⟩ := Option.bind_eq_some_iff.1 h
        refine l_step ((n_call (ys := [eI (a0.num), eI (0), eI (1)]) (cs := [(.one (.keep)), (.one (.keep)), (.one (.keep))]) rfl (by kernel_rfl) (synthesisref01_within_ok (a0.num) (0) (1) _ hv9)).step) (by kernel_rfl) (dst_of (by kernel_rfl)) ?_
        refine l_rk 1 tt_ok ⟨102, [(2, (fI (v9)))], [], []⟩ (by kernel_rfl) ?_
        refine l_nil ?_
        refine awp_ret ?_
        obtain rfl := Option.some.inj h
        exact (show retX _ _ _ _ = some _ from by kernel_rfl)
       ·refine awp_cond_f (b := (a0.type == 1)) (by kernel_rfl) hb ?_
        refine awp_seq ?_
        refine awp_region ?_
        refine l_rk 2 tt_ok ⟨102, [(1, (.ref 1 0 0)), (63, (fI (a0.type))), (69, (fB ((a0.type == 2))))], (synthesisref01_Check_m0 a0), [1]⟩ (by kernel_rfl) ?_
        refine l_nil ?_
        rcases cond_some h with ⟨hb, h⟩ | ⟨hb, h⟩
        ·refine awp_cond_t (b := (a0.type == 2)) (by kernel_rfl) hb ?_
         refine awp_seq ?_
         refine awp_region ?_
         refine l_rk 2 tt_ok ⟨102, [(72, (fI (a0.num)))], [], []⟩ (by kernel_rfl) ?_
         obtain ⟨v10, hv10, h⟩ := Option.bind_eq_some_iff.1 h
         refine l_step ((n_call (ys := [eI (a0.num), eI ((-1000000)), eI (1000000)]) (cs := [(.one (.keep)), (.one (.keep)), (.one (.keep))]) rfl (by kernel_rfl) (synthesisref01_within_ok (a0.num) ((-1000000)) (1000000) _ hv10)).step) (by kernel_rfl) (dst_of (by kernel_rfl)) ?_
         refine l_rk 1 tt_ok ⟨102, [(2, (fI (v10)))], [], []⟩ (by kernel_rfl) ?_
         refine l_nil ?_
         refine awp_ret ?_
         obtain rfl := Option.some.inj h
         exact (show retX _ _ _ _ = some _ from by kernel_rfl)
        ·refine awp_cond_f (b := (a0.type == 2)) (by kernel_rfl) hb ?_
         refine awp_seq ?_
         refine awp_region ?_
         refine l_rk 2 tt_ok ⟨102, [(1, (.ref 1 0 0)), (63, (fI (a0.type))), (74, (fB ((a0.type == 4))))], (synthesisref01_Check_m0 a0), [1]⟩ (by kernel_rfl) ?_
         refine l_nil ?_
         rcases cond_some h with ⟨hb, h⟩ | ⟨hb, h⟩
         ·refine awp_cond_t (b := (a0.type == 4)) (by kernel_rfl) hb ?_
          refine awp_seq ?_
          refine awp_region ?_
          refine l_rk 2 tt_ok ⟨102, [(77, (fI (a0.num)))], [], []⟩ (by kernel_rfl) ?_
          obtain ⟨v11, hv11, h⟩ := Option.bind_eq_some_iff.1 h
          refine l_step ((n_call (ys := [eI (a0.num), eI (0), eI (255)]) (cs := [(.one (.keep)), (.one (.keep)), (.one (.keep))]) rfl (by kernel_rfl) (synthesisref01_within_ok (a0.num) (0) (255) _ hv11)).step) (by kernel_rfl) (dst_of (by kernel_rfl)) ?_
          refine l_rk 1 tt_ok ⟨102, [(2, (fI (v11)))], [], []⟩ (by kernel_rfl) ?_
          refine l_nil ?_
          refine awp_ret ?_
          obtain rfl := Option.some.inj h
          exact (show retX _ _ _ _ = some _ from by kernel_rfl)
         ·refine awp_cond_f (b := (a0.type == 4)) (by kernel_rfl) hb ?_
          refine awp_seq ?_
          refine awp_region ?_
          refine l_rk 2 tt_ok ⟨102, [(1, (.ref 1 0 0)), (63, (fI (a0.type))), (79, (fB ((a0.type == 3))))], (synthesisref01_Check_m0 a0), [1]⟩ (by kernel_rfl) ?_
          refine l_nil ?_
          rcases cond_some h with ⟨hb, h⟩ | ⟨hb, h⟩
          ·refine awp_cond_t (b := (a0.type == 3)) (by kernel_rfl) hb ?_
           refine awp_seq ?_
           refine awp_region ?_
           refine l_rk 2 tt_ok ⟨102, [(82, (fS (a0.text)))], [], []⟩ (by kernel_rfl) ?_
           obtain ⟨v12, hv12, h⟩ := Option.bind_eq_some_iff.1 h
           refine l_step ((n_call (ys := [eS (a0.text), eI (0), eI (64)]) (cs := [(.one (.keep)), (.one (.keep)), (.one (.keep))]) rfl (by kernel_rfl) (synthesisref01_plain_ok (a0.text) (0) (64) _ hv12)).step) (by kernel_rfl) (dst_of (by kernel_rfl)) ?_
           refine l_rk 1 tt_ok ⟨102, [(2, (fI (v12)))], [], []⟩ (by kernel_rfl) ?_
           refine l_nil ?_
           refine awp_ret ?_
           obtain rfl := Option.some.inj h
           exact (show retX _ _ _ _ = some _ from by kernel_rfl)
          ·refine awp_cond_f (b := (a0.type == 3)) (by kernel_rfl) hb ?_
           refine awp_seq ?_
           refine awp_region ?_
           refine l_rk 2 tt_ok ⟨102, [(1, (.ref 1 0 0)), (63, (fI (a0.type))), (84, (fB ((a0.type == 8))))], (synthesisref01_Check_m0 a0), [1]⟩ (by kernel_rfl) ?_
           refine l_nil ?_
           rcases cond_some h with ⟨hb, h⟩ | ⟨hb, h⟩
           ·refine awp_cond_t (b := (a0.type == 8)) (by kernel_rfl) hb ?_
            refine awp_seq ?_
            refine awp_region ?_
            refine l_rk 2 tt_ok ⟨102, [(87, (fS (a0.text)))], [], []⟩ (by kernel_rfl) ?_
            obtain ⟨v13, hv13, h⟩ := Option.bind_eq_some_iff.1 h
            refine l_step ((n_call (ys := [eS (a0.text), eI (1), eI (40)]) (cs := [(.one (.keep)), (.one (.keep)), (.one (.keep))]) rfl (by kernel_rfl) (synthesisref01_plain_ok (a0.text) (1) (40) _ hv13)).step) (by kernel_rfl) (dst_of (by kernel_rfl)) ?_
            refine l_rk 1 tt_ok ⟨102, [(2, (fI (v13)))], [], []⟩ (by kernel_rfl) ?_
            refine l_nil ?_
            refine awp_ret ?_
            obtain rfl := Option.some.inj h
            exact (show retX _ _ _ _ = some _ from by kernel_rfl)
           ·refine awp_cond_f (b := (a0.type == 8)) (by kernel_rfl) hb ?_
            refine awp_seq ?_
            refine awp_region ?_
            refine l_rk 2 tt_ok ⟨102, [(1, (.ref 1 0 0)), (63, (fI (a0.type))), (89, (fB ((a0.type == 5))))], (synthesisref01_Check_m0 a0), [1]⟩ (by kernel_rfl) ?_
            refine l_nil ?_
            rcases cond_some h with ⟨hb, h⟩ | ⟨hb, h⟩
            ·refine awp_cond_t (b := (a0.type == 5)) (by kernel_rfl) hb ?_
             refine awp_seq ?_
             refine awp_region ?_
             refine l_rk 2 tt_ok ⟨102, [(92, (.fz ((eL 4 eVaR) (a0.items))))], [], []⟩ (by kernel_rfl) ?_
             obtain ⟨v14, hv14, h⟩ := Option.bind_eq_some_iff.1 h
             refine l_step ((n_call (ys := [(eL 4 eVaR) (a0.items), eI (2)]) (cs := [(.one (.sl 4)), (.one (.keep))]) rfl (by kernel_rfl) (ih171 (a0.items) (2) _ hv14)).step) (by kernel_rfl) (dst_of (by kernel_rfl)) ?_
             refine l_rk 1 tt_ok ⟨102, [(2, (fI (v14)))], [], []⟩ (by kernel_rfl) ?_
             refine l_nil ?_
             refine awp_ret ?_
             obtain rfl := Option.some.inj h
             exact (show retX _ _ _ _ = some _ from by kernel_rfl)
            ·refine awp_cond_f (b := (a0.type == 5)) (by kernel_rfl) hb ?_
             refine awp_seq ?_
             refine awp_region ?_
             refine l_rk 2 tt_ok ⟨102, [(1, (.ref 1 0 0)), (94, (fB ((a0.type == 6))))], (synthesisref01_Check_m0 a0), [1]⟩ (by kernel_rfl) ?_
             refine l_nil ?_
             rcases cond_some h with ⟨hb, h⟩ | ⟨hb, h⟩
             ·refine awp_cond_t (b := (a0.type == 6)) (by kernel_rfl) hb ?_
              refine awp_seq ?_
              refine awp_region ?_
              refine l_rk 2 tt_ok ⟨102, [(97, (.fz ((eL 4 eVaR) (a0.items))))], [], []⟩ (by kernel_rfl) ?_
              obtain ⟨v15, hv15, h⟩ := Option.bind_eq_some_iff.1 h
              refine l_step ((n_call (ys := [(eL 4 eVaR) (a0.items), eI (3)]) (cs := [(.one (.sl 4)), (.one (.keep))]) rfl (by kernel_rfl) (ih171 (a0.items) (3) _ hv15)).step) (by kernel_rfl) (dst_of (by kernel_rfl)) ?_
              refine l_rk 1 tt_ok ⟨102, [(2, (fI (v15)))], [], []⟩ (by kernel_rfl) ?_
              refine l_nil ?_
              refine awp_ret ?_
              obtain rfl := Option.some.inj h
              exact (show retX _ _ _ _ = some _ from by kernel_rfl)
             ·refine awp_cond_f (b := (a0.type == 6)) (by kernel_rfl) hb ?_
              refine awp_skip ?_
              refine awp_seq ?_
              refine awp_region ?_
              refine l_rk 2 tt_ok ⟨102, [(100, (.fz ((eL 4 eVaR) (a0.items))))], [], []⟩ (by kernel_rfl) ?_
              obtain ⟨v16, hv16, h⟩ := Option.bind_eq_some_iff.1 h
              refine l_step ((n_call (ys := [(eL 4 eVaR) (a0.items)]) (cs := [(.one (.sl 4))]) rfl (by kernel_rfl) (ih172 (a0.items) _ hv16)).step) (by kernel_rfl) (dst_of (by kernel_rfl)) ?_
              refine l_rk 1 tt_ok ⟨102, [(2, (fI (v16)))], [], []⟩ (by kernel_rfl) ?_
              refine l_nil ?_
              refine awp_ret ?_
              obtain rfl := Option.some.inj h
              exact (show retX _ _ _ _ = some _ from by kernel_rfl)
def synthesisref01_elements_l1 (a0 : List Va) (a1 : Int) (r131 : (Va) → Option (Int)) (v1 : (Int)) : Option (((Int)) ⊕ (((Unit) ⊕ (Int)))) := (bif (decide (v1 < (List.length a0 : Int))) then (Option.bind (idx a0 v1) fun v2 => (bif (v2.type != a1) then (some (.inr (.inr 3))) else (Option.bind (idx a0 v1) fun v3 => (Option.bind (r131 (v3)) fun v4 => (bif (v4 != 0) then (some (.inr (.inr v4))) else (some (.inl ((w64 (v1 + 1)))))))))) else (some (.inr (.inl ()))))
def synthesisref01_elements_b (r131 : (Va) → Option (Int)) (r171 : (List Va) → (Int) → Option (Int)) (r172 : (List Va) → Option (Int)) (a0 : List Va) (a1 : Int) : Option (Int) := (bif (decide (16 < (List.length a0 : Int))) then (some 2) else (Option.bind (loopN (synthesisref01_elements_l1 a0 a1 r131) fuel (0)) fun (v5 : ((Unit) ⊕ (Int))) => Sum.elim (fun v6 => (some 0)) (fun v7 => (some v7)) v5))
theorem synthesisref01_elements_b_ok (r131 : (Va) → Option (Int)) (r171 : (List Va) → (Int) → Option (Int)) (r172 : (List Va) → Option (Int)) (ih131 : ∀ (x0 : Va) r, r131 x0 = some r → PCall Try.prog 131 [eVa x0] (eI (r))) (ih171 : ∀ (x0 : List Va) (x1 : Int) r, r171 x0 x1 = some r → PCall Try.prog 171 [(eL 4 eVaR) x0, eI x1] (eI (r))) (ih172 : ∀ (x0 : List Va) r, r172 x0 = some r → PCall Try.prog 172 [(eL 4 eVaR) x0] (eI (r))) (a0 : List Va) (a1 : Int) (r : Int) (h : synthesisref01_elements_b r131 r171 r172 a0 a1 = some r) : PCall Try.prog 171 [(eL 4 eVaR) a0, eI a1] (eI (r)) := by
 unfold synthesisref01_elements_b at h
 refine pcall_intro (T := TT) tt_ok [.one .keep] Try.func171 rfl (by kernel_rfl) (by kernel_rfl) ?_
 refine awp_le (st' := ⟨31, [(0, (.fz ((eL 4 eVaR) (a0)))), (1, (fI (a1)))], [], []⟩) (le_ck (by kernel_rfl)) ?_
 refine awp_seq ?_
 refine awp_region ?_
 refine l_rk 1 tt_ok ⟨31, [(0, (.fz ((eL 4 eVaR) (a0)))), (1, (fI (a1)))], [], []⟩ (by kernel_rfl) ?_
 refine l_nil ?_
 refine awp_seq ?_
 refine awp_seq ?_
 refine awp_region ?_
 refine l_rk 3 tt_ok ⟨31, [(0, (.fz ((eL 4 eVaR) (a0)))), (1, (fI (a1))), (9, (fB ((decide (16 < (List.length a0 : Int))))))], [], []⟩ (by kernel_rfl) ?_
 refine l_nil ?_
 rcases cond_some h with ⟨hb, h⟩ | ⟨hb, h⟩
 ·refine awp_cond_t (b := (decide (16 < (List.length a0 : Int)))) (by kernel_rfl) hb ?_
  refine awp_seq ?_
  refine awp_region ?_
  refine l_rk 1 tt_ok ⟨31, [(4, (fI (2)))], [], []⟩ (by kernel_rfl) ?_
  refine l_nil ?_
  refine awp_ret ?_
  obtain rfl := Option.some.inj h
  exact (show retX _ _ _ _ = some _ from by kernel_rfl)
 ·refine awp_cond_f (b := (decide (16 < (List.length a0 : Int)))) (by kernel_rfl) hb ?_
  refine awp_skip ?_
  refine awp_seq ?_
  refine awp_seq ?_
  refine awp_region ?_
  refine l_rk 1 tt_ok ⟨31, [(0, (.fz ((eL 4 eVaR) (a0)))), (1, (fI (a1))), (5, (fI (0)))], [], []⟩ (by kernel_rfl) ?_
  refine l_nil ?_
  refine awp_block ?_
  obtain ⟨v5, hj, h⟩ := Option.bind_eq_some_iff.1 h
  refine awp_join (Qa := fun e st => Sum.elim (fun p => e = .exit 0 ∧ LeSt st ⟨31, [], [], []⟩) (fun p => e = .ret ∧ retX TT st Try.f171.results.toList [.one .keep] = some (eI (p))) v5) ?_ ?_
  ·refine awp_loopS (stOf := fun v1 => ⟨31, [(0, (.fz ((eL 4 eVaR) (a0)))), (1, (fI (a1))), (5, (fI (v1)))], [], []⟩) (Qb := fun j e st => Sum.elim (fun p => e = .exit 0 ∧ LeSt st ⟨31, [], [], []⟩) (fun p => e = .ret ∧ retX TT st Try.f171.results.toList [.one .keep] = some (eI (p))) j) hj (le_ck (by kernel_rfl)) ?_
   clear hj h
   intro v1 r h
   unfold synthesisref01_elements_l1 at h
   refine awp_seq ?_
   refine awp_seq ?_
   refine awp_region ?_
   refine l_rk 4 tt_ok ⟨31, [(0, (.fz ((eL 4 eVaR) (a0)))), (1, (fI (a1))), (5, (fI (v1))), (13, (fB ((decide (v1 < (List.length a0 : Int))))))], [], []⟩ (by kernel_rfl) ?_
   refine l_nil ?_
   rcases cond_some h with ⟨hb, h⟩ | ⟨hb, h⟩
   ·refine awp_cond_t (b := (decide (v1 < (List.length a0 : Int)))) (by kernel_rfl) hb ?_
    refine awp_skip ?_
    refine awp_seq ?_
    refine awp_block ?_
    refine awp_seq ?_
    refine awp_seq ?_
    refine awp_region ?_
    refine l_rk 2 tt_ok ⟨31, [(0, (.fz ((eL 4 eVaR) (a0)))), (1, (fI (a1))), (5, (fI (v1))), (16, (.fz ((eL 4 eVaR) (a0)))), (17, (fI (v1)))], [], []⟩ (by kernel_rfl) ?_
    obtain ⟨v2, hv2, h⟩ := Option.bind_eq_some_iff.1 h
    refine l_step ((s_index (k := .i64) (d := tt63) (e := 65) (de := tt65) (enc := eVaR) hv2 tt_ok rfl (by kernel_rfl) (by kernel_rfl) (by kernel_rfl) (by kernel_rfl) len_eVaR (by kernel_rfl) (cells_eVaR v2)).step) (by kernel_rfl) (dst_of (by kernel_rfl)) ?_
    refine l_rk 4 tt_ok ⟨31, [(0, (.fz ((eL 4 eVaR) (a0)))), (1, (fI (a1))), (5, (fI (v1))), (22, (fB ((v2.type != a1))))], [], []⟩ (by kernel_rfl) ?_
    refine l_nil ?_
    rcases cond_some h with ⟨hb, h⟩ | ⟨hb, h⟩
    ·refine awp_cond_t (b := (v2.type != a1)) (by kernel_rfl) hb ?_
     refine awp_seq ?_
     refine awp_region ?_
     refine l_rk 1 tt_ok ⟨31, [(4, (fI (3)))], [], []⟩ (by kernel_rfl) ?_
     refine l_nil ?_
     refine awp_ret ?_
     obtain rfl := Option.some.inj h
     exact And.intro (And.intro (fun h => nomatch h) (fun h => nomatch h)) (And.intro rfl (show retX _ _ _ _ = some _ from by kernel_rfl))
    ·refine awp_cond_f (b := (v2.type != a1)) (by kernel_rfl) hb ?_
     refine awp_skip ?_
     refine awp_seq ?_
     refine awp_region ?_
     refine l_rk 2 tt_ok ⟨31, [(0, (.fz ((eL 4 eVaR) (a0)))), (1, (fI (a1))), (5, (fI (v1))), (23, (.fz ((eL 4 eVaR) (a0)))), (24, (fI (v1)))], [], []⟩ (by kernel_rfl) ?_
     obtain ⟨v3, hv3, h⟩ := Option.bind_eq_some_iff.1 h
     refine l_step ((s_index (k := .i64) (d := tt63) (e := 65) (de := tt65) (enc := eVaR) hv3 tt_ok rfl (by kernel_rfl) (by kernel_rfl) (by kernel_rfl) (by kernel_rfl) len_eVaR (by kernel_rfl) (cells_eVaR v3)).step) (by kernel_rfl) (dst_of (by kernel_rfl)) ?_
     refine l_rk 1 tt_ok ⟨31, [(0, (.fz ((eL 4 eVaR) (a0)))), (1, (fI (a1))), (5, (fI (v1))), (26, (.fz (eVa (v3))))], [], []⟩ (by kernel_rfl) ?_
     obtain ⟨v4, hv4, h⟩ := Option.bind_eq_some_iff.1 h
     refine l_step ((n_call (ys := [eVa (v3)]) (cs := [(.one .keep)]) rfl (by kernel_rfl) (ih131 (v3) _ hv4)).step) (by kernel_rfl) (dst_of (by kernel_rfl)) ?_
     refine l_rk 1 tt_ok ⟨31, [(0, (.fz ((eL 4 eVaR) (a0)))), (1, (fI (a1))), (5, (fI (v1))), (6, (fI (v4)))], [], []⟩ (by kernel_rfl) ?_
     refine l_nil ?_
     refine awp_seq ?_
     refine awp_region ?_
     refine l_rk 2 tt_ok ⟨31, [(0, (.fz ((eL 4 eVaR) (a0)))), (1, (fI (a1))), (5, (fI (v1))), (6, (fI (v4))), (29, (fB ((v4 != 0))))], [], []⟩ (by kernel_rfl) ?_
     refine l_nil ?_
     rcases cond_some h with ⟨hb, h⟩ | ⟨hb, h⟩
     ·refine awp_cond_t (b := (v4 != 0)) (by kernel_rfl) hb ?_
      refine awp_seq ?_
      refine awp_region ?_
      refine l_rk 2 tt_ok ⟨31, [(4, (fI (v4)))], [], []⟩ (by kernel_rfl) ?_
      refine l_nil ?_
      refine awp_ret ?_
      obtain rfl := Option.some.inj h
      exact And.intro (And.intro (fun h => nomatch h) (fun h => nomatch h)) (And.intro rfl (show retX _ _ _ _ = some _ from by kernel_rfl))
     ·refine awp_cond_f (b := (v4 != 0)) (by kernel_rfl) hb ?_
      refine awp_skip ?_
      refine awp_region ?_
      refine l_rk 3 tt_ok ⟨31, [(0, (.fz ((eL 4 eVaR) (a0)))), (1, (fI (a1))), (5, (fI ((w64 (v1 + 1)))))], [], []⟩ (by kernel_rfl) ?_
      refine l_nil ?_
      obtain rfl := Option.some.inj h
      exact And.intro rfl (le_ck (by kernel_rfl))
   ·refine awp_cond_f (b := (decide (v1 < (List.length a0 : Int)))) (by kernel_rfl) hb ?_
    refine awp_exit ?_
    obtain rfl := Option.some.inj h
    exact And.intro (And.intro (fun h => nomatch h) (fun h => nomatch h)) (And.intro rfl (le_ck (by kernel_rfl)))
  ·clear hj
   intro e st' hq
   rcases v5 with v6 | v7
   ·try simp only [Sum.elim_inl, Sum.elim_inr] at h
    obtain ⟨rfl, hle⟩ := hq
    refine ⟨_, hle, ?_⟩
    refine awp_seq ?_
    refine awp_region ?_
    refine l_rk 1 tt_ok ⟨31, [(4, (fI (0)))], [], []⟩ (by kernel_rfl) ?_
    refine l_nil ?_
    refine awp_ret ?_
    obtain rfl := Option.some.inj h
    exact (show retX _ _ _ _ = some _ from by kernel_rfl)
   ·try simp only [Sum.elim_inl, Sum.elim_inr] at h
    obtain ⟨rfl, hret⟩ := hq
    refine ⟨_, LeSt.refl, ?_⟩
    obtain rfl := Option.some.inj h
    exact hret
def synthesisref01_rows_l1 (a0 : List Va) (r131 : (Va) → Option (Int)) (v1 : (Int)) : Option (((Int)) ⊕ (((Unit) ⊕ (Int)))) := (bif (decide (v1 < (List.length a0 : Int))) then (Option.bind (idx a0 v1) fun v2 => (bif (v2.type != 6) then (some (.inr (.inr 3))) else (Option.bind (idx a0 v1) fun v3 => (Option.bind ((bif (decide ((List.length v3.items : Int) < 1)) then (some (true)) else (bif (decide (8 < (List.length v3.items : Int))) then (some (true)) else (Option.bind (idx a0 0) fun v4 => (some (((List.length v3.items : Int) != (List.length v4.items : Int))))))) : Option ((Bool))) fun (v6 : (Bool)) => (bif v6 then (some (.inr (.inr 2))) else (Option.bind (idx a0 v1) fun v7 => (Option.bind (r131 (v7)) fun v8 => (bif (v8 != 0) then (some (.inr (.inr v8))) else (some (.inl ((w64 (v1 + 1))))))))))))) else (some (.inr (.inl ()))))
def synthesisref01_rows_b (r131 : (Va) → Option (Int)) (r171 : (List Va) → (Int) → Option (Int)) (r172 : (List Va) → Option (Int)) (a0 : List Va) : Option (Int) := (bif (decide (8 < (List.length a0 : Int))) then (some 2) else (Option.bind (loopN (synthesisref01_rows_l1 a0 r131) fuel (0)) fun (v9 : ((Unit) ⊕ (Int))) => Sum.elim (fun v10 => (some 0)) (fun v11 => (some v11)) v9))
theorem synthesisref01_rows_b_ok (r131 : (Va) → Option (Int)) (r171 : (List Va) → (Int) → Option (Int)) (r172 : (List Va) → Option (Int)) (ih131 : ∀ (x0 : Va) r, r131 x0 = some r → PCall Try.prog 131 [eVa x0] (eI (r))) (ih171 : ∀ (x0 : List Va) (x1 : Int) r, r171 x0 x1 = some r → PCall Try.prog 171 [(eL 4 eVaR) x0, eI x1] (eI (r))) (ih172 : ∀ (x0 : List Va) r, r172 x0 = some r → PCall Try.prog 172 [(eL 4 eVaR) x0] (eI (r))) (a0 : List Va) (r : Int) (h : synthesisref01_rows_b r131 r171 r172 a0 = some r) : PCall Try.prog 172 [(eL 4 eVaR) a0] (eI (r)) := by
 unfold synthesisref01_rows_b at h
 refine pcall_intro (T := TT) tt_ok [.one .keep] Try.func172 rfl (by kernel_rfl) (by kernel_rfl) ?_
 refine awp_le (st' := ⟨50, [(0, (.fz ((eL 4 eVaR) (a0))))], [], []⟩) (le_ck (by kernel_rfl)) ?_
 refine awp_seq ?_
 refine awp_region ?_
 refine l_rk 1 tt_ok ⟨50, [(0, (.fz ((eL 4 eVaR) (a0))))], [], []⟩ (by kernel_rfl) ?_
 refine l_nil ?_
 refine awp_seq ?_
 refine awp_seq ?_
 refine awp_region ?_
 refine l_rk 3 tt_ok ⟨50, [(0, (.fz ((eL 4 eVaR) (a0)))), (8, (fB ((decide (8 < (List.length a0 : Int))))))], [], []⟩ (by kernel_rfl) ?_
 refine l_nil ?_
 rcases cond_some h with ⟨hb, h⟩ | ⟨hb, h⟩
 ·refine awp_cond_t (b := (decide (8 < (List.length a0 : Int)))) (by kernel_rfl) hb ?_
  refine awp_seq ?_
  refine awp_region ?_
  refine l_rk 1 tt_ok ⟨50, [(2, (fI (2)))], [], []⟩ (by kernel_rfl) ?_
  refine l_nil ?_
  refine awp_ret ?_
  obtain rfl := Option.some.inj h
  exact (show retX _ _ _ _ = some _ from by kernel_rfl)
 ·refine awp_cond_f (b := (decide (8 < (List.length a0 : Int)))) (by kernel_rfl) hb ?_
  refine awp_skip ?_
  refine awp_seq ?_
  refine awp_seq ?_
  refine awp_region ?_
  refine l_rk 1 tt_ok ⟨50, [(0, (.fz ((eL 4 eVaR) (a0)))), (3, (fI (0)))], [], []⟩ (by kernel_rfl) ?_
  refine l_nil ?_
  refine awp_block ?_
  obtain ⟨v9, hj, h⟩ := Option.bind_eq_some_iff.1 h
  refine awp_join (Qa := fun e st => Sum.elim (fun p => e = .exit 0 ∧ LeSt st ⟨50, [], [], []⟩) (fun p => e = .ret ∧ retX TT st Try.f172.results.toList [.one .keep] = some (eI (p))) v9) ?_ ?_
  ·refine awp_loopS (stOf := fun v1 => ⟨50, [(0, (.fz ((eL 4 eVaR) (a0)))), (3, (fI (v1)))], [], []⟩) (Qb := fun j e st => Sum.elim (fun p => e = .exit 0 ∧ LeSt st ⟨50, [], [], []⟩) (fun p => e = .ret ∧ retX TT st Try.f172.results.toList [.one .keep] = some (eI (p))) j) hj (le_ck (by kernel_rfl)) ?_
   clear hj h
   intro v1 r h
   unfold synthesisref01_rows_l1 at h
   refine awp_seq ?_
   refine awp_seq ?_
   refine awp_region ?_
   refine l_rk 4 tt_ok ⟨50, [(0, (.fz ((eL 4 eVaR) (a0)))), (3, (fI (v1))), (12, (fB ((decide (v1 < (List.length a0 : Int))))))], [], []⟩ (by kernel_rfl) ?_
   refine l_nil ?_
   rcases cond_some h with ⟨hb, h⟩ | ⟨hb, h⟩
   ·refine awp_cond_t (b := (decide (v1 < (List.length a0 : Int)))) (by kernel_rfl) hb ?_
    refine awp_skip ?_
    refine awp_seq ?_
    refine awp_block ?_
    refine awp_seq ?_
    refine awp_seq ?_
    refine awp_region ?_
    refine l_rk 2 tt_ok ⟨50, [(0, (.fz ((eL 4 eVaR) (a0)))), (3, (fI (v1))), (15, (.fz ((eL 4 eVaR) (a0)))), (16, (fI (v1)))], [], []⟩ (by kernel_rfl) ?_
    obtain ⟨v2, hv2, h⟩ := Option.bind_eq_some_iff.1 h
    refine l_step ((s_index (k := .i64) (d := tt63) (e := 65) (de := tt65) (enc := eVaR) hv2 tt_ok rfl (by kernel_rfl) (by kernel_rfl) (by kernel_rfl) (by kernel_rfl) len_eVaR (by kernel_rfl) (cells_eVaR v2)).step) (by kernel_rfl) (dst_of (by kernel_rfl)) ?_
    refine l_rk 3 tt_ok ⟨50, [(0, (.fz ((eL 4 eVaR) (a0)))), (3, (fI (v1))), (20, (fB ((v2.type != 6))))], [], []⟩ (by kernel_rfl) ?_
    refine l_nil ?_
    rcases cond_some h with ⟨hb, h⟩ | ⟨hb, h⟩
    ·refine awp_cond_t (b := (v2.type != 6)) (by kernel_rfl) hb ?_
     refine awp_seq ?_
     refine awp_region ?_
     refine l_rk 1 tt_ok ⟨50, [(2, (fI (3)))], [], []⟩ (by kernel_rfl) ?_
     refine l_nil ?_
     refine awp_ret ?_
     obtain rfl := Option.some.inj h
     exact And.intro (And.intro (fun h => nomatch h) (fun h => nomatch h)) (And.intro rfl (show retX _ _ _ _ = some _ from by kernel_rfl))
    ·refine awp_cond_f (b := (v2.type != 6)) (by kernel_rfl) hb ?_
     refine awp_skip ?_
     refine awp_seq ?_
     refine awp_seq ?_
     refine awp_region ?_
     refine l_rk 2 tt_ok ⟨50, [(0, (.fz ((eL 4 eVaR) (a0)))), (3, (fI (v1))), (21, (.fz ((eL 4 eVaR) (a0)))), (22, (fI (v1)))], [], []⟩ (by kernel_rfl) ?_
     obtain ⟨v3, hv3, h⟩ := Option.bind_eq_some_iff.1 h
     refine l_step ((s_index (k := .i64) (d := tt63) (e := 65) (de := tt65) (enc := eVaR) hv3 tt_ok rfl (by kernel_rfl) (by kernel_rfl) (by kernel_rfl) (by kernel_rfl) len_eVaR (by kernel_rfl) (cells_eVaR v3)).step) (by kernel_rfl) (dst_of (by kernel_rfl)) ?_
     refine l_rk 4 tt_ok ⟨50, [(0, (.fz ((eL 4 eVaR) (a0)))), (3, (fI (v1))), (4, (fI ((List.length v3.items : Int))))], [], []⟩ (by kernel_rfl) ?_
     refine l_nil ?_
     refine awp_seq ?_
     obtain ⟨v6, hj, h⟩ := Option.bind_eq_some_iff.1 h
     refine awp_join (Qa := fun e st => e = .normal ∧ LeSt st ⟨50, [(0, (.fz ((eL 4 eVaR) (a0)))), (3, (fI (v1))), (41, (fB (v6)))], [], []⟩) ?_ ?_
     ·replace h := hj
      clear hj
      refine awp_region ?_
      refine l_rk 3 tt_ok ⟨50, [(0, (.fz ((eL 4 eVaR) (a0)))), (3, (fI (v1))), (4, (fI ((List.length v3.items : Int)))), (29, (fB ((decide ((List.length v3.items : Int) < 1)))))], [], []⟩ (by kernel_rfl) ?_
      rcases cond_some h with ⟨hb, h⟩ | ⟨hb, h⟩
      ·refine l_le (le_eq (t := 29) (x := .fz (eB (decide ((List.length v3.items : Int) < 1)))) (y := .fz (eB true)) (by kernel_rfl) (congrArg (fun b => AV.fz (eB b)) hb)) ?_
       refine l_rk 12 tt_ok ⟨50, [(0, (.fz ((eL 4 eVaR) (a0)))), (3, (fI (v1))), (41, (fB (true)))], [], []⟩ (by kernel_rfl) ?_
       refine l_nil ?_
       obtain rfl := Option.some.inj h
       exact And.intro rfl (le_ck (by kernel_rfl))
      ·refine l_le (le_eq (t := 29) (x := .fz (eB (decide ((List.length v3.items : Int) < 1)))) (y := .fz (eB false)) (by kernel_rfl) (congrArg (fun b => AV.fz (eB b)) hb)) ?_
       refine l_rk 4 tt_ok ⟨50, [(0, (.fz ((eL 4 eVaR) (a0)))), (3, (fI (v1))), (4, (fI ((List.length v3.items : Int)))), (33, (fB ((decide (8 < (List.length v3.items : Int))))))], [], []⟩ (by kernel_rfl) ?_
       rcases cond_some h with ⟨hb, h⟩ | ⟨hb, h⟩
       ·refine l_le (le_eq (t := 33) (x := .fz (eB (decide (8 < (List.length v3.items : Int))))) (y := .fz (eB true)) (by kernel_rfl) (congrArg (fun b => AV.fz (eB b)) hb)) ?_
        refine l_rk 8 tt_ok ⟨50, [(0, (.fz ((eL 4 eVaR) (a0)))), (3, (fI (v1))), (41, (fB (true)))], [], []⟩ (by kernel_rfl) ?_
        refine l_nil ?_
        obtain rfl := Option.some.inj h
        exact And.intro rfl (le_ck (by kernel_rfl))
       ·refine l_le (le_eq (t := 33) (x := .fz (eB (decide (8 < (List.length v3.items : Int))))) (y := .fz (eB false)) (by kernel_rfl) (congrArg (fun b => AV.fz (eB b)) hb)) ?_
        refine l_rk 2 tt_ok ⟨50, [(0, (.fz ((eL 4 eVaR) (a0)))), (3, (fI (v1))), (33, (fB (false))), (34, (fI ((List.length v3.items : Int)))), (35, (.fz ((eL 4 eVaR) (a0))))], [], []⟩ (by kernel_rfl) ?_
        obtain ⟨v4, hv4, h⟩ := Option.bind_eq_some_iff.1 h
        refine l_step ((s_index (k := .i64) (d := tt63) (e := 65) (de := tt65) (enc := eVaR) hv4 tt_ok rfl (by kernel_rfl) (by kernel_rfl) (by kernel_rfl) (by kernel_rfl) len_eVaR (by kernel_rfl) (cells_eVaR v4)).step) (by kernel_rfl) (dst_of (by kernel_rfl)) ?_
        refine l_rk 5 tt_ok ⟨50, [(0, (.fz ((eL 4 eVaR) (a0)))), (3, (fI (v1))), (41, (fB (((List.length v3.items : Int) != (List.length v4.items : Int)))))], [], []⟩ (by kernel_rfl) ?_
        refine l_nil ?_
        obtain rfl := Option.some.inj h
        exact And.intro rfl (le_ck (by kernel_rfl))
     ·clear hj
      intro e st' hq
      obtain ⟨rfl, hle⟩ := hq
      refine ⟨_, hle, ?_⟩
      rcases cond_some h with ⟨hb, h⟩ | ⟨hb, h⟩
      ·refine awp_cond_t (b := v6) (by kernel_rfl) hb ?_
       refine awp_seq ?_
       refine awp_region ?_
       refine l_rk 1 tt_ok ⟨50, [(2, (fI (2)))], [], []⟩ (by kernel_rfl) ?_
       refine l_nil ?_
       refine awp_ret ?_
       obtain rfl := Option.some.inj h
       exact And.intro (And.intro (fun h => nomatch h) (fun h => nomatch h)) (And.intro rfl (show retX _ _ _ _ = some _ from by kernel_rfl))
      ·refine awp_cond_f (b := v6) (by kernel_rfl) hb ?_
       refine awp_skip ?_
       refine awp_seq ?_
       refine awp_region ?_
       refine l_rk 2 tt_ok ⟨50, [(0, (.fz ((eL 4 eVaR) (a0)))), (3, (fI (v1))), (42, (.fz ((eL 4 eVaR) (a0)))), (43, (fI (v1)))], [], []⟩ (by kernel_rfl) ?_
       obtain ⟨v7, hv7, h⟩ := Option.bind_eq_some_iff.1 h
       refine l_step ((s_index (k := .i64) (d := tt63) (e := 65) (de := tt65) (enc := eVaR) hv7 tt_ok rfl (by kernel_rfl) (by kernel_rfl) (by kernel_rfl) (by kernel_rfl) len_eVaR (by kernel_rfl) (cells_eVaR v7)).step) (by kernel_rfl) (dst_of (by kernel_rfl)) ?_
       refine l_rk 1 tt_ok ⟨50, [(0, (.fz ((eL 4 eVaR) (a0)))), (3, (fI (v1))), (45, (.fz (eVa (v7))))], [], []⟩ (by kernel_rfl) ?_
       obtain ⟨v8, hv8, h⟩ := Option.bind_eq_some_iff.1 h
       refine l_step ((n_call (ys := [eVa (v7)]) (cs := [(.one .keep)]) rfl (by kernel_rfl) (ih131 (v7) _ hv8)).step) (by kernel_rfl) (dst_of (by kernel_rfl)) ?_
       refine l_rk 1 tt_ok ⟨50, [(0, (.fz ((eL 4 eVaR) (a0)))), (3, (fI (v1))), (5, (fI (v8)))], [], []⟩ (by kernel_rfl) ?_
       refine l_nil ?_
       refine awp_seq ?_
       refine awp_region ?_
       refine l_rk 2 tt_ok ⟨50, [(0, (.fz ((eL 4 eVaR) (a0)))), (3, (fI (v1))), (5, (fI (v8))), (48, (fB ((v8 != 0))))], [], []⟩ (by kernel_rfl) ?_
       refine l_nil ?_
       rcases cond_some h with ⟨hb, h⟩ | ⟨hb, h⟩
       ·refine awp_cond_t (b := (v8 != 0)) (by kernel_rfl) hb ?_
        refine awp_seq ?_
        refine awp_region ?_
        refine l_rk 2 tt_ok ⟨50, [(2, (fI (v8)))], [], []⟩ (by kernel_rfl) ?_
        refine l_nil ?_
        refine awp_ret ?_
        obtain rfl := Option.some.inj h
        exact And.intro (And.intro (fun h => nomatch h) (fun h => nomatch h)) (And.intro rfl (show retX _ _ _ _ = some _ from by kernel_rfl))
       ·refine awp_cond_f (b := (v8 != 0)) (by kernel_rfl) hb ?_
        refine awp_skip ?_
        refine awp_region ?_
        refine l_rk 3 tt_ok ⟨50, [(0, (.fz ((eL 4 eVaR) (a0)))), (3, (fI ((w64 (v1 + 1)))))], [], []⟩ (by kernel_rfl) ?_
        refine l_nil ?_
        obtain rfl := Option.some.inj h
        exact And.intro rfl (le_ck (by kernel_rfl))
   ·refine awp_cond_f (b := (decide (v1 < (List.length a0 : Int)))) (by kernel_rfl) hb ?_
    refine awp_exit ?_
    obtain rfl := Option.some.inj h
    exact And.intro (And.intro (fun h => nomatch h) (fun h => nomatch h)) (And.intro rfl (le_ck (by kernel_rfl)))
  ·clear hj
   intro e st' hq
   rcases v9 with v10 | v11
   ·try simp only [Sum.elim_inl, Sum.elim_inr] at h
    obtain ⟨rfl, hle⟩ := hq
    refine ⟨_, hle, ?_⟩
    refine awp_seq ?_
    refine awp_region ?_
    refine l_rk 1 tt_ok ⟨50, [(2, (fI (0)))], [], []⟩ (by kernel_rfl) ?_
    refine l_nil ?_
    refine awp_ret ?_
    obtain rfl := Option.some.inj h
    exact (show retX _ _ _ _ = some _ from by kernel_rfl)
   ·try simp only [Sum.elim_inl, Sum.elim_inr] at h
    obtain ⟨rfl, hret⟩ := hq
    refine ⟨_, LeSt.refl, ?_⟩
    obtain rfl := Option.some.inj h
    exact hret
def synthesisref01_Check_all : Nat → ((Va) → Option (Int)) × ((List Va) → (Int) → Option (Int)) × ((List Va) → Option (Int))
  | 0 => (fun _ => none, fun _ _ => none, fun _ => none)
  | n + 1 => (synthesisref01_Check_b ((synthesisref01_Check_all n).1) ((synthesisref01_Check_all n).2.1) ((synthesisref01_Check_all n).2.2), synthesisref01_elements_b ((synthesisref01_Check_all n).1) ((synthesisref01_Check_all n).2.1) ((synthesisref01_Check_all n).2.2), synthesisref01_rows_b ((synthesisref01_Check_all n).1) ((synthesisref01_Check_all n).2.1) ((synthesisref01_Check_all n).2.2))
def synthesisref01_Check (n : Nat) : (Va) → Option (Int) := (synthesisref01_Check_all n).1
def synthesisref01_elements (n : Nat) : (List Va) → (Int) → Option (Int) := (synthesisref01_Check_all n).2.1
def synthesisref01_rows (n : Nat) : (List Va) → Option (Int) := (synthesisref01_Check_all n).2.2
theorem synthesisref01_Check_all_ok : ∀ n : Nat, (∀ (x0 : Va) r, synthesisref01_Check n x0 = some r → PCall Try.prog 131 [eVa x0] (eI (r))) ∧ (∀ (x0 : List Va) (x1 : Int) r, synthesisref01_elements n x0 x1 = some r → PCall Try.prog 171 [(eL 4 eVaR) x0, eI x1] (eI (r))) ∧ (∀ (x0 : List Va) r, synthesisref01_rows n x0 = some r → PCall Try.prog 172 [(eL 4 eVaR) x0] (eI (r)))
  | 0 => ⟨(fun _ _ h => nomatch h), (fun _ _ _ h => nomatch h), (fun _ _ h => nomatch h)⟩
  | n + 1 => ⟨(synthesisref01_Check_b_ok _ _ _ ((synthesisref01_Check_all_ok n).1) ((synthesisref01_Check_all_ok n).2.1) ((synthesisref01_Check_all_ok n).2.2)), (synthesisref01_elements_b_ok _ _ _ ((synthesisref01_Check_all_ok n).1) ((synthesisref01_Check_all_ok n).2.1) ((synthesisref01_Check_all_ok n).2.2)), (synthesisref01_rows_b_ok _ _ _ ((synthesisref01_Check_all_ok n).1) ((synthesisref01_Check_all_ok n).2.1) ((synthesisref01_Check_all_ok n).2.2))⟩
theorem synthesisref01_Check_ok (n : Nat) : ∀ (x0 : Va) r, synthesisref01_Check n x0 = some r → PCall Try.prog 131 [eVa x0] (eI (r)) := (synthesisref01_Check_all_ok n).1
theorem synthesisref01_elements_ok (n : Nat) : ∀ (x0 : List Va) (x1 : Int) r, synthesisref01_elements n x0 x1 = some r → PCall Try.prog 171 [(eL 4 eVaR) x0, eI x1] (eI (r)) := (synthesisref01_Check_all_ok n).2.1
theorem synthesisref01_rows_ok (n : Nat) : ∀ (x0 : List Va) r, synthesisref01_rows n x0 = some r → PCall Try.prog 172 [(eL 4 eVaR) x0] (eI (r)) := (synthesisref01_Check_all_ok n).2.2

def synthesisref11_SameInts_l1 (a0 : List Int) (a1 : List Int) (v1 : (Int)) : Option (((Int)) ⊕ (((Unit) ⊕ (Bool)))) := (bif (decide (v1 < (List.length a0 : Int))) then (Option.bind (idx a0 v1) fun v2 => (Option.bind (idx a1 v1) fun v3 => (bif (v2 != v3) then (some (.inr (.inr false))) else (some (.inl ((w64 (v1 + 1)))))))) else (some (.inr (.inl ()))))
def synthesisref11_SameInts (a0 : List Int) (a1 : List Int) : Option (Bool) := (bif ((List.length a0 : Int) != (List.length a1 : Int)) then (some false) else (Option.bind (loopN (synthesisref11_SameInts_l1 a0 a1) fuel (0)) fun (v4 : ((Unit) ⊕ (Bool))) => Sum.elim (fun v5 => (some true)) (fun v6 => (some v6)) v4))
theorem synthesisref11_SameInts_ok (a0 : List Int) (a1 : List Int) (r : Bool) (h : synthesisref11_SameInts a0 a1 = some r) : PCall Try.prog 60 [(eL 1 eI) a0, (eL 1 eI) a1] (eB (r)) := by
 unfold synthesisref11_SameInts at h
 refine pcall_intro (T := TT) tt_ok [.one .keep] Try.func60 rfl (by kernel_rfl) (by kernel_rfl) ?_
 refine awp_le (st' := ⟨26, [(0, (.fz ((eL 1 eI) (a0)))), (1, (.fz ((eL 1 eI) (a1))))], [], []⟩) (le_ck (by kernel_rfl)) ?_
 refine awp_seq ?_
 refine awp_region ?_
 refine l_rk 1 tt_ok ⟨26, [(0, (.fz ((eL 1 eI) (a0)))), (1, (.fz ((eL 1 eI) (a1))))], [], []⟩ (by kernel_rfl) ?_
 refine l_nil ?_
 refine awp_seq ?_
 refine awp_seq ?_
 refine awp_region ?_
 refine l_rk 5 tt_ok ⟨26, [(0, (.fz ((eL 1 eI) (a0)))), (1, (.fz ((eL 1 eI) (a1)))), (10, (fB (((List.length a0 : Int) != (List.length a1 : Int)))))], [], []⟩ (by kernel_rfl) ?_
 refine l_nil ?_
 rcases cond_some h with ⟨hb, h⟩ | ⟨hb, h⟩
 ·refine awp_cond_t (b := ((List.length a0 : Int) != (List.length a1 : Int))) (by kernel_rfl) hb ?_
  refine awp_seq ?_
  refine awp_region ?_
  refine l_rk 1 tt_ok ⟨26, [(4, (fB (false)))], [], []⟩ (by kernel_rfl) ?_
  refine l_nil ?_
  refine awp_ret ?_
  obtain rfl := Option.some.inj h
  exact (show retX _ _ _ _ = some _ from by kernel_rfl)
 ·refine awp_cond_f (b := ((List.length a0 : Int) != (List.length a1 : Int))) (by kernel_rfl) hb ?_
  refine awp_skip ?_
  refine awp_seq ?_
  refine awp_seq ?_
  refine awp_region ?_
  refine l_rk 1 tt_ok ⟨26, [(0, (.fz ((eL 1 eI) (a0)))), (1, (.fz ((eL 1 eI) (a1)))), (5, (fI (0)))], [], []⟩ (by kernel_rfl) ?_
  refine l_nil ?_
  refine awp_block ?_
  obtain ⟨v4, hj, h⟩ := Option.bind_eq_some_iff.1 h
  refine awp_join (Qa := fun e st => Sum.elim (fun p => e = .exit 0 ∧ LeSt st ⟨26, [], [], []⟩) (fun p => e = .ret ∧ retX TT st Try.f60.results.toList [.one .keep] = some (eB (p))) v4) ?_ ?_
  ·refine awp_loopS (stOf := fun v1 => ⟨26, [(0, (.fz ((eL 1 eI) (a0)))), (1, (.fz ((eL 1 eI) (a1)))), (5, (fI (v1)))], [], []⟩) (Qb := fun j e st => Sum.elim (fun p => e = .exit 0 ∧ LeSt st ⟨26, [], [], []⟩) (fun p => e = .ret ∧ retX TT st Try.f60.results.toList [.one .keep] = some (eB (p))) j) hj (le_ck (by kernel_rfl)) ?_
   clear hj h
   intro v1 r h
   unfold synthesisref11_SameInts_l1 at h
   refine awp_seq ?_
   refine awp_seq ?_
   refine awp_region ?_
   refine l_rk 4 tt_ok ⟨26, [(0, (.fz ((eL 1 eI) (a0)))), (1, (.fz ((eL 1 eI) (a1)))), (5, (fI (v1))), (14, (fB ((decide (v1 < (List.length a0 : Int))))))], [], []⟩ (by kernel_rfl) ?_
   refine l_nil ?_
   rcases cond_some h with ⟨hb, h⟩ | ⟨hb, h⟩
   ·refine awp_cond_t (b := (decide (v1 < (List.length a0 : Int)))) (by kernel_rfl) hb ?_
    refine awp_skip ?_
    refine awp_seq ?_
    refine awp_block ?_
    refine awp_seq ?_
    obtain ⟨v2, hv2, h⟩ := Option.bind_eq_some_iff.1 h
    obtain ⟨v3, hv3, h⟩ := Option.bind_eq_some_iff.1 h
    refine awp_drawn (by kernel_rfl) [(.fz ((eL 1 eI) (a0))), (fI (v1)), (.fz (.fp [(eI (v2))])), (fI (v2)), (.fz ((eL 1 eI) (a1))), (fI (v1)), (.fz (.fp [(eI (v3))])), (fI (v3))] (by kernel_rfl) ?_
    refine ⟨.inl ⟨by kernel_rfl, (nstep_ok tt_ok (by kernel_rfl))⟩, ?_⟩
    refine ⟨.inl ⟨by kernel_rfl, (nstep_ok tt_ok (by kernel_rfl))⟩, ?_⟩
    refine ⟨.inl ⟨by kernel_rfl, (s_index (k := .i64) (d := tt23) (e := 3) (de := tt3) (enc := eI) hv2 tt_ok rfl (by kernel_rfl) (by kernel_rfl) (by kernel_rfl) (by kernel_rfl) len_eI (by kernel_rfl) rfl)⟩, ?_⟩
    refine ⟨.inl ⟨by kernel_rfl, (nstep_ok tt_ok (by kernel_rfl))⟩, ?_⟩
    refine ⟨.inl ⟨by kernel_rfl, (nstep_ok tt_ok (by kernel_rfl))⟩, ?_⟩
    refine ⟨.inl ⟨by kernel_rfl, (nstep_ok tt_ok (by kernel_rfl))⟩, ?_⟩
    refine ⟨.inl ⟨by kernel_rfl, (s_index (k := .i64) (d := tt23) (e := 3) (de := tt3) (enc := eI) hv3 tt_ok rfl (by kernel_rfl) (by kernel_rfl) (by kernel_rfl) (by kernel_rfl) len_eI (by kernel_rfl) rfl)⟩, ?_⟩
    refine ⟨.inl ⟨by kernel_rfl, (nstep_ok tt_ok (by kernel_rfl))⟩, ?_⟩
    refine l_rk 1 tt_ok ⟨26, [(0, (.fz ((eL 1 eI) (a0)))), (1, (.fz ((eL 1 eI) (a1)))), (5, (fI (v1))), (25, (fB ((v2 != v3))))], [], []⟩ (by kernel_rfl) ?_
    refine l_nil ?_
    rcases cond_some h with ⟨hb, h⟩ | ⟨hb, h⟩
    ·refine awp_cond_t (b := (v2 != v3)) (by kernel_rfl) hb ?_
     refine awp_seq ?_
     refine awp_region ?_
     refine l_rk 1 tt_ok ⟨26, [(4, (fB (false)))], [], []⟩ (by kernel_rfl) ?_
     refine l_nil ?_
     refine awp_ret ?_
     obtain rfl := Option.some.inj h
     exact And.intro (And.intro (fun h => nomatch h) (fun h => nomatch h)) (And.intro rfl (show retX _ _ _ _ = some _ from by kernel_rfl))
    ·refine awp_cond_f (b := (v2 != v3)) (by kernel_rfl) hb ?_
     refine awp_skip ?_
     refine awp_region ?_
     refine l_rk 3 tt_ok ⟨26, [(0, (.fz ((eL 1 eI) (a0)))), (1, (.fz ((eL 1 eI) (a1)))), (5, (fI ((w64 (v1 + 1)))))], [], []⟩ (by kernel_rfl) ?_
     refine l_nil ?_
     obtain rfl := Option.some.inj h
     exact And.intro rfl (le_ck (by kernel_rfl))
   ·refine awp_cond_f (b := (decide (v1 < (List.length a0 : Int)))) (by kernel_rfl) hb ?_
    refine awp_exit ?_
    obtain rfl := Option.some.inj h
    exact And.intro (And.intro (fun h => nomatch h) (fun h => nomatch h)) (And.intro rfl (le_ck (by kernel_rfl)))
  ·clear hj
   intro e st' hq
   rcases v4 with v5 | v6
   ·try simp only [Sum.elim_inl, Sum.elim_inr] at h
    obtain ⟨rfl, hle⟩ := hq
    refine ⟨_, hle, ?_⟩
    refine awp_seq ?_
    refine awp_region ?_
    refine l_rk 1 tt_ok ⟨26, [(4, (fB (true)))], [], []⟩ (by kernel_rfl) ?_
    refine l_nil ?_
    refine awp_ret ?_
    obtain rfl := Option.some.inj h
    exact (show retX _ _ _ _ = some _ from by kernel_rfl)
   ·try simp only [Sum.elim_inl, Sum.elim_inr] at h
    obtain ⟨rfl, hret⟩ := hq
    refine ⟨_, LeSt.refl, ?_⟩
    obtain rfl := Option.some.inj h
    exact hret

def synthesisref11_SameRule_m0 (a0 : Ru) (a1 : Ru) : List (Nat × AObj) := [(1, (.box 67 [(fI (a0.symbol)), (fI (a0.kind)), (fI (a0.input)), (fI (a0.const.type)), (fI (a0.const.num)), (fS (a0.const.text)), (.fz ((eL 4 eVaR) (a0.const.items))), (fS (a0.op)), (.fz ((eL 1 eI) (a0.args)))])), (2, (.box 67 [(fI (a1.symbol)), (fI (a1.kind)), (fI (a1.input)), (fI (a1.const.type)), (fI (a1.const.num)), (fS (a1.const.text)), (.fz ((eL 4 eVaR) (a1.const.items))), (fS (a1.op)), (.fz ((eL 1 eI) (a1.args)))]))]
def synthesisref11_SameRule (a0 : Ru) (a1 : Ru) : Option (Bool) := (Option.bind ((bif (a0.symbol == a1.symbol) then (bif (a0.kind == a1.kind) then (bif (a0.input == a1.input) then (bif (a0.op.toList == a1.op.toList) then (Option.bind (synthesisref11_SameInts (a0.args) (a1.args)) fun v1 => (bif v1 then (Option.bind (synthesisref01_Equal (a0.const) (a1.const)) fun v2 => (some (v2))) else (some (false)))) else (some (false))) else (some (false))) else (some (false))) else (some (false))) : Option ((Bool))) fun (v4 : (Bool)) => (some v4))
theorem synthesisref11_SameRule_ok (a0 : Ru) (a1 : Ru) (r : Bool) (h : synthesisref11_SameRule a0 a1 = some r) : PCall Try.prog 61 [eRu a0, eRu a1] (eB (r)) := by
 unfold synthesisref11_SameRule at h
 refine pcall_intro (T := TT) tt_ok [.one .keep] Try.func61 rfl (by kernel_rfl) (by kernel_rfl) ?_
 refine awp_le (st' := ⟨45, [(0, (.fz (eRu (a0)))), (1, (.fz (eRu (a1))))], [], []⟩) (le_ck (by kernel_rfl)) ?_
 refine awp_seq ?_
 refine awp_region ?_
 refine l_rk 3 tt_ok ⟨45, [(2, (.ref 1 0 0)), (3, (.ref 2 0 0))], (synthesisref11_SameRule_m0 a0 a1), [2, 1]⟩ (by kernel_rfl) ?_
 refine l_nil ?_
 refine awp_seq ?_
 obtain ⟨v4, hj, h⟩ := Option.bind_eq_some_iff.1 h
 refine awp_join (Qa := fun e st => e = .normal ∧ LeSt st ⟨45, [(4, (fB (v4)))], [], []⟩) ?_ ?_
 ·replace h := hj
  clear hj
  refine awp_region ?_
  refine l_rk 6 tt_ok ⟨45, [(2, (.ref 1 0 0)), (3, (.ref 2 0 0)), (10, (fB ((a0.symbol == a1.symbol))))], (synthesisref11_SameRule_m0 a0 a1), [2, 1]⟩ (by kernel_rfl) ?_
  rcases cond_some h with ⟨hb, h⟩ | ⟨hb, h⟩
  ·refine l_le (le_eq (t := 10) (x := .fz (eB (a0.symbol == a1.symbol))) (y := .fz (eB true)) (by kernel_rfl) (congrArg (fun b => AV.fz (eB b)) hb)) ?_
   refine l_rk 7 tt_ok ⟨45, [(2, (.ref 1 0 0)), (3, (.ref 2 0 0)), (17, (fB ((a0.kind == a1.kind))))], (synthesisref11_SameRule_m0 a0 a1), [2, 1]⟩ (by kernel_rfl) ?_
   rcases cond_some h with ⟨hb, h⟩ | ⟨hb, h⟩
   ·refine l_le (le_eq (t := 17) (x := .fz (eB (a0.kind == a1.kind))) (y := .fz (eB true)) (by kernel_rfl) (congrArg (fun b => AV.fz (eB b)) hb)) ?_
    refine l_rk 7 tt_ok ⟨45, [(2, (.ref 1 0 0)), (3, (.ref 2 0 0)), (24, (fB ((a0.input == a1.input))))], (synthesisref11_SameRule_m0 a0 a1), [2, 1]⟩ (by kernel_rfl) ?_
    rcases cond_some h with ⟨hb, h⟩ | ⟨hb, h⟩
    ·refine l_le (le_eq (t := 24) (x := .fz (eB (a0.input == a1.input))) (y := .fz (eB true)) (by kernel_rfl) (congrArg (fun b => AV.fz (eB b)) hb)) ?_
     refine l_rk 7 tt_ok ⟨45, [(2, (.ref 1 0 0)), (3, (.ref 2 0 0)), (31, (fB ((a0.op.toList == a1.op.toList))))], (synthesisref11_SameRule_m0 a0 a1), [2, 1]⟩ (by kernel_rfl) ?_
     rcases cond_some h with ⟨hb, h⟩ | ⟨hb, h⟩
     ·refine l_le (le_eq (t := 31) (x := .fz (eB (a0.op.toList == a1.op.toList))) (y := .fz (eB true)) (by kernel_rfl) (congrArg (fun b => AV.fz (eB b)) hb)) ?_
      refine l_rk 4 tt_ok ⟨45, [(2, (.ref 1 0 0)), (3, (.ref 2 0 0)), (31, (fB (true))), (33, (.fz ((eL 1 eI) (a0.args)))), (35, (.fz ((eL 1 eI) (a1.args))))], (synthesisref11_SameRule_m0 a0 a1), [2, 1]⟩ (by kernel_rfl) ?_
      obtain ⟨v1, hv1, h⟩ := Option.bind_eq_some_iff.1 h
      refine l_step ((n_call (ys := [(eL 1 eI) (a0.args), (eL 1 eI) (a1.args)]) (cs := [(.one (.sl 1)), (.one (.sl 1))]) rfl (by kernel_rfl) (synthesisref11_SameInts_ok (a0.args) (a1.args) _ hv1)).step) (by kernel_rfl) (dst_of (by kernel_rfl)) ?_
      refine l_rk 2 tt_ok ⟨45, [(2, (.ref 1 0 0)), (3, (.ref 2 0 0)), (38, (fB (v1)))], (synthesisref11_SameRule_m0 a0 a1), [2, 1]⟩ (by kernel_rfl) ?_
      rcases cond_some h with ⟨hb, h⟩ | ⟨hb, h⟩
      ·refine l_le (le_eq (t := 38) (x := .fz (eB v1)) (y := .fz (eB true)) (by kernel_rfl) (congrArg (fun b => AV.fz (eB b)) hb)) ?_
       refine l_rk 4 tt_ok ⟨45, [(38, (fB (true))), (40, (.fz (eVa (a0.const)))), (42, (.fz (eVa (a1.const))))], [], []⟩ (by kernel_rfl) ?_
       obtain ⟨v2, hv2, h⟩ := Option.bind_eq_some_iff.1 h
       refine l_step ((n_call (ys := [eVa (a0.const), eVa (a1.const)]) (cs := [(.one .keep), (.one .keep)]) rfl (by kernel_rfl) (synthesisref01_Equal_ok (a0.const) (a1.const) _ hv2)).step) (by kernel_rfl) (dst_of (by kernel_rfl)) ?_
       refine l_rk 2 tt_ok ⟨45, [(4, (fB (v2)))], [], []⟩ (by kernel_rfl) ?_
       refine l_nil ?_
       obtain rfl := Option.some.inj h
       exact And.intro rfl (le_ck (by kernel_rfl))
      ·refine l_le (le_eq (t := 38) (x := .fz (eB v1)) (y := .fz (eB false)) (by kernel_rfl) (congrArg (fun b => AV.fz (eB b)) hb)) ?_
       refine l_rk 7 tt_ok ⟨45, [(4, (fB (false)))], [], []⟩ (by kernel_rfl) ?_
       refine l_nil ?_
       obtain rfl := Option.some.inj h
       exact And.intro rfl (le_ck (by kernel_rfl))
     ·refine l_le (le_eq (t := 31) (x := .fz (eB (a0.op.toList == a1.op.toList))) (y := .fz (eB false)) (by kernel_rfl) (congrArg (fun b => AV.fz (eB b)) hb)) ?_
      refine l_rk 14 tt_ok ⟨45, [(4, (fB (false)))], [], []⟩ (by kernel_rfl) ?_
      refine l_nil ?_
      obtain rfl := Option.some.inj h
      exact And.intro rfl (le_ck (by kernel_rfl))
    ·refine l_le (le_eq (t := 24) (x := .fz (eB (a0.input == a1.input))) (y := .fz (eB false)) (by kernel_rfl) (congrArg (fun b => AV.fz (eB b)) hb)) ?_
     refine l_rk 21 tt_ok ⟨45, [(4, (fB (false)))], [], []⟩ (by kernel_rfl) ?_
     refine l_nil ?_
     obtain rfl := Option.some.inj h
     exact And.intro rfl (le_ck (by kernel_rfl))
   ·refine l_le (le_eq (t := 17) (x := .fz (eB (a0.kind == a1.kind))) (y := .fz (eB false)) (by kernel_rfl) (congrArg (fun b => AV.fz (eB b)) hb)) ?_
    refine l_rk 28 tt_ok ⟨45, [(4, (fB (false)))], [], []⟩ (by kernel_rfl) ?_
    refine l_nil ?_
    obtain rfl := Option.some.inj h
    exact And.intro rfl (le_ck (by kernel_rfl))
  ·refine l_le (le_eq (t := 10) (x := .fz (eB (a0.symbol == a1.symbol))) (y := .fz (eB false)) (by kernel_rfl) (congrArg (fun b => AV.fz (eB b)) hb)) ?_
   refine l_rk 35 tt_ok ⟨45, [(4, (fB (false)))], [], []⟩ (by kernel_rfl) ?_
   refine l_nil ?_
   obtain rfl := Option.some.inj h
   exact And.intro rfl (le_ck (by kernel_rfl))
 ·clear hj
  intro e st' hq
  obtain ⟨rfl, hle⟩ := hq
  refine ⟨_, hle, ?_⟩
  refine awp_ret ?_
  obtain rfl := Option.some.inj h
  exact (show retX _ _ _ _ = some _ from by kernel_rfl)
end Go.Proofs.Ytaeicmnimjfbaaa
