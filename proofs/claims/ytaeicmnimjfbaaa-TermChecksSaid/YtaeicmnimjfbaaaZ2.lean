/- Typed programs and what computes them. -/
import Derived.Test.YtaeicmnimjfbaaaZ1
set_option linter.unusedVariables false
set_option linter.unusedSimpArgs false
set_option maxRecDepth 100000
namespace Go.Proofs.Ytaeicmnimjfbaaa
open Go Go.RowKit Go.Proofs
def synthesisref01_Count_l1 (a0 : List Va) (a1 : Int) (r140 : (List Va) → (Int) → Option (Int)) (v1 : (Int) × (Int)) : Option (((Int) × (Int)) ⊕ ((Int))) := (Option.bind ((bif (decide (v1.2 < (List.length a0 : Int))) then (some ((decide (v1.1 ≤ a1)))) else (some (false))) : Option ((Bool))) fun (v3 : (Bool)) => (bif v3 then (Option.bind (idx a0 v1.2) fun v4 => (Option.bind (r140 (v4.items) ((w64 (a1 - v1.1)))) fun v5 => (some (.inl ((w64 (v1.1 + (w64 (1 + v5)))), (w64 (v1.2 + 1))))))) else (some (.inr (v1.1)))))
def synthesisref01_Count_b (r140 : (List Va) → (Int) → Option (Int)) (a0 : List Va) (a1 : Int) : Option (Int) := (Option.bind (loopN (synthesisref01_Count_l1 a0 a1 r140) fuel (0, 0)) fun (v7 : (Int)) => (some v7))
theorem synthesisref01_Count_b_ok (r140 : (List Va) → (Int) → Option (Int)) (ih140 : ∀ (x0 : List Va) (x1 : Int) r, r140 x0 x1 = some r → PCall Try.prog 140 [(eL 4 eVaR) x0, eI x1] (eI (r))) (a0 : List Va) (a1 : Int) (r : Int) (h : synthesisref01_Count_b r140 a0 a1 = some r) : PCall Try.prog 140 [(eL 4 eVaR) a0, eI a1] (eI (r)) := by
 unfold synthesisref01_Count_b at h
 refine pcall_intro (T := TT) tt_ok [.one .keep] Try.func140 rfl (by kernel_rfl) (by kernel_rfl) ?_
 refine awp_le (st' := ⟨31, [(0, (.fz ((eL 4 eVaR) (a0)))), (1, (fI (a1)))], [], []⟩) (le_ck (by kernel_rfl)) ?_
 refine awp_seq ?_
 refine awp_region ?_
 refine l_rk 1 tt_ok ⟨31, [(0, (.fz ((eL 4 eVaR) (a0)))), (1, (fI (a1)))], [], []⟩ (by kernel_rfl) ?_
 refine l_nil ?_
 refine awp_seq ?_
 refine awp_region ?_
 refine l_rk 1 tt_ok ⟨31, [(0, (.fz ((eL 4 eVaR) (a0)))), (1, (fI (a1))), (5, (fI (0)))], [], []⟩ (by kernel_rfl) ?_
 refine l_nil ?_
 refine awp_seq ?_
 refine awp_seq ?_
 refine awp_region ?_
 refine l_rk 1 tt_ok ⟨31, [(0, (.fz ((eL 4 eVaR) (a0)))), (1, (fI (a1))), (5, (fI (0))), (6, (fI (0)))], [], []⟩ (by kernel_rfl) ?_
 refine l_nil ?_
 refine awp_block ?_
 obtain ⟨v7, hj, h⟩ := Option.bind_eq_some_iff.1 h
 refine awp_join (Qa := fun e st => e = .exit 0 ∧ LeSt st ⟨31, [(5, (fI (v7)))], [], []⟩) ?_ ?_
 ·refine awp_loopS (stOf := fun v1 => ⟨31, [(0, (.fz ((eL 4 eVaR) (a0)))), (1, (fI (a1))), (5, (fI (v1.1))), (6, (fI (v1.2)))], [], []⟩) (Qb := fun j e st => e = .exit 0 ∧ LeSt st ⟨31, [(5, (fI (j)))], [], []⟩) hj (le_ck (by kernel_rfl)) ?_
  clear hj h
  intro v1 r h
  unfold synthesisref01_Count_l1 at h
  refine awp_seq ?_
  refine awp_seq ?_
  obtain ⟨v3, hj, h⟩ := Option.bind_eq_some_iff.1 h
  refine awp_join (Qa := fun e st => e = .normal ∧ LeSt st ⟨31, [(0, (.fz ((eL 4 eVaR) (a0)))), (1, (fI (a1))), (5, (fI (v1.1))), (6, (fI (v1.2))), (15, (fB (v3)))], [], []⟩) ?_ ?_
  ·replace h := hj
   clear hj
   refine awp_region ?_
   refine l_rk 5 tt_ok ⟨31, [(0, (.fz ((eL 4 eVaR) (a0)))), (1, (fI (a1))), (5, (fI (v1.1))), (6, (fI (v1.2))), (11, (fB ((decide (v1.2 < (List.length a0 : Int))))))], [], []⟩ (by kernel_rfl) ?_
   rcases cond_some h with ⟨hb, h⟩ | ⟨hb, h⟩
   ·refine l_le (le_eq (t := 11) (x := .fz (eB (decide (v1.2 < (List.length a0 : Int))))) (y := .fz (eB true)) (by kernel_rfl) (congrArg (fun b => AV.fz (eB b)) hb)) ?_
    refine l_rk 4 tt_ok ⟨31, [(0, (.fz ((eL 4 eVaR) (a0)))), (1, (fI (a1))), (5, (fI (v1.1))), (6, (fI (v1.2))), (15, (fB ((decide (v1.1 ≤ a1)))))], [], []⟩ (by kernel_rfl) ?_
    refine l_nil ?_
    obtain rfl := Option.some.inj h
    exact And.intro rfl (le_ck (by kernel_rfl))
   ·refine l_le (le_eq (t := 11) (x := .fz (eB (decide (v1.2 < (List.length a0 : Int))))) (y := .fz (eB false)) (by kernel_rfl) (congrArg (fun b => AV.fz (eB b)) hb)) ?_
    refine l_rk 4 tt_ok ⟨31, [(0, (.fz ((eL 4 eVaR) (a0)))), (1, (fI (a1))), (5, (fI (v1.1))), (6, (fI (v1.2))), (15, (fB (false)))], [], []⟩ (by kernel_rfl) ?_
    refine l_nil ?_
    obtain rfl := Option.some.inj h
    exact And.intro rfl (le_ck (by kernel_rfl))
  ·clear hj
   intro e st' hq
   obtain ⟨rfl, hle⟩ := hq
   refine ⟨_, hle, ?_⟩
   rcases cond_some h with ⟨hb, h⟩ | ⟨hb, h⟩
   ·refine awp_cond_t (b := v3) (by kernel_rfl) hb ?_
    refine awp_skip ?_
    refine awp_seq ?_
    refine awp_block ?_
    refine awp_region ?_
    refine l_rk 3 tt_ok ⟨31, [(0, (.fz ((eL 4 eVaR) (a0)))), (1, (fI (a1))), (5, (fI (v1.1))), (6, (fI (v1.2))), (18, (fI (v1.1))), (19, (.fz ((eL 4 eVaR) (a0)))), (20, (fI (v1.2)))], [], []⟩ (by kernel_rfl) ?_
    obtain ⟨v4, hv4, h⟩ := Option.bind_eq_some_iff.1 h
    refine l_step ((s_index (k := .i64) (d := tt63) (e := 65) (de := tt65) (enc := eVaR) hv4 tt_ok rfl (by kernel_rfl) (by kernel_rfl) (by kernel_rfl) (by kernel_rfl) len_eVaR (by kernel_rfl) (cells_eVaR v4)).step) (by kernel_rfl) (dst_of (by kernel_rfl)) ?_
    refine l_rk 5 tt_ok ⟨31, [(0, (.fz ((eL 4 eVaR) (a0)))), (1, (fI (a1))), (6, (fI (v1.2))), (18, (fI (v1.1))), (23, (.fz ((eL 4 eVaR) (v4.items)))), (26, (fI ((w64 (a1 - v1.1)))))], [], []⟩ (by kernel_rfl) ?_
    obtain ⟨v5, hv5, h⟩ := Option.bind_eq_some_iff.1 h
    refine l_step ((n_call (ys := [(eL 4 eVaR) (v4.items), eI ((w64 (a1 - v1.1)))]) (cs := [(.one (.sl 4)), (.one (.keep))]) rfl (by kernel_rfl) (ih140 (v4.items) ((w64 (a1 - v1.1))) _ hv5)).step) (by kernel_rfl) (dst_of (by kernel_rfl)) ?_
    refine l_rk 3 tt_ok ⟨31, [(0, (.fz ((eL 4 eVaR) (a0)))), (1, (fI (a1))), (5, (fI ((w64 (v1.1 + (w64 (1 + v5))))))), (6, (fI (v1.2)))], [], []⟩ (by kernel_rfl) ?_
    refine l_nil ?_
    refine awp_region ?_
    refine l_rk 3 tt_ok ⟨31, [(0, (.fz ((eL 4 eVaR) (a0)))), (1, (fI (a1))), (5, (fI ((w64 (v1.1 + (w64 (1 + v5))))))), (6, (fI ((w64 (v1.2 + 1)))))], [], []⟩ (by kernel_rfl) ?_
    refine l_nil ?_
    obtain rfl := Option.some.inj h
    exact And.intro rfl (le_ck (by kernel_rfl))
   ·refine awp_cond_f (b := v3) (by kernel_rfl) hb ?_
    refine awp_exit ?_
    obtain rfl := Option.some.inj h
    exact And.intro (And.intro (fun h => nomatch h) (fun h => nomatch h)) (And.intro rfl (le_ck (by kernel_rfl)))
 ·clear hj
  intro e st' hq
  obtain ⟨rfl, hle⟩ := hq
  refine ⟨_, hle, ?_⟩
  refine awp_seq ?_
  refine awp_region ?_
  refine l_rk 2 tt_ok ⟨31, [(4, (fI (v7)))], [], []⟩ (by kernel_rfl) ?_
  refine l_nil ?_
  refine awp_ret ?_
  obtain rfl := Option.some.inj h
  exact (show retX _ _ _ _ = some _ from by kernel_rfl)
def synthesisref01_Count : Nat → (List Va) → (Int) → Option (Int)
  | 0 => fun _ _ => none
  | n + 1 => synthesisref01_Count_b (synthesisref01_Count n)
theorem synthesisref01_Count_ok : ∀ (n : Nat) (x0 : List Va) (x1 : Int) r, synthesisref01_Count n x0 x1 = some r → PCall Try.prog 140 [(eL 4 eVaR) x0, eI x1] (eI (r))
  | 0, _, _, _, h => by cases h
  | n + 1, x0, x1, r, h => synthesisref01_Count_b_ok (synthesisref01_Count n) (synthesisref01_Count_ok n) x0 x1 r h

def synthesisref01_shallow_m0 (a0 : Va) : List (Nat × AObj) := [(1, (.box 65 [(fI (a0.type)), (fI (a0.num)), (fS (a0.text)), (.fz ((eL 4 eVaR) (a0.items)))]))]
def synthesisref01_shallow_l1 (a0 : Va) (a1 : Int) (r141 : (Va) → (Int) → Option (Bool)) (v3 : (Int)) : Option (((Int)) ⊕ (((Unit) ⊕ (Bool)))) := (bif (decide (v3 < (List.length a0.items : Int))) then (Option.bind (idx a0.items v3) fun v4 => (Option.bind (r141 (v4) ((w64 (a1 - 1)))) fun v5 => (bif (!v5) then (some (.inr (.inr false))) else (some (.inl ((w64 (v3 + 1)))))))) else (some (.inr (.inl ()))))
def synthesisref01_shallow_b (r141 : (Va) → (Int) → Option (Bool)) (a0 : Va) (a1 : Int) : Option (Bool) := (Option.bind ((bif (a1 == 0) then (some (true)) else (some ((decide (100 < (a0.text.size : Int)))))) : Option ((Bool))) fun (v2 : (Bool)) => (bif v2 then (some false) else (Option.bind (loopN (synthesisref01_shallow_l1 a0 a1 r141) fuel (0)) fun (v6 : ((Unit) ⊕ (Bool))) => Sum.elim (fun v7 => (some true)) (fun v8 => (some v8)) v6)))
theorem synthesisref01_shallow_b_ok (r141 : (Va) → (Int) → Option (Bool)) (ih141 : ∀ (x0 : Va) (x1 : Int) r, r141 x0 x1 = some r → PCall Try.prog 141 [eVa x0, eI x1] (eB (r))) (a0 : Va) (a1 : Int) (r : Bool) (h : synthesisref01_shallow_b r141 a0 a1 = some r) : PCall Try.prog 141 [eVa a0, eI a1] (eB (r)) := by
 unfold synthesisref01_shallow_b at h
 refine pcall_intro (T := TT) tt_ok [.one .keep] Try.func141 rfl (by kernel_rfl) (by kernel_rfl) ?_
 refine awp_le (st' := ⟨30, [(0, (.fz (eVa (a0)))), (1, (fI (a1)))], [], []⟩) (le_ck (by kernel_rfl)) ?_
 refine awp_seq ?_
 refine awp_region ?_
 refine l_rk 2 tt_ok ⟨30, [(1, (fI (a1))), (2, (.ref 1 0 0))], (synthesisref01_shallow_m0 a0), [1]⟩ (by kernel_rfl) ?_
 refine l_nil ?_
 refine awp_seq ?_
 refine awp_seq ?_
 obtain ⟨v2, hj, h⟩ := Option.bind_eq_some_iff.1 h
 refine awp_join (Qa := fun e st => e = .normal ∧ LeSt st ⟨30, [(1, (fI (a1))), (2, (.ref 1 0 0)), (13, (fB (v2)))], (synthesisref01_shallow_m0 a0), [1]⟩) ?_ ?_
 ·replace h := hj
  clear hj
  refine awp_region ?_
  refine l_rk 3 tt_ok ⟨30, [(1, (fI (a1))), (2, (.ref 1 0 0)), (8, (fB ((a1 == 0))))], (synthesisref01_shallow_m0 a0), [1]⟩ (by kernel_rfl) ?_
  rcases cond_some h with ⟨hb, h⟩ | ⟨hb, h⟩
  ·refine l_le (le_eq (t := 8) (x := .fz (eB (a1 == 0))) (y := .fz (eB true)) (by kernel_rfl) (congrArg (fun b => AV.fz (eB b)) hb)) ?_
   refine l_rk 5 tt_ok ⟨30, [(1, (fI (a1))), (2, (.ref 1 0 0)), (13, (fB (true)))], (synthesisref01_shallow_m0 a0), [1]⟩ (by kernel_rfl) ?_
   refine l_nil ?_
   obtain rfl := Option.some.inj h
   exact And.intro rfl (le_ck (by kernel_rfl))
  ·refine l_le (le_eq (t := 8) (x := .fz (eB (a1 == 0))) (y := .fz (eB false)) (by kernel_rfl) (congrArg (fun b => AV.fz (eB b)) hb)) ?_
   refine l_rk 5 tt_ok ⟨30, [(1, (fI (a1))), (2, (.ref 1 0 0)), (13, (fB ((decide (100 < (a0.text.size : Int))))))], (synthesisref01_shallow_m0 a0), [1]⟩ (by kernel_rfl) ?_
   refine l_nil ?_
   obtain rfl := Option.some.inj h
   exact And.intro rfl (le_ck (by kernel_rfl))
 ·clear hj
  intro e st' hq
  obtain ⟨rfl, hle⟩ := hq
  refine ⟨_, hle, ?_⟩
  rcases cond_some h with ⟨hb, h⟩ | ⟨hb, h⟩
  ·refine awp_cond_t (b := v2) (by kernel_rfl) hb ?_
   refine awp_seq ?_
   refine awp_region ?_
   refine l_rk 1 tt_ok ⟨30, [(4, (fB (false)))], [], []⟩ (by kernel_rfl) ?_
   refine l_nil ?_
   refine awp_ret ?_
   obtain rfl := Option.some.inj h
   exact (show retX _ _ _ _ = some _ from by kernel_rfl)
  ·refine awp_cond_f (b := v2) (by kernel_rfl) hb ?_
   refine awp_skip ?_
   refine awp_seq ?_
   refine awp_seq ?_
   refine awp_region ?_
   refine l_rk 1 tt_ok ⟨30, [(1, (fI (a1))), (2, (.ref 1 0 0)), (5, (fI (0)))], (synthesisref01_shallow_m0 a0), [1]⟩ (by kernel_rfl) ?_
   refine l_nil ?_
   refine awp_block ?_
   obtain ⟨v6, hj, h⟩ := Option.bind_eq_some_iff.1 h
   refine awp_join (Qa := fun e st => Sum.elim (fun p => e = .exit 0 ∧ LeSt st ⟨30, [], [], []⟩) (fun p => e = .ret ∧ retX TT st Try.f141.results.toList [.one .keep] = some (eB (p))) v6) ?_ ?_
   ·refine awp_loopS (stOf := fun v3 => ⟨30, [(1, (fI (a1))), (2, (.ref 1 0 0)), (5, (fI (v3)))], (synthesisref01_shallow_m0 a0), [1]⟩) (Qb := fun j e st => Sum.elim (fun p => e = .exit 0 ∧ LeSt st ⟨30, [], [], []⟩) (fun p => e = .ret ∧ retX TT st Try.f141.results.toList [.one .keep] = some (eB (p))) j) hj (le_ck (by kernel_rfl)) ?_
    clear hj h
    intro v3 r h
    unfold synthesisref01_shallow_l1 at h
    refine awp_seq ?_
    refine awp_seq ?_
    refine awp_region ?_
    refine l_rk 5 tt_ok ⟨30, [(1, (fI (a1))), (2, (.ref 1 0 0)), (5, (fI (v3))), (18, (fB ((decide (v3 < (List.length a0.items : Int))))))], (synthesisref01_shallow_m0 a0), [1]⟩ (by kernel_rfl) ?_
    refine l_nil ?_
    rcases cond_some h with ⟨hb, h⟩ | ⟨hb, h⟩
    ·refine awp_cond_t (b := (decide (v3 < (List.length a0.items : Int)))) (by kernel_rfl) hb ?_
     refine awp_skip ?_
     refine awp_seq ?_
     refine awp_block ?_
     refine awp_seq ?_
     refine awp_region ?_
     refine l_rk 3 tt_ok ⟨30, [(1, (fI (a1))), (2, (.ref 1 0 0)), (5, (fI (v3))), (22, (.fz ((eL 4 eVaR) (a0.items)))), (23, (fI (v3)))], (synthesisref01_shallow_m0 a0), [1]⟩ (by kernel_rfl) ?_
     obtain ⟨v4, hv4, h⟩ := Option.bind_eq_some_iff.1 h
     refine l_step ((s_index (k := .i64) (d := tt63) (e := 65) (de := tt65) (enc := eVaR) hv4 tt_ok rfl (by kernel_rfl) (by kernel_rfl) (by kernel_rfl) (by kernel_rfl) len_eVaR (by kernel_rfl) (cells_eVaR v4)).step) (by kernel_rfl) (dst_of (by kernel_rfl)) ?_
     refine l_rk 3 tt_ok ⟨30, [(1, (fI (a1))), (2, (.ref 1 0 0)), (5, (fI (v3))), (25, (.fz (eVa (v4)))), (27, (fI ((w64 (a1 - 1)))))], (synthesisref01_shallow_m0 a0), [1]⟩ (by kernel_rfl) ?_
     obtain ⟨v5, hv5, h⟩ := Option.bind_eq_some_iff.1 h
     refine l_step ((n_call (ys := [eVa (v4), eI ((w64 (a1 - 1)))]) (cs := [(.one .keep), (.one (.keep))]) rfl (by kernel_rfl) (ih141 (v4) ((w64 (a1 - 1))) _ hv5)).step) (by kernel_rfl) (dst_of (by kernel_rfl)) ?_
     refine l_rk 1 tt_ok ⟨30, [(1, (fI (a1))), (2, (.ref 1 0 0)), (5, (fI (v3))), (29, (fB ((!v5))))], (synthesisref01_shallow_m0 a0), [1]⟩ (by kernel_rfl) ?_
     refine l_nil ?_
     rcases cond_some h with ⟨hb, h⟩ | ⟨hb, h⟩
     ·refine awp_cond_t (b := (!v5)) (by kernel_rfl) hb ?_
      refine awp_seq ?_
      refine awp_region ?_
      refine l_rk 1 tt_ok ⟨30, [(4, (fB (false)))], [], []⟩ (by kernel_rfl) ?_
      refine l_nil ?_
      refine awp_ret ?_
      obtain rfl := Option.some.inj h
      exact And.intro (And.intro (fun h => nomatch h) (fun h => nomatch h)) (And.intro rfl (show retX _ _ _ _ = some _ from by kernel_rfl))
     ·refine awp_cond_f (b := (!v5)) (by kernel_rfl) hb ?_
      refine awp_skip ?_
      refine awp_region ?_
      refine l_rk 3 tt_ok ⟨30, [(1, (fI (a1))), (2, (.ref 1 0 0)), (5, (fI ((w64 (v3 + 1)))))], (synthesisref01_shallow_m0 a0), [1]⟩ (by kernel_rfl) ?_
      refine l_nil ?_
      obtain rfl := Option.some.inj h
      exact And.intro rfl (le_ck (by kernel_rfl))
    ·refine awp_cond_f (b := (decide (v3 < (List.length a0.items : Int)))) (by kernel_rfl) hb ?_
     refine awp_exit ?_
     obtain rfl := Option.some.inj h
     exact And.intro (And.intro (fun h => nomatch h) (fun h => nomatch h)) (And.intro rfl (le_ck (by kernel_rfl)))
   ·clear hj
    intro e st' hq
    rcases v6 with v7 | v8
    ·try simp only [Sum.elim_inl, Sum.elim_inr] at h
     obtain ⟨rfl, hle⟩ := hq
     refine ⟨_, hle, ?_⟩
     refine awp_seq ?_
     refine awp_region ?_
     refine l_rk 1 tt_ok ⟨30, [(4, (fB (true)))], [], []⟩ (by kernel_rfl) ?_
     refine l_nil ?_
     refine awp_ret ?_
     obtain rfl := Option.some.inj h
     exact (show retX _ _ _ _ = some _ from by kernel_rfl)
    ·try simp only [Sum.elim_inl, Sum.elim_inr] at h
     obtain ⟨rfl, hret⟩ := hq
     refine ⟨_, LeSt.refl, ?_⟩
     obtain rfl := Option.some.inj h
     exact hret
def synthesisref01_shallow : Nat → (Va) → (Int) → Option (Bool)
  | 0 => fun _ _ => none
  | n + 1 => synthesisref01_shallow_b (synthesisref01_shallow n)
theorem synthesisref01_shallow_ok : ∀ (n : Nat) (x0 : Va) (x1 : Int) r, synthesisref01_shallow n x0 x1 = some r → PCall Try.prog 141 [eVa x0, eI x1] (eB (r))
  | 0, _, _, _, h => by cases h
  | n + 1, x0, x1, r, h => synthesisref01_shallow_b_ok (synthesisref01_shallow n) (synthesisref01_shallow_ok n) x0 x1 r h

def synthesisref01_Small_m0 (a0 : Va) : List (Nat × AObj) := [(1, (.box 65 [(fI (a0.type)), (fI (a0.num)), (fS (a0.text)), (.fz ((eL 4 eVaR) (a0.items)))]))]
def synthesisref01_Small (a0 : Va) : Option (Bool) := (Option.bind ((Option.bind (synthesisref01_Count (fuel + depVs (([a0] : List (Va)))) (([a0] : List (Va))) (90)) fun v1 => (bif (decide (v1 ≤ 90)) then (Option.bind (synthesisref01_shallow fuel (a0) (8)) fun v2 => (some (v2))) else (some (false)))) : Option ((Bool))) fun (v4 : (Bool)) => (some v4))
theorem synthesisref01_Small_ok (a0 : Va) (r : Bool) (h : synthesisref01_Small a0 = some r) : PCall Try.prog 83 [eVa a0] (eB (r)) := by
 unfold synthesisref01_Small at h
 refine pcall_intro (T := TT) tt_ok [.one .keep] Try.func83 rfl (by kernel_rfl) (by kernel_rfl) ?_
 refine awp_le (st' := ⟨11, [(0, (.fz (eVa (a0))))], [], []⟩) (le_ck (by kernel_rfl)) ?_
 refine awp_seq ?_
 refine awp_region ?_
 refine l_rk 2 tt_ok ⟨11, [(1, (.ref 1 0 0))], (synthesisref01_Small_m0 a0), [1]⟩ (by kernel_rfl) ?_
 refine l_nil ?_
 refine awp_seq ?_
 obtain ⟨v4, hj, h⟩ := Option.bind_eq_some_iff.1 h
 refine awp_join (Qa := fun e st => e = .normal ∧ LeSt st ⟨11, [(2, (fB (v4)))], [], []⟩) ?_ ?_
 ·replace h := hj
  clear hj
  refine awp_region ?_
  refine l_rk 1 tt_ok ⟨11, [(1, (.ref 1 0 0)), (3, (.fz (eVa (a0))))], (synthesisref01_Small_m0 a0), [1]⟩ (by kernel_rfl) ?_
  refine l_step (xstep_ok (c := .lim 4 1 [eVa (a0)]) (h := [(1, (.box 65 [(fI (a0.type)), (fI (a0.num)), (fS (a0.text)), (.fz ((eL 4 eVaR) (a0.items)))]))]) (i := [1]) tt_ok (by kernel_rfl)) (by kernel_rfl) (dst_of (by kernel_rfl)) ?_
  refine l_le (le_eq (t := 4) (x := .lim 4 1 [eVa (a0)]) (y := .lim 4 1 (List.map eVaR ([a0] : List (Va)))) (by kernel_rfl) (by simp only [List.map, eVaR_eq])) ?_
  obtain ⟨v1, hv1, h⟩ := Option.bind_eq_some_iff.1 h
  refine l_step ((n_call (ys := [(eL 4 eVaR) (([a0] : List (Va))), eI (90)]) (cs := [(.one (.sl 4)), (.one (.keep))]) rfl (by kernel_rfl) (synthesisref01_Count_ok (fuel + depVs (([a0] : List (Va)))) (([a0] : List (Va))) (90) _ hv1)).step) (by kernel_rfl) (dst_of (by kernel_rfl)) ?_
  refine l_rk 2 tt_ok ⟨11, [(1, (.ref 1 0 0)), (7, (fB ((decide (v1 ≤ 90)))))], (synthesisref01_Small_m0 a0), [1]⟩ (by kernel_rfl) ?_
  rcases cond_some h with ⟨hb, h⟩ | ⟨hb, h⟩
  ·refine l_le (le_eq (t := 7) (x := .fz (eB (decide (v1 ≤ 90)))) (y := .fz (eB true)) (by kernel_rfl) (congrArg (fun b => AV.fz (eB b)) hb)) ?_
   refine l_rk 1 tt_ok ⟨11, [(7, (fB (true))), (8, (.fz (eVa (a0))))], [], []⟩ (by kernel_rfl) ?_
   obtain ⟨v2, hv2, h⟩ := Option.bind_eq_some_iff.1 h
   refine l_step ((n_call (ys := [eVa (a0), eI (8)]) (cs := [(.one .keep), (.one (.keep))]) rfl (by kernel_rfl) (synthesisref01_shallow_ok fuel (a0) (8) _ hv2)).step) (by kernel_rfl) (dst_of (by kernel_rfl)) ?_
   refine l_rk 2 tt_ok ⟨11, [(2, (fB (v2)))], [], []⟩ (by kernel_rfl) ?_
   refine l_nil ?_
   obtain rfl := Option.some.inj h
   exact And.intro rfl (le_ck (by kernel_rfl))
  ·refine l_le (le_eq (t := 7) (x := .fz (eB (decide (v1 ≤ 90)))) (y := .fz (eB false)) (by kernel_rfl) (congrArg (fun b => AV.fz (eB b)) hb)) ?_
   refine l_rk 4 tt_ok ⟨11, [(2, (fB (false)))], [], []⟩ (by kernel_rfl) ?_
   refine l_nil ?_
   obtain rfl := Option.some.inj h
   exact And.intro rfl (le_ck (by kernel_rfl))
 ·clear hj
  intro e st' hq
  obtain ⟨rfl, hle⟩ := hq
  refine ⟨_, hle, ?_⟩
  refine awp_ret ?_
  obtain rfl := Option.some.inj h
  exact (show retX _ _ _ _ = some _ from by kernel_rfl)

def synthesisref13_Few_m0 (a0 : La) : List (Nat × AObj) := [(1, (.box 27 [(fS (a0.name)), (.fz ((eL 1 eI) (a0.inputs))), (.fz ((eL 2 eSy) (a0.symbols))), (.fz ((eL 9 eRu) (a0.rules)))]))]
def synthesisref13_Few_l1 (a0 : La) (v7 : (Int)) : Option (((Int)) ⊕ (((Unit) ⊕ (Bool)))) := (bif (decide (v7 < (List.length a0.rules : Int))) then (Option.bind (idx a0.rules v7) fun v8 => (Option.bind ((Option.bind (synthesisref01_Small (v8.const)) fun v9 => (bif (!v9) then (some (true)) else (bif (decide (40 < (v8.op.size : Int))) then (some (true)) else (some ((decide (6 < (List.length v8.args : Int)))))))) : Option ((Bool))) fun (v11 : (Bool)) => (bif v11 then (some (.inr (.inr false))) else (some (.inl ((w64 (v7 + 1)))))))) else (some (.inr (.inl ()))))
def synthesisref13_Few_l2 (a0 : La) (v3 : (Int)) : Option (((Int)) ⊕ (((Unit) ⊕ (Bool)))) := (bif (decide (v3 < (List.length a0.symbols : Int))) then (Option.bind (idx a0.symbols v3) fun v4 => (bif (decide (40 < (v4.name.size : Int))) then (some (.inr (.inr false))) else (some (.inl ((w64 (v3 + 1))))))) else (some (.inr (.inl ()))))
def synthesisref13_Few (a0 : La) : Option (Bool) := (Option.bind ((bif (decide (40 < (a0.name.size : Int))) then (some (true)) else (bif (decide (6 < (List.length a0.inputs : Int))) then (some (true)) else (bif (decide (18 < (List.length a0.symbols : Int))) then (some (true)) else (some ((decide (30 < (List.length a0.rules : Int)))))))) : Option ((Bool))) fun (v2 : (Bool)) => (bif v2 then (some false) else (Option.bind (loopN (synthesisref13_Few_l2 a0) fuel (0)) fun (v5 : ((Unit) ⊕ (Bool))) => Sum.elim (fun v6 => (Option.bind (loopN (synthesisref13_Few_l1 a0) fuel (0)) fun (v12 : ((Unit) ⊕ (Bool))) => Sum.elim (fun v13 => (some true)) (fun v14 => (some v14)) v12)) (fun v15 => (some v15)) v5)))
theorem synthesisref13_Few_ok (a0 : La) (r : Bool) (h : synthesisref13_Few a0 = some r) : PCall Try.prog 34 [eLa a0] (eB (r)) := by
 unfold synthesisref13_Few at h
 refine pcall_intro (T := TT) tt_ok [.one .keep] Try.func34 rfl (by kernel_rfl) (by kernel_rfl) ?_
 refine awp_le (st' := ⟨71, [(0, (.fz (eLa (a0))))], [], []⟩) (le_ck (by kernel_rfl)) ?_
 refine awp_seq ?_
 refine awp_region ?_
 refine l_rk 2 tt_ok ⟨71, [(1, (.ref 1 0 0))], (synthesisref13_Few_m0 a0), [1]⟩ (by kernel_rfl) ?_
 refine l_nil ?_
 refine awp_seq ?_
 refine awp_seq ?_
 obtain ⟨v2, hj, h⟩ := Option.bind_eq_some_iff.1 h
 refine awp_join (Qa := fun e st => e = .normal ∧ LeSt st ⟨71, [(1, (.ref 1 0 0)), (27, (fB (v2)))], (synthesisref13_Few_m0 a0), [1]⟩) ?_ ?_
 ·replace h := hj
  clear hj
  refine awp_region ?_
  refine l_rk 5 tt_ok ⟨71, [(1, (.ref 1 0 0)), (10, (fB ((decide (40 < (a0.name.size : Int))))))], (synthesisref13_Few_m0 a0), [1]⟩ (by kernel_rfl) ?_
  rcases cond_some h with ⟨hb, h⟩ | ⟨hb, h⟩
  ·refine l_le (le_eq (t := 10) (x := .fz (eB (decide (40 < (a0.name.size : Int))))) (y := .fz (eB true)) (by kernel_rfl) (congrArg (fun b => AV.fz (eB b)) hb)) ?_
   refine l_rk 17 tt_ok ⟨71, [(1, (.ref 1 0 0)), (27, (fB (true)))], (synthesisref13_Few_m0 a0), [1]⟩ (by kernel_rfl) ?_
   refine l_nil ?_
   obtain rfl := Option.some.inj h
   exact And.intro rfl (le_ck (by kernel_rfl))
  ·refine l_le (le_eq (t := 10) (x := .fz (eB (decide (40 < (a0.name.size : Int))))) (y := .fz (eB false)) (by kernel_rfl) (congrArg (fun b => AV.fz (eB b)) hb)) ?_
   refine l_rk 6 tt_ok ⟨71, [(1, (.ref 1 0 0)), (16, (fB ((decide (6 < (List.length a0.inputs : Int))))))], (synthesisref13_Few_m0 a0), [1]⟩ (by kernel_rfl) ?_
   rcases cond_some h with ⟨hb, h⟩ | ⟨hb, h⟩
   ·refine l_le (le_eq (t := 16) (x := .fz (eB (decide (6 < (List.length a0.inputs : Int))))) (y := .fz (eB true)) (by kernel_rfl) (congrArg (fun b => AV.fz (eB b)) hb)) ?_
    refine l_rk 11 tt_ok ⟨71, [(1, (.ref 1 0 0)), (27, (fB (true)))], (synthesisref13_Few_m0 a0), [1]⟩ (by kernel_rfl) ?_
    refine l_nil ?_
    obtain rfl := Option.some.inj h
    exact And.intro rfl (le_ck (by kernel_rfl))
   ·refine l_le (le_eq (t := 16) (x := .fz (eB (decide (6 < (List.length a0.inputs : Int))))) (y := .fz (eB false)) (by kernel_rfl) (congrArg (fun b => AV.fz (eB b)) hb)) ?_
    refine l_rk 6 tt_ok ⟨71, [(1, (.ref 1 0 0)), (22, (fB ((decide (18 < (List.length a0.symbols : Int))))))], (synthesisref13_Few_m0 a0), [1]⟩ (by kernel_rfl) ?_
    rcases cond_some h with ⟨hb, h⟩ | ⟨hb, h⟩
    ·refine l_le (le_eq (t := 22) (x := .fz (eB (decide (18 < (List.length a0.symbols : Int))))) (y := .fz (eB true)) (by kernel_rfl) (congrArg (fun b => AV.fz (eB b)) hb)) ?_
     refine l_rk 5 tt_ok ⟨71, [(1, (.ref 1 0 0)), (27, (fB (true)))], (synthesisref13_Few_m0 a0), [1]⟩ (by kernel_rfl) ?_
     refine l_nil ?_
     obtain rfl := Option.some.inj h
     exact And.intro rfl (le_ck (by kernel_rfl))
    ·refine l_le (le_eq (t := 22) (x := .fz (eB (decide (18 < (List.length a0.symbols : Int))))) (y := .fz (eB false)) (by kernel_rfl) (congrArg (fun b => AV.fz (eB b)) hb)) ?_
     refine l_rk 5 tt_ok ⟨71, [(1, (.ref 1 0 0)), (27, (fB ((decide (30 < (List.length a0.rules : Int))))))], (synthesisref13_Few_m0 a0), [1]⟩ (by kernel_rfl) ?_
     refine l_nil ?_
     obtain rfl := Option.some.inj h
     exact And.intro rfl (le_ck (by kernel_rfl))
 ·clear hj
  intro e st' hq
  obtain ⟨rfl, hle⟩ := hq
  refine ⟨_, hle, ?_⟩
  rcases cond_some h with ⟨hb, h⟩ | ⟨hb, h⟩
  ·refine awp_cond_t (b := v2) (by kernel_rfl) hb ?_
   refine awp_seq ?_
   refine awp_region ?_
   refine l_rk 1 tt_ok ⟨71, [(2, (fB (false)))], [], []⟩ (by kernel_rfl) ?_
   refine l_nil ?_
   refine awp_ret ?_
   obtain rfl := Option.some.inj h
   exact (show retX _ _ _ _ = some _ from by kernel_rfl)
  ·refine awp_cond_f (b := v2) (by kernel_rfl) hb ?_
   refine awp_skip ?_
   refine awp_seq ?_
   refine awp_seq ?_
   refine awp_region ?_
   refine l_rk 1 tt_ok ⟨71, [(1, (.ref 1 0 0)), (3, (fI (0)))], (synthesisref13_Few_m0 a0), [1]⟩ (by kernel_rfl) ?_
   refine l_nil ?_
   refine awp_block ?_
   obtain ⟨v5, hj, h⟩ := Option.bind_eq_some_iff.1 h
   refine awp_join (Qa := fun e st => Sum.elim (fun p => e = .exit 0 ∧ LeSt st ⟨71, [(1, (.ref 1 0 0))], (synthesisref13_Few_m0 a0), [1]⟩) (fun p => e = .ret ∧ retX TT st Try.f34.results.toList [.one .keep] = some (eB (p))) v5) ?_ ?_
   ·refine awp_loopS (stOf := fun v3 => ⟨71, [(1, (.ref 1 0 0)), (3, (fI (v3)))], (synthesisref13_Few_m0 a0), [1]⟩) (Qb := fun j e st => Sum.elim (fun p => e = .exit 0 ∧ LeSt st ⟨71, [(1, (.ref 1 0 0))], (synthesisref13_Few_m0 a0), [1]⟩) (fun p => e = .ret ∧ retX TT st Try.f34.results.toList [.one .keep] = some (eB (p))) j) hj (le_ck (by kernel_rfl)) ?_
    clear hj h
    intro v3 r h
    unfold synthesisref13_Few_l2 at h
    refine awp_seq ?_
    refine awp_seq ?_
    refine awp_region ?_
    refine l_rk 5 tt_ok ⟨71, [(1, (.ref 1 0 0)), (3, (fI (v3))), (32, (fB ((decide (v3 < (List.length a0.symbols : Int))))))], (synthesisref13_Few_m0 a0), [1]⟩ (by kernel_rfl) ?_
    refine l_nil ?_
    rcases cond_some h with ⟨hb, h⟩ | ⟨hb, h⟩
    ·refine awp_cond_t (b := (decide (v3 < (List.length a0.symbols : Int)))) (by kernel_rfl) hb ?_
     refine awp_skip ?_
     refine awp_seq ?_
     refine awp_block ?_
     refine awp_seq ?_
     refine awp_region ?_
     refine l_rk 3 tt_ok ⟨71, [(1, (.ref 1 0 0)), (3, (fI (v3))), (36, (.fz ((eL 2 eSy) (a0.symbols)))), (37, (fI (v3)))], (synthesisref13_Few_m0 a0), [1]⟩ (by kernel_rfl) ?_
     obtain ⟨v4, hv4, h⟩ := Option.bind_eq_some_iff.1 h
     refine l_step ((s_index (k := .i64) (d := tt24) (e := 72) (de := tt72) (enc := eSy) hv4 tt_ok rfl (by kernel_rfl) (by kernel_rfl) (by kernel_rfl) (by kernel_rfl) len_eSy (by kernel_rfl) rfl).step) (by kernel_rfl) (dst_of (by kernel_rfl)) ?_
     refine l_rk 4 tt_ok ⟨71, [(1, (.ref 1 0 0)), (3, (fI (v3))), (42, (fB ((decide (40 < (v4.name.size : Int))))))], (synthesisref13_Few_m0 a0), [1]⟩ (by kernel_rfl) ?_
     refine l_nil ?_
     rcases cond_some h with ⟨hb, h⟩ | ⟨hb, h⟩
     ·refine awp_cond_t (b := (decide (40 < (v4.name.size : Int)))) (by kernel_rfl) hb ?_
      refine awp_seq ?_
      refine awp_region ?_
      refine l_rk 1 tt_ok ⟨71, [(2, (fB (false)))], [], []⟩ (by kernel_rfl) ?_
      refine l_nil ?_
      refine awp_ret ?_
      obtain rfl := Option.some.inj h
      exact And.intro (And.intro (fun h => nomatch h) (fun h => nomatch h)) (And.intro rfl (show retX _ _ _ _ = some _ from by kernel_rfl))
     ·refine awp_cond_f (b := (decide (40 < (v4.name.size : Int)))) (by kernel_rfl) hb ?_
      refine awp_skip ?_
      refine awp_region ?_
      refine l_rk 3 tt_ok ⟨71, [(1, (.ref 1 0 0)), (3, (fI ((w64 (v3 + 1)))))], (synthesisref13_Few_m0 a0), [1]⟩ (by kernel_rfl) ?_
      refine l_nil ?_
      obtain rfl := Option.some.inj h
      exact And.intro rfl (le_ck (by kernel_rfl))
    ·refine awp_cond_f (b := (decide (v3 < (List.length a0.symbols : Int)))) (by kernel_rfl) hb ?_
     refine awp_exit ?_
     obtain rfl := Option.some.inj h
     exact And.intro (And.intro (fun h => nomatch h) (fun h => nomatch h)) (And.intro rfl (le_ck (by kernel_rfl)))
   ·clear hj
    intro e st' hq
    rcases v5 with v6 | v15
    ·try simp only [Sum.elim_inl, Sum.elim_inr] at h
     obtain ⟨rfl, hle⟩ := hq
     refine ⟨_, hle, ?_⟩
     refine awp_seq ?_
     refine awp_seq ?_
     refine awp_region ?_
     refine l_rk 1 tt_ok ⟨71, [(1, (.ref 1 0 0)), (4, (fI (0)))], (synthesisref13_Few_m0 a0), [1]⟩ (by kernel_rfl) ?_
     refine l_nil ?_
     refine awp_block ?_
     obtain ⟨v12, hj, h⟩ := Option.bind_eq_some_iff.1 h
     refine awp_join (Qa := fun e st => Sum.elim (fun p => e = .exit 2 ∧ LeSt st ⟨71, [], [], []⟩) (fun p => e = .ret ∧ retX TT st Try.f34.results.toList [.one .keep] = some (eB (p))) v12) ?_ ?_
     ·refine awp_loopS (stOf := fun v7 => ⟨71, [(1, (.ref 1 0 0)), (4, (fI (v7)))], (synthesisref13_Few_m0 a0), [1]⟩) (Qb := fun j e st => Sum.elim (fun p => e = .exit 2 ∧ LeSt st ⟨71, [], [], []⟩) (fun p => e = .ret ∧ retX TT st Try.f34.results.toList [.one .keep] = some (eB (p))) j) hj (le_ck (by kernel_rfl)) ?_
      clear hj h
      intro v7 r h
      unfold synthesisref13_Few_l1 at h
      refine awp_seq ?_
      refine awp_seq ?_
      refine awp_region ?_
      refine l_rk 5 tt_ok ⟨71, [(1, (.ref 1 0 0)), (4, (fI (v7))), (47, (fB ((decide (v7 < (List.length a0.rules : Int))))))], (synthesisref13_Few_m0 a0), [1]⟩ (by kernel_rfl) ?_
      refine l_nil ?_
      rcases cond_some h with ⟨hb, h⟩ | ⟨hb, h⟩
      ·refine awp_cond_t (b := (decide (v7 < (List.length a0.rules : Int)))) (by kernel_rfl) hb ?_
       refine awp_skip ?_
       refine awp_seq ?_
       refine awp_block ?_
       refine awp_seq ?_
       refine awp_region ?_
       refine l_rk 3 tt_ok ⟨71, [(1, (.ref 1 0 0)), (4, (fI (v7))), (51, (.fz ((eL 9 eRu) (a0.rules)))), (52, (fI (v7)))], (synthesisref13_Few_m0 a0), [1]⟩ (by kernel_rfl) ?_
       obtain ⟨v8, hv8, h⟩ := Option.bind_eq_some_iff.1 h
       refine l_step ((s_index (k := .i64) (d := tt25) (e := 67) (de := tt67) (enc := eRu) hv8 tt_ok rfl (by kernel_rfl) (by kernel_rfl) (by kernel_rfl) (by kernel_rfl) len_eRu (by kernel_rfl) rfl).step) (by kernel_rfl) (dst_of (by kernel_rfl)) ?_
       refine l_rk 3 tt_ok ⟨71, [(1, (.ref 1 0 0)), (4, (fI (v7))), (5, (.ref 2 0 0))], [(1, (.box 27 [(fS (a0.name)), (.fz ((eL 1 eI) (a0.inputs))), (.fz ((eL 2 eSy) (a0.symbols))), (.fz ((eL 9 eRu) (a0.rules)))])), (2, (.box 67 [(fI (v8.symbol)), (fI (v8.kind)), (fI (v8.input)), (fI (v8.const.type)), (fI (v8.const.num)), (fS (v8.const.text)), (.fz ((eL 4 eVaR) (v8.const.items))), (fS (v8.op)), (.fz ((eL 1 eI) (v8.args)))]))], [2, 1]⟩ (by kernel_rfl) ?_
       refine l_nil ?_
       refine awp_seq ?_
       obtain ⟨v11, hj, h⟩ := Option.bind_eq_some_iff.1 h
       refine awp_join (Qa := fun e st => e = .normal ∧ LeSt st ⟨71, [(1, (.ref 1 0 0)), (4, (fI (v7))), (70, (fB (v11)))], (synthesisref13_Few_m0 a0), [1]⟩) ?_ ?_
       ·replace h := hj
        clear hj
        refine awp_region ?_
        refine l_rk 2 tt_ok ⟨71, [(1, (.ref 1 0 0)), (4, (fI (v7))), (5, (.ref 2 0 0)), (56, (.fz (eVa (v8.const))))], [(1, (.box 27 [(fS (a0.name)), (.fz ((eL 1 eI) (a0.inputs))), (.fz ((eL 2 eSy) (a0.symbols))), (.fz ((eL 9 eRu) (a0.rules)))])), (2, (.box 67 [(fI (v8.symbol)), (fI (v8.kind)), (fI (v8.input)), (fI (v8.const.type)), (fI (v8.const.num)), (fS (v8.const.text)), (.fz ((eL 4 eVaR) (v8.const.items))), (fS (v8.op)), (.fz ((eL 1 eI) (v8.args)))]))], [2, 1]⟩ (by kernel_rfl) ?_
        obtain ⟨v9, hv9, h⟩ := Option.bind_eq_some_iff.1 h
        refine l_step ((n_call (ys := [eVa (v8.const)]) (cs := [(.one .keep)]) rfl (by kernel_rfl) (synthesisref01_Small_ok (v8.const) _ hv9)).step) (by kernel_rfl) (dst_of (by kernel_rfl)) ?_
        refine l_rk 2 tt_ok ⟨71, [(1, (.ref 1 0 0)), (4, (fI (v7))), (5, (.ref 2 0 0)), (59, (fB ((!v9))))], [(1, (.box 27 [(fS (a0.name)), (.fz ((eL 1 eI) (a0.inputs))), (.fz ((eL 2 eSy) (a0.symbols))), (.fz ((eL 9 eRu) (a0.rules)))])), (2, (.box 67 [(fI (v8.symbol)), (fI (v8.kind)), (fI (v8.input)), (fI (v8.const.type)), (fI (v8.const.num)), (fS (v8.const.text)), (.fz ((eL 4 eVaR) (v8.const.items))), (fS (v8.op)), (.fz ((eL 1 eI) (v8.args)))]))], [2, 1]⟩ (by kernel_rfl) ?_
        rcases cond_some h with ⟨hb, h⟩ | ⟨hb, h⟩
        ·refine l_le (le_eq (t := 59) (x := .fz (eB (!v9))) (y := .fz (eB true)) (by kernel_rfl) (congrArg (fun b => AV.fz (eB b)) hb)) ?_
         refine l_rk 11 tt_ok ⟨71, [(1, (.ref 1 0 0)), (4, (fI (v7))), (70, (fB (true)))], (synthesisref13_Few_m0 a0), [1]⟩ (by kernel_rfl) ?_
         refine l_nil ?_
         obtain rfl := Option.some.inj h
         exact And.intro rfl (le_ck (by kernel_rfl))
        ·refine l_le (le_eq (t := 59) (x := .fz (eB (!v9))) (y := .fz (eB false)) (by kernel_rfl) (congrArg (fun b => AV.fz (eB b)) hb)) ?_
         refine l_rk 6 tt_ok ⟨71, [(1, (.ref 1 0 0)), (4, (fI (v7))), (5, (.ref 2 0 0)), (65, (fB ((decide (40 < (v8.op.size : Int))))))], [(1, (.box 27 [(fS (a0.name)), (.fz ((eL 1 eI) (a0.inputs))), (.fz ((eL 2 eSy) (a0.symbols))), (.fz ((eL 9 eRu) (a0.rules)))])), (2, (.box 67 [(fI (v8.symbol)), (fI (v8.kind)), (fI (v8.input)), (fI (v8.const.type)), (fI (v8.const.num)), (fS (v8.const.text)), (.fz ((eL 4 eVaR) (v8.const.items))), (fS (v8.op)), (.fz ((eL 1 eI) (v8.args)))]))], [2, 1]⟩ (by kernel_rfl) ?_
         rcases cond_some h with ⟨hb, h⟩ | ⟨hb, h⟩
         ·refine l_le (le_eq (t := 65) (x := .fz (eB (decide (40 < (v8.op.size : Int))))) (y := .fz (eB true)) (by kernel_rfl) (congrArg (fun b => AV.fz (eB b)) hb)) ?_
          refine l_rk 5 tt_ok ⟨71, [(1, (.ref 1 0 0)), (4, (fI (v7))), (70, (fB (true)))], (synthesisref13_Few_m0 a0), [1]⟩ (by kernel_rfl) ?_
          refine l_nil ?_
          obtain rfl := Option.some.inj h
          exact And.intro rfl (le_ck (by kernel_rfl))
         ·refine l_le (le_eq (t := 65) (x := .fz (eB (decide (40 < (v8.op.size : Int))))) (y := .fz (eB false)) (by kernel_rfl) (congrArg (fun b => AV.fz (eB b)) hb)) ?_
          refine l_rk 5 tt_ok ⟨71, [(1, (.ref 1 0 0)), (4, (fI (v7))), (70, (fB ((decide (6 < (List.length v8.args : Int))))))], (synthesisref13_Few_m0 a0), [1]⟩ (by kernel_rfl) ?_
          refine l_nil ?_
          obtain rfl := Option.some.inj h
          exact And.intro rfl (le_ck (by kernel_rfl))
       ·clear hj
        intro e st' hq
        obtain ⟨rfl, hle⟩ := hq
        refine ⟨_, hle, ?_⟩
        rcases cond_some h with ⟨hb, h⟩ | ⟨hb, h⟩
        ·refine awp_cond_t (b := v11) (by kernel_rfl) hb ?_
         refine awp_seq ?_
         refine awp_region ?_
         refine l_rk 1 tt_ok ⟨71, [(2, (fB (false)))], [], []⟩ (by kernel_rfl) ?_
         refine l_nil ?_
         refine awp_ret ?_
         obtain rfl := Option.some.inj h
         exact And.intro (And.intro (fun h => nomatch h) (fun h => nomatch h)) (And.intro rfl (show retX _ _ _ _ = some _ from by kernel_rfl))
        ·refine awp_cond_f (b := v11) (by kernel_rfl) hb ?_
         refine awp_skip ?_
         refine awp_region ?_
         refine l_rk 3 tt_ok ⟨71, [(1, (.ref 1 0 0)), (4, (fI ((w64 (v7 + 1)))))], (synthesisref13_Few_m0 a0), [1]⟩ (by kernel_rfl) ?_
         refine l_nil ?_
         obtain rfl := Option.some.inj h
         exact And.intro rfl (le_ck (by kernel_rfl))
      ·refine awp_cond_f (b := (decide (v7 < (List.length a0.rules : Int)))) (by kernel_rfl) hb ?_
       refine awp_exit ?_
       obtain rfl := Option.some.inj h
       exact And.intro (And.intro (fun h => nomatch h) (fun h => nomatch h)) (And.intro rfl (le_ck (by kernel_rfl)))
     ·clear hj
      intro e st' hq
      rcases v12 with v13 | v14
      ·try simp only [Sum.elim_inl, Sum.elim_inr] at h
       obtain ⟨rfl, hle⟩ := hq
       refine ⟨_, hle, ?_⟩
       refine awp_seq ?_
       refine awp_region ?_
       refine l_rk 1 tt_ok ⟨71, [(2, (fB (true)))], [], []⟩ (by kernel_rfl) ?_
       refine l_nil ?_
       refine awp_ret ?_
       obtain rfl := Option.some.inj h
       exact (show retX _ _ _ _ = some _ from by kernel_rfl)
      ·try simp only [Sum.elim_inl, Sum.elim_inr] at h
       obtain ⟨rfl, hret⟩ := hq
       refine ⟨_, LeSt.refl, ?_⟩
       obtain rfl := Option.some.inj h
       exact hret
    ·try simp only [Sum.elim_inl, Sum.elim_inr] at h
     obtain ⟨rfl, hret⟩ := hq
     refine ⟨_, LeSt.refl, ?_⟩
     obtain rfl := Option.some.inj h
     exact hret

def synthesisref13_left_m0 (a0 : Tm) : List (Nat × AObj) := [(1, (.box 42 [(fI (a0.rule)), (.fz ((eL 2 eTmR) (a0.args)))]))]
def synthesisref13_left_l1 (a0 : Tm) (r142 : (Tm) → (Int) → Option (Int)) (v1 : (Int) × (Int)) : Option (((Int) × (Int)) ⊕ ((Int))) := (Option.bind ((bif (decide (v1.2 < (List.length a0.args : Int))) then (some ((decide (0 ≤ v1.1)))) else (some (false))) : Option ((Bool))) fun (v3 : (Bool)) => (bif v3 then (Option.bind (idx a0.args v1.2) fun v4 => (Option.bind (r142 (v4) (v1.1)) fun v5 => (some (.inl (v5, (w64 (v1.2 + 1))))))) else (some (.inr (v1.1)))))
def synthesisref13_left_b (r142 : (Tm) → (Int) → Option (Int)) (a0 : Tm) (a1 : Int) : Option (Int) := (Option.bind (loopN (synthesisref13_left_l1 a0 r142) fuel ((w64 (a1 - 1)), 0)) fun (v7 : (Int)) => (some v7))
theorem synthesisref13_left_b_ok (r142 : (Tm) → (Int) → Option (Int)) (ih142 : ∀ (x0 : Tm) (x1 : Int) r, r142 x0 x1 = some r → PCall Try.prog 142 [eTm x0, eI x1] (eI (r))) (a0 : Tm) (a1 : Int) (r : Int) (h : synthesisref13_left_b r142 a0 a1 = some r) : PCall Try.prog 142 [eTm a0, eI a1] (eI (r)) := by
 unfold synthesisref13_left_b at h
 refine pcall_intro (T := TT) tt_ok [.one .keep] Try.func142 rfl (by kernel_rfl) (by kernel_rfl) ?_
 refine awp_le (st' := ⟨27, [(0, (.fz (eTm (a0)))), (1, (fI (a1)))], [], []⟩) (le_ck (by kernel_rfl)) ?_
 refine awp_seq ?_
 refine awp_region ?_
 refine l_rk 2 tt_ok ⟨27, [(1, (fI (a1))), (2, (.ref 1 0 0))], (synthesisref13_left_m0 a0), [1]⟩ (by kernel_rfl) ?_
 refine l_nil ?_
 refine awp_seq ?_
 refine awp_region ?_
 refine l_rk 3 tt_ok ⟨27, [(1, (fI ((w64 (a1 - 1))))), (2, (.ref 1 0 0))], (synthesisref13_left_m0 a0), [1]⟩ (by kernel_rfl) ?_
 refine l_nil ?_
 refine awp_seq ?_
 refine awp_seq ?_
 refine awp_region ?_
 refine l_rk 1 tt_ok ⟨27, [(1, (fI ((w64 (a1 - 1))))), (2, (.ref 1 0 0)), (5, (fI (0)))], (synthesisref13_left_m0 a0), [1]⟩ (by kernel_rfl) ?_
 refine l_nil ?_
 refine awp_block ?_
 obtain ⟨v7, hj, h⟩ := Option.bind_eq_some_iff.1 h
 refine awp_join (Qa := fun e st => e = .exit 0 ∧ LeSt st ⟨27, [(1, (fI (v7)))], [], []⟩) ?_ ?_
 ·refine awp_loopS (stOf := fun v1 => ⟨27, [(1, (fI (v1.1))), (2, (.ref 1 0 0)), (5, (fI (v1.2)))], (synthesisref13_left_m0 a0), [1]⟩) (Qb := fun j e st => e = .exit 0 ∧ LeSt st ⟨27, [(1, (fI (j)))], [], []⟩) hj (le_ck (by kernel_rfl)) ?_
  clear hj h
  intro v1 r h
  unfold synthesisref13_left_l1 at h
  refine awp_seq ?_
  refine awp_seq ?_
  obtain ⟨v3, hj, h⟩ := Option.bind_eq_some_iff.1 h
  refine awp_join (Qa := fun e st => e = .normal ∧ LeSt st ⟨27, [(1, (fI (v1.1))), (2, (.ref 1 0 0)), (5, (fI (v1.2))), (16, (fB (v3)))], (synthesisref13_left_m0 a0), [1]⟩) ?_ ?_
  ·replace h := hj
   clear hj
   refine awp_region ?_
   refine l_rk 6 tt_ok ⟨27, [(1, (fI (v1.1))), (2, (.ref 1 0 0)), (5, (fI (v1.2))), (13, (fB ((decide (v1.2 < (List.length a0.args : Int))))))], (synthesisref13_left_m0 a0), [1]⟩ (by kernel_rfl) ?_
   rcases cond_some h with ⟨hb, h⟩ | ⟨hb, h⟩
   ·refine l_le (le_eq (t := 13) (x := .fz (eB (decide (v1.2 < (List.length a0.args : Int))))) (y := .fz (eB true)) (by kernel_rfl) (congrArg (fun b => AV.fz (eB b)) hb)) ?_
    refine l_rk 3 tt_ok ⟨27, [(1, (fI (v1.1))), (2, (.ref 1 0 0)), (5, (fI (v1.2))), (16, (fB ((decide (0 ≤ v1.1)))))], (synthesisref13_left_m0 a0), [1]⟩ (by kernel_rfl) ?_
    refine l_nil ?_
    obtain rfl := Option.some.inj h
    exact And.intro rfl (le_ck (by kernel_rfl))
   ·refine l_le (le_eq (t := 13) (x := .fz (eB (decide (v1.2 < (List.length a0.args : Int))))) (y := .fz (eB false)) (by kernel_rfl) (congrArg (fun b => AV.fz (eB b)) hb)) ?_
    refine l_rk 3 tt_ok ⟨27, [(1, (fI (v1.1))), (2, (.ref 1 0 0)), (5, (fI (v1.2))), (16, (fB (false)))], (synthesisref13_left_m0 a0), [1]⟩ (by kernel_rfl) ?_
    refine l_nil ?_
    obtain rfl := Option.some.inj h
    exact And.intro rfl (le_ck (by kernel_rfl))
  ·clear hj
   intro e st' hq
   obtain ⟨rfl, hle⟩ := hq
   refine ⟨_, hle, ?_⟩
   rcases cond_some h with ⟨hb, h⟩ | ⟨hb, h⟩
   ·refine awp_cond_t (b := v3) (by kernel_rfl) hb ?_
    refine awp_skip ?_
    refine awp_seq ?_
    refine awp_block ?_
    refine awp_region ?_
    refine l_rk 3 tt_ok ⟨27, [(1, (fI (v1.1))), (2, (.ref 1 0 0)), (5, (fI (v1.2))), (20, (.fz ((eL 2 eTmR) (a0.args)))), (21, (fI (v1.2)))], (synthesisref13_left_m0 a0), [1]⟩ (by kernel_rfl) ?_
    obtain ⟨v4, hv4, h⟩ := Option.bind_eq_some_iff.1 h
    refine l_step ((s_index (k := .i64) (d := tt40) (e := 42) (de := tt42) (enc := eTmR) hv4 tt_ok rfl (by kernel_rfl) (by kernel_rfl) (by kernel_rfl) (by kernel_rfl) len_eTmR (by kernel_rfl) (cells_eTmR v4)).step) (by kernel_rfl) (dst_of (by kernel_rfl)) ?_
    refine l_rk 2 tt_ok ⟨27, [(2, (.ref 1 0 0)), (5, (fI (v1.2))), (23, (.fz (eTm (v4)))), (24, (fI (v1.1)))], (synthesisref13_left_m0 a0), [1]⟩ (by kernel_rfl) ?_
    obtain ⟨v5, hv5, h⟩ := Option.bind_eq_some_iff.1 h
    refine l_step ((n_call (ys := [eTm (v4), eI (v1.1)]) (cs := [(.one .keep), (.one (.keep))]) rfl (by kernel_rfl) (ih142 (v4) (v1.1) _ hv5)).step) (by kernel_rfl) (dst_of (by kernel_rfl)) ?_
    refine l_rk 1 tt_ok ⟨27, [(1, (fI (v5))), (2, (.ref 1 0 0)), (5, (fI (v1.2)))], (synthesisref13_left_m0 a0), [1]⟩ (by kernel_rfl) ?_
    refine l_nil ?_
    refine awp_region ?_
    refine l_rk 3 tt_ok ⟨27, [(1, (fI (v5))), (2, (.ref 1 0 0)), (5, (fI ((w64 (v1.2 + 1)))))], (synthesisref13_left_m0 a0), [1]⟩ (by kernel_rfl) ?_
    refine l_nil ?_
    obtain rfl := Option.some.inj h
    exact And.intro rfl (le_ck (by kernel_rfl))
   ·refine awp_cond_f (b := v3) (by kernel_rfl) hb ?_
    refine awp_exit ?_
    obtain rfl := Option.some.inj h
    exact And.intro (And.intro (fun h => nomatch h) (fun h => nomatch h)) (And.intro rfl (le_ck (by kernel_rfl)))
 ·clear hj
  intro e st' hq
  obtain ⟨rfl, hle⟩ := hq
  refine ⟨_, hle, ?_⟩
  refine awp_seq ?_
  refine awp_region ?_
  refine l_rk 2 tt_ok ⟨27, [(4, (fI (v7)))], [], []⟩ (by kernel_rfl) ?_
  refine l_nil ?_
  refine awp_ret ?_
  obtain rfl := Option.some.inj h
  exact (show retX _ _ _ _ = some _ from by kernel_rfl)
def synthesisref13_left : Nat → (Tm) → (Int) → Option (Int)
  | 0 => fun _ _ => none
  | n + 1 => synthesisref13_left_b (synthesisref13_left n)
theorem synthesisref13_left_ok : ∀ (n : Nat) (x0 : Tm) (x1 : Int) r, synthesisref13_left n x0 x1 = some r → PCall Try.prog 142 [eTm x0, eI x1] (eI (r))
  | 0, _, _, _, h => by cases h
  | n + 1, x0, x1, r, h => synthesisref13_left_b_ok (synthesisref13_left n) (synthesisref13_left_ok n) x0 x1 r h

def synthesisref13_Within (a0 : Tm) (a1 : Int) : Option (Bool) := (Option.bind (synthesisref13_left fuel (a0) (a1)) fun v1 => (some (decide (0 ≤ v1))))
theorem synthesisref13_Within_ok (a0 : Tm) (a1 : Int) (r : Bool) (h : synthesisref13_Within a0 a1 = some r) : PCall Try.prog 84 [eTm a0, eI a1] (eB (r)) := by
 unfold synthesisref13_Within at h
 refine pcall_intro (T := TT) tt_ok [.one .keep] Try.func84 rfl (by kernel_rfl) (by kernel_rfl) ?_
 refine awp_le (st' := ⟨9, [(0, (.fz (eTm (a0)))), (1, (fI (a1)))], [], []⟩) (le_ck (by kernel_rfl)) ?_
 refine awp_seq ?_
 refine awp_region ?_
 refine l_rk 2 tt_ok ⟨9, [(1, (fI (a1))), (2, (.ref 1 0 0))], [(1, (.box 42 [(fI (a0.rule)), (.fz ((eL 2 eTmR) (a0.args)))]))], [1]⟩ (by kernel_rfl) ?_
 refine l_nil ?_
 refine awp_seq ?_
 refine awp_region ?_
 refine l_rk 2 tt_ok ⟨9, [(5, (.fz (eTm (a0)))), (6, (fI (a1)))], [], []⟩ (by kernel_rfl) ?_
 obtain ⟨v1, hv1, h⟩ := Option.bind_eq_some_iff.1 h
 refine l_step ((n_call (ys := [eTm (a0), eI (a1)]) (cs := [(.one .keep), (.one (.keep))]) rfl (by kernel_rfl) (synthesisref13_left_ok fuel (a0) (a1) _ hv1)).step) (by kernel_rfl) (dst_of (by kernel_rfl)) ?_
 refine l_rk 2 tt_ok ⟨9, [(4, (fB ((decide (0 ≤ v1)))))], [], []⟩ (by kernel_rfl) ?_
 refine l_nil ?_
 refine awp_ret ?_
 obtain rfl := Option.some.inj h
 exact (show retX _ _ _ _ = some _ from by kernel_rfl)

def synthesislaw13_small_l1 (a0 : List Tm) (v1 : (Int)) : Option (((Int)) ⊕ (((Unit) ⊕ (Bool)))) := (bif (decide (v1 < (List.length a0 : Int))) then (Option.bind (idx a0 v1) fun v2 => (Option.bind (synthesisref13_Within (v2) (40)) fun v3 => (bif (!v3) then (some (.inr (.inr false))) else (some (.inl ((w64 (v1 + 1)))))))) else (some (.inr (.inl ()))))
def synthesislaw13_small (a0 : List Tm) : Option (Bool) := (Option.bind (loopN (synthesislaw13_small_l1 a0) fuel (0)) fun (v4 : ((Unit) ⊕ (Bool))) => Sum.elim (fun v5 => (some true)) (fun v6 => (some v6)) v4)
theorem synthesislaw13_small_ok (a0 : List Tm) (r : Bool) (h : synthesislaw13_small a0 = some r) : PCall Try.prog 35 [(eL 2 eTmR) a0] (eB (r)) := by
 unfold synthesislaw13_small at h
 refine pcall_intro (T := TT) tt_ok [.one .keep] Try.func35 rfl (by kernel_rfl) (by kernel_rfl) ?_
 refine awp_le (st' := ⟨16, [(0, (.fz ((eL 2 eTmR) (a0))))], [], []⟩) (le_ck (by kernel_rfl)) ?_
 refine awp_seq ?_
 refine awp_region ?_
 refine l_rk 1 tt_ok ⟨16, [(0, (.fz ((eL 2 eTmR) (a0))))], [], []⟩ (by kernel_rfl) ?_
 refine l_nil ?_
 refine awp_seq ?_
 refine awp_seq ?_
 refine awp_region ?_
 refine l_rk 1 tt_ok ⟨16, [(0, (.fz ((eL 2 eTmR) (a0)))), (3, (fI (0)))], [], []⟩ (by kernel_rfl) ?_
 refine l_nil ?_
 refine awp_block ?_
 obtain ⟨v4, hj, h⟩ := Option.bind_eq_some_iff.1 h
 refine awp_join (Qa := fun e st => Sum.elim (fun p => e = .exit 0 ∧ LeSt st ⟨16, [], [], []⟩) (fun p => e = .ret ∧ retX TT st Try.f35.results.toList [.one .keep] = some (eB (p))) v4) ?_ ?_
 ·refine awp_loopS (stOf := fun v1 => ⟨16, [(0, (.fz ((eL 2 eTmR) (a0)))), (3, (fI (v1)))], [], []⟩) (Qb := fun j e st => Sum.elim (fun p => e = .exit 0 ∧ LeSt st ⟨16, [], [], []⟩) (fun p => e = .ret ∧ retX TT st Try.f35.results.toList [.one .keep] = some (eB (p))) j) hj (le_ck (by kernel_rfl)) ?_
  clear hj h
  intro v1 r h
  unfold synthesislaw13_small_l1 at h
  refine awp_seq ?_
  refine awp_seq ?_
  refine awp_region ?_
  refine l_rk 4 tt_ok ⟨16, [(0, (.fz ((eL 2 eTmR) (a0)))), (3, (fI (v1))), (7, (fB ((decide (v1 < (List.length a0 : Int))))))], [], []⟩ (by kernel_rfl) ?_
  refine l_nil ?_
  rcases cond_some h with ⟨hb, h⟩ | ⟨hb, h⟩
  ·refine awp_cond_t (b := (decide (v1 < (List.length a0 : Int)))) (by kernel_rfl) hb ?_
   refine awp_skip ?_
   refine awp_seq ?_
   refine awp_block ?_
   refine awp_seq ?_
   refine awp_region ?_
   refine l_rk 2 tt_ok ⟨16, [(0, (.fz ((eL 2 eTmR) (a0)))), (3, (fI (v1))), (10, (.fz ((eL 2 eTmR) (a0)))), (11, (fI (v1)))], [], []⟩ (by kernel_rfl) ?_
   obtain ⟨v2, hv2, h⟩ := Option.bind_eq_some_iff.1 h
   refine l_step ((s_index (k := .i64) (d := tt40) (e := 42) (de := tt42) (enc := eTmR) hv2 tt_ok rfl (by kernel_rfl) (by kernel_rfl) (by kernel_rfl) (by kernel_rfl) len_eTmR (by kernel_rfl) (cells_eTmR v2)).step) (by kernel_rfl) (dst_of (by kernel_rfl)) ?_
   refine l_rk 1 tt_ok ⟨16, [(0, (.fz ((eL 2 eTmR) (a0)))), (3, (fI (v1))), (13, (.fz (eTm (v2))))], [], []⟩ (by kernel_rfl) ?_
   obtain ⟨v3, hv3, h⟩ := Option.bind_eq_some_iff.1 h
   refine l_step ((n_call (ys := [eTm (v2), eI (40)]) (cs := [(.one .keep), (.one (.keep))]) rfl (by kernel_rfl) (synthesisref13_Within_ok (v2) (40) _ hv3)).step) (by kernel_rfl) (dst_of (by kernel_rfl)) ?_
   refine l_rk 1 tt_ok ⟨16, [(0, (.fz ((eL 2 eTmR) (a0)))), (3, (fI (v1))), (15, (fB ((!v3))))], [], []⟩ (by kernel_rfl) ?_
   refine l_nil ?_
   rcases cond_some h with ⟨hb, h⟩ | ⟨hb, h⟩
   ·refine awp_cond_t (b := (!v3)) (by kernel_rfl) hb ?_
    refine awp_seq ?_
    refine awp_region ?_
    refine l_rk 1 tt_ok ⟨16, [(2, (fB (false)))], [], []⟩ (by kernel_rfl) ?_
    refine l_nil ?_
    refine awp_ret ?_
    obtain rfl := Option.some.inj h
    exact And.intro (And.intro (fun h => nomatch h) (fun h => nomatch h)) (And.intro rfl (show retX _ _ _ _ = some _ from by kernel_rfl))
   ·refine awp_cond_f (b := (!v3)) (by kernel_rfl) hb ?_
    refine awp_skip ?_
    refine awp_region ?_
    refine l_rk 3 tt_ok ⟨16, [(0, (.fz ((eL 2 eTmR) (a0)))), (3, (fI ((w64 (v1 + 1)))))], [], []⟩ (by kernel_rfl) ?_
    refine l_nil ?_
    obtain rfl := Option.some.inj h
    exact And.intro rfl (le_ck (by kernel_rfl))
  ·refine awp_cond_f (b := (decide (v1 < (List.length a0 : Int)))) (by kernel_rfl) hb ?_
   refine awp_exit ?_
   obtain rfl := Option.some.inj h
   exact And.intro (And.intro (fun h => nomatch h) (fun h => nomatch h)) (And.intro rfl (le_ck (by kernel_rfl)))
 ·clear hj
  intro e st' hq
  rcases v4 with v5 | v6
  ·try simp only [Sum.elim_inl, Sum.elim_inr] at h
   obtain ⟨rfl, hle⟩ := hq
   refine ⟨_, hle, ?_⟩
   refine awp_seq ?_
   refine awp_region ?_
   refine l_rk 1 tt_ok ⟨16, [(2, (fB (true)))], [], []⟩ (by kernel_rfl) ?_
   refine l_nil ?_
   refine awp_ret ?_
   obtain rfl := Option.some.inj h
   exact (show retX _ _ _ _ = some _ from by kernel_rfl)
  ·try simp only [Sum.elim_inl, Sum.elim_inr] at h
   obtain ⟨rfl, hret⟩ := hq
   refine ⟨_, LeSt.refl, ?_⟩
   obtain rfl := Option.some.inj h
   exact hret

def grammar_named_l1 (a0 : ByteArray) (v3 : (Int)) : Option (((Int)) ⊕ (((Unit) ⊕ (Bool)))) := (bif (decide (v3 < (a0.size : Int))) then (Option.bind (byt a0 v3) fun v4 => (Option.bind ((bif (decide (97 ≤ (ior .u8 v4 32))) then (some ((decide ((ior .u8 v4 32) ≤ 122)))) else (some (false))) : Option ((Bool))) fun (v6 : (Bool)) => (Option.bind ((bif (!v6) then (bif (v3 == 0) then (some (true)) else (bif (v4 != 45) then (bif (decide (v4 < 48)) then (some (true)) else (some ((decide (57 < v4))))) else (some (false)))) else (some (false))) : Option ((Bool))) fun (v8 : (Bool)) => (bif v8 then (some (.inr (.inr false))) else (some (.inl ((w64 (v3 + 1))))))))) else (some (.inr (.inl ()))))
def grammar_named (a0 : ByteArray) : Option (Bool) := (Option.bind ((bif (decide ((a0.size : Int) < 1)) then (some (true)) else (some ((decide (24 < (a0.size : Int)))))) : Option ((Bool))) fun (v2 : (Bool)) => (bif v2 then (some false) else (Option.bind (loopN (grammar_named_l1 a0) fuel (0)) fun (v9 : ((Unit) ⊕ (Bool))) => Sum.elim (fun v10 => (some true)) (fun v11 => (some v11)) v9)))
theorem grammar_named_ok (a0 : ByteArray) (r : Bool) (h : grammar_named a0 = some r) : PCall Try.prog 143 [eS a0] (eB (r)) := by
 unfold grammar_named at h
 refine pcall_intro (T := TT) tt_ok [.one .keep] Try.func143 rfl (by kernel_rfl) (by kernel_rfl) ?_
 refine awp_le (st' := ⟨49, [(0, (fS (a0)))], [], []⟩) (le_ck (by kernel_rfl)) ?_
 refine awp_seq ?_
 refine awp_region ?_
 refine l_rk 1 tt_ok ⟨49, [(0, (fS (a0)))], [], []⟩ (by kernel_rfl) ?_
 refine l_nil ?_
 refine awp_seq ?_
 refine awp_seq ?_
 obtain ⟨v2, hj, h⟩ := Option.bind_eq_some_iff.1 h
 refine awp_join (Qa := fun e st => e = .normal ∧ LeSt st ⟨49, [(0, (fS (a0))), (13, (fB (v2)))], [], []⟩) ?_ ?_
 ·replace h := hj
  clear hj
  refine awp_region ?_
  refine l_rk 4 tt_ok ⟨49, [(0, (fS (a0))), (9, (fB ((decide ((a0.size : Int) < 1)))))], [], []⟩ (by kernel_rfl) ?_
  rcases cond_some h with ⟨hb, h⟩ | ⟨hb, h⟩
  ·refine l_le (le_eq (t := 9) (x := .fz (eB (decide ((a0.size : Int) < 1)))) (y := .fz (eB true)) (by kernel_rfl) (congrArg (fun b => AV.fz (eB b)) hb)) ?_
   refine l_rk 4 tt_ok ⟨49, [(0, (fS (a0))), (13, (fB (true)))], [], []⟩ (by kernel_rfl) ?_
   refine l_nil ?_
   obtain rfl := Option.some.inj h
   exact And.intro rfl (le_ck (by kernel_rfl))
  ·refine l_le (le_eq (t := 9) (x := .fz (eB (decide ((a0.size : Int) < 1)))) (y := .fz (eB false)) (by kernel_rfl) (congrArg (fun b => AV.fz (eB b)) hb)) ?_
   refine l_rk 4 tt_ok ⟨49, [(0, (fS (a0))), (13, (fB ((decide (24 < (a0.size : Int))))))], [], []⟩ (by kernel_rfl) ?_
   refine l_nil ?_
   obtain rfl := Option.some.inj h
   exact And.intro rfl (le_ck (by kernel_rfl))
 ·clear hj
  intro e st' hq
  obtain ⟨rfl, hle⟩ := hq
  refine ⟨_, hle, ?_⟩
  rcases cond_some h with ⟨hb, h⟩ | ⟨hb, h⟩
  ·refine awp_cond_t (b := v2) (by kernel_rfl) hb ?_
   refine awp_seq ?_
   refine awp_region ?_
   refine l_rk 1 tt_ok ⟨49, [(2, (fB (false)))], [], []⟩ (by kernel_rfl) ?_
   refine l_nil ?_
   refine awp_ret ?_
   obtain rfl := Option.some.inj h
   exact (show retX _ _ _ _ = some _ from by kernel_rfl)
  ·refine awp_cond_f (b := v2) (by kernel_rfl) hb ?_
   refine awp_skip ?_
   refine awp_seq ?_
   refine awp_seq ?_
   refine awp_region ?_
   refine l_rk 3 tt_ok ⟨49, [(0, (fS (a0))), (15, (fI ((a0.size : Int)))), (16, (fI (0)))], [], []⟩ (by kernel_rfl) ?_
   refine l_nil ?_
   refine awp_block ?_
   obtain ⟨v9, hj, h⟩ := Option.bind_eq_some_iff.1 h
   refine awp_join (Qa := fun e st => Sum.elim (fun p => e = .exit 0 ∧ LeSt st ⟨49, [], [], []⟩) (fun p => e = .ret ∧ retX TT st Try.f143.results.toList [.one .keep] = some (eB (p))) v9) ?_ ?_
   ·refine awp_loopS (stOf := fun v3 => ⟨49, [(0, (fS (a0))), (15, (fI ((a0.size : Int)))), (16, (fI (v3)))], [], []⟩) (Qb := fun j e st => Sum.elim (fun p => e = .exit 0 ∧ LeSt st ⟨49, [], [], []⟩) (fun p => e = .ret ∧ retX TT st Try.f143.results.toList [.one .keep] = some (eB (p))) j) hj (le_ck (by kernel_rfl)) ?_
    clear hj h
    intro v3 r h
    unfold grammar_named_l1 at h
    refine awp_seq ?_
    refine awp_region ?_
    refine l_rk 1 tt_ok ⟨49, [(0, (fS (a0))), (15, (fI ((a0.size : Int)))), (16, (fI (v3))), (17, (fB ((decide (v3 < (a0.size : Int))))))], [], []⟩ (by kernel_rfl) ?_
    refine l_nil ?_
    refine awp_seq ?_
    rcases cond_some h with ⟨hb, h⟩ | ⟨hb, h⟩
    ·refine awp_cond_t (b := (decide (v3 < (a0.size : Int)))) (by kernel_rfl) hb ?_
     refine awp_skip ?_
     refine awp_seq ?_
     refine awp_block ?_
     refine awp_seq ?_
     refine awp_region ?_
     refine l_rk 2 tt_ok ⟨49, [(0, (fS (a0))), (3, (fI (v3))), (15, (fI ((a0.size : Int)))), (16, (fI (v3)))], [], []⟩ (by kernel_rfl) ?_
     refine l_nil ?_
     refine awp_seq ?_
     refine awp_region ?_
     refine l_rk 2 tt_ok ⟨49, [(0, (fS (a0))), (3, (fI (v3))), (15, (fI ((a0.size : Int)))), (16, (fI (v3))), (19, (fS (a0))), (20, (fI (v3)))], [], []⟩ (by kernel_rfl) ?_
     obtain ⟨v4, hv4, h⟩ := Option.bind_eq_some_iff.1 h
     refine l_step ((s_byte (k := .i64) (d := tt9) (s := a0) hv4 tt_ok rfl (by kernel_rfl) (by kernel_rfl) (by kernel_rfl) (by kernel_rfl)).step) (by kernel_rfl) (dst_of (by kernel_rfl)) ?_
     refine l_rk 1 tt_ok ⟨49, [(0, (fS (a0))), (3, (fI (v3))), (4, (.fz (eU8 (v4)))), (15, (fI ((a0.size : Int)))), (16, (fI (v3)))], [], []⟩ (by kernel_rfl) ?_
     refine l_nil ?_
     refine awp_seq ?_
     obtain ⟨v6, hj, h⟩ := Option.bind_eq_some_iff.1 h
     refine awp_join (Qa := fun e st => e = .normal ∧ LeSt st ⟨49, [(0, (fS (a0))), (3, (fI (v3))), (4, (.fz (eU8 (v4)))), (5, (fB (v6))), (15, (fI ((a0.size : Int)))), (16, (fI (v3)))], [], []⟩) ?_ ?_
     ·replace h := hj
      clear hj
      refine awp_region ?_
      refine l_rk 4 tt_ok ⟨49, [(0, (fS (a0))), (3, (fI (v3))), (4, (.fz (eU8 (v4)))), (15, (fI ((a0.size : Int)))), (16, (fI (v3))), (25, (fB ((decide (97 ≤ (ior .u8 v4 32))))))], [], []⟩ (by kernel_rfl) ?_
      rcases cond_some h with ⟨hb, h⟩ | ⟨hb, h⟩
      ·refine l_le (le_eq (t := 25) (x := .fz (eB (decide (97 ≤ (ior .u8 v4 32))))) (y := .fz (eB true)) (by kernel_rfl) (congrArg (fun b => AV.fz (eB b)) hb)) ?_
       refine l_rk 5 tt_ok ⟨49, [(0, (fS (a0))), (3, (fI (v3))), (4, (.fz (eU8 (v4)))), (5, (fB ((decide ((ior .u8 v4 32) ≤ 122))))), (15, (fI ((a0.size : Int)))), (16, (fI (v3)))], [], []⟩ (by kernel_rfl) ?_
       refine l_nil ?_
       obtain rfl := Option.some.inj h
       exact And.intro rfl (le_ck (by kernel_rfl))
      ·refine l_le (le_eq (t := 25) (x := .fz (eB (decide (97 ≤ (ior .u8 v4 32))))) (y := .fz (eB false)) (by kernel_rfl) (congrArg (fun b => AV.fz (eB b)) hb)) ?_
       refine l_rk 5 tt_ok ⟨49, [(0, (fS (a0))), (3, (fI (v3))), (4, (.fz (eU8 (v4)))), (5, (fB (false))), (15, (fI ((a0.size : Int)))), (16, (fI (v3)))], [], []⟩ (by kernel_rfl) ?_
       refine l_nil ?_
       obtain rfl := Option.some.inj h
       exact And.intro rfl (le_ck (by kernel_rfl))
     ·clear hj
      intro e st' hq
      obtain ⟨rfl, hle⟩ := hq
      refine ⟨_, hle, ?_⟩
      refine awp_seq ?_
      obtain ⟨v8, hj, h⟩ := Option.bind_eq_some_iff.1 h
      refine awp_join (Qa := fun e st => e = .normal ∧ LeSt st ⟨49, [(0, (fS (a0))), (15, (fI ((a0.size : Int)))), (16, (fI (v3))), (47, (fB (v8)))], [], []⟩) ?_ ?_
      ·replace h := hj
       clear hj
       refine awp_region ?_
       refine l_rk 3 tt_ok ⟨49, [(0, (fS (a0))), (3, (fI (v3))), (4, (.fz (eU8 (v4)))), (15, (fI ((a0.size : Int)))), (16, (fI (v3))), (32, (fB ((!v6))))], [], []⟩ (by kernel_rfl) ?_
       rcases cond_some h with ⟨hb, h⟩ | ⟨hb, h⟩
       ·refine l_le (le_eq (t := 32) (x := .fz (eB (!v6))) (y := .fz (eB true)) (by kernel_rfl) (congrArg (fun b => AV.fz (eB b)) hb)) ?_
        refine l_rk 3 tt_ok ⟨49, [(0, (fS (a0))), (4, (.fz (eU8 (v4)))), (15, (fI ((a0.size : Int)))), (16, (fI (v3))), (32, (fB (true))), (35, (fB ((v3 == 0))))], [], []⟩ (by kernel_rfl) ?_
        rcases cond_some h with ⟨hb, h⟩ | ⟨hb, h⟩
        ·refine l_le (le_eq (t := 35) (x := .fz (eB (v3 == 0))) (y := .fz (eB true)) (by kernel_rfl) (congrArg (fun b => AV.fz (eB b)) hb)) ?_
         refine l_rk 12 tt_ok ⟨49, [(0, (fS (a0))), (15, (fI ((a0.size : Int)))), (16, (fI (v3))), (47, (fB (true)))], [], []⟩ (by kernel_rfl) ?_
         refine l_nil ?_
         obtain rfl := Option.some.inj h
         exact And.intro rfl (le_ck (by kernel_rfl))
        ·refine l_le (le_eq (t := 35) (x := .fz (eB (v3 == 0))) (y := .fz (eB false)) (by kernel_rfl) (congrArg (fun b => AV.fz (eB b)) hb)) ?_
         refine l_rk 3 tt_ok ⟨49, [(0, (fS (a0))), (4, (.fz (eU8 (v4)))), (15, (fI ((a0.size : Int)))), (16, (fI (v3))), (32, (fB (true))), (35, (fB (false))), (38, (fB ((v4 != 45))))], [], []⟩ (by kernel_rfl) ?_
         rcases cond_some h with ⟨hb, h⟩ | ⟨hb, h⟩
         ·refine l_le (le_eq (t := 38) (x := .fz (eB (v4 != 45))) (y := .fz (eB true)) (by kernel_rfl) (congrArg (fun b => AV.fz (eB b)) hb)) ?_
          refine l_rk 3 tt_ok ⟨49, [(0, (fS (a0))), (4, (.fz (eU8 (v4)))), (15, (fI ((a0.size : Int)))), (16, (fI (v3))), (32, (fB (true))), (35, (fB (false))), (38, (fB (true))), (41, (fB ((decide (v4 < 48)))))], [], []⟩ (by kernel_rfl) ?_
          rcases cond_some h with ⟨hb, h⟩ | ⟨hb, h⟩
          ·refine l_le (le_eq (t := 41) (x := .fz (eB (decide (v4 < 48)))) (y := .fz (eB true)) (by kernel_rfl) (congrArg (fun b => AV.fz (eB b)) hb)) ?_
           refine l_rk 6 tt_ok ⟨49, [(0, (fS (a0))), (15, (fI ((a0.size : Int)))), (16, (fI (v3))), (47, (fB (true)))], [], []⟩ (by kernel_rfl) ?_
           refine l_nil ?_
           obtain rfl := Option.some.inj h
           exact And.intro rfl (le_ck (by kernel_rfl))
          ·refine l_le (le_eq (t := 41) (x := .fz (eB (decide (v4 < 48)))) (y := .fz (eB false)) (by kernel_rfl) (congrArg (fun b => AV.fz (eB b)) hb)) ?_
           refine l_rk 6 tt_ok ⟨49, [(0, (fS (a0))), (15, (fI ((a0.size : Int)))), (16, (fI (v3))), (47, (fB ((decide (57 < v4)))))], [], []⟩ (by kernel_rfl) ?_
           refine l_nil ?_
           obtain rfl := Option.some.inj h
           exact And.intro rfl (le_ck (by kernel_rfl))
         ·refine l_le (le_eq (t := 38) (x := .fz (eB (v4 != 45))) (y := .fz (eB false)) (by kernel_rfl) (congrArg (fun b => AV.fz (eB b)) hb)) ?_
          refine l_rk 9 tt_ok ⟨49, [(0, (fS (a0))), (15, (fI ((a0.size : Int)))), (16, (fI (v3))), (47, (fB (false)))], [], []⟩ (by kernel_rfl) ?_
          refine l_nil ?_
          obtain rfl := Option.some.inj h
          exact And.intro rfl (le_ck (by kernel_rfl))
       ·refine l_le (le_eq (t := 32) (x := .fz (eB (!v6))) (y := .fz (eB false)) (by kernel_rfl) (congrArg (fun b => AV.fz (eB b)) hb)) ?_
        refine l_rk 15 tt_ok ⟨49, [(0, (fS (a0))), (15, (fI ((a0.size : Int)))), (16, (fI (v3))), (47, (fB (false)))], [], []⟩ (by kernel_rfl) ?_
        refine l_nil ?_
        obtain rfl := Option.some.inj h
        exact And.intro rfl (le_ck (by kernel_rfl))
      ·clear hj
       intro e st' hq
       obtain ⟨rfl, hle⟩ := hq
       refine ⟨_, hle, ?_⟩
       rcases cond_some h with ⟨hb, h⟩ | ⟨hb, h⟩
       ·refine awp_cond_t (b := v8) (by kernel_rfl) hb ?_
        refine awp_seq ?_
        refine awp_region ?_
        refine l_rk 1 tt_ok ⟨49, [(2, (fB (false)))], [], []⟩ (by kernel_rfl) ?_
        refine l_nil ?_
        refine awp_ret ?_
        obtain rfl := Option.some.inj h
        exact And.intro (And.intro (fun h => nomatch h) (fun h => nomatch h)) (And.intro rfl (show retX _ _ _ _ = some _ from by kernel_rfl))
       ·refine awp_cond_f (b := v8) (by kernel_rfl) hb ?_
        refine awp_skip ?_
        refine awp_region ?_
        refine l_rk 2 tt_ok ⟨49, [(0, (fS (a0))), (15, (fI ((a0.size : Int)))), (16, (fI ((w64 (v3 + 1)))))], [], []⟩ (by kernel_rfl) ?_
        refine l_nil ?_
        obtain rfl := Option.some.inj h
        exact And.intro rfl (le_ck (by kernel_rfl))
    ·refine awp_cond_f (b := (decide (v3 < (a0.size : Int)))) (by kernel_rfl) hb ?_
     refine awp_exit ?_
     obtain rfl := Option.some.inj h
     exact And.intro (And.intro (fun h => nomatch h) (fun h => nomatch h)) (And.intro rfl (le_ck (by kernel_rfl)))
   ·clear hj
    intro e st' hq
    rcases v9 with v10 | v11
    ·try simp only [Sum.elim_inl, Sum.elim_inr] at h
     obtain ⟨rfl, hle⟩ := hq
     refine ⟨_, hle, ?_⟩
     refine awp_seq ?_
     refine awp_region ?_
     refine l_rk 1 tt_ok ⟨49, [(2, (fB (true)))], [], []⟩ (by kernel_rfl) ?_
     refine l_nil ?_
     refine awp_ret ?_
     obtain rfl := Option.some.inj h
     exact (show retX _ _ _ _ = some _ from by kernel_rfl)
    ·try simp only [Sum.elim_inl, Sum.elim_inr] at h
     obtain ⟨rfl, hret⟩ := hq
     refine ⟨_, LeSt.refl, ?_⟩
     obtain rfl := Option.some.inj h
     exact hret

def grammar_typed (a0 : Int) : Option (Bool) := (Option.bind ((bif (decide (1 ≤ a0)) then (some ((decide (a0 ≤ 8)))) else (some (false))) : Option ((Bool))) fun (v2 : (Bool)) => (some v2))
theorem grammar_typed_ok (a0 : Int) (r : Bool) (h : grammar_typed a0 = some r) : PCall Try.prog 144 [eI a0] (eB (r)) := by
 unfold grammar_typed at h
 refine pcall_intro (T := TT) tt_ok [.one .keep] Try.func144 rfl (by kernel_rfl) (by kernel_rfl) ?_
 refine awp_le (st' := ⟨9, [(0, (fI (a0)))], [], []⟩) (le_ck (by kernel_rfl)) ?_
 refine awp_seq ?_
 refine awp_region ?_
 refine l_rk 1 tt_ok ⟨9, [(0, (fI (a0)))], [], []⟩ (by kernel_rfl) ?_
 refine l_nil ?_
 refine awp_seq ?_
 obtain ⟨v2, hj, h⟩ := Option.bind_eq_some_iff.1 h
 refine awp_join (Qa := fun e st => e = .normal ∧ LeSt st ⟨9, [(2, (fB (v2)))], [], []⟩) ?_ ?_
 ·replace h := hj
  clear hj
  refine awp_region ?_
  refine l_rk 3 tt_ok ⟨9, [(0, (fI (a0))), (5, (fB ((decide (1 ≤ a0)))))], [], []⟩ (by kernel_rfl) ?_
  rcases cond_some h with ⟨hb, h⟩ | ⟨hb, h⟩
  ·refine l_le (le_eq (t := 5) (x := .fz (eB (decide (1 ≤ a0)))) (y := .fz (eB true)) (by kernel_rfl) (congrArg (fun b => AV.fz (eB b)) hb)) ?_
   refine l_rk 4 tt_ok ⟨9, [(2, (fB ((decide (a0 ≤ 8)))))], [], []⟩ (by kernel_rfl) ?_
   refine l_nil ?_
   obtain rfl := Option.some.inj h
   exact And.intro rfl (le_ck (by kernel_rfl))
  ·refine l_le (le_eq (t := 5) (x := .fz (eB (decide (1 ≤ a0)))) (y := .fz (eB false)) (by kernel_rfl) (congrArg (fun b => AV.fz (eB b)) hb)) ?_
   refine l_rk 4 tt_ok ⟨9, [(2, (fB (false)))], [], []⟩ (by kernel_rfl) ?_
   refine l_nil ?_
   obtain rfl := Option.some.inj h
   exact And.intro rfl (le_ck (by kernel_rfl))
 ·clear hj
  intro e st' hq
  obtain ⟨rfl, hle⟩ := hq
  refine ⟨_, hle, ?_⟩
  refine awp_ret ?_
  obtain rfl := Option.some.inj h
  exact (show retX _ _ _ _ = some _ from by kernel_rfl)

def slices_Equal_int_int_l1 (a0 : List Int) (a1 : List Int) (v1 : (Int)) : Option (((Int)) ⊕ (((Unit) ⊕ (Bool)))) := (bif (decide (v1 < (List.length a0 : Int))) then (Option.bind (idx a0 v1) fun v2 => (Option.bind (idx a1 v1) fun v3 => (bif (v2 != v3) then (some (.inr (.inr false))) else (some (.inl ((w64 (v1 + 1)))))))) else (some (.inr (.inl ()))))
def slices_Equal_int_int (a0 : List Int) (a1 : List Int) : Option (Bool) := (bif ((List.length a0 : Int) != (List.length a1 : Int)) then (some false) else (Option.bind (loopN (slices_Equal_int_int_l1 a0 a1) fuel (0)) fun (v4 : ((Unit) ⊕ (Bool))) => Sum.elim (fun v5 => (some true)) (fun v6 => (some v6)) v4))
theorem slices_Equal_int_int_ok (a0 : List Int) (a1 : List Int) (r : Bool) (h : slices_Equal_int_int a0 a1 = some r) : PCall Try.prog 179 [(eL 1 eI) a0, (eL 1 eI) a1] (eB (r)) := by
 unfold slices_Equal_int_int at h
 refine pcall_intro (T := TT) tt_ok [.one .keep] Try.func179 rfl (by kernel_rfl) (by kernel_rfl) ?_
 refine awp_le (st' := ⟨26, [(0, (.fz ((eL 1 eI) (a0)))), (1, (.fz ((eL 1 eI) (a1))))], [], []⟩) (le_ck (by kernel_rfl)) ?_
 refine awp_seq ?_
 refine awp_region ?_
 refine l_rk 1 tt_ok ⟨26, [(0, (.fz ((eL 1 eI) (a0)))), (1, (.fz ((eL 1 eI) (a1))))], [], []⟩ (by kernel_rfl) ?_
 refine l_nil ?_
 refine awp_seq ?_
 refine awp_seq ?_
 refine awp_region ?_
 refine l_rk 5 tt_ok ⟨26, [(0, (.fz ((eL 1 eI) (a0)))), (1, (.fz ((eL 1 eI) (a1)))), (10, (fB (((List.length a0 : Int) != (List.length a1 : Int)))))], [], []⟩ (by kernel_rfl) ?_
 refine l_nil ?_
 rcases cond_some h with ⟨hb, h⟩ | ⟨hb, h⟩
 ·refine awp_cond_t (b := ((List.length a0 : Int) != (List.length a1 : Int))) (by kernel_rfl) hb ?_
  refine awp_seq ?_
  refine awp_region ?_
  refine l_rk 1 tt_ok ⟨26, [(4, (fB (false)))], [], []⟩ (by kernel_rfl) ?_
  refine l_nil ?_
  refine awp_ret ?_
  obtain rfl := Option.some.inj h
  exact (show retX _ _ _ _ = some _ from by kernel_rfl)
 ·refine awp_cond_f (b := ((List.length a0 : Int) != (List.length a1 : Int))) (by kernel_rfl) hb ?_
  refine awp_skip ?_
  refine awp_seq ?_
  refine awp_seq ?_
  refine awp_region ?_
  refine l_rk 3 tt_ok ⟨26, [(0, (.fz ((eL 1 eI) (a0)))), (1, (.fz ((eL 1 eI) (a1)))), (12, (fI ((List.length a0 : Int)))), (13, (fI (0)))], [], []⟩ (by kernel_rfl) ?_
  refine l_nil ?_
  refine awp_block ?_
  obtain ⟨v4, hj, h⟩ := Option.bind_eq_some_iff.1 h
  refine awp_join (Qa := fun e st => Sum.elim (fun p => e = .exit 0 ∧ LeSt st ⟨26, [], [], []⟩) (fun p => e = .ret ∧ retX TT st Try.f179.results.toList [.one .keep] = some (eB (p))) v4) ?_ ?_
  ·refine awp_loopS (stOf := fun v1 => ⟨26, [(0, (.fz ((eL 1 eI) (a0)))), (1, (.fz ((eL 1 eI) (a1)))), (12, (fI ((List.length a0 : Int)))), (13, (fI (v1)))], [], []⟩) (Qb := fun j e st => Sum.elim (fun p => e = .exit 0 ∧ LeSt st ⟨26, [], [], []⟩) (fun p => e = .ret ∧ retX TT st Try.f179.results.toList [.one .keep] = some (eB (p))) j) hj (le_ck (by kernel_rfl)) ?_
   clear hj h
   intro v1 r h
   unfold slices_Equal_int_int_l1 at h
   refine awp_seq ?_
   refine awp_region ?_
   refine l_rk 1 tt_ok ⟨26, [(0, (.fz ((eL 1 eI) (a0)))), (1, (.fz ((eL 1 eI) (a1)))), (12, (fI ((List.length a0 : Int)))), (13, (fI (v1))), (14, (fB ((decide (v1 < (List.length a0 : Int))))))], [], []⟩ (by kernel_rfl) ?_
   refine l_nil ?_
   refine awp_seq ?_
   rcases cond_some h with ⟨hb, h⟩ | ⟨hb, h⟩
   ·refine awp_cond_t (b := (decide (v1 < (List.length a0 : Int)))) (by kernel_rfl) hb ?_
    refine awp_skip ?_
    refine awp_seq ?_
    refine awp_block ?_
    refine awp_seq ?_
    refine awp_region ?_
    refine l_rk 2 tt_ok ⟨26, [(0, (.fz ((eL 1 eI) (a0)))), (1, (.fz ((eL 1 eI) (a1)))), (5, (fI (v1))), (12, (fI ((List.length a0 : Int)))), (13, (fI (v1)))], [], []⟩ (by kernel_rfl) ?_
    refine l_nil ?_
    refine awp_seq ?_
    obtain ⟨v2, hv2, h⟩ := Option.bind_eq_some_iff.1 h
    obtain ⟨v3, hv3, h⟩ := Option.bind_eq_some_iff.1 h
    refine awp_drawn (by kernel_rfl) [(.fz ((eL 1 eI) (a0))), (fI (v1)), (.fz (.fp [(eI (v2))])), (fI (v2)), (.fz ((eL 1 eI) (a1))), (fI (v1)), (.fz (.fp [(eI (v3))])), (fI (v3))] (by kernel_rfl) ?_
    refine ⟨.inl ⟨by kernel_rfl, (nstep_ok tt_ok (by kernel_rfl))⟩, ?_⟩
    refine ⟨.inl ⟨by kernel_rfl, (nstep_ok tt_ok (by kernel_rfl))⟩, ?_⟩
    refine ⟨.inl ⟨by kernel_rfl, (s_index (k := .i64) (d := tt23) (e := 3) (de := tt3) (enc := eI) hv2 tt_ok rfl (by kernel_rfl) (by kernel_rfl) (by kernel_rfl) (by kernel_rfl) len_eI (by kernel_rfl) rfl)⟩, ?_⟩
    refine ⟨.inl ⟨by kernel_rfl, (nstep_ok tt_ok (by kernel_rfl))⟩, ?_⟩
    refine ⟨.inl ⟨by kernel_rfl, (nstep_ok tt_ok (by kernel_rfl))⟩, ?_⟩
    refine ⟨.inl ⟨by kernel_rfl, (nstep_ok tt_ok (by kernel_rfl))⟩, ?_⟩
    refine ⟨.inl ⟨by kernel_rfl, (s_index (k := .i64) (d := tt23) (e := 3) (de := tt3) (enc := eI) hv3 tt_ok rfl (by kernel_rfl) (by kernel_rfl) (by kernel_rfl) (by kernel_rfl) len_eI (by kernel_rfl) rfl)⟩, ?_⟩
    refine ⟨.inl ⟨by kernel_rfl, (nstep_ok tt_ok (by kernel_rfl))⟩, ?_⟩
    refine l_rk 1 tt_ok ⟨26, [(0, (.fz ((eL 1 eI) (a0)))), (1, (.fz ((eL 1 eI) (a1)))), (12, (fI ((List.length a0 : Int)))), (13, (fI (v1))), (24, (fB ((v2 != v3))))], [], []⟩ (by kernel_rfl) ?_
    refine l_nil ?_
    rcases cond_some h with ⟨hb, h⟩ | ⟨hb, h⟩
    ·refine awp_cond_t (b := (v2 != v3)) (by kernel_rfl) hb ?_
     refine awp_seq ?_
     refine awp_region ?_
     refine l_rk 1 tt_ok ⟨26, [(4, (fB (false)))], [], []⟩ (by kernel_rfl) ?_
     refine l_nil ?_
     refine awp_ret ?_
     obtain rfl := Option.some.inj h
     exact And.intro (And.intro (fun h => nomatch h) (fun h => nomatch h)) (And.intro rfl (show retX _ _ _ _ = some _ from by kernel_rfl))
    ·refine awp_cond_f (b := (v2 != v3)) (by kernel_rfl) hb ?_
     refine awp_skip ?_
     refine awp_region ?_
     refine l_rk 2 tt_ok ⟨26, [(0, (.fz ((eL 1 eI) (a0)))), (1, (.fz ((eL 1 eI) (a1)))), (12, (fI ((List.length a0 : Int)))), (13, (fI ((w64 (v1 + 1)))))], [], []⟩ (by kernel_rfl) ?_
     refine l_nil ?_
     obtain rfl := Option.some.inj h
     exact And.intro rfl (le_ck (by kernel_rfl))
   ·refine awp_cond_f (b := (decide (v1 < (List.length a0 : Int)))) (by kernel_rfl) hb ?_
    refine awp_exit ?_
    obtain rfl := Option.some.inj h
    exact And.intro (And.intro (fun h => nomatch h) (fun h => nomatch h)) (And.intro rfl (le_ck (by kernel_rfl)))
  ·clear hj
   intro e st' hq
   rcases v4 with v5 | v6
   ·try simp only [Sum.elim_inl, Sum.elim_inr] at h
    obtain ⟨rfl, hle⟩ := hq
    refine ⟨_, hle, ?_⟩
    refine awp_seq ?_
    refine awp_region ?_
    refine l_rk 1 tt_ok ⟨26, [(4, (fB (true)))], [], []⟩ (by kernel_rfl) ?_
    refine l_nil ?_
    refine awp_ret ?_
    obtain rfl := Option.some.inj h
    exact (show retX _ _ _ _ = some _ from by kernel_rfl)
   ·try simp only [Sum.elim_inl, Sum.elim_inr] at h
    obtain ⟨rfl, hret⟩ := hq
    refine ⟨_, LeSt.refl, ?_⟩
    obtain rfl := Option.some.inj h
    exact hret

def grammar_sameRule_m0 (a0 : Ru) (a1 : Ru) : List (Nat × AObj) := [(1, (.box 67 [(fI (a0.symbol)), (fI (a0.kind)), (fI (a0.input)), (fI (a0.const.type)), (fI (a0.const.num)), (fS (a0.const.text)), (.fz ((eL 4 eVaR) (a0.const.items))), (fS (a0.op)), (.fz ((eL 1 eI) (a0.args)))])), (2, (.box 67 [(fI (a1.symbol)), (fI (a1.kind)), (fI (a1.input)), (fI (a1.const.type)), (fI (a1.const.num)), (fS (a1.const.text)), (.fz ((eL 4 eVaR) (a1.const.items))), (fS (a1.op)), (.fz ((eL 1 eI) (a1.args)))]))]
def grammar_sameRule (a0 : Ru) (a1 : Ru) : Option (Bool) := (Option.bind ((bif (a0.symbol == a1.symbol) then (bif (a0.kind == a1.kind) then (bif (a0.input == a1.input) then (bif (a0.op.toList == a1.op.toList) then (Option.bind (slices_Equal_int_int (a0.args) (a1.args)) fun v1 => (bif v1 then (Option.bind (value_Equal (a0.const) (a1.const)) fun v2 => (some (v2))) else (some (false)))) else (some (false))) else (some (false))) else (some (false))) else (some (false))) : Option ((Bool))) fun (v4 : (Bool)) => (some v4))
theorem grammar_sameRule_ok (a0 : Ru) (a1 : Ru) (r : Bool) (h : grammar_sameRule a0 a1 = some r) : PCall Try.prog 148 [eRu a0, eRu a1] (eB (r)) := by
 unfold grammar_sameRule at h
 refine pcall_intro (T := TT) tt_ok [.one .keep] Try.func148 rfl (by kernel_rfl) (by kernel_rfl) ?_
 refine awp_le (st' := ⟨45, [(0, (.fz (eRu (a0)))), (1, (.fz (eRu (a1))))], [], []⟩) (le_ck (by kernel_rfl)) ?_
 refine awp_seq ?_
 refine awp_region ?_
 refine l_rk 3 tt_ok ⟨45, [(2, (.ref 1 0 0)), (3, (.ref 2 0 0))], (grammar_sameRule_m0 a0 a1), [2, 1]⟩ (by kernel_rfl) ?_
 refine l_nil ?_
 refine awp_seq ?_
 obtain ⟨v4, hj, h⟩ := Option.bind_eq_some_iff.1 h
 refine awp_join (Qa := fun e st => e = .normal ∧ LeSt st ⟨45, [(4, (fB (v4)))], [], []⟩) ?_ ?_
 ·replace h := hj
  clear hj
  refine awp_region ?_
  refine l_rk 6 tt_ok ⟨45, [(2, (.ref 1 0 0)), (3, (.ref 2 0 0)), (10, (fB ((a0.symbol == a1.symbol))))], (grammar_sameRule_m0 a0 a1), [2, 1]⟩ (by kernel_rfl) ?_
  rcases cond_some h with ⟨hb, h⟩ | ⟨hb, h⟩
  ·refine l_le (le_eq (t := 10) (x := .fz (eB (a0.symbol == a1.symbol))) (y := .fz (eB true)) (by kernel_rfl) (congrArg (fun b => AV.fz (eB b)) hb)) ?_
   refine l_rk 7 tt_ok ⟨45, [(2, (.ref 1 0 0)), (3, (.ref 2 0 0)), (17, (fB ((a0.kind == a1.kind))))], (grammar_sameRule_m0 a0 a1), [2, 1]⟩ (by kernel_rfl) ?_
   rcases cond_some h with ⟨hb, h⟩ | ⟨hb, h⟩
   ·refine l_le (le_eq (t := 17) (x := .fz (eB (a0.kind == a1.kind))) (y := .fz (eB true)) (by kernel_rfl) (congrArg (fun b => AV.fz (eB b)) hb)) ?_
    refine l_rk 7 tt_ok ⟨45, [(2, (.ref 1 0 0)), (3, (.ref 2 0 0)), (24, (fB ((a0.input == a1.input))))], (grammar_sameRule_m0 a0 a1), [2, 1]⟩ (by kernel_rfl) ?_
    rcases cond_some h with ⟨hb, h⟩ | ⟨hb, h⟩
    ·refine l_le (le_eq (t := 24) (x := .fz (eB (a0.input == a1.input))) (y := .fz (eB true)) (by kernel_rfl) (congrArg (fun b => AV.fz (eB b)) hb)) ?_
     refine l_rk 7 tt_ok ⟨45, [(2, (.ref 1 0 0)), (3, (.ref 2 0 0)), (31, (fB ((a0.op.toList == a1.op.toList))))], (grammar_sameRule_m0 a0 a1), [2, 1]⟩ (by kernel_rfl) ?_
     rcases cond_some h with ⟨hb, h⟩ | ⟨hb, h⟩
     ·refine l_le (le_eq (t := 31) (x := .fz (eB (a0.op.toList == a1.op.toList))) (y := .fz (eB true)) (by kernel_rfl) (congrArg (fun b => AV.fz (eB b)) hb)) ?_
      refine l_rk 4 tt_ok ⟨45, [(2, (.ref 1 0 0)), (3, (.ref 2 0 0)), (31, (fB (true))), (33, (.fz ((eL 1 eI) (a0.args)))), (35, (.fz ((eL 1 eI) (a1.args))))], (grammar_sameRule_m0 a0 a1), [2, 1]⟩ (by kernel_rfl) ?_
      obtain ⟨v1, hv1, h⟩ := Option.bind_eq_some_iff.1 h
      refine l_step ((n_call (ys := [(eL 1 eI) (a0.args), (eL 1 eI) (a1.args)]) (cs := [(.one (.sl 1)), (.one (.sl 1))]) rfl (by kernel_rfl) (slices_Equal_int_int_ok (a0.args) (a1.args) _ hv1)).step) (by kernel_rfl) (dst_of (by kernel_rfl)) ?_
      refine l_rk 2 tt_ok ⟨45, [(2, (.ref 1 0 0)), (3, (.ref 2 0 0)), (38, (fB (v1)))], (grammar_sameRule_m0 a0 a1), [2, 1]⟩ (by kernel_rfl) ?_
      rcases cond_some h with ⟨hb, h⟩ | ⟨hb, h⟩
      ·refine l_le (le_eq (t := 38) (x := .fz (eB v1)) (y := .fz (eB true)) (by kernel_rfl) (congrArg (fun b => AV.fz (eB b)) hb)) ?_
       refine l_rk 4 tt_ok ⟨45, [(38, (fB (true))), (40, (.fz (eVa (a0.const)))), (42, (.fz (eVa (a1.const))))], [], []⟩ (by kernel_rfl) ?_
       obtain ⟨v2, hv2, h⟩ := Option.bind_eq_some_iff.1 h
       refine l_step ((n_call (ys := [eVa (a0.const), eVa (a1.const)]) (cs := [(.one .keep), (.one .keep)]) rfl (by kernel_rfl) (value_Equal_ok (a0.const) (a1.const) _ hv2)).step) (by kernel_rfl) (dst_of (by kernel_rfl)) ?_
       refine l_rk 2 tt_ok ⟨45, [(4, (fB (v2)))], [], []⟩ (by kernel_rfl) ?_
       refine l_nil ?_
       obtain rfl := Option.some.inj h
       exact And.intro rfl (le_ck (by kernel_rfl))
      ·refine l_le (le_eq (t := 38) (x := .fz (eB v1)) (y := .fz (eB false)) (by kernel_rfl) (congrArg (fun b => AV.fz (eB b)) hb)) ?_
       refine l_rk 7 tt_ok ⟨45, [(4, (fB (false)))], [], []⟩ (by kernel_rfl) ?_
       refine l_nil ?_
       obtain rfl := Option.some.inj h
       exact And.intro rfl (le_ck (by kernel_rfl))
     ·refine l_le (le_eq (t := 31) (x := .fz (eB (a0.op.toList == a1.op.toList))) (y := .fz (eB false)) (by kernel_rfl) (congrArg (fun b => AV.fz (eB b)) hb)) ?_
      refine l_rk 14 tt_ok ⟨45, [(4, (fB (false)))], [], []⟩ (by kernel_rfl) ?_
      refine l_nil ?_
      obtain rfl := Option.some.inj h
      exact And.intro rfl (le_ck (by kernel_rfl))
    ·refine l_le (le_eq (t := 24) (x := .fz (eB (a0.input == a1.input))) (y := .fz (eB false)) (by kernel_rfl) (congrArg (fun b => AV.fz (eB b)) hb)) ?_
     refine l_rk 21 tt_ok ⟨45, [(4, (fB (false)))], [], []⟩ (by kernel_rfl) ?_
     refine l_nil ?_
     obtain rfl := Option.some.inj h
     exact And.intro rfl (le_ck (by kernel_rfl))
   ·refine l_le (le_eq (t := 17) (x := .fz (eB (a0.kind == a1.kind))) (y := .fz (eB false)) (by kernel_rfl) (congrArg (fun b => AV.fz (eB b)) hb)) ?_
    refine l_rk 28 tt_ok ⟨45, [(4, (fB (false)))], [], []⟩ (by kernel_rfl) ?_
    refine l_nil ?_
    obtain rfl := Option.some.inj h
    exact And.intro rfl (le_ck (by kernel_rfl))
  ·refine l_le (le_eq (t := 10) (x := .fz (eB (a0.symbol == a1.symbol))) (y := .fz (eB false)) (by kernel_rfl) (congrArg (fun b => AV.fz (eB b)) hb)) ?_
   refine l_rk 35 tt_ok ⟨45, [(4, (fB (false)))], [], []⟩ (by kernel_rfl) ?_
   refine l_nil ?_
   obtain rfl := Option.some.inj h
   exact And.intro rfl (le_ck (by kernel_rfl))
 ·clear hj
  intro e st' hq
  obtain ⟨rfl, hle⟩ := hq
  refine ⟨_, hle, ?_⟩
  refine awp_ret ?_
  obtain rfl := Option.some.inj h
  exact (show retX _ _ _ _ = some _ from by kernel_rfl)

def grammar_symbol_m0 (a0 : La) : List (Nat × AObj) := [(1, (.box 27 [(fS (a0.name)), (.fz ((eL 1 eI) (a0.inputs))), (.fz ((eL 2 eSy) (a0.symbols))), (.fz ((eL 9 eRu) (a0.rules)))]))]
def grammar_symbol (a0 : La) (a1 : Int) : Option (Bool) := (Option.bind ((bif (decide (0 ≤ a1)) then (some ((decide (a1 < (List.length a0.symbols : Int))))) else (some (false))) : Option ((Bool))) fun (v2 : (Bool)) => (some v2))
theorem grammar_symbol_ok (a0 : La) (a1 : Int) (r : Bool) (h : grammar_symbol a0 a1 = some r) : PCall Try.prog 175 [eLa a0, eI a1] (eB (r)) := by
 unfold grammar_symbol at h
 refine pcall_intro (T := TT) tt_ok [.one .keep] Try.func175 rfl (by kernel_rfl) (by kernel_rfl) ?_
 refine awp_le (st' := ⟨14, [(0, (.fz (eLa (a0)))), (1, (fI (a1)))], [], []⟩) (le_ck (by kernel_rfl)) ?_
 refine awp_seq ?_
 refine awp_region ?_
 refine l_rk 2 tt_ok ⟨14, [(1, (fI (a1))), (2, (.ref 1 0 0))], (grammar_symbol_m0 a0), [1]⟩ (by kernel_rfl) ?_
 refine l_nil ?_
 refine awp_seq ?_
 obtain ⟨v2, hj, h⟩ := Option.bind_eq_some_iff.1 h
 refine awp_join (Qa := fun e st => e = .normal ∧ LeSt st ⟨14, [(4, (fB (v2)))], [], []⟩) ?_ ?_
 ·replace h := hj
  clear hj
  refine awp_region ?_
  refine l_rk 3 tt_ok ⟨14, [(1, (fI (a1))), (2, (.ref 1 0 0)), (7, (fB ((decide (0 ≤ a1)))))], (grammar_symbol_m0 a0), [1]⟩ (by kernel_rfl) ?_
  rcases cond_some h with ⟨hb, h⟩ | ⟨hb, h⟩
  ·refine l_le (le_eq (t := 7) (x := .fz (eB (decide (0 ≤ a1)))) (y := .fz (eB true)) (by kernel_rfl) (congrArg (fun b => AV.fz (eB b)) hb)) ?_
   refine l_rk 7 tt_ok ⟨14, [(4, (fB ((decide (a1 < (List.length a0.symbols : Int))))))], [], []⟩ (by kernel_rfl) ?_
   refine l_nil ?_
   obtain rfl := Option.some.inj h
   exact And.intro rfl (le_ck (by kernel_rfl))
  ·refine l_le (le_eq (t := 7) (x := .fz (eB (decide (0 ≤ a1)))) (y := .fz (eB false)) (by kernel_rfl) (congrArg (fun b => AV.fz (eB b)) hb)) ?_
   refine l_rk 7 tt_ok ⟨14, [(4, (fB (false)))], [], []⟩ (by kernel_rfl) ?_
   refine l_nil ?_
   obtain rfl := Option.some.inj h
   exact And.intro rfl (le_ck (by kernel_rfl))
 ·clear hj
  intro e st' hq
  obtain ⟨rfl, hle⟩ := hq
  refine ⟨_, hle, ?_⟩
  refine awp_ret ?_
  obtain rfl := Option.some.inj h
  exact (show retX _ _ _ _ = some _ from by kernel_rfl)

def grammar_same (a0 : Int) (a1 : Int) : Option (Int) := (bif (a0 != a1) then (some 3) else (some 0))
theorem grammar_same_ok (a0 : Int) (a1 : Int) (r : Int) (h : grammar_same a0 a1 = some r) : PCall Try.prog 176 [eI a0, eI a1] (eI (r)) := by
 unfold grammar_same at h
 refine pcall_intro (T := TT) tt_ok [.one .keep] Try.func176 rfl (by kernel_rfl) (by kernel_rfl) ?_
 refine awp_le (st' := ⟨8, [(0, (fI (a0))), (1, (fI (a1)))], [], []⟩) (le_ck (by kernel_rfl)) ?_
 refine awp_seq ?_
 refine awp_region ?_
 refine l_rk 1 tt_ok ⟨8, [(0, (fI (a0))), (1, (fI (a1)))], [], []⟩ (by kernel_rfl) ?_
 refine l_nil ?_
 refine awp_seq ?_
 refine awp_seq ?_
 refine awp_region ?_
 refine l_rk 3 tt_ok ⟨8, [(7, (fB ((a0 != a1))))], [], []⟩ (by kernel_rfl) ?_
 refine l_nil ?_
 rcases cond_some h with ⟨hb, h⟩ | ⟨hb, h⟩
 ·refine awp_cond_t (b := (a0 != a1)) (by kernel_rfl) hb ?_
  refine awp_seq ?_
  refine awp_region ?_
  refine l_rk 1 tt_ok ⟨8, [(4, (fI (3)))], [], []⟩ (by kernel_rfl) ?_
  refine l_nil ?_
  refine awp_ret ?_
  obtain rfl := Option.some.inj h
  exact (show retX _ _ _ _ = some _ from by kernel_rfl)
 ·refine awp_cond_f (b := (a0 != a1)) (by kernel_rfl) hb ?_
  refine awp_skip ?_
  refine awp_seq ?_
  refine awp_region ?_
  refine l_rk 1 tt_ok ⟨8, [(4, (fI (0)))], [], []⟩ (by kernel_rfl) ?_
  refine l_nil ?_
  refine awp_ret ?_
  obtain rfl := Option.some.inj h
  exact (show retX _ _ _ _ = some _ from by kernel_rfl)

def internal_bytealg_Cutover (a0 : Int) : Option (Int) := (some (w64 (Int.tdiv (w64 (a0 + 16)) 8)))
theorem internal_bytealg_Cutover_ok (a0 : Int) (r : Int) (h : internal_bytealg_Cutover a0 = some r) : PCall Try.prog 204 [eI a0] (eI (r)) := by
 unfold internal_bytealg_Cutover at h
 refine pcall_intro (T := TT) tt_ok [.one .keep] Try.func204 rfl (by kernel_rfl) (by kernel_rfl) ?_
 refine awp_le (st' := ⟨6, [(0, (fI (a0)))], [], []⟩) (le_ck (by kernel_rfl)) ?_
 refine awp_seq ?_
 refine awp_region ?_
 refine l_rk 1 tt_ok ⟨6, [(0, (fI (a0)))], [], []⟩ (by kernel_rfl) ?_
 refine l_nil ?_
 refine awp_seq ?_
 refine awp_region ?_
 refine l_rk 4 tt_ok ⟨6, [(2, (fI ((w64 (Int.tdiv (w64 (a0 + 16)) 8)))))], [], []⟩ (by kernel_rfl) ?_
 refine l_nil ?_
 refine awp_ret ?_
 obtain rfl := Option.some.inj h
 exact (show retX _ _ _ _ = some _ from by kernel_rfl)

def internal_bytealg_IndexRabinKarp_string (a0 : ByteArray) (a1 : ByteArray) : Option (Int) := none
theorem internal_bytealg_IndexRabinKarp_string_ok (a0 : ByteArray) (a1 : ByteArray) (r : Int) (h : internal_bytealg_IndexRabinKarp_string a0 a1 = some r) : PCall Try.prog 205 [eS a0, eS a1] (eI (r)) := by
 unfold internal_bytealg_IndexRabinKarp_string at h
 refine pcall_intro (T := TT) tt_ok [.one .keep] Try.func205 rfl (by kernel_rfl) (by kernel_rfl) ?_
 refine awp_le (st' := ⟨81, [(0, (fS (a0))), (1, (fS (a1)))], [], []⟩) (le_ck (by kernel_rfl)) ?_
 refine awp_seq ?_
 refine awp_region ?_
 refine l_rk 1 tt_ok ⟨81, [(0, (fS (a0))), (1, (fS (a1)))], [], []⟩ (by kernel_rfl) ?_
 refine l_nil ?_
 refine awp_seq ?_
 refine awp_region ?_
 refine l_rk 1 tt_ok ⟨81, [(0, (fS (a0))), (1, (fS (a1))), (12, (fS (a1)))], [], []⟩ (by kernel_rfl) ?_
 cases h

def internal_stringslite_Index (a0 : ByteArray) (a1 : ByteArray) : Option (Int) := (Option.bind ((bif ((a1.size : Int) == 0) then (some (true)) else (some ((a1.toList == a0.toList)))) : Option ((Bool))) fun (v2 : (Bool)) => (bif v2 then (some 0) else (bif ((a1.size : Int) == 1) then (Option.bind (byt a1 0) fun v3 => (Option.bind (internal_stringslite_IndexByte (a0) (v3)) fun v4 => (some v4))) else (bif (decide ((a0.size : Int) ≤ (a1.size : Int))) then (some (-1)) else none))))
theorem internal_stringslite_Index_ok (a0 : ByteArray) (a1 : ByteArray) (r : Int) (h : internal_stringslite_Index a0 a1 = some r) : PCall Try.prog 202 [eS a0, eS a1] (eI (r)) := by
 unfold internal_stringslite_Index at h
 refine pcall_intro (T := TT) tt_ok [.one .keep] Try.func202 rfl (by kernel_rfl) (by kernel_rfl) ?_
 refine awp_le (st' := ⟨143, [(0, (fS (a0))), (1, (fS (a1)))], [], []⟩) (le_ck (by kernel_rfl)) ?_
 refine awp_seq ?_
 refine awp_region ?_
 refine l_rk 1 tt_ok ⟨143, [(0, (fS (a0))), (1, (fS (a1)))], [], []⟩ (by kernel_rfl) ?_
 refine l_nil ?_
 refine awp_seq ?_
 refine awp_region ?_
 refine l_rk 3 tt_ok ⟨143, [(0, (fS (a0))), (1, (fS (a1))), (5, (fI ((a1.size : Int))))], [], []⟩ (by kernel_rfl) ?_
 refine l_nil ?_
 refine awp_seq ?_
 refine awp_block ?_
 refine awp_seq ?_
 obtain ⟨v2, hj, h⟩ := Option.bind_eq_some_iff.1 h
 refine awp_join (Qa := fun e st => e = .normal ∧ LeSt st ⟨143, [(0, (fS (a0))), (1, (fS (a1))), (5, (fI ((a1.size : Int)))), (16, (fB (v2)))], [], []⟩) ?_ ?_
 ·replace h := hj
  clear hj
  refine awp_region ?_
  refine l_rk 3 tt_ok ⟨143, [(0, (fS (a0))), (1, (fS (a1))), (5, (fI ((a1.size : Int)))), (19, (fB (((a1.size : Int) == 0))))], [], []⟩ (by kernel_rfl) ?_
  rcases cond_some h with ⟨hb, h⟩ | ⟨hb, h⟩
  ·refine l_le (le_eq (t := 19) (x := .fz (eB ((a1.size : Int) == 0))) (y := .fz (eB true)) (by kernel_rfl) (congrArg (fun b => AV.fz (eB b)) hb)) ?_
   refine l_rk 5 tt_ok ⟨143, [(0, (fS (a0))), (1, (fS (a1))), (5, (fI ((a1.size : Int)))), (16, (fB (true)))], [], []⟩ (by kernel_rfl) ?_
   refine l_nil ?_
   obtain rfl := Option.some.inj h
   exact And.intro rfl (le_ck (by kernel_rfl))
  ·refine l_le (le_eq (t := 19) (x := .fz (eB ((a1.size : Int) == 0))) (y := .fz (eB false)) (by kernel_rfl) (congrArg (fun b => AV.fz (eB b)) hb)) ?_
   refine l_rk 5 tt_ok ⟨143, [(0, (fS (a0))), (1, (fS (a1))), (5, (fI ((a1.size : Int)))), (16, (fB ((a1.toList == a0.toList))))], [], []⟩ (by kernel_rfl) ?_
   refine l_nil ?_
   obtain rfl := Option.some.inj h
   exact And.intro rfl (le_ck (by kernel_rfl))
 ·clear hj
  intro e st' hq
  obtain ⟨rfl, hle⟩ := hq
  refine ⟨_, hle, ?_⟩
  rcases cond_some h with ⟨hb, h⟩ | ⟨hb, h⟩
  ·refine awp_cond_t (b := v2) (by kernel_rfl) hb ?_
   refine awp_seq ?_
   refine awp_region ?_
   refine l_rk 1 tt_ok ⟨143, [(4, (fI (0)))], [], []⟩ (by kernel_rfl) ?_
   refine l_nil ?_
   refine awp_ret ?_
   obtain rfl := Option.some.inj h
   exact (show retX _ _ _ _ = some _ from by kernel_rfl)
  ·refine awp_cond_f (b := v2) (by kernel_rfl) hb ?_
   refine awp_seq ?_
   refine awp_region ?_
   refine l_rk 3 tt_ok ⟨143, [(0, (fS (a0))), (1, (fS (a1))), (5, (fI ((a1.size : Int)))), (24, (fB (((a1.size : Int) == 1))))], [], []⟩ (by kernel_rfl) ?_
   refine l_nil ?_
   rcases cond_some h with ⟨hb, h⟩ | ⟨hb, h⟩
   ·refine awp_cond_t (b := ((a1.size : Int) == 1)) (by kernel_rfl) hb ?_
    refine awp_seq ?_
    refine awp_region ?_
    refine l_rk 2 tt_ok ⟨143, [(27, (fS (a0))), (28, (fS (a1)))], [], []⟩ (by kernel_rfl) ?_
    obtain ⟨v3, hv3, h⟩ := Option.bind_eq_some_iff.1 h
    refine l_step ((s_byte (k := .i64) (d := tt9) (s := a1) hv3 tt_ok rfl (by kernel_rfl) (by kernel_rfl) (by kernel_rfl) (by kernel_rfl)).step) (by kernel_rfl) (dst_of (by kernel_rfl)) ?_
    obtain ⟨v4, hv4, h⟩ := Option.bind_eq_some_iff.1 h
    refine l_step ((n_call (ys := [eS (a0), eU8 (v3)]) (cs := [(.one (.keep)), (.one (.keep))]) rfl (by kernel_rfl) (internal_stringslite_IndexByte_ok (a0) (v3) _ hv4)).step) (by kernel_rfl) (dst_of (by kernel_rfl)) ?_
    refine l_rk 1 tt_ok ⟨143, [(4, (fI (v4)))], [], []⟩ (by kernel_rfl) ?_
    refine l_nil ?_
    refine awp_ret ?_
    obtain rfl := Option.some.inj h
    exact (show retX _ _ _ _ = some _ from by kernel_rfl)
   ·refine awp_cond_f (b := ((a1.size : Int) == 1)) (by kernel_rfl) hb ?_
    refine awp_seq ?_
    refine awp_region ?_
    refine l_rk 5 tt_ok ⟨143, [(0, (fS (a0))), (1, (fS (a1))), (5, (fI ((a1.size : Int)))), (31, (fB ((decide ((a0.size : Int) ≤ (a1.size : Int))))))], [], []⟩ (by kernel_rfl) ?_
    refine l_nil ?_
    rcases cond_some h with ⟨hb, h⟩ | ⟨hb, h⟩
    ·refine awp_cond_t (b := (decide ((a0.size : Int) ≤ (a1.size : Int)))) (by kernel_rfl) hb ?_
     refine awp_seq ?_
     refine awp_region ?_
     refine l_rk 1 tt_ok ⟨143, [(4, (fI ((-1))))], [], []⟩ (by kernel_rfl) ?_
     refine l_nil ?_
     refine awp_ret ?_
     obtain rfl := Option.some.inj h
     exact (show retX _ _ _ _ = some _ from by kernel_rfl)
    ·refine awp_cond_f (b := (decide ((a0.size : Int) ≤ (a1.size : Int)))) (by kernel_rfl) hb ?_
     refine awp_seq ?_
     cases h

def internal_stringslite_Cut (a0 : ByteArray) (a1 : ByteArray) : Option ((ByteArray) × (ByteArray) × (Bool)) := (Option.bind (internal_stringslite_Index (a0) (a1)) fun v1 => (bif (decide (0 ≤ v1)) then (Option.bind (cutS a0 0 v1) fun v2 => (Option.bind (cutS a0 (w64 (v1 + (a1.size : Int))) a0.size) fun v3 => (some (v2, v3, true)))) else (some (a0, (⟨#[]⟩ : ByteArray), false))))
theorem internal_stringslite_Cut_ok (a0 : ByteArray) (a1 : ByteArray) (r : (ByteArray) × (ByteArray) × (Bool)) (h : internal_stringslite_Cut a0 a1 = some r) : PCall Try.prog 201 [eS a0, eS a1] (.tup [eS (r.1), eS (r.2.1), eB (r.2.2)]) := by
 unfold internal_stringslite_Cut at h
 refine pcall_intro (T := TT) tt_ok [.one .keep, .one .keep, .one .keep] Try.func201 rfl (by kernel_rfl) (by kernel_rfl) ?_
 refine awp_le (st' := ⟨23, [(0, (fS (a0))), (1, (fS (a1)))], [], []⟩) (le_ck (by kernel_rfl)) ?_
 refine awp_seq ?_
 refine awp_region ?_
 refine l_rk 3 tt_ok ⟨23, [(0, (fS (a0))), (1, (fS (a1)))], [], []⟩ (by kernel_rfl) ?_
 refine l_nil ?_
 refine awp_seq ?_
 refine awp_seq ?_
 refine awp_region ?_
 refine l_rk 2 tt_ok ⟨23, [(0, (fS (a0))), (1, (fS (a1))), (8, (fS (a0))), (9, (fS (a1)))], [], []⟩ (by kernel_rfl) ?_
 obtain ⟨v1, hv1, h⟩ := Option.bind_eq_some_iff.1 h
 refine l_step ((n_call (ys := [eS (a0), eS (a1)]) (cs := [(.one (.keep)), (.one (.keep))]) rfl (by kernel_rfl) (internal_stringslite_Index_ok (a0) (a1) _ hv1)).step) (by kernel_rfl) (dst_of (by kernel_rfl)) ?_
 refine l_rk 1 tt_ok ⟨23, [(0, (fS (a0))), (1, (fS (a1))), (7, (fI (v1)))], [], []⟩ (by kernel_rfl) ?_
 refine l_nil ?_
 refine awp_seq ?_
 refine awp_region ?_
 refine l_rk 2 tt_ok ⟨23, [(0, (fS (a0))), (1, (fS (a1))), (7, (fI (v1))), (12, (fB ((decide (0 ≤ v1)))))], [], []⟩ (by kernel_rfl) ?_
 refine l_nil ?_
 rcases cond_some h with ⟨hb, h⟩ | ⟨hb, h⟩
 ·refine awp_cond_t (b := (decide (0 ≤ v1))) (by kernel_rfl) hb ?_
  refine awp_seq ?_
  obtain ⟨v2, hv2, h⟩ := Option.bind_eq_some_iff.1 h
  obtain ⟨v3, hv3, h⟩ := Option.bind_eq_some_iff.1 h
  refine awp_drawn (by kernel_rfl) [(fS (a0)), (fI (v1)), (fS (v2)), (fS (a0)), (fI (v1)), (fS (a1)), (fI ((a1.size : Int))), (fI ((w64 (v1 + (a1.size : Int))))), (fS (v3)), (fS (v2))] (by kernel_rfl) ?_
  refine ⟨.inl ⟨by kernel_rfl, (nstep_ok tt_ok (by kernel_rfl))⟩, ?_⟩
  refine ⟨.inl ⟨by kernel_rfl, (nstep_ok tt_ok (by kernel_rfl))⟩, ?_⟩
  refine ⟨.inl ⟨by kernel_rfl, (s_cutS (d := tt9) (s := a0) (l := none) (h := (some v1)) hv2 tt_ok rfl (by kernel_rfl) (by kernel_rfl) (by kernel_rfl) (by kernel_rfl) (by kernel_rfl))⟩, ?_⟩
  refine ⟨.inl ⟨by kernel_rfl, (nstep_ok tt_ok (by kernel_rfl))⟩, ?_⟩
  refine ⟨.inl ⟨by kernel_rfl, (nstep_ok tt_ok (by kernel_rfl))⟩, ?_⟩
  refine ⟨.inl ⟨by kernel_rfl, (nstep_ok tt_ok (by kernel_rfl))⟩, ?_⟩
  refine ⟨.inl ⟨by kernel_rfl, (nstep_ok tt_ok (by kernel_rfl))⟩, ?_⟩
  refine ⟨.inl ⟨by kernel_rfl, (nstep_ok tt_ok (by kernel_rfl))⟩, ?_⟩
  refine ⟨.inl ⟨by kernel_rfl, (s_cutS (d := tt9) (s := a0) (l := (some (w64 (v1 + (a1.size : Int))))) (h := none) hv3 tt_ok rfl (by kernel_rfl) (by kernel_rfl) (by kernel_rfl) (by kernel_rfl) (by kernel_rfl))⟩, ?_⟩
  refine ⟨.inl ⟨by kernel_rfl, (nstep_ok tt_ok (by kernel_rfl))⟩, ?_⟩
  refine l_rk 2 tt_ok ⟨23, [(4, (fS (v2))), (5, (fS (v3))), (6, (fB (true)))], [], []⟩ (by kernel_rfl) ?_
  refine l_nil ?_
  refine awp_ret ?_
  obtain rfl := Option.some.inj h
  exact (show retX _ _ _ _ = some _ from by kernel_rfl)
 ·refine awp_cond_f (b := (decide (0 ≤ v1))) (by kernel_rfl) hb ?_
  refine awp_skip ?_
  refine awp_seq ?_
  refine awp_region ?_
  refine l_rk 4 tt_ok ⟨23, [(4, (fS (a0))), (5, (fS ((⟨#[]⟩ : ByteArray)))), (6, (fB (false)))], [], []⟩ (by kernel_rfl) ?_
  refine l_nil ?_
  refine awp_ret ?_
  obtain rfl := Option.some.inj h
  exact (show retX _ _ _ _ = some _ from by kernel_rfl)

def strings_Cut (a0 : ByteArray) (a1 : ByteArray) : Option ((ByteArray) × (ByteArray) × (Bool)) := (Option.bind (internal_stringslite_Cut (a0) (a1)) fun v1 => (some (v1.1, v1.2.1, v1.2.2)))
theorem strings_Cut_ok (a0 : ByteArray) (a1 : ByteArray) (r : (ByteArray) × (ByteArray) × (Bool)) (h : strings_Cut a0 a1 = some r) : PCall Try.prog 199 [eS a0, eS a1] (.tup [eS (r.1), eS (r.2.1), eB (r.2.2)]) := by
 unfold strings_Cut at h
 refine pcall_intro (T := TT) tt_ok [.one .keep, .one .keep, .one .keep] Try.func199 rfl (by kernel_rfl) (by kernel_rfl) ?_
 refine awp_le (st' := ⟨13, [(0, (fS (a0))), (1, (fS (a1)))], [], []⟩) (le_ck (by kernel_rfl)) ?_
 refine awp_seq ?_
 refine awp_region ?_
 refine l_rk 3 tt_ok ⟨13, [(0, (fS (a0))), (1, (fS (a1)))], [], []⟩ (by kernel_rfl) ?_
 refine l_nil ?_
 refine awp_seq ?_
 refine awp_region ?_
 refine l_rk 2 tt_ok ⟨13, [(7, (fS (a0))), (8, (fS (a1)))], [], []⟩ (by kernel_rfl) ?_
 obtain ⟨v1, hv1, h⟩ := Option.bind_eq_some_iff.1 h
 refine l_step ((n_call (ys := [eS (a0), eS (a1)]) (cs := [(.one (.keep)), (.one (.keep))]) rfl (by kernel_rfl) (internal_stringslite_Cut_ok (a0) (a1) _ hv1)).step) (by kernel_rfl) (dst_of (by kernel_rfl)) ?_
 refine l_rk 6 tt_ok ⟨13, [(4, (fS (v1.1))), (5, (fS (v1.2.1))), (6, (fB (v1.2.2)))], [], []⟩ (by kernel_rfl) ?_
 refine l_nil ?_
 refine awp_ret ?_
 obtain rfl := Option.some.inj h
 exact (show retX _ _ _ _ = some _ from by kernel_rfl)

def operator_typeOf (a0 : Int) : Option (Int) := (bif (a0 == 66) then (some 1) else (bif (a0 == 73) then (some 2) else (bif (a0 == 84) then (some 3) else (bif (a0 == 86) then (some 4) else (bif (a0 == 76) then (some 5) else (bif (a0 == 83) then (some 6) else (bif (a0 == 77) then (some 7) else (some 8))))))))
theorem operator_typeOf_ok (a0 : Int) (r : Int) (h : operator_typeOf a0 = some r) : PCall Try.prog 200 [eU8 a0] (eI (r)) := by
 unfold operator_typeOf at h
 refine pcall_intro (T := TT) tt_ok [.one .keep] Try.func200 rfl (by kernel_rfl) (by kernel_rfl) ?_
 refine awp_le (st' := ⟨18, [(0, (.fz (eU8 (a0))))], [], []⟩) (le_ck (by kernel_rfl)) ?_
 refine awp_seq ?_
 refine awp_region ?_
 refine l_rk 1 tt_ok ⟨18, [(0, (.fz (eU8 (a0))))], [], []⟩ (by kernel_rfl) ?_
 refine l_nil ?_
 refine awp_seq ?_
 refine awp_seq ?_
 refine awp_region ?_
 refine l_rk 1 tt_ok ⟨18, [(3, (.fz (eU8 (a0))))], [], []⟩ (by kernel_rfl) ?_
 refine l_nil ?_
 refine awp_block ?_
 refine awp_seq ?_
 refine awp_region ?_
 refine l_rk 2 tt_ok ⟨18, [(3, (.fz (eU8 (a0)))), (4, (fB ((a0 == 66))))], [], []⟩ (by kernel_rfl) ?_
 refine l_nil ?_
 rcases cond_some h with ⟨hb, h⟩ | ⟨hb, h⟩
 ·refine awp_cond_t (b := (a0 == 66)) (by kernel_rfl) hb ?_
  refine awp_seq ?_
  refine awp_region ?_
  refine l_rk 1 tt_ok ⟨18, [(2, (fI (1)))], [], []⟩ (by kernel_rfl) ?_
  refine l_nil ?_
  refine awp_ret ?_
  obtain rfl := Option.some.inj h
  exact (show retX _ _ _ _ = some _ from by kernel_rfl)
 ·refine awp_cond_f (b := (a0 == 66)) (by kernel_rfl) hb ?_
  refine awp_seq ?_
  refine awp_region ?_
  refine l_rk 2 tt_ok ⟨18, [(3, (.fz (eU8 (a0)))), (6, (fB ((a0 == 73))))], [], []⟩ (by kernel_rfl) ?_
  refine l_nil ?_
  rcases cond_some h with ⟨hb, h⟩ | ⟨hb, h⟩
  ·refine awp_cond_t (b := (a0 == 73)) (by kernel_rfl) hb ?_
   refine awp_seq ?_
   refine awp_region ?_
   refine l_rk 1 tt_ok ⟨18, [(2, (fI (2)))], [], []⟩ (by kernel_rfl) ?_
   refine l_nil ?_
   refine awp_ret ?_
   obtain rfl := Option.some.inj h
   exact (show retX _ _ _ _ = some _ from by kernel_rfl)
  ·refine awp_cond_f (b := (a0 == 73)) (by kernel_rfl) hb ?_
   refine awp_seq ?_
   refine awp_region ?_
   refine l_rk 2 tt_ok ⟨18, [(3, (.fz (eU8 (a0)))), (8, (fB ((a0 == 84))))], [], []⟩ (by kernel_rfl) ?_
   refine l_nil ?_
   rcases cond_some h with ⟨hb, h⟩ | ⟨hb, h⟩
   ·refine awp_cond_t (b := (a0 == 84)) (by kernel_rfl) hb ?_
    refine awp_seq ?_
    refine awp_region ?_
    refine l_rk 1 tt_ok ⟨18, [(2, (fI (3)))], [], []⟩ (by kernel_rfl) ?_
    refine l_nil ?_
    refine awp_ret ?_
    obtain rfl := Option.some.inj h
    exact (show retX _ _ _ _ = some _ from by kernel_rfl)
   ·refine awp_cond_f (b := (a0 == 84)) (by kernel_rfl) hb ?_
    refine awp_seq ?_
    refine awp_region ?_
    refine l_rk 2 tt_ok ⟨18, [(3, (.fz (eU8 (a0)))), (10, (fB ((a0 == 86))))], [], []⟩ (by kernel_rfl) ?_
    refine l_nil ?_
    rcases cond_some h with ⟨hb, h⟩ | ⟨hb, h⟩
    ·refine awp_cond_t (b := (a0 == 86)) (by kernel_rfl) hb ?_
     refine awp_seq ?_
     refine awp_region ?_
     refine l_rk 1 tt_ok ⟨18, [(2, (fI (4)))], [], []⟩ (by kernel_rfl) ?_
     refine l_nil ?_
     refine awp_ret ?_
     obtain rfl := Option.some.inj h
     exact (show retX _ _ _ _ = some _ from by kernel_rfl)
    ·refine awp_cond_f (b := (a0 == 86)) (by kernel_rfl) hb ?_
     refine awp_seq ?_
     refine awp_region ?_
     refine l_rk 2 tt_ok ⟨18, [(3, (.fz (eU8 (a0)))), (12, (fB ((a0 == 76))))], [], []⟩ (by kernel_rfl) ?_
     refine l_nil ?_
     rcases cond_some h with ⟨hb, h⟩ | ⟨hb, h⟩
     ·refine awp_cond_t (b := (a0 == 76)) (by kernel_rfl) hb ?_
      refine awp_seq ?_
      refine awp_region ?_
      refine l_rk 1 tt_ok ⟨18, [(2, (fI (5)))], [], []⟩ (by kernel_rfl) ?_
      refine l_nil ?_
      refine awp_ret ?_
      obtain rfl := Option.some.inj h
      exact (show retX _ _ _ _ = some _ from by kernel_rfl)
     ·refine awp_cond_f (b := (a0 == 76)) (by kernel_rfl) hb ?_
      refine awp_seq ?_
      refine awp_region ?_
      refine l_rk 2 tt_ok ⟨18, [(3, (.fz (eU8 (a0)))), (14, (fB ((a0 == 83))))], [], []⟩ (by kernel_rfl) ?_
      refine l_nil ?_
      rcases cond_some h with ⟨hb, h⟩ | ⟨hb, h⟩
      ·refine awp_cond_t (b := (a0 == 83)) (by kernel_rfl) hb ?_
       refine awp_seq ?_
       refine awp_region ?_
       refine l_rk 1 tt_ok ⟨18, [(2, (fI (6)))], [], []⟩ (by kernel_rfl) ?_
       refine l_nil ?_
       refine awp_ret ?_
       obtain rfl := Option.some.inj h
       exact (show retX _ _ _ _ = some _ from by kernel_rfl)
      ·refine awp_cond_f (b := (a0 == 83)) (by kernel_rfl) hb ?_
       refine awp_seq ?_
       refine awp_region ?_
       refine l_rk 2 tt_ok ⟨18, [(16, (fB ((a0 == 77))))], [], []⟩ (by kernel_rfl) ?_
       refine l_nil ?_
       rcases cond_some h with ⟨hb, h⟩ | ⟨hb, h⟩
       ·refine awp_cond_t (b := (a0 == 77)) (by kernel_rfl) hb ?_
        refine awp_seq ?_
        refine awp_region ?_
        refine l_rk 1 tt_ok ⟨18, [(2, (fI (7)))], [], []⟩ (by kernel_rfl) ?_
        refine l_nil ?_
        refine awp_ret ?_
        obtain rfl := Option.some.inj h
        exact (show retX _ _ _ _ = some _ from by kernel_rfl)
       ·refine awp_cond_f (b := (a0 == 77)) (by kernel_rfl) hb ?_
        refine awp_skip ?_
        refine awp_seq ?_
        refine awp_region ?_
        refine l_rk 1 tt_ok ⟨18, [(2, (fI (8)))], [], []⟩ (by kernel_rfl) ?_
        refine l_nil ?_
        refine awp_ret ?_
        obtain rfl := Option.some.inj h
        exact (show retX _ _ _ _ = some _ from by kernel_rfl)
end Go.Proofs.Ytaeicmnimjfbaaa
