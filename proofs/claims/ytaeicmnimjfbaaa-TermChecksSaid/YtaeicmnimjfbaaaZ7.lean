/- Typed programs and what computes them. -/
import Derived.Test.YtaeicmnimjfbaaaZ6
set_option linter.unusedVariables false
set_option linter.unusedSimpArgs false
set_option maxRecDepth 100000
namespace Go.Proofs.Ytaeicmnimjfbaaa
open Go Go.RowKit Go.Proofs
def synthesisref11_Check_m0 (a0 : La) : List (Nat × AObj) := [(1, (.box 27 [(fS (a0.name)), (.fz ((eL 1 eI) (a0.inputs))), (.fz ((eL 2 eSy) (a0.symbols))), (.fz ((eL 9 eRu) (a0.rules)))]))]
def synthesisref11_Check_l1 (a0 : La) (v9 : (Int)) (v12 : (Int)) : Option (((Int)) ⊕ (((Unit) ⊕ (Int)))) := (bif (decide (v12 < v9)) then (Option.bind (idx a0.symbols v12) fun v13 => (Option.bind (idx a0.symbols v9) fun v14 => (bif (v13.name.toList == v14.name.toList) then (some (.inr (.inr 6))) else (some (.inl ((w64 (v12 + 1)))))))) else (some (.inr (.inl ()))))
def synthesisref11_Check_l2 (a0 : La) (v22 : (Int)) (v25 : (Int)) : Option (((Int)) ⊕ (((Unit) ⊕ (Int)))) := (bif (decide (v25 < v22)) then (Option.bind (idx a0.rules v25) fun v26 => (Option.bind (idx a0.rules v22) fun v27 => (Option.bind (synthesisref11_SameRule (v26) (v27)) fun v28 => (bif v28 then (some (.inr (.inr 6))) else (some (.inl ((w64 (v25 + 1))))))))) else (some (.inr (.inl ()))))
def synthesisref11_Check_l3 (a0 : La) (v22 : (Int)) : Option (((Int)) ⊕ (((Unit) ⊕ (Int)))) := (bif (decide (v22 < (List.length a0.rules : Int))) then (Option.bind (idx a0.rules v22) fun v23 => (Option.bind (synthesisref11_rule (a0) (v23)) fun v24 => (bif (v24 != 0) then (some (.inr (.inr v24))) else (Option.bind (loopN (synthesisref11_Check_l2 a0 v22) fuel (0)) fun (v29 : ((Unit) ⊕ (Int))) => Sum.elim (fun v30 => (some (.inl ((w64 (v22 + 1)))))) (fun v31 => (some (.inr (.inr v31)))) v29)))) else (some (.inr (.inl ()))))
def synthesisref11_Check_l4 (a0 : La) (v9 : (Int)) : Option (((Int)) ⊕ (((Unit) ⊕ (Int)))) := (bif (decide (v9 < (List.length a0.symbols : Int))) then (Option.bind (idx a0.symbols v9) fun v10 => (Option.bind (synthesisref11_Name (v10.name)) fun v11 => (bif (!v11) then (some (.inr (.inr 5))) else (Option.bind (loopN (synthesisref11_Check_l1 a0 v9) fuel (0)) fun (v15 : ((Unit) ⊕ (Int))) => Sum.elim (fun v16 => (Option.bind (idx a0.symbols v9) fun v17 => (Option.bind (synthesisref11_typed (v17.type)) fun v18 => (bif (!v18) then (some (.inr (.inr 3))) else (some (.inl ((w64 (v9 + 1))))))))) (fun v19 => (some (.inr (.inr v19)))) v15)))) else (some (.inr (.inl ()))))
def synthesisref11_Check_l5 (a0 : La) (v2 : (Int)) : Option (((Int)) ⊕ (((Unit) ⊕ (Int)))) := (bif (decide (v2 < (List.length a0.inputs : Int))) then (Option.bind (idx a0.inputs v2) fun v3 => (Option.bind (synthesisref11_typed (v3)) fun v4 => (bif (!v4) then (some (.inr (.inr 3))) else (some (.inl ((w64 (v2 + 1)))))))) else (some (.inr (.inl ()))))
def synthesisref11_Check (a0 : La) : Option (Int) := (Option.bind (synthesisref11_Name (a0.name)) fun v1 => (bif (!v1) then (some 5) else (bif (decide (4 < (List.length a0.inputs : Int))) then (some 2) else (Option.bind (loopN (synthesisref11_Check_l5 a0) fuel (0)) fun (v5 : ((Unit) ⊕ (Int))) => Sum.elim (fun v6 => (Option.bind ((bif (decide ((List.length a0.symbols : Int) < 1)) then (some (true)) else (some ((decide (16 < (List.length a0.symbols : Int)))))) : Option ((Bool))) fun (v8 : (Bool)) => (bif v8 then (some 2) else (Option.bind (loopN (synthesisref11_Check_l4 a0) fuel (0)) fun (v20 : ((Unit) ⊕ (Int))) => Sum.elim (fun v21 => (bif (decide (96 < (List.length a0.rules : Int))) then (some 2) else (Option.bind (loopN (synthesisref11_Check_l3 a0) fuel (0)) fun (v32 : ((Unit) ⊕ (Int))) => Sum.elim (fun v33 => (some 0)) (fun v34 => (some v34)) v32))) (fun v35 => (some v35)) v20)))) (fun v36 => (some v36)) v5))))
theorem synthesisref11_Check_ok (a0 : La) (r : Int) (h : synthesisref11_Check a0 = some r) : PCall Try.prog 89 [eLa a0] (eI (r)) := by
 unfold synthesisref11_Check at h
 refine pcall_intro (T := TT) tt_ok [.one .keep] Try.func89 rfl (by kernel_rfl) (by kernel_rfl) ?_
 refine awp_le (st' := ⟨119, [(0, (.fz (eLa (a0))))], [], []⟩) (le_ck (by kernel_rfl)) ?_
 refine awp_seq ?_
 refine awp_region ?_
 refine l_rk 2 tt_ok ⟨119, [(1, (.ref 1 0 0))], (synthesisref11_Check_m0 a0), [1]⟩ (by kernel_rfl) ?_
 refine l_nil ?_
 refine awp_seq ?_
 refine awp_seq ?_
 refine awp_region ?_
 refine l_rk 2 tt_ok ⟨119, [(1, (.ref 1 0 0)), (10, (fS (a0.name)))], (synthesisref11_Check_m0 a0), [1]⟩ (by kernel_rfl) ?_
 obtain ⟨v1, hv1, h⟩ := Option.bind_eq_some_iff.1 h
 refine l_step ((n_call (ys := [eS (a0.name)]) (cs := [(.one (.keep))]) rfl (by kernel_rfl) (synthesisref11_Name_ok (a0.name) _ hv1)).step) (by kernel_rfl) (dst_of (by kernel_rfl)) ?_
 refine l_rk 1 tt_ok ⟨119, [(1, (.ref 1 0 0)), (12, (fB ((!v1))))], (synthesisref11_Check_m0 a0), [1]⟩ (by kernel_rfl) ?_
 refine l_nil ?_
 rcases cond_some h with ⟨hb, h⟩ | ⟨hb, h⟩
 ·refine awp_cond_t (b := (!v1)) (by kernel_rfl) hb ?_
  refine awp_seq ?_
  refine awp_region ?_
  refine l_rk 1 tt_ok ⟨119, [(2, (fI (5)))], [], []⟩ (by kernel_rfl) ?_
  refine l_nil ?_
  refine awp_ret ?_
  obtain rfl := Option.some.inj h
  exact (show retX _ _ _ _ = some _ from by kernel_rfl)
 ·refine awp_cond_f (b := (!v1)) (by kernel_rfl) hb ?_
  refine awp_skip ?_
  refine awp_seq ?_
  refine awp_seq ?_
  refine awp_region ?_
  refine l_rk 4 tt_ok ⟨119, [(1, (.ref 1 0 0)), (16, (fB ((decide (4 < (List.length a0.inputs : Int))))))], (synthesisref11_Check_m0 a0), [1]⟩ (by kernel_rfl) ?_
  refine l_nil ?_
  rcases cond_some h with ⟨hb, h⟩ | ⟨hb, h⟩
  ·refine awp_cond_t (b := (decide (4 < (List.length a0.inputs : Int)))) (by kernel_rfl) hb ?_
   refine awp_seq ?_
   refine awp_region ?_
   refine l_rk 1 tt_ok ⟨119, [(2, (fI (2)))], [], []⟩ (by kernel_rfl) ?_
   refine l_nil ?_
   refine awp_ret ?_
   obtain rfl := Option.some.inj h
   exact (show retX _ _ _ _ = some _ from by kernel_rfl)
  ·refine awp_cond_f (b := (decide (4 < (List.length a0.inputs : Int)))) (by kernel_rfl) hb ?_
   refine awp_skip ?_
   refine awp_seq ?_
   refine awp_seq ?_
   refine awp_region ?_
   refine l_rk 1 tt_ok ⟨119, [(1, (.ref 1 0 0)), (3, (fI (0)))], (synthesisref11_Check_m0 a0), [1]⟩ (by kernel_rfl) ?_
   refine l_nil ?_
   refine awp_block ?_
   obtain ⟨v5, hj, h⟩ := Option.bind_eq_some_iff.1 h
   refine awp_join (Qa := fun e st => Sum.elim (fun p => e = .exit 0 ∧ LeSt st ⟨119, [(1, (.ref 1 0 0))], (synthesisref11_Check_m0 a0), [1]⟩) (fun p => e = .ret ∧ retX TT st Try.f89.results.toList [.one .keep] = some (eI (p))) v5) ?_ ?_
   ·refine awp_loopS (stOf := fun v2 => ⟨119, [(1, (.ref 1 0 0)), (3, (fI (v2)))], (synthesisref11_Check_m0 a0), [1]⟩) (Qb := fun j e st => Sum.elim (fun p => e = .exit 0 ∧ LeSt st ⟨119, [(1, (.ref 1 0 0))], (synthesisref11_Check_m0 a0), [1]⟩) (fun p => e = .ret ∧ retX TT st Try.f89.results.toList [.one .keep] = some (eI (p))) j) hj (le_ck (by kernel_rfl)) ?_
    clear hj h
    intro v2 r h
    unfold synthesisref11_Check_l5 at h
    refine awp_seq ?_
    refine awp_seq ?_
    refine awp_region ?_
    refine l_rk 5 tt_ok ⟨119, [(1, (.ref 1 0 0)), (3, (fI (v2))), (21, (fB ((decide (v2 < (List.length a0.inputs : Int))))))], (synthesisref11_Check_m0 a0), [1]⟩ (by kernel_rfl) ?_
    refine l_nil ?_
    rcases cond_some h with ⟨hb, h⟩ | ⟨hb, h⟩
    ·refine awp_cond_t (b := (decide (v2 < (List.length a0.inputs : Int)))) (by kernel_rfl) hb ?_
     refine awp_skip ?_
     refine awp_seq ?_
     refine awp_block ?_
     refine awp_seq ?_
     refine awp_region ?_
     refine l_rk 3 tt_ok ⟨119, [(1, (.ref 1 0 0)), (3, (fI (v2))), (25, (.fz ((eL 1 eI) (a0.inputs)))), (26, (fI (v2)))], (synthesisref11_Check_m0 a0), [1]⟩ (by kernel_rfl) ?_
     obtain ⟨v3, hv3, h⟩ := Option.bind_eq_some_iff.1 h
     refine l_step ((s_index (k := .i64) (d := tt23) (e := 3) (de := tt3) (enc := eI) hv3 tt_ok rfl (by kernel_rfl) (by kernel_rfl) (by kernel_rfl) (by kernel_rfl) len_eI (by kernel_rfl) rfl).step) (by kernel_rfl) (dst_of (by kernel_rfl)) ?_
     refine l_rk 1 tt_ok ⟨119, [(1, (.ref 1 0 0)), (3, (fI (v2))), (28, (fI (v3)))], (synthesisref11_Check_m0 a0), [1]⟩ (by kernel_rfl) ?_
     obtain ⟨v4, hv4, h⟩ := Option.bind_eq_some_iff.1 h
     refine l_step ((n_call (ys := [eI (v3)]) (cs := [(.one (.keep))]) rfl (by kernel_rfl) (synthesisref11_typed_ok (v3) _ hv4)).step) (by kernel_rfl) (dst_of (by kernel_rfl)) ?_
     refine l_rk 1 tt_ok ⟨119, [(1, (.ref 1 0 0)), (3, (fI (v2))), (30, (fB ((!v4))))], (synthesisref11_Check_m0 a0), [1]⟩ (by kernel_rfl) ?_
     refine l_nil ?_
     rcases cond_some h with ⟨hb, h⟩ | ⟨hb, h⟩
     ·refine awp_cond_t (b := (!v4)) (by kernel_rfl) hb ?_
      refine awp_seq ?_
      refine awp_region ?_
      refine l_rk 1 tt_ok ⟨119, [(2, (fI (3)))], [], []⟩ (by kernel_rfl) ?_
      refine l_nil ?_
      refine awp_ret ?_
      obtain rfl := Option.some.inj h
      exact And.intro (And.intro (fun h => nomatch h) (fun h => nomatch h)) (And.intro rfl (show retX _ _ _ _ = some _ from by kernel_rfl))
     ·refine awp_cond_f (b := (!v4)) (by kernel_rfl) hb ?_
      refine awp_skip ?_
      refine awp_region ?_
      refine l_rk 3 tt_ok ⟨119, [(1, (.ref 1 0 0)), (3, (fI ((w64 (v2 + 1)))))], (synthesisref11_Check_m0 a0), [1]⟩ (by kernel_rfl) ?_
      refine l_nil ?_
      obtain rfl := Option.some.inj h
      exact And.intro rfl (le_ck (by kernel_rfl))
    ·refine awp_cond_f (b := (decide (v2 < (List.length a0.inputs : Int)))) (by kernel_rfl) hb ?_
     refine awp_exit ?_
     obtain rfl := Option.some.inj h
     exact And.intro (And.intro (fun h => nomatch h) (fun h => nomatch h)) (And.intro rfl (le_ck (by kernel_rfl)))
   ·clear hj
    intro e st' hq
    rcases v5 with v6 | v36
    ·try simp only [Sum.elim_inl, Sum.elim_inr] at h
     obtain ⟨rfl, hle⟩ := hq
     refine ⟨_, hle, ?_⟩
     refine awp_seq ?_
     refine awp_seq ?_
     obtain ⟨v8, hj, h⟩ := Option.bind_eq_some_iff.1 h
     refine awp_join (Qa := fun e st => e = .normal ∧ LeSt st ⟨119, [(1, (.ref 1 0 0)), (40, (fB (v8)))], (synthesisref11_Check_m0 a0), [1]⟩) ?_ ?_
     ·replace h := hj
      clear hj
      refine awp_region ?_
      refine l_rk 5 tt_ok ⟨119, [(1, (.ref 1 0 0)), (35, (fB ((decide ((List.length a0.symbols : Int) < 1)))))], (synthesisref11_Check_m0 a0), [1]⟩ (by kernel_rfl) ?_
      rcases cond_some h with ⟨hb, h⟩ | ⟨hb, h⟩
      ·refine l_le (le_eq (t := 35) (x := .fz (eB (decide ((List.length a0.symbols : Int) < 1)))) (y := .fz (eB true)) (by kernel_rfl) (congrArg (fun b => AV.fz (eB b)) hb)) ?_
       refine l_rk 5 tt_ok ⟨119, [(1, (.ref 1 0 0)), (40, (fB (true)))], (synthesisref11_Check_m0 a0), [1]⟩ (by kernel_rfl) ?_
       refine l_nil ?_
       obtain rfl := Option.some.inj h
       exact And.intro rfl (le_ck (by kernel_rfl))
      ·refine l_le (le_eq (t := 35) (x := .fz (eB (decide ((List.length a0.symbols : Int) < 1)))) (y := .fz (eB false)) (by kernel_rfl) (congrArg (fun b => AV.fz (eB b)) hb)) ?_
       refine l_rk 5 tt_ok ⟨119, [(1, (.ref 1 0 0)), (40, (fB ((decide (16 < (List.length a0.symbols : Int))))))], (synthesisref11_Check_m0 a0), [1]⟩ (by kernel_rfl) ?_
       refine l_nil ?_
       obtain rfl := Option.some.inj h
       exact And.intro rfl (le_ck (by kernel_rfl))
     ·clear hj
      intro e st' hq
      obtain ⟨rfl, hle⟩ := hq
      refine ⟨_, hle, ?_⟩
      rcases cond_some h with ⟨hb, h⟩ | ⟨hb, h⟩
      ·refine awp_cond_t (b := v8) (by kernel_rfl) hb ?_
       refine awp_seq ?_
       refine awp_region ?_
       refine l_rk 1 tt_ok ⟨119, [(2, (fI (2)))], [], []⟩ (by kernel_rfl) ?_
       refine l_nil ?_
       refine awp_ret ?_
       obtain rfl := Option.some.inj h
       exact (show retX _ _ _ _ = some _ from by kernel_rfl)
      ·refine awp_cond_f (b := v8) (by kernel_rfl) hb ?_
       refine awp_skip ?_
       refine awp_seq ?_
       refine awp_seq ?_
       refine awp_region ?_
       refine l_rk 1 tt_ok ⟨119, [(1, (.ref 1 0 0)), (4, (fI (0)))], (synthesisref11_Check_m0 a0), [1]⟩ (by kernel_rfl) ?_
       refine l_nil ?_
       refine awp_block ?_
       obtain ⟨v20, hj, h⟩ := Option.bind_eq_some_iff.1 h
       refine awp_join (Qa := fun e st => Sum.elim (fun p => e = .exit 2 ∧ LeSt st ⟨119, [(1, (.ref 1 0 0))], (synthesisref11_Check_m0 a0), [1]⟩) (fun p => e = .ret ∧ retX TT st Try.f89.results.toList [.one .keep] = some (eI (p))) v20) ?_ ?_
       ·refine awp_loopS (stOf := fun v9 => ⟨119, [(1, (.ref 1 0 0)), (4, (fI (v9)))], (synthesisref11_Check_m0 a0), [1]⟩) (Qb := fun j e st => Sum.elim (fun p => e = .exit 2 ∧ LeSt st ⟨119, [(1, (.ref 1 0 0))], (synthesisref11_Check_m0 a0), [1]⟩) (fun p => e = .ret ∧ retX TT st Try.f89.results.toList [.one .keep] = some (eI (p))) j) hj (le_ck (by kernel_rfl)) ?_
        clear hj h
        intro v9 r h
        unfold synthesisref11_Check_l4 at h
        refine awp_seq ?_
        refine awp_seq ?_
        refine awp_region ?_
        refine l_rk 5 tt_ok ⟨119, [(1, (.ref 1 0 0)), (4, (fI (v9))), (45, (fB ((decide (v9 < (List.length a0.symbols : Int))))))], (synthesisref11_Check_m0 a0), [1]⟩ (by kernel_rfl) ?_
        refine l_nil ?_
        rcases cond_some h with ⟨hb, h⟩ | ⟨hb, h⟩
        ·refine awp_cond_t (b := (decide (v9 < (List.length a0.symbols : Int)))) (by kernel_rfl) hb ?_
         refine awp_skip ?_
         refine awp_seq ?_
         refine awp_block ?_
         refine awp_seq ?_
         refine awp_seq ?_
         refine awp_region ?_
         refine l_rk 3 tt_ok ⟨119, [(1, (.ref 1 0 0)), (4, (fI (v9))), (49, (.fz ((eL 2 eSy) (a0.symbols)))), (50, (fI (v9)))], (synthesisref11_Check_m0 a0), [1]⟩ (by kernel_rfl) ?_
         obtain ⟨v10, hv10, h⟩ := Option.bind_eq_some_iff.1 h
         refine l_step ((s_index (k := .i64) (d := tt24) (e := 72) (de := tt72) (enc := eSy) hv10 tt_ok rfl (by kernel_rfl) (by kernel_rfl) (by kernel_rfl) (by kernel_rfl) len_eSy (by kernel_rfl) rfl).step) (by kernel_rfl) (dst_of (by kernel_rfl)) ?_
         refine l_rk 2 tt_ok ⟨119, [(1, (.ref 1 0 0)), (4, (fI (v9))), (53, (fS (v10.name)))], (synthesisref11_Check_m0 a0), [1]⟩ (by kernel_rfl) ?_
         obtain ⟨v11, hv11, h⟩ := Option.bind_eq_some_iff.1 h
         refine l_step ((n_call (ys := [eS (v10.name)]) (cs := [(.one (.keep))]) rfl (by kernel_rfl) (synthesisref11_Name_ok (v10.name) _ hv11)).step) (by kernel_rfl) (dst_of (by kernel_rfl)) ?_
         refine l_rk 1 tt_ok ⟨119, [(1, (.ref 1 0 0)), (4, (fI (v9))), (55, (fB ((!v11))))], (synthesisref11_Check_m0 a0), [1]⟩ (by kernel_rfl) ?_
         refine l_nil ?_
         rcases cond_some h with ⟨hb, h⟩ | ⟨hb, h⟩
         ·refine awp_cond_t (b := (!v11)) (by kernel_rfl) hb ?_
          refine awp_seq ?_
          refine awp_region ?_
          refine l_rk 1 tt_ok ⟨119, [(2, (fI (5)))], [], []⟩ (by kernel_rfl) ?_
          refine l_nil ?_
          refine awp_ret ?_
          obtain rfl := Option.some.inj h
          exact And.intro (And.intro (fun h => nomatch h) (fun h => nomatch h)) (And.intro rfl (show retX _ _ _ _ = some _ from by kernel_rfl))
         ·refine awp_cond_f (b := (!v11)) (by kernel_rfl) hb ?_
          refine awp_skip ?_
          refine awp_seq ?_
          refine awp_seq ?_
          refine awp_region ?_
          refine l_rk 1 tt_ok ⟨119, [(1, (.ref 1 0 0)), (4, (fI (v9))), (5, (fI (0)))], (synthesisref11_Check_m0 a0), [1]⟩ (by kernel_rfl) ?_
          refine l_nil ?_
          refine awp_block ?_
          obtain ⟨v15, hj, h⟩ := Option.bind_eq_some_iff.1 h
          refine awp_join (Qa := fun e st => Sum.elim (fun p => e = .exit 4 ∧ LeSt st ⟨119, [(1, (.ref 1 0 0)), (4, (fI (v9)))], (synthesisref11_Check_m0 a0), [1]⟩) (fun p => e = .ret ∧ retX TT st Try.f89.results.toList [.one .keep] = some (eI (p))) v15) ?_ ?_
          ·refine awp_loopS (stOf := fun v12 => ⟨119, [(1, (.ref 1 0 0)), (4, (fI (v9))), (5, (fI (v12)))], (synthesisref11_Check_m0 a0), [1]⟩) (Qb := fun j e st => Sum.elim (fun p => e = .exit 4 ∧ LeSt st ⟨119, [(1, (.ref 1 0 0)), (4, (fI (v9)))], (synthesisref11_Check_m0 a0), [1]⟩) (fun p => e = .ret ∧ retX TT st Try.f89.results.toList [.one .keep] = some (eI (p))) j) hj (le_ck (by kernel_rfl)) ?_
           clear hj h
           intro v12 r h
           unfold synthesisref11_Check_l1 at h
           refine awp_seq ?_
           refine awp_seq ?_
           refine awp_region ?_
           refine l_rk 3 tt_ok ⟨119, [(1, (.ref 1 0 0)), (4, (fI (v9))), (5, (fI (v12))), (58, (fB ((decide (v12 < v9)))))], (synthesisref11_Check_m0 a0), [1]⟩ (by kernel_rfl) ?_
           refine l_nil ?_
           rcases cond_some h with ⟨hb, h⟩ | ⟨hb, h⟩
           ·refine awp_cond_t (b := (decide (v12 < v9))) (by kernel_rfl) hb ?_
            refine awp_skip ?_
            refine awp_seq ?_
            refine awp_block ?_
            refine awp_seq ?_
            obtain ⟨v13, hv13, h⟩ := Option.bind_eq_some_iff.1 h
            obtain ⟨v14, hv14, h⟩ := Option.bind_eq_some_iff.1 h
            refine awp_drawn (by kernel_rfl) [(.ref 1 0 2), (.fz ((eL 2 eSy) (a0.symbols))), (fI (v12)), (.fz (.fp [(eS (v13.name)), (eI (v13.type))])), (.fz (.fp [(eS (v13.name)), (eI (v13.type))])), (fS (v13.name)), (.ref 1 0 2), (.fz ((eL 2 eSy) (a0.symbols))), (fI (v9)), (.fz (.fp [(eS (v14.name)), (eI (v14.type))])), (.fz (.fp [(eS (v14.name)), (eI (v14.type))])), (fS (v14.name))] (by kernel_rfl) ?_
            refine ⟨.inl ⟨by kernel_rfl, (nstep_ok tt_ok (by kernel_rfl))⟩, ?_⟩
            refine ⟨.inl ⟨by kernel_rfl, (nstep_ok tt_ok (by kernel_rfl))⟩, ?_⟩
            refine ⟨.inl ⟨by kernel_rfl, (nstep_ok tt_ok (by kernel_rfl))⟩, ?_⟩
            refine ⟨.inl ⟨by kernel_rfl, (s_index (k := .i64) (d := tt24) (e := 72) (de := tt72) (enc := eSy) hv13 tt_ok rfl (by kernel_rfl) (by kernel_rfl) (by kernel_rfl) (by kernel_rfl) len_eSy (by kernel_rfl) rfl)⟩, ?_⟩
            refine ⟨.inl ⟨by kernel_rfl, (nstep_ok tt_ok (by kernel_rfl))⟩, ?_⟩
            refine ⟨.inl ⟨by kernel_rfl, (nstep_ok tt_ok (by kernel_rfl))⟩, ?_⟩
            refine ⟨.inl ⟨by kernel_rfl, (nstep_ok tt_ok (by kernel_rfl))⟩, ?_⟩
            refine ⟨.inl ⟨by kernel_rfl, (nstep_ok tt_ok (by kernel_rfl))⟩, ?_⟩
            refine ⟨.inl ⟨by kernel_rfl, (nstep_ok tt_ok (by kernel_rfl))⟩, ?_⟩
            refine ⟨.inl ⟨by kernel_rfl, (s_index (k := .i64) (d := tt24) (e := 72) (de := tt72) (enc := eSy) hv14 tt_ok rfl (by kernel_rfl) (by kernel_rfl) (by kernel_rfl) (by kernel_rfl) len_eSy (by kernel_rfl) rfl)⟩, ?_⟩
            refine ⟨.inl ⟨by kernel_rfl, (nstep_ok tt_ok (by kernel_rfl))⟩, ?_⟩
            refine ⟨.inl ⟨by kernel_rfl, (nstep_ok tt_ok (by kernel_rfl))⟩, ?_⟩
            refine l_rk 1 tt_ok ⟨119, [(1, (.ref 1 0 0)), (4, (fI (v9))), (5, (fI (v12))), (73, (fB ((v13.name.toList == v14.name.toList))))], (synthesisref11_Check_m0 a0), [1]⟩ (by kernel_rfl) ?_
            refine l_nil ?_
            rcases cond_some h with ⟨hb, h⟩ | ⟨hb, h⟩
            ·refine awp_cond_t (b := (v13.name.toList == v14.name.toList)) (by kernel_rfl) hb ?_
             refine awp_seq ?_
             refine awp_region ?_
             refine l_rk 1 tt_ok ⟨119, [(2, (fI (6)))], [], []⟩ (by kernel_rfl) ?_
             refine l_nil ?_
             refine awp_ret ?_
             obtain rfl := Option.some.inj h
             exact And.intro (And.intro (fun h => nomatch h) (fun h => nomatch h)) (And.intro rfl (show retX _ _ _ _ = some _ from by kernel_rfl))
            ·refine awp_cond_f (b := (v13.name.toList == v14.name.toList)) (by kernel_rfl) hb ?_
             refine awp_skip ?_
             refine awp_region ?_
             refine l_rk 3 tt_ok ⟨119, [(1, (.ref 1 0 0)), (4, (fI (v9))), (5, (fI ((w64 (v12 + 1)))))], (synthesisref11_Check_m0 a0), [1]⟩ (by kernel_rfl) ?_
             refine l_nil ?_
             obtain rfl := Option.some.inj h
             exact And.intro rfl (le_ck (by kernel_rfl))
           ·refine awp_cond_f (b := (decide (v12 < v9))) (by kernel_rfl) hb ?_
            refine awp_exit ?_
            obtain rfl := Option.some.inj h
            exact And.intro (And.intro (fun h => nomatch h) (fun h => nomatch h)) (And.intro rfl (le_ck (by kernel_rfl)))
          ·clear hj
           intro e st' hq
           rcases v15 with v16 | v19
           ·try simp only [Sum.elim_inl, Sum.elim_inr] at h
            obtain ⟨rfl, hle⟩ := hq
            refine ⟨_, hle, ?_⟩
            refine awp_seq ?_
            refine awp_region ?_
            refine l_rk 3 tt_ok ⟨119, [(1, (.ref 1 0 0)), (4, (fI (v9))), (75, (.fz ((eL 2 eSy) (a0.symbols)))), (76, (fI (v9)))], (synthesisref11_Check_m0 a0), [1]⟩ (by kernel_rfl) ?_
            obtain ⟨v17, hv17, h⟩ := Option.bind_eq_some_iff.1 h
            refine l_step ((s_index (k := .i64) (d := tt24) (e := 72) (de := tt72) (enc := eSy) hv17 tt_ok rfl (by kernel_rfl) (by kernel_rfl) (by kernel_rfl) (by kernel_rfl) len_eSy (by kernel_rfl) rfl).step) (by kernel_rfl) (dst_of (by kernel_rfl)) ?_
            refine l_rk 2 tt_ok ⟨119, [(1, (.ref 1 0 0)), (4, (fI (v9))), (79, (fI (v17.type)))], (synthesisref11_Check_m0 a0), [1]⟩ (by kernel_rfl) ?_
            obtain ⟨v18, hv18, h⟩ := Option.bind_eq_some_iff.1 h
            refine l_step ((n_call (ys := [eI (v17.type)]) (cs := [(.one (.keep))]) rfl (by kernel_rfl) (synthesisref11_typed_ok (v17.type) _ hv18)).step) (by kernel_rfl) (dst_of (by kernel_rfl)) ?_
            refine l_rk 1 tt_ok ⟨119, [(1, (.ref 1 0 0)), (4, (fI (v9))), (81, (fB ((!v18))))], (synthesisref11_Check_m0 a0), [1]⟩ (by kernel_rfl) ?_
            refine l_nil ?_
            rcases cond_some h with ⟨hb, h⟩ | ⟨hb, h⟩
            ·refine awp_cond_t (b := (!v18)) (by kernel_rfl) hb ?_
             refine awp_seq ?_
             refine awp_region ?_
             refine l_rk 1 tt_ok ⟨119, [(2, (fI (3)))], [], []⟩ (by kernel_rfl) ?_
             refine l_nil ?_
             refine awp_ret ?_
             obtain rfl := Option.some.inj h
             exact And.intro (And.intro (fun h => nomatch h) (fun h => nomatch h)) (And.intro rfl (show retX _ _ _ _ = some _ from by kernel_rfl))
            ·refine awp_cond_f (b := (!v18)) (by kernel_rfl) hb ?_
             refine awp_skip ?_
             refine awp_region ?_
             refine l_rk 3 tt_ok ⟨119, [(1, (.ref 1 0 0)), (4, (fI ((w64 (v9 + 1)))))], (synthesisref11_Check_m0 a0), [1]⟩ (by kernel_rfl) ?_
             refine l_nil ?_
             obtain rfl := Option.some.inj h
             exact And.intro rfl (le_ck (by kernel_rfl))
           ·try simp only [Sum.elim_inl, Sum.elim_inr] at h
            obtain ⟨rfl, hret⟩ := hq
            refine ⟨_, LeSt.refl, ?_⟩
            obtain rfl := Option.some.inj h
            exact And.intro (And.intro (fun h => nomatch h) (fun h => nomatch h)) (And.intro rfl hret)
        ·refine awp_cond_f (b := (decide (v9 < (List.length a0.symbols : Int)))) (by kernel_rfl) hb ?_
         refine awp_exit ?_
         obtain rfl := Option.some.inj h
         exact And.intro (And.intro (fun h => nomatch h) (fun h => nomatch h)) (And.intro rfl (le_ck (by kernel_rfl)))
       ·clear hj
        intro e st' hq
        rcases v20 with v21 | v35
        ·try simp only [Sum.elim_inl, Sum.elim_inr] at h
         obtain ⟨rfl, hle⟩ := hq
         refine ⟨_, hle, ?_⟩
         refine awp_seq ?_
         refine awp_seq ?_
         refine awp_region ?_
         refine l_rk 4 tt_ok ⟨119, [(1, (.ref 1 0 0)), (85, (fB ((decide (96 < (List.length a0.rules : Int))))))], (synthesisref11_Check_m0 a0), [1]⟩ (by kernel_rfl) ?_
         refine l_nil ?_
         rcases cond_some h with ⟨hb, h⟩ | ⟨hb, h⟩
         ·refine awp_cond_t (b := (decide (96 < (List.length a0.rules : Int)))) (by kernel_rfl) hb ?_
          refine awp_seq ?_
          refine awp_region ?_
          refine l_rk 1 tt_ok ⟨119, [(2, (fI (2)))], [], []⟩ (by kernel_rfl) ?_
          refine l_nil ?_
          refine awp_ret ?_
          obtain rfl := Option.some.inj h
          exact (show retX _ _ _ _ = some _ from by kernel_rfl)
         ·refine awp_cond_f (b := (decide (96 < (List.length a0.rules : Int)))) (by kernel_rfl) hb ?_
          refine awp_skip ?_
          refine awp_seq ?_
          refine awp_seq ?_
          refine awp_region ?_
          refine l_rk 1 tt_ok ⟨119, [(1, (.ref 1 0 0)), (6, (fI (0)))], (synthesisref11_Check_m0 a0), [1]⟩ (by kernel_rfl) ?_
          refine l_nil ?_
          refine awp_block ?_
          obtain ⟨v32, hj, h⟩ := Option.bind_eq_some_iff.1 h
          refine awp_join (Qa := fun e st => Sum.elim (fun p => e = .exit 6 ∧ LeSt st ⟨119, [], [], []⟩) (fun p => e = .ret ∧ retX TT st Try.f89.results.toList [.one .keep] = some (eI (p))) v32) ?_ ?_
          ·refine awp_loopS (stOf := fun v22 => ⟨119, [(1, (.ref 1 0 0)), (6, (fI (v22)))], (synthesisref11_Check_m0 a0), [1]⟩) (Qb := fun j e st => Sum.elim (fun p => e = .exit 6 ∧ LeSt st ⟨119, [], [], []⟩) (fun p => e = .ret ∧ retX TT st Try.f89.results.toList [.one .keep] = some (eI (p))) j) hj (le_ck (by kernel_rfl)) ?_
           clear hj h
           intro v22 r h
           unfold synthesisref11_Check_l3 at h
           refine awp_seq ?_
           refine awp_seq ?_
           refine awp_region ?_
           refine l_rk 5 tt_ok ⟨119, [(1, (.ref 1 0 0)), (6, (fI (v22))), (90, (fB ((decide (v22 < (List.length a0.rules : Int))))))], (synthesisref11_Check_m0 a0), [1]⟩ (by kernel_rfl) ?_
           refine l_nil ?_
           rcases cond_some h with ⟨hb, h⟩ | ⟨hb, h⟩
           ·refine awp_cond_t (b := (decide (v22 < (List.length a0.rules : Int)))) (by kernel_rfl) hb ?_
            refine awp_skip ?_
            refine awp_seq ?_
            refine awp_block ?_
            refine awp_seq ?_
            refine awp_seq ?_
            obtain ⟨v23, hv23, h⟩ := Option.bind_eq_some_iff.1 h
            refine awp_drawn (by kernel_rfl) [(.fz (eLa (a0))), (.ref 1 0 3), (.fz ((eL 9 eRu) (a0.rules))), (fI (v22)), (.fz (.fp [(eI (v23.symbol)), (eI (v23.kind)), (eI (v23.input)), (eI (v23.const.type)), (eI (v23.const.num)), (eS (v23.const.text)), ((eL 4 eVaR) (v23.const.items)), (eS (v23.op)), ((eL 1 eI) (v23.args))])), (.fz (eRu (v23)))] (by kernel_rfl) ?_
            refine ⟨.inl ⟨by kernel_rfl, (nstep_ok tt_ok (by kernel_rfl))⟩, ?_⟩
            refine ⟨.inl ⟨by kernel_rfl, (nstep_ok tt_ok (by kernel_rfl))⟩, ?_⟩
            refine ⟨.inl ⟨by kernel_rfl, (nstep_ok tt_ok (by kernel_rfl))⟩, ?_⟩
            refine ⟨.inl ⟨by kernel_rfl, (nstep_ok tt_ok (by kernel_rfl))⟩, ?_⟩
            refine ⟨.inl ⟨by kernel_rfl, (s_index (k := .i64) (d := tt25) (e := 67) (de := tt67) (enc := eRu) hv23 tt_ok rfl (by kernel_rfl) (by kernel_rfl) (by kernel_rfl) (by kernel_rfl) len_eRu (by kernel_rfl) rfl)⟩, ?_⟩
            refine ⟨.inl ⟨by kernel_rfl, (nstep_ok tt_ok (by kernel_rfl))⟩, ?_⟩
            refine l_rk 0 tt_ok ⟨119, [(1, (.ref 1 0 0)), (6, (fI (v22))), (93, (.fz (eLa (a0)))), (98, (.fz (eRu (v23))))], (synthesisref11_Check_m0 a0), [1]⟩ (by kernel_rfl) ?_
            obtain ⟨v24, hv24, h⟩ := Option.bind_eq_some_iff.1 h
            refine l_step ((n_call (ys := [eLa (a0), eRu (v23)]) (cs := [(.one .keep), (.one .keep)]) rfl (by kernel_rfl) (synthesisref11_rule_ok (a0) (v23) _ hv24)).step) (by kernel_rfl) (dst_of (by kernel_rfl)) ?_
            refine l_rk 1 tt_ok ⟨119, [(1, (.ref 1 0 0)), (6, (fI (v22))), (7, (fI (v24)))], (synthesisref11_Check_m0 a0), [1]⟩ (by kernel_rfl) ?_
            refine l_nil ?_
            refine awp_seq ?_
            refine awp_region ?_
            refine l_rk 2 tt_ok ⟨119, [(1, (.ref 1 0 0)), (6, (fI (v22))), (7, (fI (v24))), (101, (fB ((v24 != 0))))], (synthesisref11_Check_m0 a0), [1]⟩ (by kernel_rfl) ?_
            refine l_nil ?_
            rcases cond_some h with ⟨hb, h⟩ | ⟨hb, h⟩
            ·refine awp_cond_t (b := (v24 != 0)) (by kernel_rfl) hb ?_
             refine awp_seq ?_
             refine awp_region ?_
             refine l_rk 2 tt_ok ⟨119, [(2, (fI (v24)))], [], []⟩ (by kernel_rfl) ?_
             refine l_nil ?_
             refine awp_ret ?_
             obtain rfl := Option.some.inj h
             exact And.intro (And.intro (fun h => nomatch h) (fun h => nomatch h)) (And.intro rfl (show retX _ _ _ _ = some _ from by kernel_rfl))
            ·refine awp_cond_f (b := (v24 != 0)) (by kernel_rfl) hb ?_
             refine awp_skip ?_
             refine awp_seq ?_
             refine awp_region ?_
             refine l_rk 1 tt_ok ⟨119, [(1, (.ref 1 0 0)), (6, (fI (v22))), (8, (fI (0)))], (synthesisref11_Check_m0 a0), [1]⟩ (by kernel_rfl) ?_
             refine l_nil ?_
             refine awp_block ?_
             obtain ⟨v29, hj, h⟩ := Option.bind_eq_some_iff.1 h
             refine awp_join (Qa := fun e st => Sum.elim (fun p => e = .exit 8 ∧ LeSt st ⟨119, [(1, (.ref 1 0 0)), (6, (fI (v22)))], (synthesisref11_Check_m0 a0), [1]⟩) (fun p => e = .ret ∧ retX TT st Try.f89.results.toList [.one .keep] = some (eI (p))) v29) ?_ ?_
             ·refine awp_loopS (stOf := fun v25 => ⟨119, [(1, (.ref 1 0 0)), (6, (fI (v22))), (8, (fI (v25)))], (synthesisref11_Check_m0 a0), [1]⟩) (Qb := fun j e st => Sum.elim (fun p => e = .exit 8 ∧ LeSt st ⟨119, [(1, (.ref 1 0 0)), (6, (fI (v22)))], (synthesisref11_Check_m0 a0), [1]⟩) (fun p => e = .ret ∧ retX TT st Try.f89.results.toList [.one .keep] = some (eI (p))) j) hj (le_ck (by kernel_rfl)) ?_
              clear hj h
              intro v25 r h
              unfold synthesisref11_Check_l2 at h
              refine awp_seq ?_
              refine awp_seq ?_
              refine awp_region ?_
              refine l_rk 3 tt_ok ⟨119, [(1, (.ref 1 0 0)), (6, (fI (v22))), (8, (fI (v25))), (105, (fB ((decide (v25 < v22)))))], (synthesisref11_Check_m0 a0), [1]⟩ (by kernel_rfl) ?_
              refine l_nil ?_
              rcases cond_some h with ⟨hb, h⟩ | ⟨hb, h⟩
              ·refine awp_cond_t (b := (decide (v25 < v22))) (by kernel_rfl) hb ?_
               refine awp_skip ?_
               refine awp_seq ?_
               refine awp_block ?_
               refine awp_seq ?_
               obtain ⟨v26, hv26, h⟩ := Option.bind_eq_some_iff.1 h
               obtain ⟨v27, hv27, h⟩ := Option.bind_eq_some_iff.1 h
               refine awp_drawn (by kernel_rfl) [(.ref 1 0 3), (.fz ((eL 9 eRu) (a0.rules))), (fI (v25)), (.fz (.fp [(eI (v26.symbol)), (eI (v26.kind)), (eI (v26.input)), (eI (v26.const.type)), (eI (v26.const.num)), (eS (v26.const.text)), ((eL 4 eVaR) (v26.const.items)), (eS (v26.op)), ((eL 1 eI) (v26.args))])), (.fz (eRu (v26))), (.ref 1 0 3), (.fz ((eL 9 eRu) (a0.rules))), (fI (v22)), (.fz (.fp [(eI (v27.symbol)), (eI (v27.kind)), (eI (v27.input)), (eI (v27.const.type)), (eI (v27.const.num)), (eS (v27.const.text)), ((eL 4 eVaR) (v27.const.items)), (eS (v27.op)), ((eL 1 eI) (v27.args))])), (.fz (eRu (v27)))] (by kernel_rfl) ?_
               refine ⟨.inl ⟨by kernel_rfl, (nstep_ok tt_ok (by kernel_rfl))⟩, ?_⟩
               refine ⟨.inl ⟨by kernel_rfl, (nstep_ok tt_ok (by kernel_rfl))⟩, ?_⟩
               refine ⟨.inl ⟨by kernel_rfl, (nstep_ok tt_ok (by kernel_rfl))⟩, ?_⟩
               refine ⟨.inl ⟨by kernel_rfl, (s_index (k := .i64) (d := tt25) (e := 67) (de := tt67) (enc := eRu) hv26 tt_ok rfl (by kernel_rfl) (by kernel_rfl) (by kernel_rfl) (by kernel_rfl) len_eRu (by kernel_rfl) rfl)⟩, ?_⟩
               refine ⟨.inl ⟨by kernel_rfl, (nstep_ok tt_ok (by kernel_rfl))⟩, ?_⟩
               refine ⟨.inl ⟨by kernel_rfl, (nstep_ok tt_ok (by kernel_rfl))⟩, ?_⟩
               refine ⟨.inl ⟨by kernel_rfl, (nstep_ok tt_ok (by kernel_rfl))⟩, ?_⟩
               refine ⟨.inl ⟨by kernel_rfl, (nstep_ok tt_ok (by kernel_rfl))⟩, ?_⟩
               refine ⟨.inl ⟨by kernel_rfl, (s_index (k := .i64) (d := tt25) (e := 67) (de := tt67) (enc := eRu) hv27 tt_ok rfl (by kernel_rfl) (by kernel_rfl) (by kernel_rfl) (by kernel_rfl) len_eRu (by kernel_rfl) rfl)⟩, ?_⟩
               refine ⟨.inl ⟨by kernel_rfl, (nstep_ok tt_ok (by kernel_rfl))⟩, ?_⟩
               refine l_rk 0 tt_ok ⟨119, [(1, (.ref 1 0 0)), (6, (fI (v22))), (8, (fI (v25))), (112, (.fz (eRu (v26)))), (117, (.fz (eRu (v27))))], (synthesisref11_Check_m0 a0), [1]⟩ (by kernel_rfl) ?_
               obtain ⟨v28, hv28, h⟩ := Option.bind_eq_some_iff.1 h
               refine l_step ((n_call (ys := [eRu (v26), eRu (v27)]) (cs := [(.one .keep), (.one .keep)]) rfl (by kernel_rfl) (synthesisref11_SameRule_ok (v26) (v27) _ hv28)).step) (by kernel_rfl) (dst_of (by kernel_rfl)) ?_
               refine l_nil ?_
               rcases cond_some h with ⟨hb, h⟩ | ⟨hb, h⟩
               ·refine awp_cond_t (b := v28) (by kernel_rfl) hb ?_
                refine awp_seq ?_
                refine awp_region ?_
                refine l_rk 1 tt_ok ⟨119, [(2, (fI (6)))], [], []⟩ (by kernel_rfl) ?_
                refine l_nil ?_
                refine awp_ret ?_
                obtain rfl := Option.some.inj h
                exact And.intro (And.intro (fun h => nomatch h) (fun h => nomatch h)) (And.intro rfl (show retX _ _ _ _ = some _ from by kernel_rfl))
               ·refine awp_cond_f (b := v28) (by kernel_rfl) hb ?_
                refine awp_skip ?_
                refine awp_region ?_
                refine l_rk 3 tt_ok ⟨119, [(1, (.ref 1 0 0)), (6, (fI (v22))), (8, (fI ((w64 (v25 + 1)))))], (synthesisref11_Check_m0 a0), [1]⟩ (by kernel_rfl) ?_
                refine l_nil ?_
                obtain rfl := Option.some.inj h
                exact And.intro rfl (le_ck (by kernel_rfl))
              ·refine awp_cond_f (b := (decide (v25 < v22))) (by kernel_rfl) hb ?_
               refine awp_exit ?_
               obtain rfl := Option.some.inj h
               exact And.intro (And.intro (fun h => nomatch h) (fun h => nomatch h)) (And.intro rfl (le_ck (by kernel_rfl)))
             ·clear hj
              intro e st' hq
              rcases v29 with v30 | v31
              ·try simp only [Sum.elim_inl, Sum.elim_inr] at h
               obtain ⟨rfl, hle⟩ := hq
               refine ⟨_, hle, ?_⟩
               refine awp_region ?_
               refine l_rk 3 tt_ok ⟨119, [(1, (.ref 1 0 0)), (6, (fI ((w64 (v22 + 1)))))], (synthesisref11_Check_m0 a0), [1]⟩ (by kernel_rfl) ?_
               refine l_nil ?_
               obtain rfl := Option.some.inj h
               exact And.intro rfl (le_ck (by kernel_rfl))
              ·try simp only [Sum.elim_inl, Sum.elim_inr] at h
               obtain ⟨rfl, hret⟩ := hq
               refine ⟨_, LeSt.refl, ?_⟩
               obtain rfl := Option.some.inj h
               exact And.intro (And.intro (fun h => nomatch h) (fun h => nomatch h)) (And.intro rfl hret)
           ·refine awp_cond_f (b := (decide (v22 < (List.length a0.rules : Int)))) (by kernel_rfl) hb ?_
            refine awp_exit ?_
            obtain rfl := Option.some.inj h
            exact And.intro (And.intro (fun h => nomatch h) (fun h => nomatch h)) (And.intro rfl (le_ck (by kernel_rfl)))
          ·clear hj
           intro e st' hq
           rcases v32 with v33 | v34
           ·try simp only [Sum.elim_inl, Sum.elim_inr] at h
            obtain ⟨rfl, hle⟩ := hq
            refine ⟨_, hle, ?_⟩
            refine awp_seq ?_
            refine awp_region ?_
            refine l_rk 1 tt_ok ⟨119, [(2, (fI (0)))], [], []⟩ (by kernel_rfl) ?_
            refine l_nil ?_
            refine awp_ret ?_
            obtain rfl := Option.some.inj h
            exact (show retX _ _ _ _ = some _ from by kernel_rfl)
           ·try simp only [Sum.elim_inl, Sum.elim_inr] at h
            obtain ⟨rfl, hret⟩ := hq
            refine ⟨_, LeSt.refl, ?_⟩
            obtain rfl := Option.some.inj h
            exact hret
        ·try simp only [Sum.elim_inl, Sum.elim_inr] at h
         obtain ⟨rfl, hret⟩ := hq
         refine ⟨_, LeSt.refl, ?_⟩
         obtain rfl := Option.some.inj h
         exact hret
    ·try simp only [Sum.elim_inl, Sum.elim_inr] at h
     obtain ⟨rfl, hret⟩ := hq
     refine ⟨_, LeSt.refl, ?_⟩
     obtain rfl := Option.some.inj h
     exact hret

def synthesisref13_Depth_m0 (a0 : Tm) : List (Nat × AObj) := [(1, (.box 42 [(fI (a0.rule)), (.fz ((eL 2 eTmR) (a0.args)))]))]
def synthesisref13_Depth_l1 (a0 : Tm) (r90 : (Tm) → Option (Int)) (v1 : (Int) × (Int)) : Option (((Int) × (Int)) ⊕ ((Int))) := (bif (decide (v1.2 < (List.length a0.args : Int))) then (Option.bind (idx a0.args v1.2) fun v2 => (Option.bind (r90 (v2)) fun v3 => (some (.inl ((imax v1.1 v3), (w64 (v1.2 + 1))))))) else (some (.inr (v1.1))))
def synthesisref13_Depth_b (r90 : (Tm) → Option (Int)) (a0 : Tm) : Option (Int) := (Option.bind (loopN (synthesisref13_Depth_l1 a0 r90) fuel (0, 0)) fun (v5 : (Int)) => (some (w64 (v5 + 1))))
theorem synthesisref13_Depth_b_ok (r90 : (Tm) → Option (Int)) (ih90 : ∀ (x0 : Tm) r, r90 x0 = some r → PCall Try.prog 90 [eTm x0] (eI (r))) (a0 : Tm) (r : Int) (h : synthesisref13_Depth_b r90 a0 = some r) : PCall Try.prog 90 [eTm a0] (eI (r)) := by
 unfold synthesisref13_Depth_b at h
 refine pcall_intro (T := TT) tt_ok [.one .keep] Try.func90 rfl (by kernel_rfl) (by kernel_rfl) ?_
 refine awp_le (st' := ⟨22, [(0, (.fz (eTm (a0))))], [], []⟩) (le_ck (by kernel_rfl)) ?_
 refine awp_seq ?_
 refine awp_region ?_
 refine l_rk 2 tt_ok ⟨22, [(1, (.ref 1 0 0))], (synthesisref13_Depth_m0 a0), [1]⟩ (by kernel_rfl) ?_
 refine l_nil ?_
 refine awp_seq ?_
 refine awp_region ?_
 refine l_rk 1 tt_ok ⟨22, [(1, (.ref 1 0 0)), (3, (fI (0)))], (synthesisref13_Depth_m0 a0), [1]⟩ (by kernel_rfl) ?_
 refine l_nil ?_
 refine awp_seq ?_
 refine awp_seq ?_
 refine awp_region ?_
 refine l_rk 1 tt_ok ⟨22, [(1, (.ref 1 0 0)), (3, (fI (0))), (4, (fI (0)))], (synthesisref13_Depth_m0 a0), [1]⟩ (by kernel_rfl) ?_
 refine l_nil ?_
 refine awp_block ?_
 obtain ⟨v5, hj, h⟩ := Option.bind_eq_some_iff.1 h
 refine awp_join (Qa := fun e st => e = .exit 0 ∧ LeSt st ⟨22, [(3, (fI (v5)))], [], []⟩) ?_ ?_
 ·refine awp_loopS (stOf := fun v1 => ⟨22, [(1, (.ref 1 0 0)), (3, (fI (v1.1))), (4, (fI (v1.2)))], (synthesisref13_Depth_m0 a0), [1]⟩) (Qb := fun j e st => e = .exit 0 ∧ LeSt st ⟨22, [(3, (fI (j)))], [], []⟩) hj (le_ck (by kernel_rfl)) ?_
  clear hj h
  intro v1 r h
  unfold synthesisref13_Depth_l1 at h
  refine awp_seq ?_
  refine awp_seq ?_
  refine awp_region ?_
  refine l_rk 5 tt_ok ⟨22, [(1, (.ref 1 0 0)), (3, (fI (v1.1))), (4, (fI (v1.2))), (9, (fB ((decide (v1.2 < (List.length a0.args : Int))))))], (synthesisref13_Depth_m0 a0), [1]⟩ (by kernel_rfl) ?_
  refine l_nil ?_
  rcases cond_some h with ⟨hb, h⟩ | ⟨hb, h⟩
  ·refine awp_cond_t (b := (decide (v1.2 < (List.length a0.args : Int)))) (by kernel_rfl) hb ?_
   refine awp_skip ?_
   refine awp_seq ?_
   refine awp_block ?_
   refine awp_region ?_
   refine l_rk 4 tt_ok ⟨22, [(1, (.ref 1 0 0)), (4, (fI (v1.2))), (12, (fI (v1.1))), (14, (.fz ((eL 2 eTmR) (a0.args)))), (15, (fI (v1.2)))], (synthesisref13_Depth_m0 a0), [1]⟩ (by kernel_rfl) ?_
   obtain ⟨v2, hv2, h⟩ := Option.bind_eq_some_iff.1 h
   refine l_step ((s_index (k := .i64) (d := tt40) (e := 42) (de := tt42) (enc := eTmR) hv2 tt_ok rfl (by kernel_rfl) (by kernel_rfl) (by kernel_rfl) (by kernel_rfl) len_eTmR (by kernel_rfl) (cells_eTmR v2)).step) (by kernel_rfl) (dst_of (by kernel_rfl)) ?_
   refine l_rk 1 tt_ok ⟨22, [(1, (.ref 1 0 0)), (4, (fI (v1.2))), (12, (fI (v1.1))), (17, (.fz (eTm (v2))))], (synthesisref13_Depth_m0 a0), [1]⟩ (by kernel_rfl) ?_
   obtain ⟨v3, hv3, h⟩ := Option.bind_eq_some_iff.1 h
   refine l_step ((n_call (ys := [eTm (v2)]) (cs := [(.one .keep)]) rfl (by kernel_rfl) (ih90 (v2) _ hv3)).step) (by kernel_rfl) (dst_of (by kernel_rfl)) ?_
   refine l_step ((s_max (k := .i64) (k' := .i64) (m := v1.1) (n := v3) rfl (by kernel_rfl) (by kernel_rfl)).step) (by kernel_rfl) (dst_of (by kernel_rfl)) ?_
   refine l_rk 1 tt_ok ⟨22, [(1, (.ref 1 0 0)), (3, (fI ((imax v1.1 v3)))), (4, (fI (v1.2)))], (synthesisref13_Depth_m0 a0), [1]⟩ (by kernel_rfl) ?_
   refine l_nil ?_
   refine awp_region ?_
   refine l_rk 3 tt_ok ⟨22, [(1, (.ref 1 0 0)), (3, (fI ((imax v1.1 v3)))), (4, (fI ((w64 (v1.2 + 1)))))], (synthesisref13_Depth_m0 a0), [1]⟩ (by kernel_rfl) ?_
   refine l_nil ?_
   obtain rfl := Option.some.inj h
   exact And.intro rfl (le_ck (by kernel_rfl))
  ·refine awp_cond_f (b := (decide (v1.2 < (List.length a0.args : Int)))) (by kernel_rfl) hb ?_
   refine awp_exit ?_
   obtain rfl := Option.some.inj h
   exact And.intro (And.intro (fun h => nomatch h) (fun h => nomatch h)) (And.intro rfl (le_ck (by kernel_rfl)))
 ·clear hj
  intro e st' hq
  obtain ⟨rfl, hle⟩ := hq
  refine ⟨_, hle, ?_⟩
  refine awp_seq ?_
  refine awp_region ?_
  refine l_rk 3 tt_ok ⟨22, [(2, (fI ((w64 (v5 + 1)))))], [], []⟩ (by kernel_rfl) ?_
  refine l_nil ?_
  refine awp_ret ?_
  obtain rfl := Option.some.inj h
  exact (show retX _ _ _ _ = some _ from by kernel_rfl)
def synthesisref13_Depth : Nat → (Tm) → Option (Int)
  | 0 => fun _ => none
  | n + 1 => synthesisref13_Depth_b (synthesisref13_Depth n)
theorem synthesisref13_Depth_ok : ∀ (n : Nat) (x0 : Tm) r, synthesisref13_Depth n x0 = some r → PCall Try.prog 90 [eTm x0] (eI (r))
  | 0, _, _, h => by cases h
  | n + 1, x0, r, h => synthesisref13_Depth_b_ok (synthesisref13_Depth n) (synthesisref13_Depth_ok n) x0 r h

def synthesisref13_Arity_m0 (a0 : Ru) : List (Nat × AObj) := [(1, (.box 67 [(fI (a0.symbol)), (fI (a0.kind)), (fI (a0.input)), (fI (a0.const.type)), (fI (a0.const.num)), (fS (a0.const.text)), (.fz ((eL 4 eVaR) (a0.const.items))), (fS (a0.op)), (.fz ((eL 1 eI) (a0.args)))]))]
def synthesisref13_Arity (a0 : Ru) : Option (Int) := (bif (a0.kind != 3) then (some 0) else (some (List.length a0.args : Int)))
theorem synthesisref13_Arity_ok (a0 : Ru) (r : Int) (h : synthesisref13_Arity a0 = some r) : PCall Try.prog 152 [eRu a0] (eI (r)) := by
 unfold synthesisref13_Arity at h
 refine pcall_intro (T := TT) tt_ok [.one .keep] Try.func152 rfl (by kernel_rfl) (by kernel_rfl) ?_
 refine awp_le (st' := ⟨9, [(0, (.fz (eRu (a0))))], [], []⟩) (le_ck (by kernel_rfl)) ?_
 refine awp_seq ?_
 refine awp_region ?_
 refine l_rk 2 tt_ok ⟨9, [(1, (.ref 1 0 0))], (synthesisref13_Arity_m0 a0), [1]⟩ (by kernel_rfl) ?_
 refine l_nil ?_
 refine awp_seq ?_
 refine awp_seq ?_
 refine awp_region ?_
 refine l_rk 3 tt_ok ⟨9, [(1, (.ref 1 0 0)), (5, (fB ((a0.kind != 3))))], (synthesisref13_Arity_m0 a0), [1]⟩ (by kernel_rfl) ?_
 refine l_nil ?_
 rcases cond_some h with ⟨hb, h⟩ | ⟨hb, h⟩
 ·refine awp_cond_t (b := (a0.kind != 3)) (by kernel_rfl) hb ?_
  refine awp_seq ?_
  refine awp_region ?_
  refine l_rk 1 tt_ok ⟨9, [(2, (fI (0)))], [], []⟩ (by kernel_rfl) ?_
  refine l_nil ?_
  refine awp_ret ?_
  obtain rfl := Option.some.inj h
  exact (show retX _ _ _ _ = some _ from by kernel_rfl)
 ·refine awp_cond_f (b := (a0.kind != 3)) (by kernel_rfl) hb ?_
  refine awp_skip ?_
  refine awp_seq ?_
  refine awp_region ?_
  refine l_rk 4 tt_ok ⟨9, [(2, (fI ((List.length a0.args : Int))))], [], []⟩ (by kernel_rfl) ?_
  refine l_nil ?_
  refine awp_ret ?_
  obtain rfl := Option.some.inj h
  exact (show retX _ _ _ _ = some _ from by kernel_rfl)

def synthesisref13_fits_m0 (a0 : La) (a2 : Tm) (v3 : Ru) : List (Nat × AObj) := [(1, (.box 27 [(fS (a0.name)), (.fz ((eL 1 eI) (a0.inputs))), (.fz ((eL 2 eSy) (a0.symbols))), (.fz ((eL 9 eRu) (a0.rules)))])), (2, (.box 42 [(fI (a2.rule)), (.fz ((eL 2 eTmR) (a2.args)))])), (3, (.box 67 [(fI (v3.symbol)), (fI (v3.kind)), (fI (v3.input)), (fI (v3.const.type)), (fI (v3.const.num)), (fS (v3.const.text)), (.fz ((eL 4 eVaR) (v3.const.items))), (fS (v3.op)), (.fz ((eL 1 eI) (v3.args)))]))]
def synthesisref13_fits_m1 (a0 : La) (a2 : Tm) : List (Nat × AObj) := [(1, (.box 27 [(fS (a0.name)), (.fz ((eL 1 eI) (a0.inputs))), (.fz ((eL 2 eSy) (a0.symbols))), (.fz ((eL 9 eRu) (a0.rules)))])), (2, (.box 42 [(fI (a2.rule)), (.fz ((eL 2 eTmR) (a2.args)))]))]
def synthesisref13_fits_l1 (a0 : La) (a2 : Tm) (r91 : (La) → (Int) → (Tm) → Option (Int)) (v3 : Ru) (v5 : (Int)) : Option (((Int)) ⊕ (((Unit) ⊕ (Int)))) := (bif (decide (v5 < (List.length a2.args : Int))) then (Option.bind (idx v3.args v5) fun v6 => (Option.bind (idx a2.args v5) fun v7 => (Option.bind (r91 (a0) (v6) (v7)) fun v8 => (bif (v8 != 0) then (some (.inr (.inr v8))) else (some (.inl ((w64 (v5 + 1))))))))) else (some (.inr (.inl ()))))
def synthesisref13_fits_b (r91 : (La) → (Int) → (Tm) → Option (Int)) (a0 : La) (a1 : Int) (a2 : Tm) : Option (Int) := (Option.bind ((bif (decide (a2.rule < 0)) then (some (true)) else (some ((decide ((List.length a0.rules : Int) ≤ a2.rule))))) : Option ((Bool))) fun (v2 : (Bool)) => (bif v2 then (some 1) else (Option.bind (idx a0.rules a2.rule) fun v3 => (bif (v3.symbol != a1) then (some 3) else (Option.bind (synthesisref13_Arity (v3)) fun v4 => (bif ((List.length a2.args : Int) != v4) then (some 4) else (Option.bind (loopN (synthesisref13_fits_l1 a0 a2 r91 v3) fuel (0)) fun (v9 : ((Unit) ⊕ (Int))) => Sum.elim (fun v10 => (some 0)) (fun v11 => (some v11)) v9)))))))
theorem synthesisref13_fits_b_ok (r91 : (La) → (Int) → (Tm) → Option (Int)) (ih91 : ∀ (x0 : La) (x1 : Int) (x2 : Tm) r, r91 x0 x1 x2 = some r → PCall Try.prog 91 [eLa x0, eI x1, eTm x2] (eI (r))) (a0 : La) (a1 : Int) (a2 : Tm) (r : Int) (h : synthesisref13_fits_b r91 a0 a1 a2 = some r) : PCall Try.prog 91 [eLa a0, eI a1, eTm a2] (eI (r)) := by
 unfold synthesisref13_fits_b at h
 refine pcall_intro (T := TT) tt_ok [.one .keep] Try.func91 rfl (by kernel_rfl) (by kernel_rfl) ?_
 refine awp_le (st' := ⟨59, [(0, (.fz (eLa (a0)))), (1, (fI (a1))), (2, (.fz (eTm (a2))))], [], []⟩) (le_ck (by kernel_rfl)) ?_
 refine awp_seq ?_
 refine awp_region ?_
 refine l_rk 3 tt_ok ⟨59, [(1, (fI (a1))), (3, (.ref 1 0 0)), (5, (.ref 2 0 0))], (synthesisref13_fits_m1 a0 a2), [2, 1]⟩ (by kernel_rfl) ?_
 refine l_nil ?_
 refine awp_seq ?_
 refine awp_seq ?_
 obtain ⟨v2, hj, h⟩ := Option.bind_eq_some_iff.1 h
 refine awp_join (Qa := fun e st => e = .normal ∧ LeSt st ⟨59, [(1, (fI (a1))), (3, (.ref 1 0 0)), (5, (.ref 2 0 0)), (20, (fB (v2)))], (synthesisref13_fits_m1 a0 a2), [2, 1]⟩) ?_ ?_
 ·replace h := hj
  clear hj
  refine awp_region ?_
  refine l_rk 4 tt_ok ⟨59, [(1, (fI (a1))), (3, (.ref 1 0 0)), (5, (.ref 2 0 0)), (13, (fB ((decide (a2.rule < 0)))))], (synthesisref13_fits_m1 a0 a2), [2, 1]⟩ (by kernel_rfl) ?_
  rcases cond_some h with ⟨hb, h⟩ | ⟨hb, h⟩
  ·refine l_le (le_eq (t := 13) (x := .fz (eB (decide (a2.rule < 0)))) (y := .fz (eB true)) (by kernel_rfl) (congrArg (fun b => AV.fz (eB b)) hb)) ?_
   refine l_rk 7 tt_ok ⟨59, [(1, (fI (a1))), (3, (.ref 1 0 0)), (5, (.ref 2 0 0)), (20, (fB (true)))], (synthesisref13_fits_m1 a0 a2), [2, 1]⟩ (by kernel_rfl) ?_
   refine l_nil ?_
   obtain rfl := Option.some.inj h
   exact And.intro rfl (le_ck (by kernel_rfl))
  ·refine l_le (le_eq (t := 13) (x := .fz (eB (decide (a2.rule < 0)))) (y := .fz (eB false)) (by kernel_rfl) (congrArg (fun b => AV.fz (eB b)) hb)) ?_
   refine l_rk 7 tt_ok ⟨59, [(1, (fI (a1))), (3, (.ref 1 0 0)), (5, (.ref 2 0 0)), (20, (fB ((decide ((List.length a0.rules : Int) ≤ a2.rule)))))], (synthesisref13_fits_m1 a0 a2), [2, 1]⟩ (by kernel_rfl) ?_
   refine l_nil ?_
   obtain rfl := Option.some.inj h
   exact And.intro rfl (le_ck (by kernel_rfl))
 ·clear hj
  intro e st' hq
  obtain ⟨rfl, hle⟩ := hq
  refine ⟨_, hle, ?_⟩
  rcases cond_some h with ⟨hb, h⟩ | ⟨hb, h⟩
  ·refine awp_cond_t (b := v2) (by kernel_rfl) hb ?_
   refine awp_seq ?_
   refine awp_region ?_
   refine l_rk 1 tt_ok ⟨59, [(6, (fI (1)))], [], []⟩ (by kernel_rfl) ?_
   refine l_nil ?_
   refine awp_ret ?_
   obtain rfl := Option.some.inj h
   exact (show retX _ _ _ _ = some _ from by kernel_rfl)
  ·refine awp_cond_f (b := v2) (by kernel_rfl) hb ?_
   refine awp_skip ?_
   refine awp_seq ?_
   refine awp_region ?_
   refine l_rk 4 tt_ok ⟨59, [(1, (fI (a1))), (3, (.ref 1 0 0)), (5, (.ref 2 0 0)), (22, (.fz ((eL 9 eRu) (a0.rules)))), (24, (fI (a2.rule)))], (synthesisref13_fits_m1 a0 a2), [2, 1]⟩ (by kernel_rfl) ?_
   obtain ⟨v3, hv3, h⟩ := Option.bind_eq_some_iff.1 h
   refine l_step ((s_index (k := .i64) (d := tt25) (e := 67) (de := tt67) (enc := eRu) hv3 tt_ok rfl (by kernel_rfl) (by kernel_rfl) (by kernel_rfl) (by kernel_rfl) len_eRu (by kernel_rfl) rfl).step) (by kernel_rfl) (dst_of (by kernel_rfl)) ?_
   refine l_rk 3 tt_ok ⟨59, [(1, (fI (a1))), (3, (.ref 1 0 0)), (5, (.ref 2 0 0)), (7, (.ref 3 0 0))], (synthesisref13_fits_m0 a0 a2 v3), [3, 2, 1]⟩ (by kernel_rfl) ?_
   refine l_nil ?_
   refine awp_seq ?_
   refine awp_seq ?_
   refine awp_region ?_
   refine l_rk 4 tt_ok ⟨59, [(3, (.ref 1 0 0)), (5, (.ref 2 0 0)), (7, (.ref 3 0 0)), (30, (fB ((v3.symbol != a1))))], (synthesisref13_fits_m0 a0 a2 v3), [3, 2, 1]⟩ (by kernel_rfl) ?_
   refine l_nil ?_
   rcases cond_some h with ⟨hb, h⟩ | ⟨hb, h⟩
   ·refine awp_cond_t (b := (v3.symbol != a1)) (by kernel_rfl) hb ?_
    refine awp_seq ?_
    refine awp_region ?_
    refine l_rk 1 tt_ok ⟨59, [(6, (fI (3)))], [], []⟩ (by kernel_rfl) ?_
    refine l_nil ?_
    refine awp_ret ?_
    obtain rfl := Option.some.inj h
    exact (show retX _ _ _ _ = some _ from by kernel_rfl)
   ·refine awp_cond_f (b := (v3.symbol != a1)) (by kernel_rfl) hb ?_
    refine awp_skip ?_
    refine awp_seq ?_
    refine awp_seq ?_
    obtain ⟨v4, hv4, h⟩ := Option.bind_eq_some_iff.1 h
    refine awp_drawn (by kernel_rfl) [(.ref 2 0 1), (.fz ((eL 2 eTmR) (a2.args))), (fI ((List.length a2.args : Int))), (.fz (eRu (v3))), (fI (v4))] (by kernel_rfl) ?_
    refine ⟨.inl ⟨by kernel_rfl, (nstep_ok tt_ok (by kernel_rfl))⟩, ?_⟩
    refine ⟨.inl ⟨by kernel_rfl, (nstep_ok tt_ok (by kernel_rfl))⟩, ?_⟩
    refine ⟨.inl ⟨by kernel_rfl, (nstep_ok tt_ok (by kernel_rfl))⟩, ?_⟩
    refine ⟨.inl ⟨by kernel_rfl, (nstep_ok tt_ok (by kernel_rfl))⟩, ?_⟩
    refine ⟨.inl ⟨by kernel_rfl, (n_call (ys := [eRu (v3)]) (cs := [(.one .keep)]) rfl (by kernel_rfl) (synthesisref13_Arity_ok (v3) _ hv4))⟩, ?_⟩
    refine l_rk 1 tt_ok ⟨59, [(3, (.ref 1 0 0)), (5, (.ref 2 0 0)), (7, (.ref 3 0 0)), (36, (fB (((List.length a2.args : Int) != v4))))], (synthesisref13_fits_m0 a0 a2 v3), [3, 2, 1]⟩ (by kernel_rfl) ?_
    refine l_nil ?_
    rcases cond_some h with ⟨hb, h⟩ | ⟨hb, h⟩
    ·refine awp_cond_t (b := ((List.length a2.args : Int) != v4)) (by kernel_rfl) hb ?_
     refine awp_seq ?_
     refine awp_region ?_
     refine l_rk 1 tt_ok ⟨59, [(6, (fI (4)))], [], []⟩ (by kernel_rfl) ?_
     refine l_nil ?_
     refine awp_ret ?_
     obtain rfl := Option.some.inj h
     exact (show retX _ _ _ _ = some _ from by kernel_rfl)
    ·refine awp_cond_f (b := ((List.length a2.args : Int) != v4)) (by kernel_rfl) hb ?_
     refine awp_skip ?_
     refine awp_seq ?_
     refine awp_seq ?_
     refine awp_region ?_
     refine l_rk 1 tt_ok ⟨59, [(3, (.ref 1 0 0)), (5, (.ref 2 0 0)), (7, (.ref 3 0 0)), (8, (fI (0)))], (synthesisref13_fits_m0 a0 a2 v3), [3, 2, 1]⟩ (by kernel_rfl) ?_
     refine l_nil ?_
     refine awp_block ?_
     obtain ⟨v9, hj, h⟩ := Option.bind_eq_some_iff.1 h
     refine awp_join (Qa := fun e st => Sum.elim (fun p => e = .exit 0 ∧ LeSt st ⟨59, [], [], []⟩) (fun p => e = .ret ∧ retX TT st Try.f91.results.toList [.one .keep] = some (eI (p))) v9) ?_ ?_
     ·refine awp_loopS (stOf := fun v5 => ⟨59, [(3, (.ref 1 0 0)), (5, (.ref 2 0 0)), (7, (.ref 3 0 0)), (8, (fI (v5)))], (synthesisref13_fits_m0 a0 a2 v3), [3, 2, 1]⟩) (Qb := fun j e st => Sum.elim (fun p => e = .exit 0 ∧ LeSt st ⟨59, [], [], []⟩) (fun p => e = .ret ∧ retX TT st Try.f91.results.toList [.one .keep] = some (eI (p))) j) hj (le_ck (by kernel_rfl)) ?_
      clear hj h
      intro v5 r h
      unfold synthesisref13_fits_l1 at h
      refine awp_seq ?_
      refine awp_seq ?_
      refine awp_region ?_
      refine l_rk 5 tt_ok ⟨59, [(3, (.ref 1 0 0)), (5, (.ref 2 0 0)), (7, (.ref 3 0 0)), (8, (fI (v5))), (41, (fB ((decide (v5 < (List.length a2.args : Int))))))], (synthesisref13_fits_m0 a0 a2 v3), [3, 2, 1]⟩ (by kernel_rfl) ?_
      refine l_nil ?_
      rcases cond_some h with ⟨hb, h⟩ | ⟨hb, h⟩
      ·refine awp_cond_t (b := (decide (v5 < (List.length a2.args : Int)))) (by kernel_rfl) hb ?_
       refine awp_skip ?_
       refine awp_seq ?_
       refine awp_block ?_
       refine awp_seq ?_
       obtain ⟨v6, hv6, h⟩ := Option.bind_eq_some_iff.1 h
       obtain ⟨v7, hv7, h⟩ := Option.bind_eq_some_iff.1 h
       refine awp_drawn (by kernel_rfl) [(.fz (eLa (a0))), (.ref 3 0 8), (.fz ((eL 1 eI) (v3.args))), (fI (v5)), (.fz (.fp [(eI (v6))])), (fI (v6)), (.ref 2 0 1), (.fz ((eL 2 eTmR) (a2.args))), (fI (v5)), (.fz (.fp [(eI (v7.rule)), ((eL 2 eTmR) (v7.args))])), (.fz (eTm (v7)))] (by kernel_rfl) ?_
       refine ⟨.inl ⟨by kernel_rfl, (nstep_ok tt_ok (by kernel_rfl))⟩, ?_⟩
       refine ⟨.inl ⟨by kernel_rfl, (nstep_ok tt_ok (by kernel_rfl))⟩, ?_⟩
       refine ⟨.inl ⟨by kernel_rfl, (nstep_ok tt_ok (by kernel_rfl))⟩, ?_⟩
       refine ⟨.inl ⟨by kernel_rfl, (nstep_ok tt_ok (by kernel_rfl))⟩, ?_⟩
       refine ⟨.inl ⟨by kernel_rfl, (s_index (k := .i64) (d := tt23) (e := 3) (de := tt3) (enc := eI) hv6 tt_ok rfl (by kernel_rfl) (by kernel_rfl) (by kernel_rfl) (by kernel_rfl) len_eI (by kernel_rfl) rfl)⟩, ?_⟩
       refine ⟨.inl ⟨by kernel_rfl, (nstep_ok tt_ok (by kernel_rfl))⟩, ?_⟩
       refine ⟨.inl ⟨by kernel_rfl, (nstep_ok tt_ok (by kernel_rfl))⟩, ?_⟩
       refine ⟨.inl ⟨by kernel_rfl, (nstep_ok tt_ok (by kernel_rfl))⟩, ?_⟩
       refine ⟨.inl ⟨by kernel_rfl, (nstep_ok tt_ok (by kernel_rfl))⟩, ?_⟩
       refine ⟨.inl ⟨by kernel_rfl, (s_index (k := .i64) (d := tt40) (e := 42) (de := tt42) (enc := eTmR) hv7 tt_ok rfl (by kernel_rfl) (by kernel_rfl) (by kernel_rfl) (by kernel_rfl) len_eTmR (by kernel_rfl) (cells_eTmR v7))⟩, ?_⟩
       refine ⟨.inl ⟨by kernel_rfl, (nstep_ok tt_ok (by kernel_rfl))⟩, ?_⟩
       refine l_rk 0 tt_ok ⟨59, [(3, (.ref 1 0 0)), (5, (.ref 2 0 0)), (7, (.ref 3 0 0)), (8, (fI (v5))), (44, (.fz (eLa (a0)))), (49, (fI (v6))), (54, (.fz (eTm (v7))))], (synthesisref13_fits_m0 a0 a2 v3), [3, 2, 1]⟩ (by kernel_rfl) ?_
       obtain ⟨v8, hv8, h⟩ := Option.bind_eq_some_iff.1 h
       refine l_step ((n_call (ys := [eLa (a0), eI (v6), eTm (v7)]) (cs := [(.one .keep), (.one (.keep)), (.one .keep)]) rfl (by kernel_rfl) (ih91 (a0) (v6) (v7) _ hv8)).step) (by kernel_rfl) (dst_of (by kernel_rfl)) ?_
       refine l_rk 1 tt_ok ⟨59, [(3, (.ref 1 0 0)), (5, (.ref 2 0 0)), (7, (.ref 3 0 0)), (8, (fI (v5))), (9, (fI (v8)))], (synthesisref13_fits_m0 a0 a2 v3), [3, 2, 1]⟩ (by kernel_rfl) ?_
       refine l_nil ?_
       refine awp_seq ?_
       refine awp_region ?_
       refine l_rk 2 tt_ok ⟨59, [(3, (.ref 1 0 0)), (5, (.ref 2 0 0)), (7, (.ref 3 0 0)), (8, (fI (v5))), (9, (fI (v8))), (57, (fB ((v8 != 0))))], (synthesisref13_fits_m0 a0 a2 v3), [3, 2, 1]⟩ (by kernel_rfl) ?_
       refine l_nil ?_
       rcases cond_some h with ⟨hb, h⟩ | ⟨hb, h⟩
       ·refine awp_cond_t (b := (v8 != 0)) (by kernel_rfl) hb ?_
        refine awp_seq ?_
        refine awp_region ?_
        refine l_rk 2 tt_ok ⟨59, [(6, (fI (v8)))], [], []⟩ (by kernel_rfl) ?_
        refine l_nil ?_
        refine awp_ret ?_
        obtain rfl := Option.some.inj h
        exact And.intro (And.intro (fun h => nomatch h) (fun h => nomatch h)) (And.intro rfl (show retX _ _ _ _ = some _ from by kernel_rfl))
       ·refine awp_cond_f (b := (v8 != 0)) (by kernel_rfl) hb ?_
        refine awp_skip ?_
        refine awp_region ?_
        refine l_rk 3 tt_ok ⟨59, [(3, (.ref 1 0 0)), (5, (.ref 2 0 0)), (7, (.ref 3 0 0)), (8, (fI ((w64 (v5 + 1)))))], (synthesisref13_fits_m0 a0 a2 v3), [3, 2, 1]⟩ (by kernel_rfl) ?_
        refine l_nil ?_
        obtain rfl := Option.some.inj h
        exact And.intro rfl (le_ck (by kernel_rfl))
      ·refine awp_cond_f (b := (decide (v5 < (List.length a2.args : Int)))) (by kernel_rfl) hb ?_
       refine awp_exit ?_
       obtain rfl := Option.some.inj h
       exact And.intro (And.intro (fun h => nomatch h) (fun h => nomatch h)) (And.intro rfl (le_ck (by kernel_rfl)))
     ·clear hj
      intro e st' hq
      rcases v9 with v10 | v11
      ·try simp only [Sum.elim_inl, Sum.elim_inr] at h
       obtain ⟨rfl, hle⟩ := hq
       refine ⟨_, hle, ?_⟩
       refine awp_seq ?_
       refine awp_region ?_
       refine l_rk 1 tt_ok ⟨59, [(6, (fI (0)))], [], []⟩ (by kernel_rfl) ?_
       refine l_nil ?_
       refine awp_ret ?_
       obtain rfl := Option.some.inj h
       exact (show retX _ _ _ _ = some _ from by kernel_rfl)
      ·try simp only [Sum.elim_inl, Sum.elim_inr] at h
       obtain ⟨rfl, hret⟩ := hq
       refine ⟨_, LeSt.refl, ?_⟩
       obtain rfl := Option.some.inj h
       exact hret
def synthesisref13_fits : Nat → (La) → (Int) → (Tm) → Option (Int)
  | 0 => fun _ _ _ => none
  | n + 1 => synthesisref13_fits_b (synthesisref13_fits n)
theorem synthesisref13_fits_ok : ∀ (n : Nat) (x0 : La) (x1 : Int) (x2 : Tm) r, synthesisref13_fits n x0 x1 x2 = some r → PCall Try.prog 91 [eLa x0, eI x1, eTm x2] (eI (r))
  | 0, _, _, _, _, h => by cases h
  | n + 1, x0, x1, x2, r, h => synthesisref13_fits_b_ok (synthesisref13_fits n) (synthesisref13_fits_ok n) x0 x1 x2 r h

def synthesisref13_Check_m0 (a0 : La) (a2 : Tm) : List (Nat × AObj) := [(1, (.box 27 [(fS (a0.name)), (.fz ((eL 1 eI) (a0.inputs))), (.fz ((eL 2 eSy) (a0.symbols))), (.fz ((eL 9 eRu) (a0.rules)))])), (2, (.box 42 [(fI (a2.rule)), (.fz ((eL 2 eTmR) (a2.args)))]))]
def synthesisref13_Check (a0 : La) (a1 : Int) (a2 : Tm) : Option (Int) := (Option.bind (synthesisref11_Check (a0)) fun v1 => (bif (v1 != 0) then (some v1) else (Option.bind ((bif (decide (a1 < 0)) then (some (true)) else (some ((decide ((List.length a0.symbols : Int) ≤ a1))))) : Option ((Bool))) fun (v3 : (Bool)) => (bif v3 then (some 1) else (Option.bind ((Option.bind (synthesisref13_Within (a2) (4096)) fun v4 => (bif (!v4) then (some (true)) else (Option.bind (synthesisref13_Depth fuel (a2)) fun v5 => (some ((decide (32 < v5))))))) : Option ((Bool))) fun (v7 : (Bool)) => (bif v7 then (some 2) else (Option.bind (synthesisref13_fits fuel (a0) (a1) (a2)) fun v8 => (some v8))))))))
theorem synthesisref13_Check_ok (a0 : La) (a1 : Int) (a2 : Tm) (r : Int) (h : synthesisref13_Check a0 a1 a2 = some r) : PCall Try.prog 37 [eLa a0, eI a1, eTm a2] (eI (r)) := by
 unfold synthesisref13_Check at h
 refine pcall_intro (T := TT) tt_ok [.one .keep] Try.func37 rfl (by kernel_rfl) (by kernel_rfl) ?_
 refine awp_le (st' := ⟨34, [(0, (.fz (eLa (a0)))), (1, (fI (a1))), (2, (.fz (eTm (a2))))], [], []⟩) (le_ck (by kernel_rfl)) ?_
 refine awp_seq ?_
 refine awp_region ?_
 refine l_rk 3 tt_ok ⟨34, [(1, (fI (a1))), (3, (.ref 1 0 0)), (5, (.ref 2 0 0))], (synthesisref13_Check_m0 a0 a2), [2, 1]⟩ (by kernel_rfl) ?_
 refine l_nil ?_
 refine awp_seq ?_
 refine awp_seq ?_
 refine awp_region ?_
 refine l_rk 1 tt_ok ⟨34, [(1, (fI (a1))), (3, (.ref 1 0 0)), (5, (.ref 2 0 0)), (8, (.fz (eLa (a0))))], (synthesisref13_Check_m0 a0 a2), [2, 1]⟩ (by kernel_rfl) ?_
 obtain ⟨v1, hv1, h⟩ := Option.bind_eq_some_iff.1 h
 refine l_step ((n_call (ys := [eLa (a0)]) (cs := [(.one .keep)]) rfl (by kernel_rfl) (synthesisref11_Check_ok (a0) _ hv1)).step) (by kernel_rfl) (dst_of (by kernel_rfl)) ?_
 refine l_rk 1 tt_ok ⟨34, [(1, (fI (a1))), (3, (.ref 1 0 0)), (5, (.ref 2 0 0)), (7, (fI (v1)))], (synthesisref13_Check_m0 a0 a2), [2, 1]⟩ (by kernel_rfl) ?_
 refine l_nil ?_
 refine awp_seq ?_
 refine awp_region ?_
 refine l_rk 2 tt_ok ⟨34, [(1, (fI (a1))), (3, (.ref 1 0 0)), (5, (.ref 2 0 0)), (7, (fI (v1))), (11, (fB ((v1 != 0))))], (synthesisref13_Check_m0 a0 a2), [2, 1]⟩ (by kernel_rfl) ?_
 refine l_nil ?_
 rcases cond_some h with ⟨hb, h⟩ | ⟨hb, h⟩
 ·refine awp_cond_t (b := (v1 != 0)) (by kernel_rfl) hb ?_
  refine awp_seq ?_
  refine awp_region ?_
  refine l_rk 2 tt_ok ⟨34, [(6, (fI (v1)))], [], []⟩ (by kernel_rfl) ?_
  refine l_nil ?_
  refine awp_ret ?_
  obtain rfl := Option.some.inj h
  exact (show retX _ _ _ _ = some _ from by kernel_rfl)
 ·refine awp_cond_f (b := (v1 != 0)) (by kernel_rfl) hb ?_
  refine awp_skip ?_
  refine awp_seq ?_
  refine awp_seq ?_
  obtain ⟨v3, hj, h⟩ := Option.bind_eq_some_iff.1 h
  refine awp_join (Qa := fun e st => e = .normal ∧ LeSt st ⟨34, [(1, (fI (a1))), (3, (.ref 1 0 0)), (5, (.ref 2 0 0)), (21, (fB (v3)))], (synthesisref13_Check_m0 a0 a2), [2, 1]⟩) ?_ ?_
  ·replace h := hj
   clear hj
   refine awp_region ?_
   refine l_rk 3 tt_ok ⟨34, [(1, (fI (a1))), (3, (.ref 1 0 0)), (5, (.ref 2 0 0)), (15, (fB ((decide (a1 < 0)))))], (synthesisref13_Check_m0 a0 a2), [2, 1]⟩ (by kernel_rfl) ?_
   rcases cond_some h with ⟨hb, h⟩ | ⟨hb, h⟩
   ·refine l_le (le_eq (t := 15) (x := .fz (eB (decide (a1 < 0)))) (y := .fz (eB true)) (by kernel_rfl) (congrArg (fun b => AV.fz (eB b)) hb)) ?_
    refine l_rk 6 tt_ok ⟨34, [(1, (fI (a1))), (3, (.ref 1 0 0)), (5, (.ref 2 0 0)), (21, (fB (true)))], (synthesisref13_Check_m0 a0 a2), [2, 1]⟩ (by kernel_rfl) ?_
    refine l_nil ?_
    obtain rfl := Option.some.inj h
    exact And.intro rfl (le_ck (by kernel_rfl))
   ·refine l_le (le_eq (t := 15) (x := .fz (eB (decide (a1 < 0)))) (y := .fz (eB false)) (by kernel_rfl) (congrArg (fun b => AV.fz (eB b)) hb)) ?_
    refine l_rk 6 tt_ok ⟨34, [(1, (fI (a1))), (3, (.ref 1 0 0)), (5, (.ref 2 0 0)), (21, (fB ((decide ((List.length a0.symbols : Int) ≤ a1)))))], (synthesisref13_Check_m0 a0 a2), [2, 1]⟩ (by kernel_rfl) ?_
    refine l_nil ?_
    obtain rfl := Option.some.inj h
    exact And.intro rfl (le_ck (by kernel_rfl))
  ·clear hj
   intro e st' hq
   obtain ⟨rfl, hle⟩ := hq
   refine ⟨_, hle, ?_⟩
   rcases cond_some h with ⟨hb, h⟩ | ⟨hb, h⟩
   ·refine awp_cond_t (b := v3) (by kernel_rfl) hb ?_
    refine awp_seq ?_
    refine awp_region ?_
    refine l_rk 1 tt_ok ⟨34, [(6, (fI (1)))], [], []⟩ (by kernel_rfl) ?_
    refine l_nil ?_
    refine awp_ret ?_
    obtain rfl := Option.some.inj h
    exact (show retX _ _ _ _ = some _ from by kernel_rfl)
   ·refine awp_cond_f (b := v3) (by kernel_rfl) hb ?_
    refine awp_skip ?_
    refine awp_seq ?_
    refine awp_seq ?_
    obtain ⟨v7, hj, h⟩ := Option.bind_eq_some_iff.1 h
    refine awp_join (Qa := fun e st => e = .normal ∧ LeSt st ⟨34, [(1, (fI (a1))), (3, (.ref 1 0 0)), (5, (.ref 2 0 0)), (29, (fB (v7)))], (synthesisref13_Check_m0 a0 a2), [2, 1]⟩) ?_ ?_
    ·replace h := hj
     clear hj
     refine awp_region ?_
     refine l_rk 1 tt_ok ⟨34, [(1, (fI (a1))), (3, (.ref 1 0 0)), (5, (.ref 2 0 0)), (22, (.fz (eTm (a2))))], (synthesisref13_Check_m0 a0 a2), [2, 1]⟩ (by kernel_rfl) ?_
     obtain ⟨v4, hv4, h⟩ := Option.bind_eq_some_iff.1 h
     refine l_step ((n_call (ys := [eTm (a2), eI (4096)]) (cs := [(.one .keep), (.one (.keep))]) rfl (by kernel_rfl) (synthesisref13_Within_ok (a2) (4096) _ hv4)).step) (by kernel_rfl) (dst_of (by kernel_rfl)) ?_
     refine l_rk 2 tt_ok ⟨34, [(1, (fI (a1))), (3, (.ref 1 0 0)), (5, (.ref 2 0 0)), (25, (fB ((!v4))))], (synthesisref13_Check_m0 a0 a2), [2, 1]⟩ (by kernel_rfl) ?_
     rcases cond_some h with ⟨hb, h⟩ | ⟨hb, h⟩
     ·refine l_le (le_eq (t := 25) (x := .fz (eB (!v4))) (y := .fz (eB true)) (by kernel_rfl) (congrArg (fun b => AV.fz (eB b)) hb)) ?_
      refine l_rk 4 tt_ok ⟨34, [(1, (fI (a1))), (3, (.ref 1 0 0)), (5, (.ref 2 0 0)), (29, (fB (true)))], (synthesisref13_Check_m0 a0 a2), [2, 1]⟩ (by kernel_rfl) ?_
      refine l_nil ?_
      obtain rfl := Option.some.inj h
      exact And.intro rfl (le_ck (by kernel_rfl))
     ·refine l_le (le_eq (t := 25) (x := .fz (eB (!v4))) (y := .fz (eB false)) (by kernel_rfl) (congrArg (fun b => AV.fz (eB b)) hb)) ?_
      refine l_rk 1 tt_ok ⟨34, [(1, (fI (a1))), (3, (.ref 1 0 0)), (5, (.ref 2 0 0)), (25, (fB (false))), (26, (.fz (eTm (a2))))], (synthesisref13_Check_m0 a0 a2), [2, 1]⟩ (by kernel_rfl) ?_
      obtain ⟨v5, hv5, h⟩ := Option.bind_eq_some_iff.1 h
      refine l_step ((n_call (ys := [eTm (a2)]) (cs := [(.one .keep)]) rfl (by kernel_rfl) (synthesisref13_Depth_ok fuel (a2) _ hv5)).step) (by kernel_rfl) (dst_of (by kernel_rfl)) ?_
      refine l_rk 2 tt_ok ⟨34, [(1, (fI (a1))), (3, (.ref 1 0 0)), (5, (.ref 2 0 0)), (29, (fB ((decide (32 < v5)))))], (synthesisref13_Check_m0 a0 a2), [2, 1]⟩ (by kernel_rfl) ?_
      refine l_nil ?_
      obtain rfl := Option.some.inj h
      exact And.intro rfl (le_ck (by kernel_rfl))
    ·clear hj
     intro e st' hq
     obtain ⟨rfl, hle⟩ := hq
     refine ⟨_, hle, ?_⟩
     rcases cond_some h with ⟨hb, h⟩ | ⟨hb, h⟩
     ·refine awp_cond_t (b := v7) (by kernel_rfl) hb ?_
      refine awp_seq ?_
      refine awp_region ?_
      refine l_rk 1 tt_ok ⟨34, [(6, (fI (2)))], [], []⟩ (by kernel_rfl) ?_
      refine l_nil ?_
      refine awp_ret ?_
      obtain rfl := Option.some.inj h
      exact (show retX _ _ _ _ = some _ from by kernel_rfl)
     ·refine awp_cond_f (b := v7) (by kernel_rfl) hb ?_
      refine awp_skip ?_
      refine awp_seq ?_
      refine awp_region ?_
      refine l_rk 3 tt_ok ⟨34, [(30, (.fz (eLa (a0)))), (31, (fI (a1))), (32, (.fz (eTm (a2))))], [], []⟩ (by kernel_rfl) ?_
      obtain ⟨v8, hv8, h⟩ := Option.bind_eq_some_iff.1 h
      refine l_step ((n_call (ys := [eLa (a0), eI (a1), eTm (a2)]) (cs := [(.one .keep), (.one (.keep)), (.one .keep)]) rfl (by kernel_rfl) (synthesisref13_fits_ok fuel (a0) (a1) (a2) _ hv8)).step) (by kernel_rfl) (dst_of (by kernel_rfl)) ?_
      refine l_rk 1 tt_ok ⟨34, [(6, (fI (v8)))], [], []⟩ (by kernel_rfl) ?_
      refine l_nil ?_
      refine awp_ret ?_
      obtain rfl := Option.some.inj h
      exact (show retX _ _ _ _ = some _ from by kernel_rfl)

def term_Rules_1_h (a0 : Tm) : Option (Unit) := (some ())
theorem term_Rules_1_h_ok (a0 : Tm) (r : Unit) (h : term_Rules_1_h a0 = some r) : HCall Try.prog 103 ([(.fz (eTm (a0)))] ++ []) [] [] (.ret (fI (a0.rule))) [] [] := by
 unfold term_Rules_1_h at h
 refine hcall_introQ (g := 0) tt_ok Try.func103 rfl (by kernel_rfl) (by kernel_rfl) (by kernel_rfl) (by kernel_rfl) (by kernel_rfl) (by kernel_rfl) (by kernel_rfl) ?_
 intro p0 q0 w0
 refine awp_le (st' := ⟨5, [(0, (.fz (eTm (a0))))], [(0, (.was p0 [] q0 w0))], [0]⟩) (le_ck (by kernel_rfl)) ?_
 refine awp_seq ?_
 refine awp_region ?_
 refine l_rk 2 tt_ok ⟨5, [(1, (.ref 1 0 0))], [(0, (.was p0 [] q0 w0)), (1, (.box 42 [(fI (a0.rule)), (.fz ((eL 2 eTmR) (a0.args)))]))], [1, 0]⟩ (by kernel_rfl) ?_
 refine l_nil ?_
 refine awp_seq ?_
 refine awp_region ?_
 refine l_rk 3 tt_ok ⟨5, [(2, (fI (a0.rule)))], [(0, (.was p0 [] q0 w0))], [0]⟩ (by kernel_rfl) ?_
 refine l_nil ?_
 refine awp_ret ?_
 obtain rfl := Option.some.inj h
 exact hQ_ret (st2 := ⟨5, [(2, (fI (a0.rule)))], [(0, (.was p0 [] q0 w0))], [0]⟩) (le_ck (by kernel_rfl)) rfl rfl (.inr rfl) (by kernel_rfl)

def term_collect_h2_m0 (p0 : Env) (q0 : Nat → Prop) (w0 : World) (a0 : List Int) (a1 : Tm) : List (Nat × AObj) := [(0, (.was p0 [1] q0 w0)), (1, (.frow 3 1 (List.map eI (a0)))), (2, (.box 42 [(fI (a1.rule)), (.fz ((eL 2 eTmR) (a1.args)))]))]
def term_collect_h2_l1 (a1 : Tm) (r6 : (List Int) → (Tm) → Option ((List Int))) (v3 : (Int) × (List Int)) : Option (((Int) × (List Int)) ⊕ ((List Int))) := (bif (decide (v3.1 < (List.length a1.args : Int))) then (Option.bind (idx a1.args v3.1) fun v4 => (Option.bind (r6 (v3.2) (v4)) fun v5 => (some (.inl ((w64 (v3.1 + 1)), v5))))) else (some (.inr (v3.2))))
def term_collect_h2_b (r6 : (List Int) → (Tm) → Option ((List Int))) (a0 : List Int) (a1 : Tm) : Option ((List Int)) := (Option.bind (term_Rules_1_h (a1)) fun v1 => (Option.bind (app 8 a0 ([a1.rule] : List (Int))) fun v2 => (Option.bind (loopN (term_collect_h2_l1 a1 r6) fuel (0, v2)) fun (v7 : (List Int)) => (some (v7)))))
theorem term_collect_h2_b_ok (r6 : (List Int) → (Tm) → Option ((List Int))) (ih6 : ∀ (x0 : List Int) (x1 : Tm) r, r6 x0 x1 = some r → HCall Try.prog 102 ([(.row 1 (List.length (x0))), (.fz (eTm (x1))), (.fn 103 [])] ++ []) [(1, (.frow 3 1 (List.map eI (x0))))] [1] (.ret (.row 1 (List.length (r)))) [(1, (.frow 3 1 (List.map eI (r))))] [1]) (a0 : List Int) (a1 : Tm) (r : (List Int)) (h : term_collect_h2_b r6 a0 a1 = some r) : HCall Try.prog 102 ([(.row 1 (List.length (a0))), (.fz (eTm (a1))), (.fn 103 [])] ++ []) [(1, (.frow 3 1 (List.map eI (a0))))] [1] (.ret (.row 1 (List.length (r)))) [(1, (.frow 3 1 (List.map eI (r))))] [1] := by
 unfold term_collect_h2_b at h
 refine hcall_introQ (g := 0) tt_ok Try.func102 rfl (by kernel_rfl) (by kernel_rfl) (by kernel_rfl) (by kernel_rfl) (by kernel_rfl) (by kernel_rfl) (by kernel_rfl) ?_
 intro p0 q0 w0
 refine awp_le (st' := ⟨28, [(0, (.row 1 (List.length (a0)))), (1, (.fz (eTm (a1)))), (2, (.fn 103 []))], [(0, (.was p0 [1] q0 w0)), (1, (.frow 3 1 (List.map eI (a0))))], [0, 1]⟩) (le_ck (by kernel_rfl)) ?_
 refine awp_seq ?_
 refine awp_region ?_
 refine l_rk 2 tt_ok ⟨28, [(0, (.row 1 (List.length (a0)))), (2, (.fn 103 [])), (4, (.ref 2 0 0))], (term_collect_h2_m0 p0 q0 w0 a0 a1), [2, 0, 1]⟩ (by kernel_rfl) ?_
 refine l_nil ?_
 refine awp_seq ?_
 refine awp_region ?_
 refine l_rk 3 tt_ok ⟨28, [(2, (.fn 103 [])), (4, (.ref 2 0 0)), (9, (.row 1 (List.length (a0)))), (10, (.fn 103 [])), (11, (.fz (eTm (a1))))], (term_collect_h2_m0 p0 q0 w0 a0 a1), [2, 0, 1]⟩ (by kernel_rfl) ?_
 obtain ⟨v1, hv1, h⟩ := Option.bind_eq_some_iff.1 h
 refine l_step (h_step (f := 103) (cap := []) (cs := [.one .keep]) (keys := []) [] [] rfl (by kernel_rfl) (term_Rules_1_h_ok (a1) _ hv1) (by kernel_rfl) (by kernel_rfl) (by kernel_rfl) (by kernel_rfl)) (by kernel_rfl) (dst_of (by kernel_rfl)) ?_
 refine l_rk 1 tt_ok ⟨28, [(2, (.fn 103 [])), (4, (.ref 2 0 0)), (9, (.row 1 (List.length (a0)))), (13, (.lim 1 (List.length (([a1.rule] : List (Int)))) (List.map eI (([a1.rule] : List (Int))))))], (term_collect_h2_m0 p0 q0 w0 a0 a1), [2, 0, 1]⟩ (by kernel_rfl) ?_
 obtain ⟨v2, hv2, h⟩ := Option.bind_eq_some_iff.1 h
 refine l_step (s_append (d := tt23) (e := 3) (de := tt3) (enc := eI) (xs := a0) (ys := ([a1.rule] : List (Int))) (m := List.length ([a1.rule] : List (Int))) (id := 1) (n := List.length (a0)) hv2 tt_ok rfl (by kernel_rfl) (by kernel_rfl) (by kernel_rfl) (by kernel_rfl) (by kernel_rfl) (by kernel_rfl) (by kernel_rfl) (by kernel_rfl) rfl (.inr (by kernel_rfl))) (by kernel_rfl) (dst_of (by kernel_rfl)) ?_
 refine l_rk 1 tt_ok ⟨28, [(0, (.row 1 (List.length (v2)))), (2, (.fn 103 [])), (4, (.ref 2 0 0))], [(0, (.was p0 [1] q0 w0)), (1, (.frow 3 1 (List.map eI (v2)))), (2, (.box 42 [(fI (a1.rule)), (.fz ((eL 2 eTmR) (a1.args)))]))], [2, 0, 1]⟩ (by kernel_rfl) ?_
 refine l_nil ?_
 refine awp_seq ?_
 refine awp_seq ?_
 refine awp_region ?_
 refine l_rk 4 tt_ok ⟨28, [(0, (.row 1 (List.length (v2)))), (2, (.fn 103 [])), (16, (.fz ((eL 2 eTmR) (a1.args)))), (17, (fI ((List.length a1.args : Int)))), (18, (fI (0)))], [(0, (.was p0 [1] q0 w0)), (1, (.frow 3 1 (List.map eI (v2))))], [0, 1]⟩ (by kernel_rfl) ?_
 refine l_nil ?_
 refine awp_block ?_
 obtain ⟨v7, hj, h⟩ := Option.bind_eq_some_iff.1 h
 refine awp_join (Qa := fun e st => e = .exit 0 ∧ LeSt st ⟨28, [(0, (.row 1 (List.length (v7))))], [(0, (.was p0 [1] q0 w0)), (1, (.frow 3 1 (List.map eI (v7))))], [0, 1]⟩) ?_ ?_
 ·refine awp_loopS (stOf := fun v3 => ⟨28, [(0, (.row 1 (List.length (v3.2)))), (2, (.fn 103 [])), (16, (.fz ((eL 2 eTmR) (a1.args)))), (17, (fI ((List.length a1.args : Int)))), (18, (fI (v3.1)))], [(0, (.was p0 [1] q0 w0)), (1, (.frow 3 1 (List.map eI (v3.2))))], [0, 1]⟩) (Qb := fun j e st => e = .exit 0 ∧ LeSt st ⟨28, [(0, (.row 1 (List.length (j))))], [(0, (.was p0 [1] q0 w0)), (1, (.frow 3 1 (List.map eI (j))))], [0, 1]⟩) hj (le_ck (by kernel_rfl)) ?_
  clear hj h
  intro v3 r h
  unfold term_collect_h2_l1 at h
  refine awp_seq ?_
  refine awp_region ?_
  refine l_rk 1 tt_ok ⟨28, [(0, (.row 1 (List.length (v3.2)))), (2, (.fn 103 [])), (16, (.fz ((eL 2 eTmR) (a1.args)))), (17, (fI ((List.length a1.args : Int)))), (18, (fI (v3.1))), (19, (fB ((decide (v3.1 < (List.length a1.args : Int))))))], [(0, (.was p0 [1] q0 w0)), (1, (.frow 3 1 (List.map eI (v3.2))))], [0, 1]⟩ (by kernel_rfl) ?_
  refine l_nil ?_
  refine awp_seq ?_
  rcases cond_some h with ⟨hb, h⟩ | ⟨hb, h⟩
  ·refine awp_cond_t (b := (decide (v3.1 < (List.length a1.args : Int)))) (by kernel_rfl) hb ?_
   refine awp_skip ?_
   refine awp_seq ?_
   refine awp_block ?_
   refine awp_seq ?_
   refine awp_region ?_
   obtain ⟨v4, hv4, h⟩ := Option.bind_eq_some_iff.1 h
   refine l_step ((s_index (k := .i64) (d := tt40) (e := 42) (de := tt42) (enc := eTmR) hv4 tt_ok rfl (by kernel_rfl) (by kernel_rfl) (by kernel_rfl) (by kernel_rfl) len_eTmR (by kernel_rfl) (cells_eTmR v4)).step) (by kernel_rfl) (dst_of (by kernel_rfl)) ?_
   refine l_rk 3 tt_ok ⟨28, [(0, (.row 1 (List.length (v3.2)))), (2, (.fn 103 [])), (8, (.ref 2 0 0)), (16, (.fz ((eL 2 eTmR) (a1.args)))), (17, (fI ((List.length a1.args : Int)))), (18, (fI (v3.1)))], [(0, (.was p0 [1] q0 w0)), (1, (.frow 3 1 (List.map eI (v3.2)))), (2, (.box 42 [(fI (v4.rule)), (.fz ((eL 2 eTmR) (v4.args)))]))], [2, 0, 1]⟩ (by kernel_rfl) ?_
   refine l_nil ?_
   refine awp_region ?_
   refine l_rk 3 tt_ok ⟨28, [(2, (.fn 103 [])), (16, (.fz ((eL 2 eTmR) (a1.args)))), (17, (fI ((List.length a1.args : Int)))), (18, (fI (v3.1))), (22, (.row 1 (List.length (v3.2)))), (23, (.fz (eTm (v4)))), (24, (.fn 103 []))], [(0, (.was p0 [1] q0 w0)), (1, (.frow 3 1 (List.map eI (v3.2))))], [0, 1]⟩ (by kernel_rfl) ?_
   obtain ⟨v5, hv5, h⟩ := Option.bind_eq_some_iff.1 h
   refine l_step (h_step (f := 102) (cap := []) (cs := [.one .keep, .one .keep, .one .keep]) (keys := [1]) [(1, 1)] [(1, 1)] rfl (by kernel_rfl) (ih6 (v3.2) (v4) _ hv5) (by kernel_rfl) (by kernel_rfl) (by kernel_rfl) (by kernel_rfl)) (by kernel_rfl) (dst_of (by kernel_rfl)) ?_
   refine l_rk 1 tt_ok ⟨28, [(0, (.row 1 (List.length (v5)))), (2, (.fn 103 [])), (16, (.fz ((eL 2 eTmR) (a1.args)))), (17, (fI ((List.length a1.args : Int)))), (18, (fI (v3.1)))], [(0, (.was p0 [1] q0 w0)), (1, (.frow 3 1 (List.map eI (v5))))], [0, 1]⟩ (by kernel_rfl) ?_
   refine l_nil ?_
   refine awp_region ?_
   refine l_rk 2 tt_ok ⟨28, [(0, (.row 1 (List.length (v5)))), (2, (.fn 103 [])), (16, (.fz ((eL 2 eTmR) (a1.args)))), (17, (fI ((List.length a1.args : Int)))), (18, (fI ((w64 (v3.1 + 1)))))], [(0, (.was p0 [1] q0 w0)), (1, (.frow 3 1 (List.map eI (v5))))], [0, 1]⟩ (by kernel_rfl) ?_
   refine l_nil ?_
   obtain rfl := Option.some.inj h
   exact And.intro rfl (le_ck (by kernel_rfl))
  ·refine awp_cond_f (b := (decide (v3.1 < (List.length a1.args : Int)))) (by kernel_rfl) hb ?_
   refine awp_exit ?_
   obtain rfl := Option.some.inj h
   exact And.intro (And.intro (fun h => nomatch h) (fun h => nomatch h)) (And.intro rfl (le_ck (by kernel_rfl)))
 ·clear hj
  intro e st' hq
  obtain ⟨rfl, hle⟩ := hq
  refine ⟨_, hle, ?_⟩
  refine awp_seq ?_
  refine awp_region ?_
  refine l_rk 2 tt_ok ⟨28, [(6, (.row 1 (List.length (v7))))], [(0, (.was p0 [1] q0 w0)), (1, (.frow 3 1 (List.map eI (v7))))], [0, 1]⟩ (by kernel_rfl) ?_
  refine l_nil ?_
  refine awp_ret ?_
  obtain rfl := Option.some.inj h
  exact hQ_ret (st2 := ⟨28, [(6, (.row 1 (List.length (v7))))], [(0, (.was p0 [1] q0 w0)), (1, (.frow 3 1 (List.map eI (v7))))], [0, 1]⟩) (le_ck (by kernel_rfl)) rfl rfl (.inr rfl) (by kernel_rfl)
def term_collect_h2 : Nat → (List Int) → (Tm) → Option ((List Int))
  | 0 => fun _ _ => none
  | n + 1 => term_collect_h2_b (term_collect_h2 n)
theorem term_collect_h2_ok : ∀ n : Nat, ∀ (x0 : List Int) (x1 : Tm) r, term_collect_h2 n x0 x1 = some r → HCall Try.prog 102 ([(.row 1 (List.length (x0))), (.fz (eTm (x1))), (.fn 103 [])] ++ []) [(1, (.frow 3 1 (List.map eI (x0))))] [1] (.ret (.row 1 (List.length (r)))) [(1, (.frow 3 1 (List.map eI (r))))] [1]
  | 0 => fun _ _ _ h => by cases h
  | n + 1 => fun a0 a1 r h => term_collect_h2_b_ok (term_collect_h2 n) (term_collect_h2_ok n) a0 a1 r h

def term_Rules_l1 (a0 : Tm) (v3 : (Int) × (List Int)) : Option (((Int) × (List Int)) ⊕ ((List Int))) := (bif (decide (v3.1 < (List.length a0.args : Int))) then (Option.bind (idx a0.args v3.1) fun v4 => (Option.bind (term_collect_h2 fuel (v3.2) (v4)) fun v5 => (some (.inl ((w64 (v3.1 + 1)), v5))))) else (some (.inr (v3.2))))
def term_Rules (a0 : Tm) : Option (List Int) := (Option.bind (term_Rules_1_h (a0)) fun v1 => (Option.bind (app 8 ([] : List (Int)) ([a0.rule] : List (Int))) fun v2 => (Option.bind (loopN (term_Rules_l1 a0) fuel (0, v2)) fun (v7 : (List Int)) => (some v7))))
theorem term_Rules_ok (a0 : Tm) (r : List Int) (h : term_Rules a0 = some r) : PCall Try.prog 42 [eTm a0] ((eL 1 eI) (r)) := by
 unfold term_Rules at h
 refine pcall_intro (T := TT) tt_ok [.one (.sl 1)] Try.func42 rfl (by kernel_rfl) (by kernel_rfl) ?_
 refine awp_le (st' := ⟨5, [(0, (.fz (eTm (a0))))], [], []⟩) (le_ck (by kernel_rfl)) ?_
 refine awp_seq ?_
 refine awp_region ?_
 refine l_rk 2 tt_ok ⟨5, [(1, (.ref 1 0 0))], [(1, (.box 42 [(fI (a0.rule)), (.fz ((eL 2 eTmR) (a0.args)))]))], [1]⟩ (by kernel_rfl) ?_
 refine l_nil ?_
 refine awp_seq ?_
 refine awp_region ?_
 refine l_rk 1 tt_ok ⟨5, [(3, (.fz (eTm (a0))))], [], []⟩ (by kernel_rfl) ?_
 refine l_le (le_ck (by kernel_rfl) : LeSt _ ⟨5, [(3, (.fz (eTm (a0))))], [], []⟩) ?_
 refine l_inline (f := 102) (fn := Try.f102) (n := 28) (g := 1) (cap := []) («as» := [(.fz (.atom (.slice none 0 0))), (.fz (eTm (a0))), (.fn 103 [])]) rfl (by kernel_rfl) (by kernel_rfl) (dst_of (by kernel_rfl)) Try.func102 rfl (by kernel_rfl) (by kernel_rfl) (by kernel_rfl) (by kernel_rfl) (by kernel_rfl) ?_
 intro gs1
 refine awp_le (st' := ⟨28, [(0, (.fz (.atom (.slice none 0 0)))), (1, (.fz (eTm (a0)))), (2, (.fn 103 []))], [(1, (.gho gs1 [(.fz (eTm (a0)))]))], [1]⟩) (le_ck (by kernel_rfl)) ?_
 refine awp_seq ?_
 refine awp_region ?_
 refine l_rk 2 tt_ok ⟨28, [(0, (.fz (.atom (.slice none 0 0)))), (2, (.fn 103 [])), (4, (.ref 2 0 0))], [(1, (.gho gs1 [(.fz (eTm (a0)))])), (2, (.box 42 [(fI (a0.rule)), (.fz ((eL 2 eTmR) (a0.args)))]))], [2, 1]⟩ (by kernel_rfl) ?_
 refine l_nil ?_
 refine awp_seq ?_
 refine awp_region ?_
 refine l_rk 3 tt_ok ⟨28, [(2, (.fn 103 [])), (4, (.ref 2 0 0)), (9, (.fz (.atom (.slice none 0 0)))), (10, (.fn 103 [])), (11, (.fz (eTm (a0))))], [(1, (.gho gs1 [(.fz (eTm (a0)))])), (2, (.box 42 [(fI (a0.rule)), (.fz ((eL 2 eTmR) (a0.args)))]))], [2, 1]⟩ (by kernel_rfl) ?_
 obtain ⟨v1, hv1, h⟩ := Option.bind_eq_some_iff.1 h
 refine l_step (h_step (f := 103) (cap := []) (cs := [.one .keep]) (keys := []) [] [] rfl (by kernel_rfl) (term_Rules_1_h_ok (a0) _ hv1) (by kernel_rfl) (by kernel_rfl) (by kernel_rfl) (by kernel_rfl)) (by kernel_rfl) (dst_of (by kernel_rfl)) ?_
 refine l_rk 1 tt_ok ⟨28, [(2, (.fn 103 [])), (4, (.ref 2 0 0)), (9, (.fz (.atom (.slice none 0 0)))), (13, (.lim 1 (List.length (([a0.rule] : List (Int)))) (List.map eI (([a0.rule] : List (Int))))))], [(1, (.gho gs1 [(.fz (eTm (a0)))])), (2, (.box 42 [(fI (a0.rule)), (.fz ((eL 2 eTmR) (a0.args)))]))], [2, 1]⟩ (by kernel_rfl) ?_
 obtain ⟨v2, hv2, h⟩ := Option.bind_eq_some_iff.1 h
 refine l_le (le_nilrow (e := 3) (size := 1) (t := 9) (id := 3) (by decide) (by kernel_rfl) (by kernel_rfl)) ?_
 refine l_step (s_append (d := tt23) (e := 3) (de := tt3) (enc := eI) (xs := ([] : List (Int))) (ys := ([a0.rule] : List (Int))) (m := List.length ([a0.rule] : List (Int))) (id := 3) (n := List.length (([] : List (Int)))) hv2 tt_ok rfl (by kernel_rfl) (by kernel_rfl) (by kernel_rfl) (by kernel_rfl) (by kernel_rfl) (by kernel_rfl) (by kernel_rfl) (by kernel_rfl) rfl (.inr (by kernel_rfl))) (by kernel_rfl) (dst_of (by kernel_rfl)) ?_
 refine l_rk 1 tt_ok ⟨28, [(0, (.row 3 (List.length (v2)))), (2, (.fn 103 [])), (4, (.ref 2 0 0))], [(1, (.gho gs1 [(.fz (eTm (a0)))])), (2, (.box 42 [(fI (a0.rule)), (.fz ((eL 2 eTmR) (a0.args)))])), (3, (.frow 3 1 (List.map eI (v2))))], [3, 2, 1]⟩ (by kernel_rfl) ?_
 refine l_nil ?_
 refine awp_seq ?_
 refine awp_seq ?_
 refine awp_region ?_
 refine l_rk 4 tt_ok ⟨28, [(0, (.row 3 (List.length (v2)))), (2, (.fn 103 [])), (16, (.fz ((eL 2 eTmR) (a0.args)))), (17, (fI ((List.length a0.args : Int)))), (18, (fI (0)))], [(1, (.gho gs1 [(.fz (eTm (a0)))])), (3, (.frow 3 1 (List.map eI (v2))))], [3, 1]⟩ (by kernel_rfl) ?_
 refine l_nil ?_
 refine awp_block ?_
 obtain ⟨v7, hj, h⟩ := Option.bind_eq_some_iff.1 h
 refine awp_join (Qa := fun e st => e = .exit 0 ∧ LeSt st ⟨28, [(0, (.row 3 (List.length (v7))))], [(1, (.gho gs1 [(.fz (eTm (a0)))])), (3, (.frow 3 1 (List.map eI (v7))))], [3, 1]⟩) ?_ ?_
 ·refine awp_loopS (stOf := fun v3 => ⟨28, [(0, (.row 3 (List.length (v3.2)))), (2, (.fn 103 [])), (16, (.fz ((eL 2 eTmR) (a0.args)))), (17, (fI ((List.length a0.args : Int)))), (18, (fI (v3.1)))], [(1, (.gho gs1 [(.fz (eTm (a0)))])), (3, (.frow 3 1 (List.map eI (v3.2))))], [3, 1]⟩) (Qb := fun j e st => e = .exit 0 ∧ LeSt st ⟨28, [(0, (.row 3 (List.length (j))))], [(1, (.gho gs1 [(.fz (eTm (a0)))])), (3, (.frow 3 1 (List.map eI (j))))], [3, 1]⟩) hj (le_ck (by kernel_rfl)) ?_
  clear hj h
  intro v3 r h
  unfold term_Rules_l1 at h
  refine awp_seq ?_
  refine awp_region ?_
  refine l_rk 1 tt_ok ⟨28, [(0, (.row 3 (List.length (v3.2)))), (2, (.fn 103 [])), (16, (.fz ((eL 2 eTmR) (a0.args)))), (17, (fI ((List.length a0.args : Int)))), (18, (fI (v3.1))), (19, (fB ((decide (v3.1 < (List.length a0.args : Int))))))], [(1, (.gho gs1 [(.fz (eTm (a0)))])), (3, (.frow 3 1 (List.map eI (v3.2))))], [3, 1]⟩ (by kernel_rfl) ?_
  refine l_nil ?_
  refine awp_seq ?_
  rcases cond_some h with ⟨hb, h⟩ | ⟨hb, h⟩
  ·refine awp_cond_t (b := (decide (v3.1 < (List.length a0.args : Int)))) (by kernel_rfl) hb ?_
   refine awp_skip ?_
   refine awp_seq ?_
   refine awp_block ?_
   refine awp_seq ?_
   refine awp_region ?_
   obtain ⟨v4, hv4, h⟩ := Option.bind_eq_some_iff.1 h
   refine l_step ((s_index (k := .i64) (d := tt40) (e := 42) (de := tt42) (enc := eTmR) hv4 tt_ok rfl (by kernel_rfl) (by kernel_rfl) (by kernel_rfl) (by kernel_rfl) len_eTmR (by kernel_rfl) (cells_eTmR v4)).step) (by kernel_rfl) (dst_of (by kernel_rfl)) ?_
   refine l_rk 3 tt_ok ⟨28, [(0, (.row 3 (List.length (v3.2)))), (2, (.fn 103 [])), (8, (.ref 4 0 0)), (16, (.fz ((eL 2 eTmR) (a0.args)))), (17, (fI ((List.length a0.args : Int)))), (18, (fI (v3.1)))], [(1, (.gho gs1 [(.fz (eTm (a0)))])), (3, (.frow 3 1 (List.map eI (v3.2)))), (4, (.box 42 [(fI (v4.rule)), (.fz ((eL 2 eTmR) (v4.args)))]))], [4, 3, 1]⟩ (by kernel_rfl) ?_
   refine l_nil ?_
   refine awp_region ?_
   refine l_rk 3 tt_ok ⟨28, [(2, (.fn 103 [])), (16, (.fz ((eL 2 eTmR) (a0.args)))), (17, (fI ((List.length a0.args : Int)))), (18, (fI (v3.1))), (22, (.row 3 (List.length (v3.2)))), (23, (.fz (eTm (v4)))), (24, (.fn 103 []))], [(1, (.gho gs1 [(.fz (eTm (a0)))])), (3, (.frow 3 1 (List.map eI (v3.2))))], [3, 1]⟩ (by kernel_rfl) ?_
   obtain ⟨v5, hv5, h⟩ := Option.bind_eq_some_iff.1 h
   refine l_step (h_step (f := 102) (cap := []) (cs := [.one .keep, .one .keep, .one .keep]) (keys := [1]) [(3, 1)] [(1, 3)] rfl (by kernel_rfl) (term_collect_h2_ok fuel (v3.2) (v4) _ hv5) (by kernel_rfl) (by kernel_rfl) (by kernel_rfl) (by kernel_rfl)) (by kernel_rfl) (dst_of (by kernel_rfl)) ?_
   refine l_rk 1 tt_ok ⟨28, [(0, (.row 3 (List.length (v5)))), (2, (.fn 103 [])), (16, (.fz ((eL 2 eTmR) (a0.args)))), (17, (fI ((List.length a0.args : Int)))), (18, (fI (v3.1)))], [(1, (.gho gs1 [(.fz (eTm (a0)))])), (3, (.frow 3 1 (List.map eI (v5))))], [3, 1]⟩ (by kernel_rfl) ?_
   refine l_nil ?_
   refine awp_region ?_
   refine l_rk 2 tt_ok ⟨28, [(0, (.row 3 (List.length (v5)))), (2, (.fn 103 [])), (16, (.fz ((eL 2 eTmR) (a0.args)))), (17, (fI ((List.length a0.args : Int)))), (18, (fI ((w64 (v3.1 + 1)))))], [(1, (.gho gs1 [(.fz (eTm (a0)))])), (3, (.frow 3 1 (List.map eI (v5))))], [3, 1]⟩ (by kernel_rfl) ?_
   refine l_nil ?_
   obtain rfl := Option.some.inj h
   exact And.intro rfl (le_ck (by kernel_rfl))
  ·refine awp_cond_f (b := (decide (v3.1 < (List.length a0.args : Int)))) (by kernel_rfl) hb ?_
   refine awp_exit ?_
   obtain rfl := Option.some.inj h
   exact And.intro (And.intro (fun h => nomatch h) (fun h => nomatch h)) (And.intro rfl (le_ck (by kernel_rfl)))
 ·clear hj
  intro e st' hq
  obtain ⟨rfl, hle⟩ := hq
  refine ⟨_, hle, ?_⟩
  refine awp_seq ?_
  refine awp_region ?_
  refine l_rk 2 tt_ok ⟨28, [(6, (.row 3 (List.length (v7))))], [(1, (.gho gs1 [(.fz (eTm (a0)))])), (3, (.frow 3 1 (List.map eI (v7))))], [3, 1]⟩ (by kernel_rfl) ?_
  refine l_nil ?_
  refine awp_ret ?_
  refine (show inlQ _ _ _ _ _ _ _ _ _ _ _ _ from ⟨.inr rfl, [(.fz (eTm (a0)))], (.row 3 (List.length (v7))), (by kernel_rfl), (.inr ⟨6, by kernel_rfl, by kernel_rfl⟩), ?_⟩)
  refine l_rk 1 tt_ok ⟨5, [(2, (.row 3 (List.length (v7))))], [(3, (.frow 3 1 (List.map eI (v7))))], [3]⟩ (by kernel_rfl) ?_
  refine l_nil ?_
  refine awp_le (le_freeze (t := 2) (id := 3) (n := List.length (v7)) (e := 3) (size := 1) (xs := List.map eI (v7)) (by kernel_rfl) (by kernel_rfl) (by simp)) ?_
  refine awp_ret ?_
  obtain rfl := Option.some.inj h
  exact (show retX _ _ _ _ = some _ from by kernel_rfl)

def term_Size_l1 (a0 : Tm) (r92 : (Tm) → Option (Int)) (v1 : (Int) × (Int)) : Option (((Int) × (Int)) ⊕ ((Int))) := (bif (decide (v1.2 < (List.length a0.args : Int))) then (Option.bind (idx a0.args v1.2) fun v2 => (Option.bind (r92 (v2)) fun v3 => (some (.inl ((w64 (v1.1 + v3)), (w64 (v1.2 + 1))))))) else (some (.inr (v1.1))))
def term_Size_b (r92 : (Tm) → Option (Int)) (a0 : Tm) : Option (Int) := (Option.bind (loopN (term_Size_l1 a0 r92) fuel (1, 0)) fun (v5 : (Int)) => (some v5))
theorem term_Size_b_ok (r92 : (Tm) → Option (Int)) (ih92 : ∀ (x0 : Tm) r, r92 x0 = some r → PCall Try.prog 92 [eTm x0] (eI (r))) (a0 : Tm) (r : Int) (h : term_Size_b r92 a0 = some r) : PCall Try.prog 92 [eTm a0] (eI (r)) := by
 unfold term_Size_b at h
 refine pcall_intro (T := TT) tt_ok [.one .keep] Try.func92 rfl (by kernel_rfl) (by kernel_rfl) ?_
 refine awp_le (st' := ⟨19, [(0, (.fz (eTm (a0))))], [], []⟩) (le_ck (by kernel_rfl)) ?_
 refine awp_seq ?_
 refine awp_region ?_
 refine l_rk 2 tt_ok ⟨19, [(1, (.ref 1 0 0))], [(1, (.box 42 [(fI (a0.rule)), (.fz ((eL 2 eTmR) (a0.args)))]))], [1]⟩ (by kernel_rfl) ?_
 refine l_nil ?_
 refine awp_seq ?_
 refine awp_region ?_
 refine l_rk 1 tt_ok ⟨19, [(1, (.ref 1 0 0)), (3, (fI (1)))], [(1, (.box 42 [(fI (a0.rule)), (.fz ((eL 2 eTmR) (a0.args)))]))], [1]⟩ (by kernel_rfl) ?_
 refine l_nil ?_
 refine awp_seq ?_
 refine awp_seq ?_
 refine awp_region ?_
 refine l_rk 4 tt_ok ⟨19, [(3, (fI (1))), (7, (.fz ((eL 2 eTmR) (a0.args)))), (8, (fI ((List.length a0.args : Int)))), (9, (fI (0)))], [], []⟩ (by kernel_rfl) ?_
 refine l_nil ?_
 refine awp_block ?_
 obtain ⟨v5, hj, h⟩ := Option.bind_eq_some_iff.1 h
 refine awp_join (Qa := fun e st => e = .exit 0 ∧ LeSt st ⟨19, [(3, (fI (v5)))], [], []⟩) ?_ ?_
 ·refine awp_loopS (stOf := fun v1 => ⟨19, [(3, (fI (v1.1))), (7, (.fz ((eL 2 eTmR) (a0.args)))), (8, (fI ((List.length a0.args : Int)))), (9, (fI (v1.2)))], [], []⟩) (Qb := fun j e st => e = .exit 0 ∧ LeSt st ⟨19, [(3, (fI (j)))], [], []⟩) hj (le_ck (by kernel_rfl)) ?_
  clear hj h
  intro v1 r h
  unfold term_Size_l1 at h
  refine awp_seq ?_
  refine awp_region ?_
  refine l_rk 1 tt_ok ⟨19, [(3, (fI (v1.1))), (7, (.fz ((eL 2 eTmR) (a0.args)))), (8, (fI ((List.length a0.args : Int)))), (9, (fI (v1.2))), (10, (fB ((decide (v1.2 < (List.length a0.args : Int))))))], [], []⟩ (by kernel_rfl) ?_
  refine l_nil ?_
  refine awp_seq ?_
  rcases cond_some h with ⟨hb, h⟩ | ⟨hb, h⟩
  ·refine awp_cond_t (b := (decide (v1.2 < (List.length a0.args : Int)))) (by kernel_rfl) hb ?_
   refine awp_skip ?_
   refine awp_seq ?_
   refine awp_block ?_
   refine awp_seq ?_
   refine awp_region ?_
   obtain ⟨v2, hv2, h⟩ := Option.bind_eq_some_iff.1 h
   refine l_step ((s_index (k := .i64) (d := tt40) (e := 42) (de := tt42) (enc := eTmR) hv2 tt_ok rfl (by kernel_rfl) (by kernel_rfl) (by kernel_rfl) (by kernel_rfl) len_eTmR (by kernel_rfl) (cells_eTmR v2)).step) (by kernel_rfl) (dst_of (by kernel_rfl)) ?_
   refine l_rk 3 tt_ok ⟨19, [(3, (fI (v1.1))), (5, (.ref 1 0 0)), (7, (.fz ((eL 2 eTmR) (a0.args)))), (8, (fI ((List.length a0.args : Int)))), (9, (fI (v1.2)))], [(1, (.box 42 [(fI (v2.rule)), (.fz ((eL 2 eTmR) (v2.args)))]))], [1]⟩ (by kernel_rfl) ?_
   refine l_nil ?_
   refine awp_region ?_
   refine l_rk 2 tt_ok ⟨19, [(7, (.fz ((eL 2 eTmR) (a0.args)))), (8, (fI ((List.length a0.args : Int)))), (9, (fI (v1.2))), (13, (fI (v1.1))), (14, (.fz (eTm (v2))))], [], []⟩ (by kernel_rfl) ?_
   obtain ⟨v3, hv3, h⟩ := Option.bind_eq_some_iff.1 h
   refine l_step ((n_call (ys := [eTm (v2)]) (cs := [(.one .keep)]) rfl (by kernel_rfl) (ih92 (v2) _ hv3)).step) (by kernel_rfl) (dst_of (by kernel_rfl)) ?_
   refine l_rk 2 tt_ok ⟨19, [(3, (fI ((w64 (v1.1 + v3))))), (7, (.fz ((eL 2 eTmR) (a0.args)))), (8, (fI ((List.length a0.args : Int)))), (9, (fI (v1.2)))], [], []⟩ (by kernel_rfl) ?_
   refine l_nil ?_
   refine awp_region ?_
   refine l_rk 2 tt_ok ⟨19, [(3, (fI ((w64 (v1.1 + v3))))), (7, (.fz ((eL 2 eTmR) (a0.args)))), (8, (fI ((List.length a0.args : Int)))), (9, (fI ((w64 (v1.2 + 1)))))], [], []⟩ (by kernel_rfl) ?_
   refine l_nil ?_
   obtain rfl := Option.some.inj h
   exact And.intro rfl (le_ck (by kernel_rfl))
  ·refine awp_cond_f (b := (decide (v1.2 < (List.length a0.args : Int)))) (by kernel_rfl) hb ?_
   refine awp_exit ?_
   obtain rfl := Option.some.inj h
   exact And.intro (And.intro (fun h => nomatch h) (fun h => nomatch h)) (And.intro rfl (le_ck (by kernel_rfl)))
 ·clear hj
  intro e st' hq
  obtain ⟨rfl, hle⟩ := hq
  refine ⟨_, hle, ?_⟩
  refine awp_seq ?_
  refine awp_region ?_
  refine l_rk 2 tt_ok ⟨19, [(2, (fI (v5)))], [], []⟩ (by kernel_rfl) ?_
  refine l_nil ?_
  refine awp_ret ?_
  obtain rfl := Option.some.inj h
  exact (show retX _ _ _ _ = some _ from by kernel_rfl)
def term_Size : Nat → (Tm) → Option (Int)
  | 0 => fun _ => none
  | n + 1 => term_Size_b (term_Size n)
theorem term_Size_ok : ∀ (n : Nat) (x0 : Tm) r, term_Size n x0 = some r → PCall Try.prog 92 [eTm x0] (eI (r))
  | 0, _, _, h => by cases h
  | n + 1, x0, r, h => term_Size_b_ok (term_Size n) (term_Size_ok n) x0 r h

def term_lexical_l1 (a0 : List Int) (a1 : List Int) (v1 : (Int)) : Option (((Int)) ⊕ (((Unit) ⊕ (Int)))) := (bif (decide (v1 < (List.length a0 : Int))) then (Option.bind (idx a0 v1) fun v2 => (Option.bind (idx a1 v1) fun v3 => (bif (decide (v2 < v3)) then (some (.inr (.inr (-1)))) else (Option.bind (idx a0 v1) fun v4 => (Option.bind (idx a1 v1) fun v5 => (bif (decide (v5 < v4)) then (some (.inr (.inr 1))) else (some (.inl ((w64 (v1 + 1))))))))))) else (some (.inr (.inl ()))))
def term_lexical (a0 : List Int) (a1 : List Int) : Option (Int) := (Option.bind (loopN (term_lexical_l1 a0 a1) fuel (0)) fun (v6 : ((Unit) ⊕ (Int))) => Sum.elim (fun v7 => (some 0)) (fun v8 => (some v8)) v6)
theorem term_lexical_ok (a0 : List Int) (a1 : List Int) (r : Int) (h : term_lexical a0 a1 = some r) : PCall Try.prog 104 [(eL 1 eI) a0, (eL 1 eI) a1] (eI (r)) := by
 unfold term_lexical at h
 refine pcall_intro (T := TT) tt_ok [.one .keep] Try.func104 rfl (by kernel_rfl) (by kernel_rfl) ?_
 refine awp_le (st' := ⟨32, [(0, (.fz ((eL 1 eI) (a0)))), (1, (.fz ((eL 1 eI) (a1))))], [], []⟩) (le_ck (by kernel_rfl)) ?_
 refine awp_seq ?_
 refine awp_region ?_
 refine l_rk 1 tt_ok ⟨32, [(0, (.fz ((eL 1 eI) (a0)))), (1, (.fz ((eL 1 eI) (a1))))], [], []⟩ (by kernel_rfl) ?_
 refine l_nil ?_
 refine awp_seq ?_
 refine awp_seq ?_
 refine awp_region ?_
 refine l_rk 3 tt_ok ⟨32, [(0, (.fz ((eL 1 eI) (a0)))), (1, (.fz ((eL 1 eI) (a1)))), (7, (fI ((List.length a0 : Int)))), (8, (fI (0)))], [], []⟩ (by kernel_rfl) ?_
 refine l_nil ?_
 refine awp_block ?_
 obtain ⟨v6, hj, h⟩ := Option.bind_eq_some_iff.1 h
 refine awp_join (Qa := fun e st => Sum.elim (fun p => e = .exit 0 ∧ LeSt st ⟨32, [], [], []⟩) (fun p => e = .ret ∧ retX TT st Try.f104.results.toList [.one .keep] = some (eI (p))) v6) ?_ ?_
 ·refine awp_loopS (stOf := fun v1 => ⟨32, [(0, (.fz ((eL 1 eI) (a0)))), (1, (.fz ((eL 1 eI) (a1)))), (7, (fI ((List.length a0 : Int)))), (8, (fI (v1)))], [], []⟩) (Qb := fun j e st => Sum.elim (fun p => e = .exit 0 ∧ LeSt st ⟨32, [], [], []⟩) (fun p => e = .ret ∧ retX TT st Try.f104.results.toList [.one .keep] = some (eI (p))) j) hj (le_ck (by kernel_rfl)) ?_
  clear hj h
  intro v1 r h
  unfold term_lexical_l1 at h
  refine awp_seq ?_
  refine awp_region ?_
  refine l_rk 1 tt_ok ⟨32, [(0, (.fz ((eL 1 eI) (a0)))), (1, (.fz ((eL 1 eI) (a1)))), (7, (fI ((List.length a0 : Int)))), (8, (fI (v1))), (9, (fB ((decide (v1 < (List.length a0 : Int))))))], [], []⟩ (by kernel_rfl) ?_
  refine l_nil ?_
  refine awp_seq ?_
  rcases cond_some h with ⟨hb, h⟩ | ⟨hb, h⟩
  ·refine awp_cond_t (b := (decide (v1 < (List.length a0 : Int)))) (by kernel_rfl) hb ?_
   refine awp_skip ?_
   refine awp_seq ?_
   refine awp_block ?_
   refine awp_seq ?_
   refine awp_region ?_
   refine l_rk 2 tt_ok ⟨32, [(0, (.fz ((eL 1 eI) (a0)))), (1, (.fz ((eL 1 eI) (a1)))), (5, (fI (v1))), (7, (fI ((List.length a0 : Int)))), (8, (fI (v1)))], [], []⟩ (by kernel_rfl) ?_
   refine l_nil ?_
   refine awp_block ?_
   refine awp_seq ?_
   obtain ⟨v2, hv2, h⟩ := Option.bind_eq_some_iff.1 h
   obtain ⟨v3, hv3, h⟩ := Option.bind_eq_some_iff.1 h
   refine awp_drawn (by kernel_rfl) [(.fz ((eL 1 eI) (a0))), (fI (v1)), (.fz (.fp [(eI (v2))])), (fI (v2)), (.fz ((eL 1 eI) (a1))), (fI (v1)), (.fz (.fp [(eI (v3))])), (fI (v3))] (by kernel_rfl) ?_
   refine ⟨.inl ⟨by kernel_rfl, (nstep_ok tt_ok (by kernel_rfl))⟩, ?_⟩
   refine ⟨.inl ⟨by kernel_rfl, (nstep_ok tt_ok (by kernel_rfl))⟩, ?_⟩
   refine ⟨.inl ⟨by kernel_rfl, (s_index (k := .i64) (d := tt23) (e := 3) (de := tt3) (enc := eI) hv2 tt_ok rfl (by kernel_rfl) (by kernel_rfl) (by kernel_rfl) (by kernel_rfl) len_eI (by kernel_rfl) rfl)⟩, ?_⟩
   refine ⟨.inl ⟨by kernel_rfl, (nstep_ok tt_ok (by kernel_rfl))⟩, ?_⟩
   refine ⟨.inl ⟨by kernel_rfl, (nstep_ok tt_ok (by kernel_rfl))⟩, ?_⟩
   refine ⟨.inl ⟨by kernel_rfl, (nstep_ok tt_ok (by kernel_rfl))⟩, ?_⟩
   refine ⟨.inl ⟨by kernel_rfl, (s_index (k := .i64) (d := tt23) (e := 3) (de := tt3) (enc := eI) hv3 tt_ok rfl (by kernel_rfl) (by kernel_rfl) (by kernel_rfl) (by kernel_rfl) len_eI (by kernel_rfl) rfl)⟩, ?_⟩
   refine ⟨.inl ⟨by kernel_rfl, (nstep_ok tt_ok (by kernel_rfl))⟩, ?_⟩
   refine l_rk 2 tt_ok ⟨32, [(0, (.fz ((eL 1 eI) (a0)))), (1, (.fz ((eL 1 eI) (a1)))), (5, (fI (v1))), (7, (fI ((List.length a0 : Int)))), (8, (fI (v1))), (11, (fB ((decide (v2 < v3)))))], [], []⟩ (by kernel_rfl) ?_
   refine l_nil ?_
   rcases cond_some h with ⟨hb, h⟩ | ⟨hb, h⟩
   ·refine awp_cond_t (b := (decide (v2 < v3))) (by kernel_rfl) hb ?_
    refine awp_seq ?_
    refine awp_region ?_
    refine l_rk 1 tt_ok ⟨32, [(4, (fI ((-1))))], [], []⟩ (by kernel_rfl) ?_
    refine l_nil ?_
    refine awp_ret ?_
    obtain rfl := Option.some.inj h
    exact And.intro (And.intro (fun h => nomatch h) (fun h => nomatch h)) (And.intro rfl (show retX _ _ _ _ = some _ from by kernel_rfl))
   ·refine awp_cond_f (b := (decide (v2 < v3))) (by kernel_rfl) hb ?_
    refine awp_seq ?_
    obtain ⟨v4, hv4, h⟩ := Option.bind_eq_some_iff.1 h
    obtain ⟨v5, hv5, h⟩ := Option.bind_eq_some_iff.1 h
    refine awp_drawn (by kernel_rfl) [(.fz ((eL 1 eI) (a0))), (fI (v1)), (.fz (.fp [(eI (v4))])), (fI (v4)), (.fz ((eL 1 eI) (a1))), (fI (v1)), (.fz (.fp [(eI (v5))])), (fI (v5))] (by kernel_rfl) ?_
    refine ⟨.inl ⟨by kernel_rfl, (nstep_ok tt_ok (by kernel_rfl))⟩, ?_⟩
    refine ⟨.inl ⟨by kernel_rfl, (nstep_ok tt_ok (by kernel_rfl))⟩, ?_⟩
    refine ⟨.inl ⟨by kernel_rfl, (s_index (k := .i64) (d := tt23) (e := 3) (de := tt3) (enc := eI) hv4 tt_ok rfl (by kernel_rfl) (by kernel_rfl) (by kernel_rfl) (by kernel_rfl) len_eI (by kernel_rfl) rfl)⟩, ?_⟩
    refine ⟨.inl ⟨by kernel_rfl, (nstep_ok tt_ok (by kernel_rfl))⟩, ?_⟩
    refine ⟨.inl ⟨by kernel_rfl, (nstep_ok tt_ok (by kernel_rfl))⟩, ?_⟩
    refine ⟨.inl ⟨by kernel_rfl, (nstep_ok tt_ok (by kernel_rfl))⟩, ?_⟩
    refine ⟨.inl ⟨by kernel_rfl, (s_index (k := .i64) (d := tt23) (e := 3) (de := tt3) (enc := eI) hv5 tt_ok rfl (by kernel_rfl) (by kernel_rfl) (by kernel_rfl) (by kernel_rfl) len_eI (by kernel_rfl) rfl)⟩, ?_⟩
    refine ⟨.inl ⟨by kernel_rfl, (nstep_ok tt_ok (by kernel_rfl))⟩, ?_⟩
    refine l_rk 2 tt_ok ⟨32, [(0, (.fz ((eL 1 eI) (a0)))), (1, (.fz ((eL 1 eI) (a1)))), (7, (fI ((List.length a0 : Int)))), (8, (fI (v1))), (21, (fB ((decide (v5 < v4)))))], [], []⟩ (by kernel_rfl) ?_
    refine l_nil ?_
    rcases cond_some h with ⟨hb, h⟩ | ⟨hb, h⟩
    ·refine awp_cond_t (b := (decide (v5 < v4))) (by kernel_rfl) hb ?_
     refine awp_seq ?_
     refine awp_region ?_
     refine l_rk 1 tt_ok ⟨32, [(4, (fI (1)))], [], []⟩ (by kernel_rfl) ?_
     refine l_nil ?_
     refine awp_ret ?_
     obtain rfl := Option.some.inj h
     exact And.intro (And.intro (fun h => nomatch h) (fun h => nomatch h)) (And.intro rfl (show retX _ _ _ _ = some _ from by kernel_rfl))
    ·refine awp_cond_f (b := (decide (v5 < v4))) (by kernel_rfl) hb ?_
     refine awp_skip ?_
     refine awp_region ?_
     refine l_rk 2 tt_ok ⟨32, [(0, (.fz ((eL 1 eI) (a0)))), (1, (.fz ((eL 1 eI) (a1)))), (7, (fI ((List.length a0 : Int)))), (8, (fI ((w64 (v1 + 1)))))], [], []⟩ (by kernel_rfl) ?_
     refine l_nil ?_
     obtain rfl := Option.some.inj h
     exact And.intro rfl (le_ck (by kernel_rfl))
  ·refine awp_cond_f (b := (decide (v1 < (List.length a0 : Int)))) (by kernel_rfl) hb ?_
   refine awp_exit ?_
   obtain rfl := Option.some.inj h
   exact And.intro (And.intro (fun h => nomatch h) (fun h => nomatch h)) (And.intro rfl (le_ck (by kernel_rfl)))
 ·clear hj
  intro e st' hq
  rcases v6 with v7 | v8
  ·try simp only [Sum.elim_inl, Sum.elim_inr] at h
   obtain ⟨rfl, hle⟩ := hq
   refine ⟨_, hle, ?_⟩
   refine awp_seq ?_
   refine awp_region ?_
   refine l_rk 1 tt_ok ⟨32, [(4, (fI (0)))], [], []⟩ (by kernel_rfl) ?_
   refine l_nil ?_
   refine awp_ret ?_
   obtain rfl := Option.some.inj h
   exact (show retX _ _ _ _ = some _ from by kernel_rfl)
  ·try simp only [Sum.elim_inl, Sum.elim_inr] at h
   obtain ⟨rfl, hret⟩ := hq
   refine ⟨_, LeSt.refl, ?_⟩
   obtain rfl := Option.some.inj h
   exact hret
end Go.Proofs.Ytaeicmnimjfbaaa
