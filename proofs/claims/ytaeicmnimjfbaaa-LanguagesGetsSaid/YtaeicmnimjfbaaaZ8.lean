/- Typed programs and what computes them. -/
import Derived.Test.YtaeicmnimjfbaaaZ7
set_option linter.unusedVariables false
set_option linter.unusedSimpArgs false
set_option maxRecDepth 100000
namespace Go.Proofs.Ytaeicmnimjfbaaa
open Go Go.RowKit Go.Proofs
def synthesislaw16_LanguagesGets_l1 (v7 : List ByteArray) (v8 : List ByteArray) (v9 : (Int)) : Option (((Int)) ⊕ (((Unit) ⊕ (Bool)))) := (Option.bind ((bif (decide (v9 < (List.length v7 : Int))) then (some ((decide (v9 < (List.length v8 : Int))))) else (some (false))) : Option ((Bool))) fun (v11 : (Bool)) => (bif v11 then (Option.bind (idx v7 v9) fun v12 => (Option.bind (idx v8 v9) fun v13 => (bif (!(v12.toList == v13.toList)) then (some (.inr (.inr false))) else (some (.inl ((w64 (v9 + 1)))))))) else (some (.inr (.inl ())))))
def synthesislaw16_LanguagesGets (a0 : ByteArray) : Option (Bool) := (bif (decide (60 < (a0.size : Int))) then (Option.bind (synthesislaw16_alive ) fun v1 => (some v1)) else (Option.bind (languages_Get (a0)) fun v2 => (Option.bind (synthesisref16_Get (a0)) fun v3 => (Option.bind ((Option.bind (synthesisref11_Same (v2.1) (v3.1)) fun v4 => (bif (!v4) then (some (true)) else (some ((v2.2 != v3.2))))) : Option ((Bool))) fun (v6 : (Bool)) => (bif v6 then (some false) else (Option.bind (languages_Names ) fun v7 => (Option.bind (synthesisref16_Names ) fun v8 => (Option.bind (loopN (synthesislaw16_LanguagesGets_l1 v7 v8) fuel (0)) fun (v14 : ((Unit) ⊕ (Bool))) => Sum.elim (fun v15 => (Option.bind ((bif ((List.length v7 : Int) == (List.length v8 : Int)) then (Option.bind (synthesislaw16_alive ) fun v16 => (some (v16))) else (some (false))) : Option ((Bool))) fun (v18 : (Bool)) => (some v18))) (fun v19 => (some v19)) v14))))))))
theorem synthesislaw16_LanguagesGets_ok (a0 : ByteArray) (r : Bool) (h : synthesislaw16_LanguagesGets a0 = some r) : PCall Try.prog 3 [eS a0] (eB (r)) := by
 unfold synthesislaw16_LanguagesGets at h
 refine pcall_intro (T := TT) tt_ok [.one .keep] Try.func3 rfl (by kernel_rfl) (by kernel_rfl) ?_
 refine awp_le (st' := ⟨64, [(0, (fS (a0)))], [], []⟩) (le_ck (by kernel_rfl)) ?_
 refine awp_seq ?_
 refine awp_region ?_
 refine l_rk 1 tt_ok ⟨64, [(0, (fS (a0)))], [], []⟩ (by kernel_rfl) ?_
 refine l_nil ?_
 refine awp_seq ?_
 refine awp_seq ?_
 refine awp_region ?_
 refine l_rk 3 tt_ok ⟨64, [(0, (fS (a0))), (12, (fB ((decide (60 < (a0.size : Int))))))], [], []⟩ (by kernel_rfl) ?_
 refine l_nil ?_
 rcases cond_some h with ⟨hb, h⟩ | ⟨hb, h⟩
 ·refine awp_cond_t (b := (decide (60 < (a0.size : Int)))) (by kernel_rfl) hb ?_
  refine awp_seq ?_
  refine awp_region ?_
  obtain ⟨v1, hv1, h⟩ := Option.bind_eq_some_iff.1 h
  refine l_step ((n_call (ys := []) (cs := []) rfl (by kernel_rfl) (synthesislaw16_alive_ok  _ hv1)).step) (by kernel_rfl) (dst_of (by kernel_rfl)) ?_
  refine l_rk 1 tt_ok ⟨64, [(2, (fB (v1)))], [], []⟩ (by kernel_rfl) ?_
  refine l_nil ?_
  refine awp_ret ?_
  obtain rfl := Option.some.inj h
  exact (show retX _ _ _ _ = some _ from by kernel_rfl)
 ·refine awp_cond_f (b := (decide (60 < (a0.size : Int)))) (by kernel_rfl) hb ?_
  refine awp_skip ?_
  refine awp_seq ?_
  refine awp_region ?_
  refine l_rk 1 tt_ok ⟨64, [(0, (fS (a0))), (15, (fS (a0)))], [], []⟩ (by kernel_rfl) ?_
  obtain ⟨v2, hv2, h⟩ := Option.bind_eq_some_iff.1 h
  refine l_step ((n_call (ys := [eS (a0)]) (cs := [(.one (.keep))]) rfl (by kernel_rfl) (languages_Get_ok (a0) _ hv2)).step) (by kernel_rfl) (dst_of (by kernel_rfl)) ?_
  refine l_rk 6 tt_ok ⟨64, [(0, (fS (a0))), (3, (.ref 1 0 0)), (4, (fI (v2.2)))], [(1, (.box 27 [(fS (v2.1.name)), (.fz ((eL 1 eI) (v2.1.inputs))), (.fz ((eL 2 eSy) (v2.1.symbols))), (.fz ((eL 9 eRu) (v2.1.rules)))]))], [1]⟩ (by kernel_rfl) ?_
  refine l_nil ?_
  refine awp_seq ?_
  refine awp_region ?_
  refine l_rk 1 tt_ok ⟨64, [(3, (.ref 1 0 0)), (4, (fI (v2.2))), (20, (fS (a0)))], [(1, (.box 27 [(fS (v2.1.name)), (.fz ((eL 1 eI) (v2.1.inputs))), (.fz ((eL 2 eSy) (v2.1.symbols))), (.fz ((eL 9 eRu) (v2.1.rules)))]))], [1]⟩ (by kernel_rfl) ?_
  obtain ⟨v3, hv3, h⟩ := Option.bind_eq_some_iff.1 h
  refine l_step ((n_call (ys := [eS (a0)]) (cs := [(.one (.keep))]) rfl (by kernel_rfl) (synthesisref16_Get_ok (a0) _ hv3)).step) (by kernel_rfl) (dst_of (by kernel_rfl)) ?_
  refine l_rk 6 tt_ok ⟨64, [(3, (.ref 1 0 0)), (4, (fI (v2.2))), (5, (.ref 2 0 0)), (6, (fI (v3.2)))], [(1, (.box 27 [(fS (v2.1.name)), (.fz ((eL 1 eI) (v2.1.inputs))), (.fz ((eL 2 eSy) (v2.1.symbols))), (.fz ((eL 9 eRu) (v2.1.rules)))])), (2, (.box 27 [(fS (v3.1.name)), (.fz ((eL 1 eI) (v3.1.inputs))), (.fz ((eL 2 eSy) (v3.1.symbols))), (.fz ((eL 9 eRu) (v3.1.rules)))]))], [2, 1]⟩ (by kernel_rfl) ?_
  refine l_nil ?_
  refine awp_seq ?_
  refine awp_seq ?_
  obtain ⟨v6, hj, h⟩ := Option.bind_eq_some_iff.1 h
  refine awp_join (Qa := fun e st => e = .normal ∧ LeSt st ⟨64, [(32, (fB (v6)))], [], []⟩) ?_ ?_
  ·replace h := hj
   clear hj
   refine awp_region ?_
   refine l_rk 2 tt_ok ⟨64, [(4, (fI (v2.2))), (6, (fI (v3.2))), (24, (.fz (eLa (v2.1)))), (25, (.fz (eLa (v3.1))))], [], []⟩ (by kernel_rfl) ?_
   obtain ⟨v4, hv4, h⟩ := Option.bind_eq_some_iff.1 h
   refine l_step ((n_call (ys := [eLa (v2.1), eLa (v3.1)]) (cs := [(.one .keep), (.one .keep)]) rfl (by kernel_rfl) (synthesisref11_Same_ok (v2.1) (v3.1) _ hv4)).step) (by kernel_rfl) (dst_of (by kernel_rfl)) ?_
   refine l_rk 2 tt_ok ⟨64, [(4, (fI (v2.2))), (6, (fI (v3.2))), (28, (fB ((!v4))))], [], []⟩ (by kernel_rfl) ?_
   rcases cond_some h with ⟨hb, h⟩ | ⟨hb, h⟩
   ·refine l_le (le_eq (t := 28) (x := .fz (eB (!v4))) (y := .fz (eB true)) (by kernel_rfl) (congrArg (fun b => AV.fz (eB b)) hb)) ?_
    refine l_rk 4 tt_ok ⟨64, [(32, (fB (true)))], [], []⟩ (by kernel_rfl) ?_
    refine l_nil ?_
    obtain rfl := Option.some.inj h
    exact And.intro rfl (le_ck (by kernel_rfl))
   ·refine l_le (le_eq (t := 28) (x := .fz (eB (!v4))) (y := .fz (eB false)) (by kernel_rfl) (congrArg (fun b => AV.fz (eB b)) hb)) ?_
    refine l_rk 4 tt_ok ⟨64, [(32, (fB ((v2.2 != v3.2))))], [], []⟩ (by kernel_rfl) ?_
    refine l_nil ?_
    obtain rfl := Option.some.inj h
    exact And.intro rfl (le_ck (by kernel_rfl))
  ·clear hj
   intro e st' hq
   obtain ⟨rfl, hle⟩ := hq
   refine ⟨_, hle, ?_⟩
   rcases cond_some h with ⟨hb, h⟩ | ⟨hb, h⟩
   ·refine awp_cond_t (b := v6) (by kernel_rfl) hb ?_
    refine awp_seq ?_
    refine awp_region ?_
    refine l_rk 1 tt_ok ⟨64, [(2, (fB (false)))], [], []⟩ (by kernel_rfl) ?_
    refine l_nil ?_
    refine awp_ret ?_
    obtain rfl := Option.some.inj h
    exact (show retX _ _ _ _ = some _ from by kernel_rfl)
   ·refine awp_cond_f (b := v6) (by kernel_rfl) hb ?_
    refine awp_skip ?_
    refine awp_seq ?_
    refine awp_region ?_
    obtain ⟨v7, hv7, h⟩ := Option.bind_eq_some_iff.1 h
    refine l_step ((n_call (ys := []) (cs := []) rfl (by kernel_rfl) (languages_Names_ok  _ hv7)).step) (by kernel_rfl) (dst_of (by kernel_rfl)) ?_
    obtain ⟨v8, hv8, h⟩ := Option.bind_eq_some_iff.1 h
    refine l_step ((n_call (ys := []) (cs := []) rfl (by kernel_rfl) (synthesisref16_Names_ok  _ hv8)).step) (by kernel_rfl) (dst_of (by kernel_rfl)) ?_
    refine l_rk 2 tt_ok ⟨64, [(7, (.fz ((eL 1 eS) (v7)))), (8, (.fz ((eL 1 eS) (v8))))], [], []⟩ (by kernel_rfl) ?_
    refine l_nil ?_
    refine awp_seq ?_
    refine awp_seq ?_
    refine awp_region ?_
    refine l_rk 1 tt_ok ⟨64, [(7, (.fz ((eL 1 eS) (v7)))), (8, (.fz ((eL 1 eS) (v8)))), (9, (fI (0)))], [], []⟩ (by kernel_rfl) ?_
    refine l_nil ?_
    refine awp_block ?_
    obtain ⟨v14, hj, h⟩ := Option.bind_eq_some_iff.1 h
    refine awp_join (Qa := fun e st => Sum.elim (fun p => e = .exit 0 ∧ LeSt st ⟨64, [(7, (.fz ((eL 1 eS) (v7)))), (8, (.fz ((eL 1 eS) (v8))))], [], []⟩) (fun p => e = .ret ∧ retX TT st Try.f3.results.toList [.one .keep] = some (eB (p))) v14) ?_ ?_
    ·refine awp_loopS (stOf := fun v9 => ⟨64, [(7, (.fz ((eL 1 eS) (v7)))), (8, (.fz ((eL 1 eS) (v8)))), (9, (fI (v9)))], [], []⟩) (Qb := fun j e st => Sum.elim (fun p => e = .exit 0 ∧ LeSt st ⟨64, [(7, (.fz ((eL 1 eS) (v7)))), (8, (.fz ((eL 1 eS) (v8))))], [], []⟩) (fun p => e = .ret ∧ retX TT st Try.f3.results.toList [.one .keep] = some (eB (p))) j) hj (le_ck (by kernel_rfl)) ?_
     clear hj h
     intro v9 r h
     unfold synthesislaw16_LanguagesGets_l1 at h
     refine awp_seq ?_
     refine awp_seq ?_
     obtain ⟨v11, hj, h⟩ := Option.bind_eq_some_iff.1 h
     refine awp_join (Qa := fun e st => e = .normal ∧ LeSt st ⟨64, [(7, (.fz ((eL 1 eS) (v7)))), (8, (.fz ((eL 1 eS) (v8)))), (9, (fI (v9))), (44, (fB (v11)))], [], []⟩) ?_ ?_
     ·replace h := hj
      clear hj
      refine awp_region ?_
      refine l_rk 5 tt_ok ⟨64, [(7, (.fz ((eL 1 eS) (v7)))), (8, (.fz ((eL 1 eS) (v8)))), (9, (fI (v9))), (39, (fB ((decide (v9 < (List.length v7 : Int))))))], [], []⟩ (by kernel_rfl) ?_
      rcases cond_some h with ⟨hb, h⟩ | ⟨hb, h⟩
      ·refine l_le (le_eq (t := 39) (x := .fz (eB (decide (v9 < (List.length v7 : Int))))) (y := .fz (eB true)) (by kernel_rfl) (congrArg (fun b => AV.fz (eB b)) hb)) ?_
       refine l_rk 5 tt_ok ⟨64, [(7, (.fz ((eL 1 eS) (v7)))), (8, (.fz ((eL 1 eS) (v8)))), (9, (fI (v9))), (44, (fB ((decide (v9 < (List.length v8 : Int))))))], [], []⟩ (by kernel_rfl) ?_
       refine l_nil ?_
       obtain rfl := Option.some.inj h
       exact And.intro rfl (le_ck (by kernel_rfl))
      ·refine l_le (le_eq (t := 39) (x := .fz (eB (decide (v9 < (List.length v7 : Int))))) (y := .fz (eB false)) (by kernel_rfl) (congrArg (fun b => AV.fz (eB b)) hb)) ?_
       refine l_rk 5 tt_ok ⟨64, [(7, (.fz ((eL 1 eS) (v7)))), (8, (.fz ((eL 1 eS) (v8)))), (9, (fI (v9))), (44, (fB (false)))], [], []⟩ (by kernel_rfl) ?_
       refine l_nil ?_
       obtain rfl := Option.some.inj h
       exact And.intro rfl (le_ck (by kernel_rfl))
     ·clear hj
      intro e st' hq
      obtain ⟨rfl, hle⟩ := hq
      refine ⟨_, hle, ?_⟩
      rcases cond_some h with ⟨hb, h⟩ | ⟨hb, h⟩
      ·refine awp_cond_t (b := v11) (by kernel_rfl) hb ?_
       refine awp_skip ?_
       refine awp_seq ?_
       refine awp_block ?_
       refine awp_seq ?_
       obtain ⟨v12, hv12, h⟩ := Option.bind_eq_some_iff.1 h
       obtain ⟨v13, hv13, h⟩ := Option.bind_eq_some_iff.1 h
       refine awp_drawn (by kernel_rfl) [(.fz ((eL 1 eS) (v7))), (fI (v9)), (.fz (.fp [(eS (v12))])), (fS (v12)), (.fz ((eL 1 eS) (v8))), (fI (v9)), (.fz (.fp [(eS (v13))])), (fS (v13))] (by kernel_rfl) ?_
       refine ⟨.inl ⟨by kernel_rfl, (nstep_ok tt_ok (by kernel_rfl))⟩, ?_⟩
       refine ⟨.inl ⟨by kernel_rfl, (nstep_ok tt_ok (by kernel_rfl))⟩, ?_⟩
       refine ⟨.inl ⟨by kernel_rfl, (s_index (k := .i64) (d := tt32) (e := 9) (de := tt9) (enc := eS) hv12 tt_ok rfl (by kernel_rfl) (by kernel_rfl) (by kernel_rfl) (by kernel_rfl) len_eS (by kernel_rfl) rfl)⟩, ?_⟩
       refine ⟨.inl ⟨by kernel_rfl, (nstep_ok tt_ok (by kernel_rfl))⟩, ?_⟩
       refine ⟨.inl ⟨by kernel_rfl, (nstep_ok tt_ok (by kernel_rfl))⟩, ?_⟩
       refine ⟨.inl ⟨by kernel_rfl, (nstep_ok tt_ok (by kernel_rfl))⟩, ?_⟩
       refine ⟨.inl ⟨by kernel_rfl, (s_index (k := .i64) (d := tt32) (e := 9) (de := tt9) (enc := eS) hv13 tt_ok rfl (by kernel_rfl) (by kernel_rfl) (by kernel_rfl) (by kernel_rfl) len_eS (by kernel_rfl) rfl)⟩, ?_⟩
       refine ⟨.inl ⟨by kernel_rfl, (nstep_ok tt_ok (by kernel_rfl))⟩, ?_⟩
       refine l_rk 1 tt_ok ⟨64, [(7, (.fz ((eL 1 eS) (v7)))), (8, (.fz ((eL 1 eS) (v8)))), (9, (fI (v9))), (55, (fB ((!(v12.toList == v13.toList)))))], [], []⟩ (by kernel_rfl) ?_
       refine l_nil ?_
       rcases cond_some h with ⟨hb, h⟩ | ⟨hb, h⟩
       ·refine awp_cond_t (b := (!(v12.toList == v13.toList))) (by kernel_rfl) hb ?_
        refine awp_seq ?_
        refine awp_region ?_
        refine l_rk 1 tt_ok ⟨64, [(2, (fB (false)))], [], []⟩ (by kernel_rfl) ?_
        refine l_nil ?_
        refine awp_ret ?_
        obtain rfl := Option.some.inj h
        exact And.intro (And.intro (fun h => nomatch h) (fun h => nomatch h)) (And.intro rfl (show retX _ _ _ _ = some _ from by kernel_rfl))
       ·refine awp_cond_f (b := (!(v12.toList == v13.toList))) (by kernel_rfl) hb ?_
        refine awp_skip ?_
        refine awp_region ?_
        refine l_rk 3 tt_ok ⟨64, [(7, (.fz ((eL 1 eS) (v7)))), (8, (.fz ((eL 1 eS) (v8)))), (9, (fI ((w64 (v9 + 1)))))], [], []⟩ (by kernel_rfl) ?_
        refine l_nil ?_
        obtain rfl := Option.some.inj h
        exact And.intro rfl (le_ck (by kernel_rfl))
      ·refine awp_cond_f (b := v11) (by kernel_rfl) hb ?_
       refine awp_exit ?_
       obtain rfl := Option.some.inj h
       exact And.intro (And.intro (fun h => nomatch h) (fun h => nomatch h)) (And.intro rfl (le_ck (by kernel_rfl)))
    ·clear hj
     intro e st' hq
     rcases v14 with v15 | v19
     ·try simp only [Sum.elim_inl, Sum.elim_inr] at h
      obtain ⟨rfl, hle⟩ := hq
      refine ⟨_, hle, ?_⟩
      refine awp_seq ?_
      obtain ⟨v18, hj, h⟩ := Option.bind_eq_some_iff.1 h
      refine awp_join (Qa := fun e st => e = .normal ∧ LeSt st ⟨64, [(2, (fB (v18)))], [], []⟩) ?_ ?_
      ·replace h := hj
       clear hj
       refine awp_region ?_
       refine l_rk 6 tt_ok ⟨64, [(61, (fB (((List.length v7 : Int) == (List.length v8 : Int)))))], [], []⟩ (by kernel_rfl) ?_
       rcases cond_some h with ⟨hb, h⟩ | ⟨hb, h⟩
       ·refine l_le (le_eq (t := 61) (x := .fz (eB ((List.length v7 : Int) == (List.length v8 : Int)))) (y := .fz (eB true)) (by kernel_rfl) (congrArg (fun b => AV.fz (eB b)) hb)) ?_
        obtain ⟨v16, hv16, h⟩ := Option.bind_eq_some_iff.1 h
        refine l_step ((n_call (ys := []) (cs := []) rfl (by kernel_rfl) (synthesislaw16_alive_ok  _ hv16)).step) (by kernel_rfl) (dst_of (by kernel_rfl)) ?_
        refine l_rk 2 tt_ok ⟨64, [(2, (fB (v16)))], [], []⟩ (by kernel_rfl) ?_
        refine l_nil ?_
        obtain rfl := Option.some.inj h
        exact And.intro rfl (le_ck (by kernel_rfl))
       ·refine l_le (le_eq (t := 61) (x := .fz (eB ((List.length v7 : Int) == (List.length v8 : Int)))) (y := .fz (eB false)) (by kernel_rfl) (congrArg (fun b => AV.fz (eB b)) hb)) ?_
        refine l_rk 3 tt_ok ⟨64, [(2, (fB (false)))], [], []⟩ (by kernel_rfl) ?_
        refine l_nil ?_
        obtain rfl := Option.some.inj h
        exact And.intro rfl (le_ck (by kernel_rfl))
      ·clear hj
       intro e st' hq
       obtain ⟨rfl, hle⟩ := hq
       refine ⟨_, hle, ?_⟩
       refine awp_ret ?_
       obtain rfl := Option.some.inj h
       exact (show retX _ _ _ _ = some _ from by kernel_rfl)
     ·try simp only [Sum.elim_inl, Sum.elim_inr] at h
      obtain ⟨rfl, hret⟩ := hq
      refine ⟨_, LeSt.refl, ?_⟩
      obtain rfl := Option.some.inj h
      exact hret

def synthesislaw16_LanguagesStrings_l1 (a0 : List ByteArray) (v4 : (Int)) : Option (((Int)) ⊕ (((Unit) ⊕ (Bool)))) := (bif (decide (v4 < (List.length a0 : Int))) then (Option.bind (idx a0 v4) fun v5 => (bif (decide (100 < (v5.size : Int))) then (Option.bind (synthesislaw16_alive ) fun v6 => (some (.inr (.inr v6)))) else (some (.inl ((w64 (v4 + 1))))))) else (some (.inr (.inl ()))))
def synthesislaw16_LanguagesStrings (a0 : List ByteArray) (a1 : List Int) : Option (Bool) := (Option.bind ((bif (decide (30 < (List.length a0 : Int))) then (some (true)) else (some ((decide (30 < (List.length a1 : Int)))))) : Option ((Bool))) fun (v2 : (Bool)) => (bif v2 then (Option.bind (synthesislaw16_alive ) fun v3 => (some v3)) else (Option.bind (loopN (synthesislaw16_LanguagesStrings_l1 a0) fuel (0)) fun (v7 : ((Unit) ⊕ (Bool))) => Sum.elim (fun v8 => (Option.bind (languages_Strings (a0) (a1)) fun v9 => (Option.bind (synthesisref16_Strings (a0) (a1)) fun v10 => (Option.bind ((Option.bind (synthesisref11_Same (v9.1) (v10.1)) fun v11 => (bif v11 then (bif (v9.2 == v10.2) then (Option.bind (synthesislaw16_alive ) fun v12 => (some (v12))) else (some (false))) else (some (false)))) : Option ((Bool))) fun (v14 : (Bool)) => (some v14))))) (fun v15 => (some v15)) v7)))
theorem synthesislaw16_LanguagesStrings_ok (a0 : List ByteArray) (a1 : List Int) (r : Bool) (h : synthesislaw16_LanguagesStrings a0 a1 = some r) : PCall Try.prog 4 [(eL 1 eS) a0, (eL 1 eI) a1] (eB (r)) := by
 unfold synthesislaw16_LanguagesStrings at h
 refine pcall_intro (T := TT) tt_ok [.one .keep] Try.func4 rfl (by kernel_rfl) (by kernel_rfl) ?_
 refine awp_le (st' := ⟨55, [(0, (.fz ((eL 1 eS) (a0)))), (1, (.fz ((eL 1 eI) (a1))))], [], []⟩) (le_ck (by kernel_rfl)) ?_
 refine awp_seq ?_
 refine awp_region ?_
 refine l_rk 1 tt_ok ⟨55, [(0, (.fz ((eL 1 eS) (a0)))), (1, (.fz ((eL 1 eI) (a1))))], [], []⟩ (by kernel_rfl) ?_
 refine l_nil ?_
 refine awp_seq ?_
 refine awp_seq ?_
 obtain ⟨v2, hj, h⟩ := Option.bind_eq_some_iff.1 h
 refine awp_join (Qa := fun e st => e = .normal ∧ LeSt st ⟨55, [(0, (.fz ((eL 1 eS) (a0)))), (1, (.fz ((eL 1 eI) (a1)))), (17, (fB (v2)))], [], []⟩) ?_ ?_
 ·replace h := hj
  clear hj
  refine awp_region ?_
  refine l_rk 4 tt_ok ⟨55, [(0, (.fz ((eL 1 eS) (a0)))), (1, (.fz ((eL 1 eI) (a1)))), (13, (fB ((decide (30 < (List.length a0 : Int))))))], [], []⟩ (by kernel_rfl) ?_
  rcases cond_some h with ⟨hb, h⟩ | ⟨hb, h⟩
  ·refine l_le (le_eq (t := 13) (x := .fz (eB (decide (30 < (List.length a0 : Int))))) (y := .fz (eB true)) (by kernel_rfl) (congrArg (fun b => AV.fz (eB b)) hb)) ?_
   refine l_rk 4 tt_ok ⟨55, [(0, (.fz ((eL 1 eS) (a0)))), (1, (.fz ((eL 1 eI) (a1)))), (17, (fB (true)))], [], []⟩ (by kernel_rfl) ?_
   refine l_nil ?_
   obtain rfl := Option.some.inj h
   exact And.intro rfl (le_ck (by kernel_rfl))
  ·refine l_le (le_eq (t := 13) (x := .fz (eB (decide (30 < (List.length a0 : Int))))) (y := .fz (eB false)) (by kernel_rfl) (congrArg (fun b => AV.fz (eB b)) hb)) ?_
   refine l_rk 4 tt_ok ⟨55, [(0, (.fz ((eL 1 eS) (a0)))), (1, (.fz ((eL 1 eI) (a1)))), (17, (fB ((decide (30 < (List.length a1 : Int))))))], [], []⟩ (by kernel_rfl) ?_
   refine l_nil ?_
   obtain rfl := Option.some.inj h
   exact And.intro rfl (le_ck (by kernel_rfl))
 ·clear hj
  intro e st' hq
  obtain ⟨rfl, hle⟩ := hq
  refine ⟨_, hle, ?_⟩
  rcases cond_some h with ⟨hb, h⟩ | ⟨hb, h⟩
  ·refine awp_cond_t (b := v2) (by kernel_rfl) hb ?_
   refine awp_seq ?_
   refine awp_region ?_
   obtain ⟨v3, hv3, h⟩ := Option.bind_eq_some_iff.1 h
   refine l_step ((n_call (ys := []) (cs := []) rfl (by kernel_rfl) (synthesislaw16_alive_ok  _ hv3)).step) (by kernel_rfl) (dst_of (by kernel_rfl)) ?_
   refine l_rk 1 tt_ok ⟨55, [(4, (fB (v3)))], [], []⟩ (by kernel_rfl) ?_
   refine l_nil ?_
   refine awp_ret ?_
   obtain rfl := Option.some.inj h
   exact (show retX _ _ _ _ = some _ from by kernel_rfl)
  ·refine awp_cond_f (b := v2) (by kernel_rfl) hb ?_
   refine awp_skip ?_
   refine awp_seq ?_
   refine awp_seq ?_
   refine awp_region ?_
   refine l_rk 1 tt_ok ⟨55, [(0, (.fz ((eL 1 eS) (a0)))), (1, (.fz ((eL 1 eI) (a1)))), (5, (fI (0)))], [], []⟩ (by kernel_rfl) ?_
   refine l_nil ?_
   refine awp_block ?_
   obtain ⟨v7, hj, h⟩ := Option.bind_eq_some_iff.1 h
   refine awp_join (Qa := fun e st => Sum.elim (fun p => e = .exit 0 ∧ LeSt st ⟨55, [(0, (.fz ((eL 1 eS) (a0)))), (1, (.fz ((eL 1 eI) (a1))))], [], []⟩) (fun p => e = .ret ∧ retX TT st Try.f4.results.toList [.one .keep] = some (eB (p))) v7) ?_ ?_
   ·refine awp_loopS (stOf := fun v4 => ⟨55, [(0, (.fz ((eL 1 eS) (a0)))), (1, (.fz ((eL 1 eI) (a1)))), (5, (fI (v4)))], [], []⟩) (Qb := fun j e st => Sum.elim (fun p => e = .exit 0 ∧ LeSt st ⟨55, [(0, (.fz ((eL 1 eS) (a0)))), (1, (.fz ((eL 1 eI) (a1))))], [], []⟩) (fun p => e = .ret ∧ retX TT st Try.f4.results.toList [.one .keep] = some (eB (p))) j) hj (le_ck (by kernel_rfl)) ?_
    clear hj h
    intro v4 r h
    unfold synthesislaw16_LanguagesStrings_l1 at h
    refine awp_seq ?_
    refine awp_seq ?_
    refine awp_region ?_
    refine l_rk 4 tt_ok ⟨55, [(0, (.fz ((eL 1 eS) (a0)))), (1, (.fz ((eL 1 eI) (a1)))), (5, (fI (v4))), (22, (fB ((decide (v4 < (List.length a0 : Int))))))], [], []⟩ (by kernel_rfl) ?_
    refine l_nil ?_
    rcases cond_some h with ⟨hb, h⟩ | ⟨hb, h⟩
    ·refine awp_cond_t (b := (decide (v4 < (List.length a0 : Int)))) (by kernel_rfl) hb ?_
     refine awp_skip ?_
     refine awp_seq ?_
     refine awp_block ?_
     refine awp_seq ?_
     refine awp_region ?_
     refine l_rk 2 tt_ok ⟨55, [(0, (.fz ((eL 1 eS) (a0)))), (1, (.fz ((eL 1 eI) (a1)))), (5, (fI (v4))), (25, (.fz ((eL 1 eS) (a0)))), (26, (fI (v4)))], [], []⟩ (by kernel_rfl) ?_
     obtain ⟨v5, hv5, h⟩ := Option.bind_eq_some_iff.1 h
     refine l_step ((s_index (k := .i64) (d := tt32) (e := 9) (de := tt9) (enc := eS) hv5 tt_ok rfl (by kernel_rfl) (by kernel_rfl) (by kernel_rfl) (by kernel_rfl) len_eS (by kernel_rfl) rfl).step) (by kernel_rfl) (dst_of (by kernel_rfl)) ?_
     refine l_rk 3 tt_ok ⟨55, [(0, (.fz ((eL 1 eS) (a0)))), (1, (.fz ((eL 1 eI) (a1)))), (5, (fI (v4))), (30, (fB ((decide (100 < (v5.size : Int))))))], [], []⟩ (by kernel_rfl) ?_
     refine l_nil ?_
     rcases cond_some h with ⟨hb, h⟩ | ⟨hb, h⟩
     ·refine awp_cond_t (b := (decide (100 < (v5.size : Int)))) (by kernel_rfl) hb ?_
      refine awp_seq ?_
      refine awp_region ?_
      obtain ⟨v6, hv6, h⟩ := Option.bind_eq_some_iff.1 h
      refine l_step ((n_call (ys := []) (cs := []) rfl (by kernel_rfl) (synthesislaw16_alive_ok  _ hv6)).step) (by kernel_rfl) (dst_of (by kernel_rfl)) ?_
      refine l_rk 1 tt_ok ⟨55, [(4, (fB (v6)))], [], []⟩ (by kernel_rfl) ?_
      refine l_nil ?_
      refine awp_ret ?_
      obtain rfl := Option.some.inj h
      exact And.intro (And.intro (fun h => nomatch h) (fun h => nomatch h)) (And.intro rfl (show retX _ _ _ _ = some _ from by kernel_rfl))
     ·refine awp_cond_f (b := (decide (100 < (v5.size : Int)))) (by kernel_rfl) hb ?_
      refine awp_skip ?_
      refine awp_region ?_
      refine l_rk 3 tt_ok ⟨55, [(0, (.fz ((eL 1 eS) (a0)))), (1, (.fz ((eL 1 eI) (a1)))), (5, (fI ((w64 (v4 + 1)))))], [], []⟩ (by kernel_rfl) ?_
      refine l_nil ?_
      obtain rfl := Option.some.inj h
      exact And.intro rfl (le_ck (by kernel_rfl))
    ·refine awp_cond_f (b := (decide (v4 < (List.length a0 : Int)))) (by kernel_rfl) hb ?_
     refine awp_exit ?_
     obtain rfl := Option.some.inj h
     exact And.intro (And.intro (fun h => nomatch h) (fun h => nomatch h)) (And.intro rfl (le_ck (by kernel_rfl)))
   ·clear hj
    intro e st' hq
    rcases v7 with v8 | v15
    ·try simp only [Sum.elim_inl, Sum.elim_inr] at h
     obtain ⟨rfl, hle⟩ := hq
     refine ⟨_, hle, ?_⟩
     refine awp_seq ?_
     refine awp_region ?_
     refine l_rk 2 tt_ok ⟨55, [(0, (.fz ((eL 1 eS) (a0)))), (1, (.fz ((eL 1 eI) (a1)))), (33, (.fz ((eL 1 eS) (a0)))), (34, (.fz ((eL 1 eI) (a1))))], [], []⟩ (by kernel_rfl) ?_
     obtain ⟨v9, hv9, h⟩ := Option.bind_eq_some_iff.1 h
     refine l_step ((n_call (ys := [(eL 1 eS) (a0), (eL 1 eI) (a1)]) (cs := [(.one (.sl 1)), (.one (.sl 1))]) rfl (by kernel_rfl) (languages_Strings_ok (a0) (a1) _ hv9)).step) (by kernel_rfl) (dst_of (by kernel_rfl)) ?_
     refine l_rk 6 tt_ok ⟨55, [(0, (.fz ((eL 1 eS) (a0)))), (1, (.fz ((eL 1 eI) (a1)))), (6, (.ref 1 0 0)), (7, (fI (v9.2)))], [(1, (.box 27 [(fS (v9.1.name)), (.fz ((eL 1 eI) (v9.1.inputs))), (.fz ((eL 2 eSy) (v9.1.symbols))), (.fz ((eL 9 eRu) (v9.1.rules)))]))], [1]⟩ (by kernel_rfl) ?_
     refine l_nil ?_
     refine awp_seq ?_
     refine awp_region ?_
     refine l_rk 2 tt_ok ⟨55, [(6, (.ref 1 0 0)), (7, (fI (v9.2))), (39, (.fz ((eL 1 eS) (a0)))), (40, (.fz ((eL 1 eI) (a1))))], [(1, (.box 27 [(fS (v9.1.name)), (.fz ((eL 1 eI) (v9.1.inputs))), (.fz ((eL 2 eSy) (v9.1.symbols))), (.fz ((eL 9 eRu) (v9.1.rules)))]))], [1]⟩ (by kernel_rfl) ?_
     obtain ⟨v10, hv10, h⟩ := Option.bind_eq_some_iff.1 h
     refine l_step ((n_call (ys := [(eL 1 eS) (a0), (eL 1 eI) (a1)]) (cs := [(.one (.sl 1)), (.one (.sl 1))]) rfl (by kernel_rfl) (synthesisref16_Strings_ok (a0) (a1) _ hv10)).step) (by kernel_rfl) (dst_of (by kernel_rfl)) ?_
     refine l_rk 6 tt_ok ⟨55, [(6, (.ref 1 0 0)), (7, (fI (v9.2))), (8, (.ref 2 0 0)), (9, (fI (v10.2)))], [(1, (.box 27 [(fS (v9.1.name)), (.fz ((eL 1 eI) (v9.1.inputs))), (.fz ((eL 2 eSy) (v9.1.symbols))), (.fz ((eL 9 eRu) (v9.1.rules)))])), (2, (.box 27 [(fS (v10.1.name)), (.fz ((eL 1 eI) (v10.1.inputs))), (.fz ((eL 2 eSy) (v10.1.symbols))), (.fz ((eL 9 eRu) (v10.1.rules)))]))], [2, 1]⟩ (by kernel_rfl) ?_
     refine l_nil ?_
     refine awp_seq ?_
     obtain ⟨v14, hj, h⟩ := Option.bind_eq_some_iff.1 h
     refine awp_join (Qa := fun e st => e = .normal ∧ LeSt st ⟨55, [(4, (fB (v14)))], [], []⟩) ?_ ?_
     ·replace h := hj
      clear hj
      refine awp_region ?_
      refine l_rk 2 tt_ok ⟨55, [(7, (fI (v9.2))), (9, (fI (v10.2))), (44, (.fz (eLa (v9.1)))), (45, (.fz (eLa (v10.1))))], [], []⟩ (by kernel_rfl) ?_
      obtain ⟨v11, hv11, h⟩ := Option.bind_eq_some_iff.1 h
      refine l_step ((n_call (ys := [eLa (v9.1), eLa (v10.1)]) (cs := [(.one .keep), (.one .keep)]) rfl (by kernel_rfl) (synthesisref11_Same_ok (v9.1) (v10.1) _ hv11)).step) (by kernel_rfl) (dst_of (by kernel_rfl)) ?_
      refine l_rk 1 tt_ok ⟨55, [(7, (fI (v9.2))), (9, (fI (v10.2))), (47, (fB (v11)))], [], []⟩ (by kernel_rfl) ?_
      rcases cond_some h with ⟨hb, h⟩ | ⟨hb, h⟩
      ·refine l_le (le_eq (t := 47) (x := .fz (eB v11)) (y := .fz (eB true)) (by kernel_rfl) (congrArg (fun b => AV.fz (eB b)) hb)) ?_
       refine l_rk 5 tt_ok ⟨55, [(52, (fB ((v9.2 == v10.2))))], [], []⟩ (by kernel_rfl) ?_
       rcases cond_some h with ⟨hb, h⟩ | ⟨hb, h⟩
       ·refine l_le (le_eq (t := 52) (x := .fz (eB (v9.2 == v10.2))) (y := .fz (eB true)) (by kernel_rfl) (congrArg (fun b => AV.fz (eB b)) hb)) ?_
        obtain ⟨v12, hv12, h⟩ := Option.bind_eq_some_iff.1 h
        refine l_step ((n_call (ys := []) (cs := []) rfl (by kernel_rfl) (synthesislaw16_alive_ok  _ hv12)).step) (by kernel_rfl) (dst_of (by kernel_rfl)) ?_
        refine l_rk 2 tt_ok ⟨55, [(4, (fB (v12)))], [], []⟩ (by kernel_rfl) ?_
        refine l_nil ?_
        obtain rfl := Option.some.inj h
        exact And.intro rfl (le_ck (by kernel_rfl))
       ·refine l_le (le_eq (t := 52) (x := .fz (eB (v9.2 == v10.2))) (y := .fz (eB false)) (by kernel_rfl) (congrArg (fun b => AV.fz (eB b)) hb)) ?_
        refine l_rk 3 tt_ok ⟨55, [(4, (fB (false)))], [], []⟩ (by kernel_rfl) ?_
        refine l_nil ?_
        obtain rfl := Option.some.inj h
        exact And.intro rfl (le_ck (by kernel_rfl))
      ·refine l_le (le_eq (t := 47) (x := .fz (eB v11)) (y := .fz (eB false)) (by kernel_rfl) (congrArg (fun b => AV.fz (eB b)) hb)) ?_
       refine l_rk 8 tt_ok ⟨55, [(4, (fB (false)))], [], []⟩ (by kernel_rfl) ?_
       refine l_nil ?_
       obtain rfl := Option.some.inj h
       exact And.intro rfl (le_ck (by kernel_rfl))
     ·clear hj
      intro e st' hq
      obtain ⟨rfl, hle⟩ := hq
      refine ⟨_, hle, ?_⟩
      refine awp_ret ?_
      obtain rfl := Option.some.inj h
      exact (show retX _ _ _ _ = some _ from by kernel_rfl)
    ·try simp only [Sum.elim_inl, Sum.elim_inr] at h
     obtain ⟨rfl, hret⟩ := hq
     refine ⟨_, LeSt.refl, ?_⟩
     obtain rfl := Option.some.inj h
     exact hret

def synthesislaw16_LanguagesPatterns (a0 : ByteArray) : Option (Bool) := (bif (decide (60 < (a0.size : Int))) then (Option.bind (synthesislaw16_alive ) fun v1 => (some v1)) else (Option.bind (languages_Patterns (a0)) fun v2 => (Option.bind (synthesisref16_Patterns (a0)) fun v3 => (Option.bind ((Option.bind (synthesisref11_Same (v2.1) (v3.1)) fun v4 => (bif v4 then (bif (v2.2 == v3.2) then (Option.bind (synthesislaw16_alive ) fun v5 => (some (v5))) else (some (false))) else (some (false)))) : Option ((Bool))) fun (v7 : (Bool)) => (some v7)))))
theorem synthesislaw16_LanguagesPatterns_ok (a0 : ByteArray) (r : Bool) (h : synthesislaw16_LanguagesPatterns a0 = some r) : PCall Try.prog 5 [eS a0] (eB (r)) := by
 unfold synthesislaw16_LanguagesPatterns at h
 refine pcall_intro (T := TT) tt_ok [.one .keep] Try.func5 rfl (by kernel_rfl) (by kernel_rfl) ?_
 refine awp_le (st' := ⟨32, [(0, (fS (a0)))], [], []⟩) (le_ck (by kernel_rfl)) ?_
 refine awp_seq ?_
 refine awp_region ?_
 refine l_rk 1 tt_ok ⟨32, [(0, (fS (a0)))], [], []⟩ (by kernel_rfl) ?_
 refine l_nil ?_
 refine awp_seq ?_
 refine awp_seq ?_
 refine awp_region ?_
 refine l_rk 3 tt_ok ⟨32, [(0, (fS (a0))), (9, (fB ((decide (60 < (a0.size : Int))))))], [], []⟩ (by kernel_rfl) ?_
 refine l_nil ?_
 rcases cond_some h with ⟨hb, h⟩ | ⟨hb, h⟩
 ·refine awp_cond_t (b := (decide (60 < (a0.size : Int)))) (by kernel_rfl) hb ?_
  refine awp_seq ?_
  refine awp_region ?_
  obtain ⟨v1, hv1, h⟩ := Option.bind_eq_some_iff.1 h
  refine l_step ((n_call (ys := []) (cs := []) rfl (by kernel_rfl) (synthesislaw16_alive_ok  _ hv1)).step) (by kernel_rfl) (dst_of (by kernel_rfl)) ?_
  refine l_rk 1 tt_ok ⟨32, [(2, (fB (v1)))], [], []⟩ (by kernel_rfl) ?_
  refine l_nil ?_
  refine awp_ret ?_
  obtain rfl := Option.some.inj h
  exact (show retX _ _ _ _ = some _ from by kernel_rfl)
 ·refine awp_cond_f (b := (decide (60 < (a0.size : Int)))) (by kernel_rfl) hb ?_
  refine awp_skip ?_
  refine awp_seq ?_
  refine awp_region ?_
  refine l_rk 1 tt_ok ⟨32, [(0, (fS (a0))), (12, (fS (a0)))], [], []⟩ (by kernel_rfl) ?_
  obtain ⟨v2, hv2, h⟩ := Option.bind_eq_some_iff.1 h
  refine l_step ((n_call (ys := [eS (a0)]) (cs := [(.one (.keep))]) rfl (by kernel_rfl) (languages_Patterns_ok (a0) _ hv2)).step) (by kernel_rfl) (dst_of (by kernel_rfl)) ?_
  refine l_rk 6 tt_ok ⟨32, [(0, (fS (a0))), (3, (.ref 1 0 0)), (4, (fI (v2.2)))], [(1, (.box 27 [(fS (v2.1.name)), (.fz ((eL 1 eI) (v2.1.inputs))), (.fz ((eL 2 eSy) (v2.1.symbols))), (.fz ((eL 9 eRu) (v2.1.rules)))]))], [1]⟩ (by kernel_rfl) ?_
  refine l_nil ?_
  refine awp_seq ?_
  refine awp_region ?_
  refine l_rk 1 tt_ok ⟨32, [(3, (.ref 1 0 0)), (4, (fI (v2.2))), (17, (fS (a0)))], [(1, (.box 27 [(fS (v2.1.name)), (.fz ((eL 1 eI) (v2.1.inputs))), (.fz ((eL 2 eSy) (v2.1.symbols))), (.fz ((eL 9 eRu) (v2.1.rules)))]))], [1]⟩ (by kernel_rfl) ?_
  obtain ⟨v3, hv3, h⟩ := Option.bind_eq_some_iff.1 h
  refine l_step ((n_call (ys := [eS (a0)]) (cs := [(.one (.keep))]) rfl (by kernel_rfl) (synthesisref16_Patterns_ok (a0) _ hv3)).step) (by kernel_rfl) (dst_of (by kernel_rfl)) ?_
  refine l_rk 6 tt_ok ⟨32, [(3, (.ref 1 0 0)), (4, (fI (v2.2))), (5, (.ref 2 0 0)), (6, (fI (v3.2)))], [(1, (.box 27 [(fS (v2.1.name)), (.fz ((eL 1 eI) (v2.1.inputs))), (.fz ((eL 2 eSy) (v2.1.symbols))), (.fz ((eL 9 eRu) (v2.1.rules)))])), (2, (.box 27 [(fS (v3.1.name)), (.fz ((eL 1 eI) (v3.1.inputs))), (.fz ((eL 2 eSy) (v3.1.symbols))), (.fz ((eL 9 eRu) (v3.1.rules)))]))], [2, 1]⟩ (by kernel_rfl) ?_
  refine l_nil ?_
  refine awp_seq ?_
  obtain ⟨v7, hj, h⟩ := Option.bind_eq_some_iff.1 h
  refine awp_join (Qa := fun e st => e = .normal ∧ LeSt st ⟨32, [(2, (fB (v7)))], [], []⟩) ?_ ?_
  ·replace h := hj
   clear hj
   refine awp_region ?_
   refine l_rk 2 tt_ok ⟨32, [(4, (fI (v2.2))), (6, (fI (v3.2))), (21, (.fz (eLa (v2.1)))), (22, (.fz (eLa (v3.1))))], [], []⟩ (by kernel_rfl) ?_
   obtain ⟨v4, hv4, h⟩ := Option.bind_eq_some_iff.1 h
   refine l_step ((n_call (ys := [eLa (v2.1), eLa (v3.1)]) (cs := [(.one .keep), (.one .keep)]) rfl (by kernel_rfl) (synthesisref11_Same_ok (v2.1) (v3.1) _ hv4)).step) (by kernel_rfl) (dst_of (by kernel_rfl)) ?_
   refine l_rk 1 tt_ok ⟨32, [(4, (fI (v2.2))), (6, (fI (v3.2))), (24, (fB (v4)))], [], []⟩ (by kernel_rfl) ?_
   rcases cond_some h with ⟨hb, h⟩ | ⟨hb, h⟩
   ·refine l_le (le_eq (t := 24) (x := .fz (eB v4)) (y := .fz (eB true)) (by kernel_rfl) (congrArg (fun b => AV.fz (eB b)) hb)) ?_
    refine l_rk 5 tt_ok ⟨32, [(29, (fB ((v2.2 == v3.2))))], [], []⟩ (by kernel_rfl) ?_
    rcases cond_some h with ⟨hb, h⟩ | ⟨hb, h⟩
    ·refine l_le (le_eq (t := 29) (x := .fz (eB (v2.2 == v3.2))) (y := .fz (eB true)) (by kernel_rfl) (congrArg (fun b => AV.fz (eB b)) hb)) ?_
     obtain ⟨v5, hv5, h⟩ := Option.bind_eq_some_iff.1 h
     refine l_step ((n_call (ys := []) (cs := []) rfl (by kernel_rfl) (synthesislaw16_alive_ok  _ hv5)).step) (by kernel_rfl) (dst_of (by kernel_rfl)) ?_
     refine l_rk 2 tt_ok ⟨32, [(2, (fB (v5)))], [], []⟩ (by kernel_rfl) ?_
     refine l_nil ?_
     obtain rfl := Option.some.inj h
     exact And.intro rfl (le_ck (by kernel_rfl))
    ·refine l_le (le_eq (t := 29) (x := .fz (eB (v2.2 == v3.2))) (y := .fz (eB false)) (by kernel_rfl) (congrArg (fun b => AV.fz (eB b)) hb)) ?_
     refine l_rk 3 tt_ok ⟨32, [(2, (fB (false)))], [], []⟩ (by kernel_rfl) ?_
     refine l_nil ?_
     obtain rfl := Option.some.inj h
     exact And.intro rfl (le_ck (by kernel_rfl))
   ·refine l_le (le_eq (t := 24) (x := .fz (eB v4)) (y := .fz (eB false)) (by kernel_rfl) (congrArg (fun b => AV.fz (eB b)) hb)) ?_
    refine l_rk 8 tt_ok ⟨32, [(2, (fB (false)))], [], []⟩ (by kernel_rfl) ?_
    refine l_nil ?_
    obtain rfl := Option.some.inj h
    exact And.intro rfl (le_ck (by kernel_rfl))
  ·clear hj
   intro e st' hq
   obtain ⟨rfl, hle⟩ := hq
   refine ⟨_, hle, ?_⟩
   refine awp_ret ?_
   obtain rfl := Option.some.inj h
   exact (show retX _ _ _ _ = some _ from by kernel_rfl)

def synthesislaw16_LanguagesLists (a0 : List Int) : Option (Bool) := (bif (decide (30 < (List.length a0 : Int))) then (Option.bind (synthesislaw16_alive ) fun v1 => (some v1)) else (Option.bind (languages_Lists (a0)) fun v2 => (Option.bind (synthesisref16_Lists (a0)) fun v3 => (Option.bind (languages_Vectors (a0)) fun v4 => (Option.bind (synthesisref16_Vectors (a0)) fun v5 => (Option.bind ((Option.bind (synthesisref11_Same (v2.1) (v3.1)) fun v6 => (bif (!v6) then (some (true)) else (bif (v2.2 != v3.2) then (some (true)) else (Option.bind (synthesisref11_Same (v4.1) (v5.1)) fun v7 => (bif (!v7) then (some (true)) else (some ((v4.2 != v5.2)))))))) : Option ((Bool))) fun (v9 : (Bool)) => (bif v9 then (some false) else (Option.bind (languages_Reshaping (a0)) fun v10 => (Option.bind (synthesisref16_Reshaping (a0)) fun v11 => (Option.bind ((Option.bind (synthesisref11_Same (v10.1) (v11.1)) fun v12 => (bif v12 then (bif (v10.2 == v11.2) then (Option.bind (synthesislaw16_alive ) fun v13 => (some (v13))) else (some (false))) else (some (false)))) : Option ((Bool))) fun (v15 : (Bool)) => (some v15)))))))))))
theorem synthesislaw16_LanguagesLists_ok (a0 : List Int) (r : Bool) (h : synthesislaw16_LanguagesLists a0 = some r) : PCall Try.prog 6 [(eL 1 eI) a0] (eB (r)) := by
 unfold synthesislaw16_LanguagesLists at h
 refine pcall_intro (T := TT) tt_ok [.one .keep] Try.func6 rfl (by kernel_rfl) (by kernel_rfl) ?_
 refine awp_le (st' := ⟨76, [(0, (.fz ((eL 1 eI) (a0))))], [], []⟩) (le_ck (by kernel_rfl)) ?_
 refine awp_seq ?_
 refine awp_region ?_
 refine l_rk 1 tt_ok ⟨76, [(0, (.fz ((eL 1 eI) (a0))))], [], []⟩ (by kernel_rfl) ?_
 refine l_nil ?_
 refine awp_seq ?_
 refine awp_seq ?_
 refine awp_region ?_
 refine l_rk 3 tt_ok ⟨76, [(0, (.fz ((eL 1 eI) (a0)))), (13, (fB ((decide (30 < (List.length a0 : Int))))))], [], []⟩ (by kernel_rfl) ?_
 refine l_nil ?_
 rcases cond_some h with ⟨hb, h⟩ | ⟨hb, h⟩
 ·refine awp_cond_t (b := (decide (30 < (List.length a0 : Int)))) (by kernel_rfl) hb ?_
  refine awp_seq ?_
  refine awp_region ?_
  obtain ⟨v1, hv1, h⟩ := Option.bind_eq_some_iff.1 h
  refine l_step ((n_call (ys := []) (cs := []) rfl (by kernel_rfl) (synthesislaw16_alive_ok  _ hv1)).step) (by kernel_rfl) (dst_of (by kernel_rfl)) ?_
  refine l_rk 1 tt_ok ⟨76, [(2, (fB (v1)))], [], []⟩ (by kernel_rfl) ?_
  refine l_nil ?_
  refine awp_ret ?_
  obtain rfl := Option.some.inj h
  exact (show retX _ _ _ _ = some _ from by kernel_rfl)
 ·refine awp_cond_f (b := (decide (30 < (List.length a0 : Int)))) (by kernel_rfl) hb ?_
  refine awp_skip ?_
  refine awp_seq ?_
  refine awp_region ?_
  refine l_rk 1 tt_ok ⟨76, [(0, (.fz ((eL 1 eI) (a0)))), (16, (.fz ((eL 1 eI) (a0))))], [], []⟩ (by kernel_rfl) ?_
  obtain ⟨v2, hv2, h⟩ := Option.bind_eq_some_iff.1 h
  refine l_step ((n_call (ys := [(eL 1 eI) (a0)]) (cs := [(.one (.sl 1))]) rfl (by kernel_rfl) (languages_Lists_ok (a0) _ hv2)).step) (by kernel_rfl) (dst_of (by kernel_rfl)) ?_
  refine l_rk 6 tt_ok ⟨76, [(0, (.fz ((eL 1 eI) (a0)))), (3, (.ref 1 0 0)), (4, (fI (v2.2)))], [(1, (.box 27 [(fS (v2.1.name)), (.fz ((eL 1 eI) (v2.1.inputs))), (.fz ((eL 2 eSy) (v2.1.symbols))), (.fz ((eL 9 eRu) (v2.1.rules)))]))], [1]⟩ (by kernel_rfl) ?_
  refine l_nil ?_
  refine awp_seq ?_
  refine awp_region ?_
  refine l_rk 1 tt_ok ⟨76, [(0, (.fz ((eL 1 eI) (a0)))), (3, (.ref 1 0 0)), (4, (fI (v2.2))), (21, (.fz ((eL 1 eI) (a0))))], [(1, (.box 27 [(fS (v2.1.name)), (.fz ((eL 1 eI) (v2.1.inputs))), (.fz ((eL 2 eSy) (v2.1.symbols))), (.fz ((eL 9 eRu) (v2.1.rules)))]))], [1]⟩ (by kernel_rfl) ?_
  obtain ⟨v3, hv3, h⟩ := Option.bind_eq_some_iff.1 h
  refine l_step ((n_call (ys := [(eL 1 eI) (a0)]) (cs := [(.one (.sl 1))]) rfl (by kernel_rfl) (synthesisref16_Lists_ok (a0) _ hv3)).step) (by kernel_rfl) (dst_of (by kernel_rfl)) ?_
  refine l_rk 6 tt_ok ⟨76, [(0, (.fz ((eL 1 eI) (a0)))), (3, (.ref 1 0 0)), (4, (fI (v2.2))), (5, (.ref 2 0 0)), (6, (fI (v3.2)))], [(1, (.box 27 [(fS (v2.1.name)), (.fz ((eL 1 eI) (v2.1.inputs))), (.fz ((eL 2 eSy) (v2.1.symbols))), (.fz ((eL 9 eRu) (v2.1.rules)))])), (2, (.box 27 [(fS (v3.1.name)), (.fz ((eL 1 eI) (v3.1.inputs))), (.fz ((eL 2 eSy) (v3.1.symbols))), (.fz ((eL 9 eRu) (v3.1.rules)))]))], [2, 1]⟩ (by kernel_rfl) ?_
  refine l_nil ?_
  refine awp_seq ?_
  refine awp_region ?_
  refine l_rk 1 tt_ok ⟨76, [(0, (.fz ((eL 1 eI) (a0)))), (3, (.ref 1 0 0)), (4, (fI (v2.2))), (5, (.ref 2 0 0)), (6, (fI (v3.2))), (26, (.fz ((eL 1 eI) (a0))))], [(1, (.box 27 [(fS (v2.1.name)), (.fz ((eL 1 eI) (v2.1.inputs))), (.fz ((eL 2 eSy) (v2.1.symbols))), (.fz ((eL 9 eRu) (v2.1.rules)))])), (2, (.box 27 [(fS (v3.1.name)), (.fz ((eL 1 eI) (v3.1.inputs))), (.fz ((eL 2 eSy) (v3.1.symbols))), (.fz ((eL 9 eRu) (v3.1.rules)))]))], [2, 1]⟩ (by kernel_rfl) ?_
  obtain ⟨v4, hv4, h⟩ := Option.bind_eq_some_iff.1 h
  refine l_step ((n_call (ys := [(eL 1 eI) (a0)]) (cs := [(.one (.sl 1))]) rfl (by kernel_rfl) (languages_Vectors_ok (a0) _ hv4)).step) (by kernel_rfl) (dst_of (by kernel_rfl)) ?_
  refine l_rk 6 tt_ok ⟨76, [(0, (.fz ((eL 1 eI) (a0)))), (3, (.ref 1 0 0)), (4, (fI (v2.2))), (5, (.ref 2 0 0)), (6, (fI (v3.2))), (7, (.ref 3 0 0)), (8, (fI (v4.2)))], [(1, (.box 27 [(fS (v2.1.name)), (.fz ((eL 1 eI) (v2.1.inputs))), (.fz ((eL 2 eSy) (v2.1.symbols))), (.fz ((eL 9 eRu) (v2.1.rules)))])), (2, (.box 27 [(fS (v3.1.name)), (.fz ((eL 1 eI) (v3.1.inputs))), (.fz ((eL 2 eSy) (v3.1.symbols))), (.fz ((eL 9 eRu) (v3.1.rules)))])), (3, (.box 27 [(fS (v4.1.name)), (.fz ((eL 1 eI) (v4.1.inputs))), (.fz ((eL 2 eSy) (v4.1.symbols))), (.fz ((eL 9 eRu) (v4.1.rules)))]))], [3, 2, 1]⟩ (by kernel_rfl) ?_
  refine l_nil ?_
  refine awp_seq ?_
  refine awp_region ?_
  refine l_rk 1 tt_ok ⟨76, [(0, (.fz ((eL 1 eI) (a0)))), (3, (.ref 1 0 0)), (4, (fI (v2.2))), (5, (.ref 2 0 0)), (6, (fI (v3.2))), (7, (.ref 3 0 0)), (8, (fI (v4.2))), (31, (.fz ((eL 1 eI) (a0))))], [(1, (.box 27 [(fS (v2.1.name)), (.fz ((eL 1 eI) (v2.1.inputs))), (.fz ((eL 2 eSy) (v2.1.symbols))), (.fz ((eL 9 eRu) (v2.1.rules)))])), (2, (.box 27 [(fS (v3.1.name)), (.fz ((eL 1 eI) (v3.1.inputs))), (.fz ((eL 2 eSy) (v3.1.symbols))), (.fz ((eL 9 eRu) (v3.1.rules)))])), (3, (.box 27 [(fS (v4.1.name)), (.fz ((eL 1 eI) (v4.1.inputs))), (.fz ((eL 2 eSy) (v4.1.symbols))), (.fz ((eL 9 eRu) (v4.1.rules)))]))], [3, 2, 1]⟩ (by kernel_rfl) ?_
  obtain ⟨v5, hv5, h⟩ := Option.bind_eq_some_iff.1 h
  refine l_step ((n_call (ys := [(eL 1 eI) (a0)]) (cs := [(.one (.sl 1))]) rfl (by kernel_rfl) (synthesisref16_Vectors_ok (a0) _ hv5)).step) (by kernel_rfl) (dst_of (by kernel_rfl)) ?_
  refine l_rk 6 tt_ok ⟨76, [(0, (.fz ((eL 1 eI) (a0)))), (3, (.ref 1 0 0)), (4, (fI (v2.2))), (5, (.ref 2 0 0)), (6, (fI (v3.2))), (7, (.ref 3 0 0)), (8, (fI (v4.2))), (9, (.ref 4 0 0)), (10, (fI (v5.2)))], [(1, (.box 27 [(fS (v2.1.name)), (.fz ((eL 1 eI) (v2.1.inputs))), (.fz ((eL 2 eSy) (v2.1.symbols))), (.fz ((eL 9 eRu) (v2.1.rules)))])), (2, (.box 27 [(fS (v3.1.name)), (.fz ((eL 1 eI) (v3.1.inputs))), (.fz ((eL 2 eSy) (v3.1.symbols))), (.fz ((eL 9 eRu) (v3.1.rules)))])), (3, (.box 27 [(fS (v4.1.name)), (.fz ((eL 1 eI) (v4.1.inputs))), (.fz ((eL 2 eSy) (v4.1.symbols))), (.fz ((eL 9 eRu) (v4.1.rules)))])), (4, (.box 27 [(fS (v5.1.name)), (.fz ((eL 1 eI) (v5.1.inputs))), (.fz ((eL 2 eSy) (v5.1.symbols))), (.fz ((eL 9 eRu) (v5.1.rules)))]))], [4, 3, 2, 1]⟩ (by kernel_rfl) ?_
  refine l_nil ?_
  refine awp_seq ?_
  refine awp_seq ?_
  obtain ⟨v9, hj, h⟩ := Option.bind_eq_some_iff.1 h
  refine awp_join (Qa := fun e st => e = .normal ∧ LeSt st ⟨76, [(0, (.fz ((eL 1 eI) (a0)))), (3, (.ref 1 0 0)), (5, (.ref 2 0 0)), (54, (fB (v9)))], [(1, (.box 27 [(fS (v2.1.name)), (.fz ((eL 1 eI) (v2.1.inputs))), (.fz ((eL 2 eSy) (v2.1.symbols))), (.fz ((eL 9 eRu) (v2.1.rules)))])), (2, (.box 27 [(fS (v3.1.name)), (.fz ((eL 1 eI) (v3.1.inputs))), (.fz ((eL 2 eSy) (v3.1.symbols))), (.fz ((eL 9 eRu) (v3.1.rules)))]))], [2, 1]⟩) ?_ ?_
  ·replace h := hj
   clear hj
   refine awp_region ?_
   refine l_rk 2 tt_ok ⟨76, [(0, (.fz ((eL 1 eI) (a0)))), (3, (.ref 1 0 0)), (4, (fI (v2.2))), (5, (.ref 2 0 0)), (6, (fI (v3.2))), (7, (.ref 3 0 0)), (8, (fI (v4.2))), (9, (.ref 4 0 0)), (10, (fI (v5.2))), (35, (.fz (eLa (v2.1)))), (36, (.fz (eLa (v3.1))))], [(1, (.box 27 [(fS (v2.1.name)), (.fz ((eL 1 eI) (v2.1.inputs))), (.fz ((eL 2 eSy) (v2.1.symbols))), (.fz ((eL 9 eRu) (v2.1.rules)))])), (2, (.box 27 [(fS (v3.1.name)), (.fz ((eL 1 eI) (v3.1.inputs))), (.fz ((eL 2 eSy) (v3.1.symbols))), (.fz ((eL 9 eRu) (v3.1.rules)))])), (3, (.box 27 [(fS (v4.1.name)), (.fz ((eL 1 eI) (v4.1.inputs))), (.fz ((eL 2 eSy) (v4.1.symbols))), (.fz ((eL 9 eRu) (v4.1.rules)))])), (4, (.box 27 [(fS (v5.1.name)), (.fz ((eL 1 eI) (v5.1.inputs))), (.fz ((eL 2 eSy) (v5.1.symbols))), (.fz ((eL 9 eRu) (v5.1.rules)))]))], [4, 3, 2, 1]⟩ (by kernel_rfl) ?_
   obtain ⟨v6, hv6, h⟩ := Option.bind_eq_some_iff.1 h
   refine l_step ((n_call (ys := [eLa (v2.1), eLa (v3.1)]) (cs := [(.one .keep), (.one .keep)]) rfl (by kernel_rfl) (synthesisref11_Same_ok (v2.1) (v3.1) _ hv6)).step) (by kernel_rfl) (dst_of (by kernel_rfl)) ?_
   refine l_rk 2 tt_ok ⟨76, [(0, (.fz ((eL 1 eI) (a0)))), (3, (.ref 1 0 0)), (4, (fI (v2.2))), (5, (.ref 2 0 0)), (6, (fI (v3.2))), (7, (.ref 3 0 0)), (8, (fI (v4.2))), (9, (.ref 4 0 0)), (10, (fI (v5.2))), (39, (fB ((!v6))))], [(1, (.box 27 [(fS (v2.1.name)), (.fz ((eL 1 eI) (v2.1.inputs))), (.fz ((eL 2 eSy) (v2.1.symbols))), (.fz ((eL 9 eRu) (v2.1.rules)))])), (2, (.box 27 [(fS (v3.1.name)), (.fz ((eL 1 eI) (v3.1.inputs))), (.fz ((eL 2 eSy) (v3.1.symbols))), (.fz ((eL 9 eRu) (v3.1.rules)))])), (3, (.box 27 [(fS (v4.1.name)), (.fz ((eL 1 eI) (v4.1.inputs))), (.fz ((eL 2 eSy) (v4.1.symbols))), (.fz ((eL 9 eRu) (v4.1.rules)))])), (4, (.box 27 [(fS (v5.1.name)), (.fz ((eL 1 eI) (v5.1.inputs))), (.fz ((eL 2 eSy) (v5.1.symbols))), (.fz ((eL 9 eRu) (v5.1.rules)))]))], [4, 3, 2, 1]⟩ (by kernel_rfl) ?_
   rcases cond_some h with ⟨hb, h⟩ | ⟨hb, h⟩
   ·refine l_le (le_eq (t := 39) (x := .fz (eB (!v6))) (y := .fz (eB true)) (by kernel_rfl) (congrArg (fun b => AV.fz (eB b)) hb)) ?_
    refine l_rk 15 tt_ok ⟨76, [(0, (.fz ((eL 1 eI) (a0)))), (3, (.ref 1 0 0)), (5, (.ref 2 0 0)), (54, (fB (true)))], [(1, (.box 27 [(fS (v2.1.name)), (.fz ((eL 1 eI) (v2.1.inputs))), (.fz ((eL 2 eSy) (v2.1.symbols))), (.fz ((eL 9 eRu) (v2.1.rules)))])), (2, (.box 27 [(fS (v3.1.name)), (.fz ((eL 1 eI) (v3.1.inputs))), (.fz ((eL 2 eSy) (v3.1.symbols))), (.fz ((eL 9 eRu) (v3.1.rules)))]))], [2, 1]⟩ (by kernel_rfl) ?_
    refine l_nil ?_
    obtain rfl := Option.some.inj h
    exact And.intro rfl (le_ck (by kernel_rfl))
   ·refine l_le (le_eq (t := 39) (x := .fz (eB (!v6))) (y := .fz (eB false)) (by kernel_rfl) (congrArg (fun b => AV.fz (eB b)) hb)) ?_
    refine l_rk 5 tt_ok ⟨76, [(0, (.fz ((eL 1 eI) (a0)))), (3, (.ref 1 0 0)), (5, (.ref 2 0 0)), (7, (.ref 3 0 0)), (8, (fI (v4.2))), (9, (.ref 4 0 0)), (10, (fI (v5.2))), (44, (fB ((v2.2 != v3.2))))], [(1, (.box 27 [(fS (v2.1.name)), (.fz ((eL 1 eI) (v2.1.inputs))), (.fz ((eL 2 eSy) (v2.1.symbols))), (.fz ((eL 9 eRu) (v2.1.rules)))])), (2, (.box 27 [(fS (v3.1.name)), (.fz ((eL 1 eI) (v3.1.inputs))), (.fz ((eL 2 eSy) (v3.1.symbols))), (.fz ((eL 9 eRu) (v3.1.rules)))])), (3, (.box 27 [(fS (v4.1.name)), (.fz ((eL 1 eI) (v4.1.inputs))), (.fz ((eL 2 eSy) (v4.1.symbols))), (.fz ((eL 9 eRu) (v4.1.rules)))])), (4, (.box 27 [(fS (v5.1.name)), (.fz ((eL 1 eI) (v5.1.inputs))), (.fz ((eL 2 eSy) (v5.1.symbols))), (.fz ((eL 9 eRu) (v5.1.rules)))]))], [4, 3, 2, 1]⟩ (by kernel_rfl) ?_
    rcases cond_some h with ⟨hb, h⟩ | ⟨hb, h⟩
    ·refine l_le (le_eq (t := 44) (x := .fz (eB (v2.2 != v3.2))) (y := .fz (eB true)) (by kernel_rfl) (congrArg (fun b => AV.fz (eB b)) hb)) ?_
     refine l_rk 10 tt_ok ⟨76, [(0, (.fz ((eL 1 eI) (a0)))), (3, (.ref 1 0 0)), (5, (.ref 2 0 0)), (54, (fB (true)))], [(1, (.box 27 [(fS (v2.1.name)), (.fz ((eL 1 eI) (v2.1.inputs))), (.fz ((eL 2 eSy) (v2.1.symbols))), (.fz ((eL 9 eRu) (v2.1.rules)))])), (2, (.box 27 [(fS (v3.1.name)), (.fz ((eL 1 eI) (v3.1.inputs))), (.fz ((eL 2 eSy) (v3.1.symbols))), (.fz ((eL 9 eRu) (v3.1.rules)))]))], [2, 1]⟩ (by kernel_rfl) ?_
     refine l_nil ?_
     obtain rfl := Option.some.inj h
     exact And.intro rfl (le_ck (by kernel_rfl))
    ·refine l_le (le_eq (t := 44) (x := .fz (eB (v2.2 != v3.2))) (y := .fz (eB false)) (by kernel_rfl) (congrArg (fun b => AV.fz (eB b)) hb)) ?_
     refine l_rk 2 tt_ok ⟨76, [(0, (.fz ((eL 1 eI) (a0)))), (3, (.ref 1 0 0)), (5, (.ref 2 0 0)), (8, (fI (v4.2))), (10, (fI (v5.2))), (44, (fB (false))), (45, (.fz (eLa (v4.1)))), (46, (.fz (eLa (v5.1))))], [(1, (.box 27 [(fS (v2.1.name)), (.fz ((eL 1 eI) (v2.1.inputs))), (.fz ((eL 2 eSy) (v2.1.symbols))), (.fz ((eL 9 eRu) (v2.1.rules)))])), (2, (.box 27 [(fS (v3.1.name)), (.fz ((eL 1 eI) (v3.1.inputs))), (.fz ((eL 2 eSy) (v3.1.symbols))), (.fz ((eL 9 eRu) (v3.1.rules)))]))], [2, 1]⟩ (by kernel_rfl) ?_
     obtain ⟨v7, hv7, h⟩ := Option.bind_eq_some_iff.1 h
     refine l_step ((n_call (ys := [eLa (v4.1), eLa (v5.1)]) (cs := [(.one .keep), (.one .keep)]) rfl (by kernel_rfl) (synthesisref11_Same_ok (v4.1) (v5.1) _ hv7)).step) (by kernel_rfl) (dst_of (by kernel_rfl)) ?_
     refine l_rk 3 tt_ok ⟨76, [(0, (.fz ((eL 1 eI) (a0)))), (3, (.ref 1 0 0)), (5, (.ref 2 0 0)), (8, (fI (v4.2))), (10, (fI (v5.2))), (50, (fB ((!v7))))], [(1, (.box 27 [(fS (v2.1.name)), (.fz ((eL 1 eI) (v2.1.inputs))), (.fz ((eL 2 eSy) (v2.1.symbols))), (.fz ((eL 9 eRu) (v2.1.rules)))])), (2, (.box 27 [(fS (v3.1.name)), (.fz ((eL 1 eI) (v3.1.inputs))), (.fz ((eL 2 eSy) (v3.1.symbols))), (.fz ((eL 9 eRu) (v3.1.rules)))]))], [2, 1]⟩ (by kernel_rfl) ?_
     rcases cond_some h with ⟨hb, h⟩ | ⟨hb, h⟩
     ·refine l_le (le_eq (t := 50) (x := .fz (eB (!v7))) (y := .fz (eB true)) (by kernel_rfl) (congrArg (fun b => AV.fz (eB b)) hb)) ?_
      refine l_rk 4 tt_ok ⟨76, [(0, (.fz ((eL 1 eI) (a0)))), (3, (.ref 1 0 0)), (5, (.ref 2 0 0)), (54, (fB (true)))], [(1, (.box 27 [(fS (v2.1.name)), (.fz ((eL 1 eI) (v2.1.inputs))), (.fz ((eL 2 eSy) (v2.1.symbols))), (.fz ((eL 9 eRu) (v2.1.rules)))])), (2, (.box 27 [(fS (v3.1.name)), (.fz ((eL 1 eI) (v3.1.inputs))), (.fz ((eL 2 eSy) (v3.1.symbols))), (.fz ((eL 9 eRu) (v3.1.rules)))]))], [2, 1]⟩ (by kernel_rfl) ?_
      refine l_nil ?_
      obtain rfl := Option.some.inj h
      exact And.intro rfl (le_ck (by kernel_rfl))
     ·refine l_le (le_eq (t := 50) (x := .fz (eB (!v7))) (y := .fz (eB false)) (by kernel_rfl) (congrArg (fun b => AV.fz (eB b)) hb)) ?_
      refine l_rk 4 tt_ok ⟨76, [(0, (.fz ((eL 1 eI) (a0)))), (3, (.ref 1 0 0)), (5, (.ref 2 0 0)), (54, (fB ((v4.2 != v5.2))))], [(1, (.box 27 [(fS (v2.1.name)), (.fz ((eL 1 eI) (v2.1.inputs))), (.fz ((eL 2 eSy) (v2.1.symbols))), (.fz ((eL 9 eRu) (v2.1.rules)))])), (2, (.box 27 [(fS (v3.1.name)), (.fz ((eL 1 eI) (v3.1.inputs))), (.fz ((eL 2 eSy) (v3.1.symbols))), (.fz ((eL 9 eRu) (v3.1.rules)))]))], [2, 1]⟩ (by kernel_rfl) ?_
      refine l_nil ?_
      obtain rfl := Option.some.inj h
      exact And.intro rfl (le_ck (by kernel_rfl))
  ·clear hj
   intro e st' hq
   obtain ⟨rfl, hle⟩ := hq
   refine ⟨_, hle, ?_⟩
   rcases cond_some h with ⟨hb, h⟩ | ⟨hb, h⟩
   ·refine awp_cond_t (b := v9) (by kernel_rfl) hb ?_
    refine awp_seq ?_
    refine awp_region ?_
    refine l_rk 1 tt_ok ⟨76, [(2, (fB (false)))], [], []⟩ (by kernel_rfl) ?_
    refine l_nil ?_
    refine awp_ret ?_
    obtain rfl := Option.some.inj h
    exact (show retX _ _ _ _ = some _ from by kernel_rfl)
   ·refine awp_cond_f (b := v9) (by kernel_rfl) hb ?_
    refine awp_skip ?_
    refine awp_seq ?_
    refine awp_region ?_
    refine l_rk 1 tt_ok ⟨76, [(0, (.fz ((eL 1 eI) (a0)))), (3, (.ref 1 0 0)), (5, (.ref 2 0 0)), (56, (.fz ((eL 1 eI) (a0))))], [(1, (.box 27 [(fS (v2.1.name)), (.fz ((eL 1 eI) (v2.1.inputs))), (.fz ((eL 2 eSy) (v2.1.symbols))), (.fz ((eL 9 eRu) (v2.1.rules)))])), (2, (.box 27 [(fS (v3.1.name)), (.fz ((eL 1 eI) (v3.1.inputs))), (.fz ((eL 2 eSy) (v3.1.symbols))), (.fz ((eL 9 eRu) (v3.1.rules)))]))], [2, 1]⟩ (by kernel_rfl) ?_
    obtain ⟨v10, hv10, h⟩ := Option.bind_eq_some_iff.1 h
    refine l_step ((n_call (ys := [(eL 1 eI) (a0)]) (cs := [(.one (.sl 1))]) rfl (by kernel_rfl) (languages_Reshaping_ok (a0) _ hv10)).step) (by kernel_rfl) (dst_of (by kernel_rfl)) ?_
    refine l_rk 5 tt_ok ⟨76, [(0, (.fz ((eL 1 eI) (a0)))), (3, (.ref 1 0 0)), (4, (fI (v10.2))), (5, (.ref 2 0 0))], [(1, (.box 27 [(fS (v10.1.name)), (.fz ((eL 1 eI) (v10.1.inputs))), (.fz ((eL 2 eSy) (v10.1.symbols))), (.fz ((eL 9 eRu) (v10.1.rules)))])), (2, (.box 27 [(fS (v3.1.name)), (.fz ((eL 1 eI) (v3.1.inputs))), (.fz ((eL 2 eSy) (v3.1.symbols))), (.fz ((eL 9 eRu) (v3.1.rules)))]))], [2, 1]⟩ (by kernel_rfl) ?_
    refine l_nil ?_
    refine awp_seq ?_
    refine awp_region ?_
    refine l_rk 1 tt_ok ⟨76, [(3, (.ref 1 0 0)), (4, (fI (v10.2))), (5, (.ref 2 0 0)), (61, (.fz ((eL 1 eI) (a0))))], [(1, (.box 27 [(fS (v10.1.name)), (.fz ((eL 1 eI) (v10.1.inputs))), (.fz ((eL 2 eSy) (v10.1.symbols))), (.fz ((eL 9 eRu) (v10.1.rules)))])), (2, (.box 27 [(fS (v3.1.name)), (.fz ((eL 1 eI) (v3.1.inputs))), (.fz ((eL 2 eSy) (v3.1.symbols))), (.fz ((eL 9 eRu) (v3.1.rules)))]))], [2, 1]⟩ (by kernel_rfl) ?_
    obtain ⟨v11, hv11, h⟩ := Option.bind_eq_some_iff.1 h
    refine l_step ((n_call (ys := [(eL 1 eI) (a0)]) (cs := [(.one (.sl 1))]) rfl (by kernel_rfl) (synthesisref16_Reshaping_ok (a0) _ hv11)).step) (by kernel_rfl) (dst_of (by kernel_rfl)) ?_
    refine l_rk 5 tt_ok ⟨76, [(3, (.ref 1 0 0)), (4, (fI (v10.2))), (5, (.ref 2 0 0)), (6, (fI (v11.2)))], [(1, (.box 27 [(fS (v10.1.name)), (.fz ((eL 1 eI) (v10.1.inputs))), (.fz ((eL 2 eSy) (v10.1.symbols))), (.fz ((eL 9 eRu) (v10.1.rules)))])), (2, (.box 27 [(fS (v11.1.name)), (.fz ((eL 1 eI) (v11.1.inputs))), (.fz ((eL 2 eSy) (v11.1.symbols))), (.fz ((eL 9 eRu) (v11.1.rules)))]))], [2, 1]⟩ (by kernel_rfl) ?_
    refine l_nil ?_
    refine awp_seq ?_
    obtain ⟨v15, hj, h⟩ := Option.bind_eq_some_iff.1 h
    refine awp_join (Qa := fun e st => e = .normal ∧ LeSt st ⟨76, [(2, (fB (v15)))], [], []⟩) ?_ ?_
    ·replace h := hj
     clear hj
     refine awp_region ?_
     refine l_rk 2 tt_ok ⟨76, [(4, (fI (v10.2))), (6, (fI (v11.2))), (65, (.fz (eLa (v10.1)))), (66, (.fz (eLa (v11.1))))], [], []⟩ (by kernel_rfl) ?_
     obtain ⟨v12, hv12, h⟩ := Option.bind_eq_some_iff.1 h
     refine l_step ((n_call (ys := [eLa (v10.1), eLa (v11.1)]) (cs := [(.one .keep), (.one .keep)]) rfl (by kernel_rfl) (synthesisref11_Same_ok (v10.1) (v11.1) _ hv12)).step) (by kernel_rfl) (dst_of (by kernel_rfl)) ?_
     refine l_rk 1 tt_ok ⟨76, [(4, (fI (v10.2))), (6, (fI (v11.2))), (68, (fB (v12)))], [], []⟩ (by kernel_rfl) ?_
     rcases cond_some h with ⟨hb, h⟩ | ⟨hb, h⟩
     ·refine l_le (le_eq (t := 68) (x := .fz (eB v12)) (y := .fz (eB true)) (by kernel_rfl) (congrArg (fun b => AV.fz (eB b)) hb)) ?_
      refine l_rk 5 tt_ok ⟨76, [(73, (fB ((v10.2 == v11.2))))], [], []⟩ (by kernel_rfl) ?_
      rcases cond_some h with ⟨hb, h⟩ | ⟨hb, h⟩
      ·refine l_le (le_eq (t := 73) (x := .fz (eB (v10.2 == v11.2))) (y := .fz (eB true)) (by kernel_rfl) (congrArg (fun b => AV.fz (eB b)) hb)) ?_
       obtain ⟨v13, hv13, h⟩ := Option.bind_eq_some_iff.1 h
       refine l_step ((n_call (ys := []) (cs := []) rfl (by kernel_rfl) (synthesislaw16_alive_ok  _ hv13)).step) (by kernel_rfl) (dst_of (by kernel_rfl)) ?_
       refine l_rk 2 tt_ok ⟨76, [(2, (fB (v13)))], [], []⟩ (by kernel_rfl) ?_
       refine l_nil ?_
       obtain rfl := Option.some.inj h
       exact And.intro rfl (le_ck (by kernel_rfl))
      ·refine l_le (le_eq (t := 73) (x := .fz (eB (v10.2 == v11.2))) (y := .fz (eB false)) (by kernel_rfl) (congrArg (fun b => AV.fz (eB b)) hb)) ?_
       refine l_rk 3 tt_ok ⟨76, [(2, (fB (false)))], [], []⟩ (by kernel_rfl) ?_
       refine l_nil ?_
       obtain rfl := Option.some.inj h
       exact And.intro rfl (le_ck (by kernel_rfl))
     ·refine l_le (le_eq (t := 68) (x := .fz (eB v12)) (y := .fz (eB false)) (by kernel_rfl) (congrArg (fun b => AV.fz (eB b)) hb)) ?_
      refine l_rk 8 tt_ok ⟨76, [(2, (fB (false)))], [], []⟩ (by kernel_rfl) ?_
      refine l_nil ?_
      obtain rfl := Option.some.inj h
      exact And.intro rfl (le_ck (by kernel_rfl))
    ·clear hj
     intro e st' hq
     obtain ⟨rfl, hle⟩ := hq
     refine ⟨_, hle, ?_⟩
     refine awp_ret ?_
     obtain rfl := Option.some.inj h
     exact (show retX _ _ _ _ = some _ from by kernel_rfl)
end Go.Proofs.Ytaeicmnimjfbaaa
