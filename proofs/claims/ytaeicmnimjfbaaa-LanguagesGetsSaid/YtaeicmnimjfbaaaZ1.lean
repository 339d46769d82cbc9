/- Typed programs and what computes them. -/
import Derived.Test.YtaeicmnimjfbaaaZ0
set_option linter.unusedVariables false
set_option linter.unusedSimpArgs false
set_option maxRecDepth 100000
namespace Go.Proofs.Ytaeicmnimjfbaaa
open Go Go.RowKit Go.Proofs
def languages_checked_m0 (v2 : Va) : List (Nat × AObj) := [(1, (.box 65 [(fI (v2.type)), (fI (v2.num)), (fS (v2.text)), (.fz ((eL 4 eVaR) (v2.items)))]))]
def languages_checked_l1 (v2 : Va) (v4 : List Va) (v5 : (Int)) : Option (((Int)) ⊕ (((Unit) ⊕ (Int)))) := (bif (decide (v5 < (List.length v4 : Int))) then (Option.bind (idx v4 v5) fun v6 => (Option.bind (value_Equal (v6) (v2)) fun v7 => (bif v7 then (some (.inr (.inr 6))) else (some (.inl ((w64 (v5 + 1)))))))) else (some (.inr (.inl ()))))
def languages_checked_l2 (a0 : List Va) (v1 : (Int)) : Option (((Int)) ⊕ (((Unit) ⊕ (Int)))) := (bif (decide (v1 < (List.length a0 : Int))) then (Option.bind (idx a0 v1) fun v2 => (Option.bind (value_Check fuel (v2)) fun v3 => (bif (v3 != 0) then (some (.inr (.inr v3))) else (Option.bind (cutL a0 0 v1) fun v4 => (Option.bind (loopN (languages_checked_l1 v2 v4) fuel (0)) fun (v8 : ((Unit) ⊕ (Int))) => Sum.elim (fun v9 => (some (.inl ((w64 (v1 + 1)))))) (fun v10 => (some (.inr (.inr v10)))) v8))))) else (some (.inr (.inl ()))))
def languages_checked (a0 : List Va) : Option (Int) := (bif (decide (16 < (List.length a0 : Int))) then (some 2) else (Option.bind (loopN (languages_checked_l2 a0) fuel (0)) fun (v11 : ((Unit) ⊕ (Int))) => Sum.elim (fun v12 => (some 0)) (fun v13 => (some v13)) v11))
theorem languages_checked_ok (a0 : List Va) (r : Int) (h : languages_checked a0 = some r) : PCall Try.prog 63 [(eL 4 eVaR) a0] (eI (r)) := by
 unfold languages_checked at h
 refine pcall_intro (T := TT) tt_ok [.one .keep] Try.func63 rfl (by kernel_rfl) (by kernel_rfl) ?_
 refine awp_le (st' := ⟨36, [(0, (.fz ((eL 4 eVaR) (a0))))], [], []⟩) (le_ck (by kernel_rfl)) ?_
 refine awp_seq ?_
 refine awp_region ?_
 refine l_rk 1 tt_ok ⟨36, [(0, (.fz ((eL 4 eVaR) (a0))))], [], []⟩ (by kernel_rfl) ?_
 refine l_nil ?_
 refine awp_seq ?_
 refine awp_seq ?_
 refine awp_region ?_
 refine l_rk 3 tt_ok ⟨36, [(0, (.fz ((eL 4 eVaR) (a0)))), (10, (fB ((decide (16 < (List.length a0 : Int))))))], [], []⟩ (by kernel_rfl) ?_
 refine l_nil ?_
 rcases cond_some h with ⟨hb, h⟩ | ⟨hb, h⟩
 ·refine awp_cond_t (b := (decide (16 < (List.length a0 : Int)))) (by kernel_rfl) hb ?_
  refine awp_seq ?_
  refine awp_region ?_
  refine l_rk 1 tt_ok ⟨36, [(2, (fI (2)))], [], []⟩ (by kernel_rfl) ?_
  refine l_nil ?_
  refine awp_ret ?_
  obtain rfl := Option.some.inj h
  exact (show retX _ _ _ _ = some _ from by kernel_rfl)
 ·refine awp_cond_f (b := (decide (16 < (List.length a0 : Int)))) (by kernel_rfl) hb ?_
  refine awp_skip ?_
  refine awp_seq ?_
  refine awp_seq ?_
  refine awp_region ?_
  refine l_rk 3 tt_ok ⟨36, [(0, (.fz ((eL 4 eVaR) (a0)))), (11, (.fz ((eL 4 eVaR) (a0)))), (12, (fI ((List.length a0 : Int)))), (13, (fI (0)))], [], []⟩ (by kernel_rfl) ?_
  refine l_nil ?_
  refine awp_block ?_
  obtain ⟨v11, hj, h⟩ := Option.bind_eq_some_iff.1 h
  refine awp_join (Qa := fun e st => Sum.elim (fun p => e = .exit 0 ∧ LeSt st ⟨36, [], [], []⟩) (fun p => e = .ret ∧ retX TT st Try.f63.results.toList [.one .keep] = some (eI (p))) v11) ?_ ?_
  ·refine awp_loopS (stOf := fun v1 => ⟨36, [(0, (.fz ((eL 4 eVaR) (a0)))), (11, (.fz ((eL 4 eVaR) (a0)))), (12, (fI ((List.length a0 : Int)))), (13, (fI (v1)))], [], []⟩) (Qb := fun j e st => Sum.elim (fun p => e = .exit 0 ∧ LeSt st ⟨36, [], [], []⟩) (fun p => e = .ret ∧ retX TT st Try.f63.results.toList [.one .keep] = some (eI (p))) j) hj (le_ck (by kernel_rfl)) ?_
   clear hj h
   intro v1 r h
   unfold languages_checked_l2 at h
   refine awp_seq ?_
   refine awp_region ?_
   refine l_rk 1 tt_ok ⟨36, [(0, (.fz ((eL 4 eVaR) (a0)))), (11, (.fz ((eL 4 eVaR) (a0)))), (12, (fI ((List.length a0 : Int)))), (13, (fI (v1))), (14, (fB ((decide (v1 < (List.length a0 : Int))))))], [], []⟩ (by kernel_rfl) ?_
   refine l_nil ?_
   refine awp_seq ?_
   rcases cond_some h with ⟨hb, h⟩ | ⟨hb, h⟩
   ·refine awp_cond_t (b := (decide (v1 < (List.length a0 : Int)))) (by kernel_rfl) hb ?_
    refine awp_skip ?_
    refine awp_seq ?_
    refine awp_block ?_
    refine awp_seq ?_
    refine awp_region ?_
    refine l_rk 1 tt_ok ⟨36, [(0, (.fz ((eL 4 eVaR) (a0)))), (11, (.fz ((eL 4 eVaR) (a0)))), (12, (fI ((List.length a0 : Int)))), (13, (fI (v1))), (15, (fI (v1)))], [], []⟩ (by kernel_rfl) ?_
    obtain ⟨v2, hv2, h⟩ := Option.bind_eq_some_iff.1 h
    refine l_step ((s_index (k := .i64) (d := tt63) (e := 65) (de := tt65) (enc := eVaR) hv2 tt_ok rfl (by kernel_rfl) (by kernel_rfl) (by kernel_rfl) (by kernel_rfl) len_eVaR (by kernel_rfl) (cells_eVaR v2)).step) (by kernel_rfl) (dst_of (by kernel_rfl)) ?_
    refine l_rk 4 tt_ok ⟨36, [(0, (.fz ((eL 4 eVaR) (a0)))), (3, (fI (v1))), (4, (.ref 1 0 0)), (11, (.fz ((eL 4 eVaR) (a0)))), (12, (fI ((List.length a0 : Int)))), (13, (fI (v1)))], (languages_checked_m0 v2), [1]⟩ (by kernel_rfl) ?_
    refine l_nil ?_
    refine awp_seq ?_
    refine awp_seq ?_
    refine awp_region ?_
    refine l_rk 1 tt_ok ⟨36, [(0, (.fz ((eL 4 eVaR) (a0)))), (3, (fI (v1))), (4, (.ref 1 0 0)), (11, (.fz ((eL 4 eVaR) (a0)))), (12, (fI ((List.length a0 : Int)))), (13, (fI (v1))), (18, (.fz (eVa (v2))))], (languages_checked_m0 v2), [1]⟩ (by kernel_rfl) ?_
    obtain ⟨v3, hv3, h⟩ := Option.bind_eq_some_iff.1 h
    refine l_step ((n_call (ys := [eVa (v2)]) (cs := [(.one .keep)]) rfl (by kernel_rfl) (value_Check_ok fuel (v2) _ hv3)).step) (by kernel_rfl) (dst_of (by kernel_rfl)) ?_
    refine l_rk 1 tt_ok ⟨36, [(0, (.fz ((eL 4 eVaR) (a0)))), (3, (fI (v1))), (4, (.ref 1 0 0)), (5, (fI (v3))), (11, (.fz ((eL 4 eVaR) (a0)))), (12, (fI ((List.length a0 : Int)))), (13, (fI (v1)))], (languages_checked_m0 v2), [1]⟩ (by kernel_rfl) ?_
    refine l_nil ?_
    refine awp_seq ?_
    refine awp_region ?_
    refine l_rk 2 tt_ok ⟨36, [(0, (.fz ((eL 4 eVaR) (a0)))), (3, (fI (v1))), (4, (.ref 1 0 0)), (5, (fI (v3))), (11, (.fz ((eL 4 eVaR) (a0)))), (12, (fI ((List.length a0 : Int)))), (13, (fI (v1))), (21, (fB ((v3 != 0))))], (languages_checked_m0 v2), [1]⟩ (by kernel_rfl) ?_
    refine l_nil ?_
    rcases cond_some h with ⟨hb, h⟩ | ⟨hb, h⟩
    ·refine awp_cond_t (b := (v3 != 0)) (by kernel_rfl) hb ?_
     refine awp_seq ?_
     refine awp_region ?_
     refine l_rk 2 tt_ok ⟨36, [(2, (fI (v3)))], [], []⟩ (by kernel_rfl) ?_
     refine l_nil ?_
     refine awp_ret ?_
     obtain rfl := Option.some.inj h
     exact And.intro (And.intro (fun h => nomatch h) (fun h => nomatch h)) (And.intro rfl (show retX _ _ _ _ = some _ from by kernel_rfl))
    ·refine awp_cond_f (b := (v3 != 0)) (by kernel_rfl) hb ?_
     refine awp_skip ?_
     refine awp_seq ?_
     refine awp_region ?_
     refine l_rk 2 tt_ok ⟨36, [(0, (.fz ((eL 4 eVaR) (a0)))), (4, (.ref 1 0 0)), (11, (.fz ((eL 4 eVaR) (a0)))), (12, (fI ((List.length a0 : Int)))), (13, (fI (v1))), (23, (.fz ((eL 4 eVaR) (a0)))), (24, (fI (v1)))], (languages_checked_m0 v2), [1]⟩ (by kernel_rfl) ?_
     obtain ⟨v4, hv4, h⟩ := Option.bind_eq_some_iff.1 h
     refine l_step ((s_cutL (d := tt63) (e := 65) (de := tt65) (size := 4) (enc := eVaR) (xs := a0) (l := none) (h := (some v1)) hv4 tt_ok rfl (by kernel_rfl) (by kernel_rfl) (by kernel_rfl) (by kernel_rfl) (by kernel_rfl) (by kernel_rfl) (by kernel_rfl)).step) (by kernel_rfl) (dst_of (by kernel_rfl)) ?_
     refine l_rk 2 tt_ok ⟨36, [(0, (.fz ((eL 4 eVaR) (a0)))), (4, (.ref 1 0 0)), (11, (.fz ((eL 4 eVaR) (a0)))), (12, (fI ((List.length a0 : Int)))), (13, (fI (v1))), (25, (.fz ((eL 4 eVaR) (v4)))), (26, (fI ((List.length v4 : Int)))), (27, (fI (0)))], (languages_checked_m0 v2), [1]⟩ (by kernel_rfl) ?_
     refine l_nil ?_
     refine awp_block ?_
     obtain ⟨v8, hj, h⟩ := Option.bind_eq_some_iff.1 h
     refine awp_join (Qa := fun e st => Sum.elim (fun p => e = .exit 2 ∧ LeSt st ⟨36, [(0, (.fz ((eL 4 eVaR) (a0)))), (11, (.fz ((eL 4 eVaR) (a0)))), (12, (fI ((List.length a0 : Int)))), (13, (fI (v1)))], [], []⟩) (fun p => e = .ret ∧ retX TT st Try.f63.results.toList [.one .keep] = some (eI (p))) v8) ?_ ?_
     ·refine awp_loopS (stOf := fun v5 => ⟨36, [(0, (.fz ((eL 4 eVaR) (a0)))), (4, (.ref 1 0 0)), (11, (.fz ((eL 4 eVaR) (a0)))), (12, (fI ((List.length a0 : Int)))), (13, (fI (v1))), (25, (.fz ((eL 4 eVaR) (v4)))), (26, (fI ((List.length v4 : Int)))), (27, (fI (v5)))], (languages_checked_m0 v2), [1]⟩) (Qb := fun j e st => Sum.elim (fun p => e = .exit 2 ∧ LeSt st ⟨36, [(0, (.fz ((eL 4 eVaR) (a0)))), (11, (.fz ((eL 4 eVaR) (a0)))), (12, (fI ((List.length a0 : Int)))), (13, (fI (v1)))], [], []⟩) (fun p => e = .ret ∧ retX TT st Try.f63.results.toList [.one .keep] = some (eI (p))) j) hj (le_ck (by kernel_rfl)) ?_
      clear hj h
      intro v5 r h
      unfold languages_checked_l1 at h
      refine awp_seq ?_
      refine awp_region ?_
      refine l_rk 1 tt_ok ⟨36, [(0, (.fz ((eL 4 eVaR) (a0)))), (4, (.ref 1 0 0)), (11, (.fz ((eL 4 eVaR) (a0)))), (12, (fI ((List.length a0 : Int)))), (13, (fI (v1))), (25, (.fz ((eL 4 eVaR) (v4)))), (26, (fI ((List.length v4 : Int)))), (27, (fI (v5))), (28, (fB ((decide (v5 < (List.length v4 : Int))))))], (languages_checked_m0 v2), [1]⟩ (by kernel_rfl) ?_
      refine l_nil ?_
      refine awp_seq ?_
      rcases cond_some h with ⟨hb, h⟩ | ⟨hb, h⟩
      ·refine awp_cond_t (b := (decide (v5 < (List.length v4 : Int)))) (by kernel_rfl) hb ?_
       refine awp_skip ?_
       refine awp_seq ?_
       refine awp_block ?_
       refine awp_seq ?_
       refine awp_region ?_
       obtain ⟨v6, hv6, h⟩ := Option.bind_eq_some_iff.1 h
       refine l_step ((s_index (k := .i64) (d := tt63) (e := 65) (de := tt65) (enc := eVaR) hv6 tt_ok rfl (by kernel_rfl) (by kernel_rfl) (by kernel_rfl) (by kernel_rfl) len_eVaR (by kernel_rfl) (cells_eVaR v6)).step) (by kernel_rfl) (dst_of (by kernel_rfl)) ?_
       refine l_rk 3 tt_ok ⟨36, [(0, (.fz ((eL 4 eVaR) (a0)))), (4, (.ref 1 0 0)), (7, (.ref 2 0 0)), (11, (.fz ((eL 4 eVaR) (a0)))), (12, (fI ((List.length a0 : Int)))), (13, (fI (v1))), (25, (.fz ((eL 4 eVaR) (v4)))), (26, (fI ((List.length v4 : Int)))), (27, (fI (v5)))], [(1, (.box 65 [(fI (v2.type)), (fI (v2.num)), (fS (v2.text)), (.fz ((eL 4 eVaR) (v2.items)))])), (2, (.box 65 [(fI (v6.type)), (fI (v6.num)), (fS (v6.text)), (.fz ((eL 4 eVaR) (v6.items)))]))], [2, 1]⟩ (by kernel_rfl) ?_
       refine l_nil ?_
       refine awp_seq ?_
       refine awp_region ?_
       refine l_rk 2 tt_ok ⟨36, [(0, (.fz ((eL 4 eVaR) (a0)))), (4, (.ref 1 0 0)), (11, (.fz ((eL 4 eVaR) (a0)))), (12, (fI ((List.length a0 : Int)))), (13, (fI (v1))), (25, (.fz ((eL 4 eVaR) (v4)))), (26, (fI ((List.length v4 : Int)))), (27, (fI (v5))), (31, (.fz (eVa (v6)))), (32, (.fz (eVa (v2))))], (languages_checked_m0 v2), [1]⟩ (by kernel_rfl) ?_
       obtain ⟨v7, hv7, h⟩ := Option.bind_eq_some_iff.1 h
       refine l_step ((n_call (ys := [eVa (v6), eVa (v2)]) (cs := [(.one .keep), (.one .keep)]) rfl (by kernel_rfl) (value_Equal_ok (v6) (v2) _ hv7)).step) (by kernel_rfl) (dst_of (by kernel_rfl)) ?_
       refine l_nil ?_
       rcases cond_some h with ⟨hb, h⟩ | ⟨hb, h⟩
       ·refine awp_cond_t (b := v7) (by kernel_rfl) hb ?_
        refine awp_seq ?_
        refine awp_region ?_
        refine l_rk 1 tt_ok ⟨36, [(2, (fI (6)))], [], []⟩ (by kernel_rfl) ?_
        refine l_nil ?_
        refine awp_ret ?_
        obtain rfl := Option.some.inj h
        exact And.intro (And.intro (fun h => nomatch h) (fun h => nomatch h)) (And.intro rfl (show retX _ _ _ _ = some _ from by kernel_rfl))
       ·refine awp_cond_f (b := v7) (by kernel_rfl) hb ?_
        refine awp_skip ?_
        refine awp_region ?_
        refine l_rk 2 tt_ok ⟨36, [(0, (.fz ((eL 4 eVaR) (a0)))), (4, (.ref 1 0 0)), (11, (.fz ((eL 4 eVaR) (a0)))), (12, (fI ((List.length a0 : Int)))), (13, (fI (v1))), (25, (.fz ((eL 4 eVaR) (v4)))), (26, (fI ((List.length v4 : Int)))), (27, (fI ((w64 (v5 + 1)))))], (languages_checked_m0 v2), [1]⟩ (by kernel_rfl) ?_
        refine l_nil ?_
        obtain rfl := Option.some.inj h
        exact And.intro rfl (le_ck (by kernel_rfl))
      ·refine awp_cond_f (b := (decide (v5 < (List.length v4 : Int)))) (by kernel_rfl) hb ?_
       refine awp_exit ?_
       obtain rfl := Option.some.inj h
       exact And.intro (And.intro (fun h => nomatch h) (fun h => nomatch h)) (And.intro rfl (le_ck (by kernel_rfl)))
     ·clear hj
      intro e st' hq
      rcases v8 with v9 | v10
      ·try simp only [Sum.elim_inl, Sum.elim_inr] at h
       obtain ⟨rfl, hle⟩ := hq
       refine ⟨_, hle, ?_⟩
       refine awp_region ?_
       refine l_rk 2 tt_ok ⟨36, [(0, (.fz ((eL 4 eVaR) (a0)))), (11, (.fz ((eL 4 eVaR) (a0)))), (12, (fI ((List.length a0 : Int)))), (13, (fI ((w64 (v1 + 1)))))], [], []⟩ (by kernel_rfl) ?_
       refine l_nil ?_
       obtain rfl := Option.some.inj h
       exact And.intro rfl (le_ck (by kernel_rfl))
      ·try simp only [Sum.elim_inl, Sum.elim_inr] at h
       obtain ⟨rfl, hret⟩ := hq
       refine ⟨_, LeSt.refl, ?_⟩
       obtain rfl := Option.some.inj h
       exact And.intro (And.intro (fun h => nomatch h) (fun h => nomatch h)) (And.intro rfl hret)
   ·refine awp_cond_f (b := (decide (v1 < (List.length a0 : Int)))) (by kernel_rfl) hb ?_
    refine awp_exit ?_
    obtain rfl := Option.some.inj h
    exact And.intro (And.intro (fun h => nomatch h) (fun h => nomatch h)) (And.intro rfl (le_ck (by kernel_rfl)))
  ·clear hj
   intro e st' hq
   rcases v11 with v12 | v13
   ·try simp only [Sum.elim_inl, Sum.elim_inr] at h
    obtain ⟨rfl, hle⟩ := hq
    refine ⟨_, hle, ?_⟩
    refine awp_seq ?_
    refine awp_region ?_
    refine l_rk 1 tt_ok ⟨36, [(2, (fI (0)))], [], []⟩ (by kernel_rfl) ?_
    refine l_nil ?_
    refine awp_ret ?_
    obtain rfl := Option.some.inj h
    exact (show retX _ _ _ _ = some _ from by kernel_rfl)
   ·try simp only [Sum.elim_inl, Sum.elim_inr] at h
    obtain ⟨rfl, hret⟩ := hq
    refine ⟨_, LeSt.refl, ?_⟩
    obtain rfl := Option.some.inj h
    exact hret

def value_OfInt (a0 : Int) : Option (Va) := (some (Va.mk (2) (a0) ((⟨#[]⟩ : ByteArray)) (([] : List Va))))
theorem value_OfInt_ok (a0 : Int) (r : Va) (h : value_OfInt a0 = some r) : PCall Try.prog 130 [eI a0] (eVa (r)) := by
 unfold value_OfInt at h
 refine pcall_intro (T := TT) tt_ok [.ag [.keep, .keep, .keep, .sl 4]] Try.func130 rfl (by kernel_rfl) (by kernel_rfl) ?_
 refine awp_le (st' := ⟨5, [(0, (fI (a0)))], [], []⟩) (le_ck (by kernel_rfl)) ?_
 refine awp_seq ?_
 refine awp_region ?_
 refine l_rk 1 tt_ok ⟨5, [(0, (fI (a0))), (2, (.ref 1 0 0))], [(1, (.box 65 [(fI (0)), (fI (0)), (fS ((⟨#[]⟩ : ByteArray))), (.fz (.atom (.slice none 0 0)))]))], [1]⟩ (by kernel_rfl) ?_
 refine l_nil ?_
 refine awp_seq ?_
 refine awp_region ?_
 refine l_rk 3 tt_ok ⟨5, [(2, (.ref 1 0 0))], [(1, (.box 65 [(fI (2)), (fI (a0)), (fS ((⟨#[]⟩ : ByteArray))), (.fz (.atom (.slice none 0 0)))]))], [1]⟩ (by kernel_rfl) ?_
 refine l_nil ?_
 refine awp_ret ?_
 obtain rfl := Option.some.inj h
 exact (show retX _ _ _ _ = some _ from by kernel_rfl)

def languages_integers_l1 (a0 : List Int) (v1 : (Int) × (List Va)) : Option (((Int) × (List Va)) ⊕ ((List Va))) := (bif (decide (v1.1 < (List.length a0 : Int))) then (Option.bind (idx a0 v1.1) fun v2 => (Option.bind (value_OfInt (v2)) fun v3 => (Option.bind (app 56 v1.2 ([v3] : List (Va))) fun v4 => (some (.inl ((w64 (v1.1 + 1)), v4)))))) else (some (.inr (v1.2))))
def languages_integers (a0 : List Int) : Option (List Va) := (Option.bind (loopN (languages_integers_l1 a0) fuel (0, ([] : List (Va)))) fun (v6 : (List Va)) => (some v6))
theorem languages_integers_ok (a0 : List Int) (r : List Va) (h : languages_integers a0 = some r) : PCall Try.prog 64 [(eL 1 eI) a0] ((eL 4 eVaR) (r)) := by
 unfold languages_integers at h
 refine pcall_intro (T := TT) tt_ok [.one (.sl 4)] Try.func64 rfl (by kernel_rfl) (by kernel_rfl) ?_
 refine awp_le (st' := ⟨19, [(0, (.fz ((eL 1 eI) (a0))))], [], []⟩) (le_ck (by kernel_rfl)) ?_
 refine awp_seq ?_
 refine awp_region ?_
 refine l_rk 1 tt_ok ⟨19, [(0, (.fz ((eL 1 eI) (a0))))], [], []⟩ (by kernel_rfl) ?_
 refine l_nil ?_
 refine awp_seq ?_
 refine awp_region ?_
 refine l_rk 1 tt_ok ⟨19, [(0, (.fz ((eL 1 eI) (a0)))), (3, (.fz (.atom (.slice none 0 0))))], [], []⟩ (by kernel_rfl) ?_
 refine l_nil ?_
 refine awp_seq ?_
 refine awp_seq ?_
 refine awp_region ?_
 refine l_rk 3 tt_ok ⟨19, [(3, (.fz (.atom (.slice none 0 0)))), (6, (.fz ((eL 1 eI) (a0)))), (7, (fI ((List.length a0 : Int)))), (8, (fI (0)))], [], []⟩ (by kernel_rfl) ?_
 refine l_nil ?_
 refine awp_block ?_
 refine awp_le (le_nilrow (e := 65) (size := 4) (t := 3) (id := 1) (by decide) (by kernel_rfl) (by kernel_rfl)) ?_
 obtain ⟨v6, hj, h⟩ := Option.bind_eq_some_iff.1 h
 refine awp_join (Qa := fun e st => e = .exit 0 ∧ LeSt st ⟨19, [(3, (.row 1 (List.length (v6))))], [(1, (.frow 65 4 (List.map eVaR (v6))))], [1]⟩) ?_ ?_
 ·refine awp_loopS (stOf := fun v1 => ⟨19, [(3, (.row 1 (List.length (v1.2)))), (6, (.fz ((eL 1 eI) (a0)))), (7, (fI ((List.length a0 : Int)))), (8, (fI (v1.1)))], [(1, (.frow 65 4 (List.map eVaR (v1.2))))], [1]⟩) (Qb := fun j e st => e = .exit 0 ∧ LeSt st ⟨19, [(3, (.row 1 (List.length (j))))], [(1, (.frow 65 4 (List.map eVaR (j))))], [1]⟩) hj (le_ck (by kernel_rfl)) ?_
  clear hj h
  intro v1 r h
  unfold languages_integers_l1 at h
  refine awp_seq ?_
  refine awp_region ?_
  refine l_rk 1 tt_ok ⟨19, [(3, (.row 1 (List.length (v1.2)))), (6, (.fz ((eL 1 eI) (a0)))), (7, (fI ((List.length a0 : Int)))), (8, (fI (v1.1))), (9, (fB ((decide (v1.1 < (List.length a0 : Int))))))], [(1, (.frow 65 4 (List.map eVaR (v1.2))))], [1]⟩ (by kernel_rfl) ?_
  refine l_nil ?_
  refine awp_seq ?_
  rcases cond_some h with ⟨hb, h⟩ | ⟨hb, h⟩
  ·refine awp_cond_t (b := (decide (v1.1 < (List.length a0 : Int)))) (by kernel_rfl) hb ?_
   refine awp_skip ?_
   refine awp_seq ?_
   refine awp_block ?_
   refine awp_seq ?_
   refine awp_region ?_
   obtain ⟨v2, hv2, h⟩ := Option.bind_eq_some_iff.1 h
   refine l_step ((s_index (k := .i64) (d := tt35) (e := 2) (de := tt2) (enc := eI) hv2 tt_ok rfl (by kernel_rfl) (by kernel_rfl) (by kernel_rfl) (by kernel_rfl) len_eI (by kernel_rfl) rfl).step) (by kernel_rfl) (dst_of (by kernel_rfl)) ?_
   refine l_rk 2 tt_ok ⟨19, [(3, (.row 1 (List.length (v1.2)))), (5, (fI (v2))), (6, (.fz ((eL 1 eI) (a0)))), (7, (fI ((List.length a0 : Int)))), (8, (fI (v1.1)))], [(1, (.frow 65 4 (List.map eVaR (v1.2))))], [1]⟩ (by kernel_rfl) ?_
   refine l_nil ?_
   refine awp_region ?_
   refine l_rk 2 tt_ok ⟨19, [(6, (.fz ((eL 1 eI) (a0)))), (7, (fI ((List.length a0 : Int)))), (8, (fI (v1.1))), (12, (.row 1 (List.length (v1.2)))), (13, (fI (v2)))], [(1, (.frow 65 4 (List.map eVaR (v1.2))))], [1]⟩ (by kernel_rfl) ?_
   obtain ⟨v3, hv3, h⟩ := Option.bind_eq_some_iff.1 h
   refine l_step ((n_call (ys := [eI (v2)]) (cs := [(.one (.keep))]) rfl (by kernel_rfl) (value_OfInt_ok (v2) _ hv3)).step) (by kernel_rfl) (dst_of (by kernel_rfl)) ?_
   refine l_step (xstep_ok (c := .lim 4 1 [eVa (v3)]) (h := [(1, (.frow 65 4 (List.map eVaR (v1.2))))]) (i := [1]) tt_ok (by kernel_rfl)) (by kernel_rfl) (dst_of (by kernel_rfl)) ?_
   refine l_le (le_eq (t := 15) (x := .lim 4 1 [eVa (v3)]) (y := .lim 4 1 (List.map eVaR ([v3] : List (Va)))) (by kernel_rfl) (by simp only [List.map, eVaR_eq])) ?_
   obtain ⟨v4, hv4, h⟩ := Option.bind_eq_some_iff.1 h
   refine l_step (s_append (d := tt63) (e := 65) (de := tt65) (enc := eVaR) (xs := v1.2) (ys := ([v3] : List (Va))) (m := List.length ([v3] : List (Va))) (id := 1) (n := List.length (v1.2)) hv4 tt_ok rfl (by kernel_rfl) (by kernel_rfl) (by kernel_rfl) (by kernel_rfl) (by kernel_rfl) (by kernel_rfl) (by kernel_rfl) (by kernel_rfl) rfl (.inr (by kernel_rfl))) (by kernel_rfl) (dst_of (by kernel_rfl)) ?_
   refine l_rk 1 tt_ok ⟨19, [(3, (.row 1 (List.length (v4)))), (6, (.fz ((eL 1 eI) (a0)))), (7, (fI ((List.length a0 : Int)))), (8, (fI (v1.1)))], [(1, (.frow 65 4 (List.map eVaR (v4))))], [1]⟩ (by kernel_rfl) ?_
   refine l_nil ?_
   refine awp_region ?_
   refine l_rk 2 tt_ok ⟨19, [(3, (.row 1 (List.length (v4)))), (6, (.fz ((eL 1 eI) (a0)))), (7, (fI ((List.length a0 : Int)))), (8, (fI ((w64 (v1.1 + 1)))))], [(1, (.frow 65 4 (List.map eVaR (v4))))], [1]⟩ (by kernel_rfl) ?_
   refine l_nil ?_
   obtain rfl := Option.some.inj h
   exact And.intro rfl (le_ck (by kernel_rfl))
  ·refine awp_cond_f (b := (decide (v1.1 < (List.length a0 : Int)))) (by kernel_rfl) hb ?_
   refine awp_exit ?_
   obtain rfl := Option.some.inj h
   exact And.intro (And.intro (fun h => nomatch h) (fun h => nomatch h)) (And.intro rfl (le_ck (by kernel_rfl)))
 ·clear hj
  intro e st' hq
  obtain ⟨rfl, hle⟩ := hq
  refine ⟨_, hle, ?_⟩
  refine awp_seq ?_
  refine awp_region ?_
  refine l_rk 2 tt_ok ⟨19, [(2, (.row 1 (List.length (v6))))], [(1, (.frow 65 4 (List.map eVaR (v6))))], [1]⟩ (by kernel_rfl) ?_
  refine l_nil ?_
  refine awp_le (le_freeze (t := 2) (id := 1) (n := List.length (v6)) (e := 65) (size := 4) (xs := List.map eVaR (v6)) (by kernel_rfl) (by kernel_rfl) (by simp)) ?_
  refine awp_ret ?_
  obtain rfl := Option.some.inj h
  exact (show retX _ _ _ _ = some _ from by kernel_rfl)

structure S_languages_writer where
  f_Language : La
def eS_languages_writer (x : S_languages_writer) : FV := .agg [eS (x.f_Language.name), (eL 1 eI) (x.f_Language.inputs), (eL 2 eSy) (x.f_Language.symbols), (eL 9 eRu) (x.f_Language.rules)]
theorem len_eS_languages_writer (x : S_languages_writer) : (eS_languages_writer x).cells.length = 4 := rfl
def languages_begin_h_m0 (p0 : Env) (q0 : Nat → Prop) (w0 : World) (a0 : ByteArray) (a1 : Int) (a2 : List Sy) : List (Nat × AObj) := [(0, (.was p0 [] q0 w0)), (1, (.box 83 [(fS (a0)), (.lim 1 (List.length (([a1] : List (Int)))) (List.map eI (([a1] : List (Int))))), (.fz ((eL 2 eSy) (a2))), (.row 2 (List.length (([] : List (Ru)))))])), (2, (.frow 67 9 (List.map eRu (([] : List (Ru))))))]
def languages_begin_h (a0 : ByteArray) (a1 : Int) (a2 : List Sy) : Option (Unit) := (some ())
theorem languages_begin_h_ok (a0 : ByteArray) (a1 : Int) (a2 : List Sy) (r : Unit) (h : languages_begin_h a0 a1 a2 = some r) : HCall Try.prog 65 ([(fS (a0)), (fI (a1)), (.fz ((eL 2 eSy) (a2)))] ++ []) [] [] (.ret (.ref 1 0 0)) [(1, (.box 83 [(fS (a0)), (.lim 1 (List.length (([a1] : List (Int)))) (List.map eI (([a1] : List (Int))))), (.fz ((eL 2 eSy) (a2))), (.row 2 (List.length (([] : List (Ru)))))])), (2, (.frow 67 9 (List.map eRu (([] : List (Ru))))))] [1, 2] := by
 unfold languages_begin_h at h
 refine hcall_introQ (g := 0) tt_ok Try.func65 rfl (by kernel_rfl) (by kernel_rfl) (by kernel_rfl) (by kernel_rfl) (by kernel_rfl) (by kernel_rfl) (by kernel_rfl) ?_
 intro p0 q0 w0
 refine awp_le (st' := ⟨14, [(0, (fS (a0))), (1, (fI (a1))), (2, (.fz ((eL 2 eSy) (a2))))], [(0, (.was p0 [] q0 w0))], [0]⟩) (le_ck (by kernel_rfl)) ?_
 refine awp_seq ?_
 refine awp_region ?_
 refine l_rk 1 tt_ok ⟨14, [(0, (fS (a0))), (1, (fI (a1))), (2, (.fz ((eL 2 eSy) (a2))))], [(0, (.was p0 [] q0 w0))], [0]⟩ (by kernel_rfl) ?_
 refine l_nil ?_
 refine awp_seq ?_
 refine awp_region ?_
 refine l_rk 7 tt_ok ⟨14, [(13, (.ref 1 0 0))], [(0, (.was p0 [] q0 w0)), (1, (.box 83 [(fS (a0)), (.lim 1 (List.length (([a1] : List (Int)))) (List.map eI (([a1] : List (Int))))), (.fz ((eL 2 eSy) (a2))), (.fz (.atom (.slice none 0 0)))]))], [1, 0]⟩ (by kernel_rfl) ?_
 refine l_le (le_nilcell (e := 67) (size := 9) (id2 := 1) (j := 3) (id := 2) (e2 := 83) (cells := [(fS (a0)), (.lim 1 (List.length (([a1] : List (Int)))) (List.map eI (([a1] : List (Int))))), (.fz ((eL 2 eSy) (a2))), (.fz (.atom (.slice none 0 0)))]) (by kernel_rfl) (by kernel_rfl) (by kernel_rfl) (by kernel_rfl)) ?_
 refine l_rk 1 tt_ok ⟨14, [(6, (.ref 1 0 0))], (languages_begin_h_m0 p0 q0 w0 a0 a1 a2), [2, 1, 0]⟩ (by kernel_rfl) ?_
 refine l_nil ?_
 refine awp_ret ?_
 obtain rfl := Option.some.inj h
 exact hQ_ret (st2 := ⟨14, [(6, (.ref 1 0 0))], (languages_begin_h_m0 p0 q0 w0 a0 a1 a2), [0, 1, 2]⟩) (le_ck (by kernel_rfl)) rfl rfl (.inr rfl) (by kernel_rfl)

def languages_writer_input_h_m0 (p0 : Env) (q0 : Nat → Prop) (w0 : World) (a0 : ByteArray) (a1 : List Int) (a2 : List Sy) (a3 : List Ru) : List (Nat × AObj) := [(0, (.was p0 [1, 2] q0 w0)), (1, (.box 83 [(fS (a0)), (.fz ((eL 1 eI) (a1))), (.fz ((eL 2 eSy) (a2))), (.row 2 (List.length (a3)))])), (2, (.frow 67 9 (List.map eRu (a3))))]
def languages_writer_input_h (a0 : ByteArray) (a1 : List Int) (a2 : List Sy) (a3 : List Ru) (a4 : Int) : Option ((List Ru)) := (Option.bind (app 120 a3 ([(Ru.mk (a4) (1) (0) ((Va.mk (0) (0) ((⟨#[]⟩ : ByteArray)) (([] : List Va)))) ((⟨#[]⟩ : ByteArray)) (([] : List Int)))] : List (Ru))) fun v1 => (some (v1)))
theorem languages_writer_input_h_ok (a0 : ByteArray) (a1 : List Int) (a2 : List Sy) (a3 : List Ru) (a4 : Int) (r : (List Ru)) (h : languages_writer_input_h a0 a1 a2 a3 a4 = some r) : HCall Try.prog 66 ([(.ref 1 0 0), (fI (a4))] ++ []) [(1, (.box 83 [(fS (a0)), (.fz ((eL 1 eI) (a1))), (.fz ((eL 2 eSy) (a2))), (.row 2 (List.length (a3)))])), (2, (.frow 67 9 (List.map eRu (a3))))] [1, 2] (.ret (.fz (.tup []))) [(1, (.box 83 [(fS (a0)), (.fz ((eL 1 eI) (a1))), (.fz ((eL 2 eSy) (a2))), (.row 2 (List.length (r)))])), (2, (.frow 67 9 (List.map eRu (r))))] [1, 2] := by
 unfold languages_writer_input_h at h
 refine hcall_introQ (g := 0) tt_ok Try.func66 rfl (by kernel_rfl) (by kernel_rfl) (by kernel_rfl) (by kernel_rfl) (by kernel_rfl) (by kernel_rfl) (by kernel_rfl) ?_
 intro p0 q0 w0
 refine awp_le (st' := ⟨17, [(0, (.ref 1 0 0)), (1, (fI (a4)))], (languages_writer_input_h_m0 p0 q0 w0 a0 a1 a2 a3), [0, 1, 2]⟩) (le_ck (by kernel_rfl)) ?_
 refine awp_region ?_
 refine l_rk 8 tt_ok ⟨17, [(4, (.ref 1 0 0)), (9, (.row 2 (List.length (a3)))), (11, (.fz (.agg [(eI (a4)), (eI (1)), (eI (0)), (eI (0)), (eI (0)), (eS ((⟨#[]⟩ : ByteArray))), (.atom (.slice none 0 0)), (eS ((⟨#[]⟩ : ByteArray))), (.atom (.slice none 0 0))])))], (languages_writer_input_h_m0 p0 q0 w0 a0 a1 a2 a3), [0, 1, 2]⟩ (by kernel_rfl) ?_
 refine l_le (le_co (ids := [0, 1, 2]) (ts := [(4, .one .keep), (9, .one .keep), (11, (.ag [.keep, .keep, .keep, .keep, .keep, .keep, .sl 4, .keep, .sl 1]))]) (os := [(0, []), (1, []), (2, [])]) (by kernel_rfl) : LeSt _ ⟨17, [(4, (.ref 1 0 0)), (9, (.row 2 (List.length (a3)))), (11, (.fz (eRu ((Ru.mk (a4) (1) (0) ((Va.mk (0) (0) ((⟨#[]⟩ : ByteArray)) (([] : List Va)))) ((⟨#[]⟩ : ByteArray)) (([] : List Int)))))))], (languages_writer_input_h_m0 p0 q0 w0 a0 a1 a2 a3), [0, 1, 2]⟩) ?_
 refine l_step (xstep_ok (c := .lim 9 1 [eRu ((Ru.mk (a4) (1) (0) ((Va.mk (0) (0) ((⟨#[]⟩ : ByteArray)) (([] : List Va)))) ((⟨#[]⟩ : ByteArray)) (([] : List Int))))]) (h := [(0, (.was p0 [1, 2] q0 w0)), (1, (.box 83 [(fS (a0)), (.fz ((eL 1 eI) (a1))), (.fz ((eL 2 eSy) (a2))), (.row 2 (List.length (a3)))])), (2, (.frow 67 9 (List.map eRu (a3))))]) (i := [0, 1, 2]) tt_ok (by kernel_rfl)) (by kernel_rfl) (dst_of (by kernel_rfl)) ?_
 obtain ⟨v1, hv1, h⟩ := Option.bind_eq_some_iff.1 h
 refine l_step (s_append (d := tt25) (e := 67) (de := tt67) (enc := eRu) (xs := a3) (ys := ([(Ru.mk (a4) (1) (0) ((Va.mk (0) (0) ((⟨#[]⟩ : ByteArray)) (([] : List Va)))) ((⟨#[]⟩ : ByteArray)) (([] : List Int)))] : List (Ru))) (m := List.length ([(Ru.mk (a4) (1) (0) ((Va.mk (0) (0) ((⟨#[]⟩ : ByteArray)) (([] : List Va)))) ((⟨#[]⟩ : ByteArray)) (([] : List Int)))] : List (Ru))) (id := 2) (n := List.length (a3)) hv1 tt_ok rfl (by kernel_rfl) (by kernel_rfl) (by kernel_rfl) (by kernel_rfl) (by kernel_rfl) (by kernel_rfl) (by kernel_rfl) (by kernel_rfl) rfl (.inr (by kernel_rfl))) (by kernel_rfl) (dst_of (by kernel_rfl)) ?_
 refine l_rk 4 tt_ok ⟨17, [], [(0, (.was p0 [1, 2] q0 w0)), (1, (.box 83 [(fS (a0)), (.fz ((eL 1 eI) (a1))), (.fz ((eL 2 eSy) (a2))), (.row 2 (List.length (v1)))])), (2, (.frow 67 9 (List.map eRu (v1))))], [0, 1, 2]⟩ (by kernel_rfl) ?_
 refine l_nil ?_
 obtain rfl := Option.some.inj h
 exact hQ_ret (st2 := ⟨17, [], [(0, (.was p0 [1, 2] q0 w0)), (1, (.box 83 [(fS (a0)), (.fz ((eL 1 eI) (a1))), (.fz ((eL 2 eSy) (a2))), (.row 2 (List.length (v1)))])), (2, (.frow 67 9 (List.map eRu (v1))))], [0, 1, 2]⟩) (le_ck (by kernel_rfl)) rfl rfl (.inl rfl) (by kernel_rfl)

def languages_writer_constants_h_l1 (a4 : Int) (a5 : List Va) (v1 : (Int) × (List Ru)) : Option (((Int) × (List Ru)) ⊕ ((List Ru))) := (bif (decide (v1.1 < (List.length a5 : Int))) then (Option.bind (idx a5 v1.1) fun v2 => (Option.bind (app 120 v1.2 ([(Ru.mk (a4) (2) (0) (v2) ((⟨#[]⟩ : ByteArray)) (([] : List Int)))] : List (Ru))) fun v3 => (some (.inl ((w64 (v1.1 + 1)), v3))))) else (some (.inr (v1.2))))
def languages_writer_constants_h (a0 : ByteArray) (a1 : List Int) (a2 : List Sy) (a3 : List Ru) (a4 : Int) (a5 : List Va) : Option ((List Ru)) := (Option.bind (loopN (languages_writer_constants_h_l1 a4 a5) fuel (0, a3)) fun (v5 : (List Ru)) => (some (v5)))
theorem languages_writer_constants_h_ok (a0 : ByteArray) (a1 : List Int) (a2 : List Sy) (a3 : List Ru) (a4 : Int) (a5 : List Va) (r : (List Ru)) (h : languages_writer_constants_h a0 a1 a2 a3 a4 a5 = some r) : HCall Try.prog 67 ([(.ref 1 0 0), (fI (a4)), (.fz ((eL 4 eVaR) (a5)))] ++ []) [(1, (.box 83 [(fS (a0)), (.fz ((eL 1 eI) (a1))), (.fz ((eL 2 eSy) (a2))), (.row 2 (List.length (a3)))])), (2, (.frow 67 9 (List.map eRu (a3))))] [1, 2] (.ret (.fz (.tup []))) [(1, (.box 83 [(fS (a0)), (.fz ((eL 1 eI) (a1))), (.fz ((eL 2 eSy) (a2))), (.row 2 (List.length (r)))])), (2, (.frow 67 9 (List.map eRu (r))))] [1, 2] := by
 unfold languages_writer_constants_h at h
 refine hcall_introQ (g := 0) tt_ok Try.func67 rfl (by kernel_rfl) (by kernel_rfl) (by kernel_rfl) (by kernel_rfl) (by kernel_rfl) (by kernel_rfl) (by kernel_rfl) ?_
 intro p0 q0 w0
 refine awp_le (st' := ⟨29, [(0, (.ref 1 0 0)), (1, (fI (a4))), (2, (.fz ((eL 4 eVaR) (a5))))], [(0, (.was p0 [1, 2] q0 w0)), (1, (.box 83 [(fS (a0)), (.fz ((eL 1 eI) (a1))), (.fz ((eL 2 eSy) (a2))), (.row 2 (List.length (a3)))])), (2, (.frow 67 9 (List.map eRu (a3))))], [0, 1, 2]⟩) (le_ck (by kernel_rfl)) ?_
 refine awp_seq ?_
 refine awp_region ?_
 refine l_rk 3 tt_ok ⟨29, [(0, (.ref 1 0 0)), (1, (fI (a4))), (8, (.fz ((eL 4 eVaR) (a5)))), (9, (fI ((List.length a5 : Int)))), (10, (fI (0)))], [(0, (.was p0 [1, 2] q0 w0)), (1, (.box 83 [(fS (a0)), (.fz ((eL 1 eI) (a1))), (.fz ((eL 2 eSy) (a2))), (.row 2 (List.length (a3)))])), (2, (.frow 67 9 (List.map eRu (a3))))], [0, 1, 2]⟩ (by kernel_rfl) ?_
 refine l_nil ?_
 refine awp_block ?_
 obtain ⟨v5, hj, h⟩ := Option.bind_eq_some_iff.1 h
 refine awp_join (Qa := fun e st => e = .exit 0 ∧ LeSt st ⟨29, [], [(0, (.was p0 [1, 2] q0 w0)), (1, (.box 83 [(fS (a0)), (.fz ((eL 1 eI) (a1))), (.fz ((eL 2 eSy) (a2))), (.row 2 (List.length (v5)))])), (2, (.frow 67 9 (List.map eRu (v5))))], [0, 1, 2]⟩) ?_ ?_
 ·refine awp_loopS (stOf := fun v1 => ⟨29, [(0, (.ref 1 0 0)), (1, (fI (a4))), (8, (.fz ((eL 4 eVaR) (a5)))), (9, (fI ((List.length a5 : Int)))), (10, (fI (v1.1)))], [(0, (.was p0 [1, 2] q0 w0)), (1, (.box 83 [(fS (a0)), (.fz ((eL 1 eI) (a1))), (.fz ((eL 2 eSy) (a2))), (.row 2 (List.length (v1.2)))])), (2, (.frow 67 9 (List.map eRu (v1.2))))], [0, 1, 2]⟩) (Qb := fun j e st => e = .exit 0 ∧ LeSt st ⟨29, [], [(0, (.was p0 [1, 2] q0 w0)), (1, (.box 83 [(fS (a0)), (.fz ((eL 1 eI) (a1))), (.fz ((eL 2 eSy) (a2))), (.row 2 (List.length (j)))])), (2, (.frow 67 9 (List.map eRu (j))))], [0, 1, 2]⟩) hj (le_ck (by kernel_rfl)) ?_
  clear hj h
  intro v1 r h
  unfold languages_writer_constants_h_l1 at h
  refine awp_seq ?_
  refine awp_region ?_
  refine l_rk 1 tt_ok ⟨29, [(0, (.ref 1 0 0)), (1, (fI (a4))), (8, (.fz ((eL 4 eVaR) (a5)))), (9, (fI ((List.length a5 : Int)))), (10, (fI (v1.1))), (11, (fB ((decide (v1.1 < (List.length a5 : Int))))))], [(0, (.was p0 [1, 2] q0 w0)), (1, (.box 83 [(fS (a0)), (.fz ((eL 1 eI) (a1))), (.fz ((eL 2 eSy) (a2))), (.row 2 (List.length (v1.2)))])), (2, (.frow 67 9 (List.map eRu (v1.2))))], [0, 1, 2]⟩ (by kernel_rfl) ?_
  refine l_nil ?_
  refine awp_seq ?_
  rcases cond_some h with ⟨hb, h⟩ | ⟨hb, h⟩
  ·refine awp_cond_t (b := (decide (v1.1 < (List.length a5 : Int)))) (by kernel_rfl) hb ?_
   refine awp_skip ?_
   refine awp_seq ?_
   refine awp_block ?_
   refine awp_seq ?_
   refine awp_region ?_
   obtain ⟨v2, hv2, h⟩ := Option.bind_eq_some_iff.1 h
   refine l_step ((s_index (k := .i64) (d := tt63) (e := 65) (de := tt65) (enc := eVaR) hv2 tt_ok rfl (by kernel_rfl) (by kernel_rfl) (by kernel_rfl) (by kernel_rfl) len_eVaR (by kernel_rfl) (cells_eVaR v2)).step) (by kernel_rfl) (dst_of (by kernel_rfl)) ?_
   refine l_rk 3 tt_ok ⟨29, [(0, (.ref 1 0 0)), (1, (fI (a4))), (7, (.ref 3 0 0)), (8, (.fz ((eL 4 eVaR) (a5)))), (9, (fI ((List.length a5 : Int)))), (10, (fI (v1.1)))], [(0, (.was p0 [1, 2] q0 w0)), (1, (.box 83 [(fS (a0)), (.fz ((eL 1 eI) (a1))), (.fz ((eL 2 eSy) (a2))), (.row 2 (List.length (v1.2)))])), (2, (.frow 67 9 (List.map eRu (v1.2)))), (3, (.box 65 [(fI (v2.type)), (fI (v2.num)), (fS (v2.text)), (.fz ((eL 4 eVaR) (v2.items)))]))], [3, 0, 1, 2]⟩ (by kernel_rfl) ?_
   refine l_nil ?_
   obtain ⟨v3, hv3, h⟩ := Option.bind_eq_some_iff.1 h
   refine awp_drawnE (by kernel_rfl) 10 2 (.frow 67 9 (List.map eRu (v1.2))) (.frow 67 9 (List.map eRu (v3))) [(.ref 1 0 0), (.ref 1 0 0), (.ref 1 0 0), (.ref 1 0 0), (.ref 1 0 3), (.row 2 (List.length (v1.2))), (fI (a4)), (.fz (eVa (v2))), (.fz (.agg [(eI (a4)), (eI (2)), (eI (0)), (eI (v2.type)), (eI (v2.num)), (eS (v2.text)), ((eL 4 eVaR) (v2.items)), (eS ((⟨#[]⟩ : ByteArray))), (.atom (.slice none 0 0))])), (.lim 9 (List.length (([(Ru.mk (a4) (2) (0) (v2) ((⟨#[]⟩ : ByteArray)) (([] : List Int)))] : List (Ru)))) (List.map eRu (([(Ru.mk (a4) (2) (0) (v2) ((⟨#[]⟩ : ByteArray)) (([] : List Int)))] : List (Ru))))), (.row 2 (List.length (v3)))] (by kernel_rfl) (by kernel_rfl) (by kernel_rfl) ?_
   refine ⟨.inr ⟨by decide, .inl ⟨by kernel_rfl, (nstep_ok tt_ok (by kernel_rfl))⟩⟩, ?_⟩
   refine ⟨.inr ⟨by decide, .inl ⟨by kernel_rfl, (nstep_ok tt_ok (by kernel_rfl))⟩⟩, ?_⟩
   refine ⟨.inr ⟨by decide, .inl ⟨by kernel_rfl, (nstep_ok tt_ok (by kernel_rfl))⟩⟩, ?_⟩
   refine ⟨.inr ⟨by decide, .inl ⟨by kernel_rfl, (nstep_ok tt_ok (by kernel_rfl))⟩⟩, ?_⟩
   refine ⟨.inr ⟨by decide, .inl ⟨by kernel_rfl, (nstep_ok tt_ok (by kernel_rfl))⟩⟩, ?_⟩
   refine ⟨.inr ⟨by decide, .inl ⟨by kernel_rfl, (nstep_ok tt_ok (by kernel_rfl))⟩⟩, ?_⟩
   refine ⟨.inr ⟨by decide, .inl ⟨by kernel_rfl, (nstep_ok tt_ok (by kernel_rfl))⟩⟩, ?_⟩
   refine ⟨.inr ⟨by decide, .inl ⟨by kernel_rfl, (nstep_ok tt_ok (by kernel_rfl))⟩⟩, ?_⟩
   refine ⟨.inr ⟨by decide, .inl ⟨by kernel_rfl, (nstep_ok tt_ok (by kernel_rfl))⟩⟩, ?_⟩
   refine ⟨.inr ⟨by decide, .inl ⟨by kernel_rfl, (nstep_co (st' := ⟨29, [(22, (.fz (eRu ((Ru.mk (a4) (2) (0) (v2) ((⟨#[]⟩ : ByteArray)) (([] : List Int)))))))], [], []⟩) (ids := []) (ts := [(22, (.ag [.keep, .keep, .keep, .keep, .keep, .keep, .sl 4, .keep, .sl 1]))]) (by kernel_rfl) (nstep_ok (c := .lim 9 1 [eRu ((Ru.mk (a4) (2) (0) (v2) ((⟨#[]⟩ : ByteArray)) (([] : List Int))))]) tt_ok (by kernel_rfl)))⟩⟩, ?_⟩
   refine ⟨.inl ⟨rfl, by kernel_rfl, (s_appE (d := tt25) (e := 67) (de := tt67) (enc := eRu) (xs := v1.2) (ys := ([(Ru.mk (a4) (2) (0) (v2) ((⟨#[]⟩ : ByteArray)) (([] : List Int)))] : List (Ru))) (m := List.length ([(Ru.mk (a4) (2) (0) (v2) ((⟨#[]⟩ : ByteArray)) (([] : List Int)))] : List (Ru))) (id := 2) (n := List.length (v1.2)) hv3 tt_ok rfl (by kernel_rfl) (by kernel_rfl) (by kernel_rfl) (by kernel_rfl) (by kernel_rfl) (by kernel_rfl) (by kernel_rfl) rfl (.inr (by kernel_rfl)))⟩, ?_⟩
   refine l_rk 4 tt_ok ⟨29, [(0, (.ref 1 0 0)), (1, (fI (a4))), (8, (.fz ((eL 4 eVaR) (a5)))), (9, (fI ((List.length a5 : Int)))), (10, (fI (v1.1)))], [(0, (.was p0 [1, 2] q0 w0)), (1, (.box 83 [(fS (a0)), (.fz ((eL 1 eI) (a1))), (.fz ((eL 2 eSy) (a2))), (.row 2 (List.length (v3)))])), (2, (.frow 67 9 (List.map eRu (v3))))], [0, 1, 2]⟩ (by kernel_rfl) ?_
   refine l_nil ?_
   refine awp_region ?_
   refine l_rk 2 tt_ok ⟨29, [(0, (.ref 1 0 0)), (1, (fI (a4))), (8, (.fz ((eL 4 eVaR) (a5)))), (9, (fI ((List.length a5 : Int)))), (10, (fI ((w64 (v1.1 + 1)))))], [(0, (.was p0 [1, 2] q0 w0)), (1, (.box 83 [(fS (a0)), (.fz ((eL 1 eI) (a1))), (.fz ((eL 2 eSy) (a2))), (.row 2 (List.length (v3)))])), (2, (.frow 67 9 (List.map eRu (v3))))], [0, 1, 2]⟩ (by kernel_rfl) ?_
   refine l_nil ?_
   obtain rfl := Option.some.inj h
   exact And.intro rfl (le_ck (by kernel_rfl))
  ·refine awp_cond_f (b := (decide (v1.1 < (List.length a5 : Int)))) (by kernel_rfl) hb ?_
   refine awp_exit ?_
   obtain rfl := Option.some.inj h
   exact And.intro (And.intro (fun h => nomatch h) (fun h => nomatch h)) (And.intro rfl (le_ck (by kernel_rfl)))
 ·clear hj
  intro e st' hq
  obtain ⟨rfl, hle⟩ := hq
  refine ⟨_, hle, ?_⟩
  obtain rfl := Option.some.inj h
  exact hQ_ret (st2 := ⟨29, [], [(0, (.was p0 [1, 2] q0 w0)), (1, (.box 83 [(fS (a0)), (.fz ((eL 1 eI) (a1))), (.fz ((eL 2 eSy) (a2))), (.row 2 (List.length (v5)))])), (2, (.frow 67 9 (List.map eRu (v5))))], [0, 1, 2]⟩) (le_ck (by kernel_rfl)) rfl rfl (.inl rfl) (by kernel_rfl)

def languages_writer_ops_h_m0 (p0 : Env) (q0 : Nat → Prop) (w0 : World) (a0 : ByteArray) (a1 : List Int) (a2 : List Sy) (v1 : (Int) × (List Ru)) : List (Nat × AObj) := [(0, (.was p0 [1, 2] q0 w0)), (1, (.box 83 [(fS (a0)), (.fz ((eL 1 eI) (a1))), (.fz ((eL 2 eSy) (a2))), (.row 2 (List.length (v1.2)))])), (2, (.frow 67 9 (List.map eRu (v1.2))))]
def languages_writer_ops_h_l1 (a4 : Int) (a5 : List Int) (a6 : List ByteArray) (v1 : (Int) × (List Ru)) : Option (((Int) × (List Ru)) ⊕ ((List Ru))) := (bif (decide (v1.1 < (List.length a6 : Int))) then (Option.bind (idx a6 v1.1) fun v2 => (Option.bind (app 8 [] a5) fun v3 => (Option.bind (app 120 v1.2 ([(Ru.mk (a4) (3) (0) ((Va.mk (0) (0) ((⟨#[]⟩ : ByteArray)) (([] : List Va)))) (v2) (v3))] : List (Ru))) fun v4 => (some (.inl ((w64 (v1.1 + 1)), v4)))))) else (some (.inr (v1.2))))
def languages_writer_ops_h (a0 : ByteArray) (a1 : List Int) (a2 : List Sy) (a3 : List Ru) (a4 : Int) (a5 : List Int) (a6 : List ByteArray) : Option ((List Ru)) := (Option.bind (loopN (languages_writer_ops_h_l1 a4 a5 a6) fuel (0, a3)) fun (v6 : (List Ru)) => (some (v6)))
theorem languages_writer_ops_h_ok (a0 : ByteArray) (a1 : List Int) (a2 : List Sy) (a3 : List Ru) (a4 : Int) (a5 : List Int) (a6 : List ByteArray) (r : (List Ru)) (h : languages_writer_ops_h a0 a1 a2 a3 a4 a5 a6 = some r) : HCall Try.prog 68 ([(.ref 1 0 0), (fI (a4)), (.fz ((eL 1 eI) (a5))), (.fz ((eL 1 eS) (a6)))] ++ []) [(1, (.box 83 [(fS (a0)), (.fz ((eL 1 eI) (a1))), (.fz ((eL 2 eSy) (a2))), (.row 2 (List.length (a3)))])), (2, (.frow 67 9 (List.map eRu (a3))))] [1, 2] (.ret (.fz (.tup []))) [(1, (.box 83 [(fS (a0)), (.fz ((eL 1 eI) (a1))), (.fz ((eL 2 eSy) (a2))), (.row 2 (List.length (r)))])), (2, (.frow 67 9 (List.map eRu (r))))] [1, 2] := by
 unfold languages_writer_ops_h at h
 refine hcall_introQ (g := 0) tt_ok Try.func68 rfl (by kernel_rfl) (by kernel_rfl) (by kernel_rfl) (by kernel_rfl) (by kernel_rfl) (by kernel_rfl) (by kernel_rfl) ?_
 intro p0 q0 w0
 refine awp_le (st' := ⟨33, [(0, (.ref 1 0 0)), (1, (fI (a4))), (2, (.fz ((eL 1 eI) (a5)))), (3, (.fz ((eL 1 eS) (a6))))], [(0, (.was p0 [1, 2] q0 w0)), (1, (.box 83 [(fS (a0)), (.fz ((eL 1 eI) (a1))), (.fz ((eL 2 eSy) (a2))), (.row 2 (List.length (a3)))])), (2, (.frow 67 9 (List.map eRu (a3))))], [0, 1, 2]⟩) (le_ck (by kernel_rfl)) ?_
 refine awp_seq ?_
 refine awp_region ?_
 refine l_rk 3 tt_ok ⟨33, [(0, (.ref 1 0 0)), (1, (fI (a4))), (2, (.fz ((eL 1 eI) (a5)))), (10, (.fz ((eL 1 eS) (a6)))), (11, (fI ((List.length a6 : Int)))), (12, (fI (0)))], [(0, (.was p0 [1, 2] q0 w0)), (1, (.box 83 [(fS (a0)), (.fz ((eL 1 eI) (a1))), (.fz ((eL 2 eSy) (a2))), (.row 2 (List.length (a3)))])), (2, (.frow 67 9 (List.map eRu (a3))))], [0, 1, 2]⟩ (by kernel_rfl) ?_
 refine l_nil ?_
 refine awp_block ?_
 obtain ⟨v6, hj, h⟩ := Option.bind_eq_some_iff.1 h
 refine awp_join (Qa := fun e st => e = .exit 0 ∧ LeSt st ⟨33, [], [(0, (.was p0 [1, 2] q0 w0)), (1, (.box 83 [(fS (a0)), (.fz ((eL 1 eI) (a1))), (.fz ((eL 2 eSy) (a2))), (.row 2 (List.length (v6)))])), (2, (.frow 67 9 (List.map eRu (v6))))], [0, 1, 2]⟩) ?_ ?_
 ·refine awp_loopS (stOf := fun v1 => ⟨33, [(0, (.ref 1 0 0)), (1, (fI (a4))), (2, (.fz ((eL 1 eI) (a5)))), (10, (.fz ((eL 1 eS) (a6)))), (11, (fI ((List.length a6 : Int)))), (12, (fI (v1.1)))], (languages_writer_ops_h_m0 p0 q0 w0 a0 a1 a2 v1), [0, 1, 2]⟩) (Qb := fun j e st => e = .exit 0 ∧ LeSt st ⟨33, [], [(0, (.was p0 [1, 2] q0 w0)), (1, (.box 83 [(fS (a0)), (.fz ((eL 1 eI) (a1))), (.fz ((eL 2 eSy) (a2))), (.row 2 (List.length (j)))])), (2, (.frow 67 9 (List.map eRu (j))))], [0, 1, 2]⟩) hj (le_ck (by kernel_rfl)) ?_
  clear hj h
  intro v1 r h
  unfold languages_writer_ops_h_l1 at h
  refine awp_seq ?_
  refine awp_region ?_
  refine l_rk 1 tt_ok ⟨33, [(0, (.ref 1 0 0)), (1, (fI (a4))), (2, (.fz ((eL 1 eI) (a5)))), (10, (.fz ((eL 1 eS) (a6)))), (11, (fI ((List.length a6 : Int)))), (12, (fI (v1.1))), (13, (fB ((decide (v1.1 < (List.length a6 : Int))))))], (languages_writer_ops_h_m0 p0 q0 w0 a0 a1 a2 v1), [0, 1, 2]⟩ (by kernel_rfl) ?_
  refine l_nil ?_
  refine awp_seq ?_
  rcases cond_some h with ⟨hb, h⟩ | ⟨hb, h⟩
  ·refine awp_cond_t (b := (decide (v1.1 < (List.length a6 : Int)))) (by kernel_rfl) hb ?_
   refine awp_skip ?_
   refine awp_seq ?_
   refine awp_block ?_
   refine awp_seq ?_
   refine awp_region ?_
   obtain ⟨v2, hv2, h⟩ := Option.bind_eq_some_iff.1 h
   refine l_step ((s_index (k := .i64) (d := tt32) (e := 9) (de := tt9) (enc := eS) hv2 tt_ok rfl (by kernel_rfl) (by kernel_rfl) (by kernel_rfl) (by kernel_rfl) len_eS (by kernel_rfl) rfl).step) (by kernel_rfl) (dst_of (by kernel_rfl)) ?_
   refine l_rk 2 tt_ok ⟨33, [(0, (.ref 1 0 0)), (1, (fI (a4))), (2, (.fz ((eL 1 eI) (a5)))), (9, (fS (v2))), (10, (.fz ((eL 1 eS) (a6)))), (11, (fI ((List.length a6 : Int)))), (12, (fI (v1.1)))], (languages_writer_ops_h_m0 p0 q0 w0 a0 a1 a2 v1), [0, 1, 2]⟩ (by kernel_rfl) ?_
   refine l_nil ?_
   obtain ⟨v3, hv3, h⟩ := Option.bind_eq_some_iff.1 h
   obtain ⟨v4, hv4, h⟩ := Option.bind_eq_some_iff.1 h
   refine awp_drawnE (by kernel_rfl) 12 2 (.frow 67 9 (List.map eRu (v1.2))) (.frow 67 9 (List.map eRu (v4))) [(.ref 1 0 0), (.ref 1 0 0), (.ref 1 0 0), (.ref 1 0 0), (.ref 1 0 3), (.row 2 (List.length (v1.2))), (fI (a4)), (fS (v2)), (.fz ((eL 1 eI) (a5))), (.fz ((eL 1 eI) (v3))), (.fz (.agg [(eI (a4)), (eI (3)), (eI (0)), (eI (0)), (eI (0)), (eS ((⟨#[]⟩ : ByteArray))), (.atom (.slice none 0 0)), (eS (v2)), ((eL 1 eI) (v3))])), (.lim 9 (List.length (([(Ru.mk (a4) (3) (0) ((Va.mk (0) (0) ((⟨#[]⟩ : ByteArray)) (([] : List Va)))) (v2) (v3))] : List (Ru)))) (List.map eRu (([(Ru.mk (a4) (3) (0) ((Va.mk (0) (0) ((⟨#[]⟩ : ByteArray)) (([] : List Va)))) (v2) (v3))] : List (Ru))))), (.row 2 (List.length (v4)))] (by kernel_rfl) (by kernel_rfl) (by kernel_rfl) ?_
   refine ⟨.inr ⟨by decide, .inl ⟨by kernel_rfl, (nstep_ok tt_ok (by kernel_rfl))⟩⟩, ?_⟩
   refine ⟨.inr ⟨by decide, .inl ⟨by kernel_rfl, (nstep_ok tt_ok (by kernel_rfl))⟩⟩, ?_⟩
   refine ⟨.inr ⟨by decide, .inl ⟨by kernel_rfl, (nstep_ok tt_ok (by kernel_rfl))⟩⟩, ?_⟩
   refine ⟨.inr ⟨by decide, .inl ⟨by kernel_rfl, (nstep_ok tt_ok (by kernel_rfl))⟩⟩, ?_⟩
   refine ⟨.inr ⟨by decide, .inl ⟨by kernel_rfl, (nstep_ok tt_ok (by kernel_rfl))⟩⟩, ?_⟩
   refine ⟨.inr ⟨by decide, .inl ⟨by kernel_rfl, (nstep_ok tt_ok (by kernel_rfl))⟩⟩, ?_⟩
   refine ⟨.inr ⟨by decide, .inl ⟨by kernel_rfl, (nstep_ok tt_ok (by kernel_rfl))⟩⟩, ?_⟩
   refine ⟨.inr ⟨by decide, .inl ⟨by kernel_rfl, (nstep_ok tt_ok (by kernel_rfl))⟩⟩, ?_⟩
   refine ⟨.inr ⟨by decide, .inl ⟨by kernel_rfl, (nstep_ok tt_ok (by kernel_rfl))⟩⟩, ?_⟩
   refine ⟨.inr ⟨by decide, .inl ⟨by kernel_rfl, (s_clone (d := tt23) (e := 3) (de := tt3) (enc := eI) (ys := a5) (m := List.length a5) hv3 tt_ok rfl (by kernel_rfl) (by kernel_rfl) (by kernel_rfl) (by kernel_rfl) (by kernel_rfl) (by kernel_rfl) (by kernel_rfl) (.inl (by kernel_rfl)))⟩⟩, ?_⟩
   refine ⟨.inr ⟨by decide, .inl ⟨by kernel_rfl, (nstep_ok tt_ok (by kernel_rfl))⟩⟩, ?_⟩
   refine ⟨.inr ⟨by decide, .inl ⟨by kernel_rfl, (nstep_co (st' := ⟨33, [(26, (.fz (eRu ((Ru.mk (a4) (3) (0) ((Va.mk (0) (0) ((⟨#[]⟩ : ByteArray)) (([] : List Va)))) (v2) (v3))))))], [], []⟩) (ids := []) (ts := [(26, (.ag [.keep, .keep, .keep, .keep, .keep, .keep, .sl 4, .keep, .sl 1]))]) (by kernel_rfl) (nstep_ok (c := .lim 9 1 [eRu ((Ru.mk (a4) (3) (0) ((Va.mk (0) (0) ((⟨#[]⟩ : ByteArray)) (([] : List Va)))) (v2) (v3)))]) tt_ok (by kernel_rfl)))⟩⟩, ?_⟩
   refine ⟨.inl ⟨rfl, by kernel_rfl, (s_appE (d := tt25) (e := 67) (de := tt67) (enc := eRu) (xs := v1.2) (ys := ([(Ru.mk (a4) (3) (0) ((Va.mk (0) (0) ((⟨#[]⟩ : ByteArray)) (([] : List Va)))) (v2) (v3))] : List (Ru))) (m := List.length ([(Ru.mk (a4) (3) (0) ((Va.mk (0) (0) ((⟨#[]⟩ : ByteArray)) (([] : List Va)))) (v2) (v3))] : List (Ru))) (id := 2) (n := List.length (v1.2)) hv4 tt_ok rfl (by kernel_rfl) (by kernel_rfl) (by kernel_rfl) (by kernel_rfl) (by kernel_rfl) (by kernel_rfl) (by kernel_rfl) rfl (.inr (by kernel_rfl)))⟩, ?_⟩
   refine l_rk 4 tt_ok ⟨33, [(0, (.ref 1 0 0)), (1, (fI (a4))), (2, (.fz ((eL 1 eI) (a5)))), (10, (.fz ((eL 1 eS) (a6)))), (11, (fI ((List.length a6 : Int)))), (12, (fI (v1.1)))], [(0, (.was p0 [1, 2] q0 w0)), (1, (.box 83 [(fS (a0)), (.fz ((eL 1 eI) (a1))), (.fz ((eL 2 eSy) (a2))), (.row 2 (List.length (v4)))])), (2, (.frow 67 9 (List.map eRu (v4))))], [0, 1, 2]⟩ (by kernel_rfl) ?_
   refine l_nil ?_
   refine awp_region ?_
   refine l_rk 2 tt_ok ⟨33, [(0, (.ref 1 0 0)), (1, (fI (a4))), (2, (.fz ((eL 1 eI) (a5)))), (10, (.fz ((eL 1 eS) (a6)))), (11, (fI ((List.length a6 : Int)))), (12, (fI ((w64 (v1.1 + 1)))))], [(0, (.was p0 [1, 2] q0 w0)), (1, (.box 83 [(fS (a0)), (.fz ((eL 1 eI) (a1))), (.fz ((eL 2 eSy) (a2))), (.row 2 (List.length (v4)))])), (2, (.frow 67 9 (List.map eRu (v4))))], [0, 1, 2]⟩ (by kernel_rfl) ?_
   refine l_nil ?_
   obtain rfl := Option.some.inj h
   exact And.intro rfl (le_ck (by kernel_rfl))
  ·refine awp_cond_f (b := (decide (v1.1 < (List.length a6 : Int)))) (by kernel_rfl) hb ?_
   refine awp_exit ?_
   obtain rfl := Option.some.inj h
   exact And.intro (And.intro (fun h => nomatch h) (fun h => nomatch h)) (And.intro rfl (le_ck (by kernel_rfl)))
 ·clear hj
  intro e st' hq
  obtain ⟨rfl, hle⟩ := hq
  refine ⟨_, hle, ?_⟩
  obtain rfl := Option.some.inj h
  exact hQ_ret (st2 := ⟨33, [], [(0, (.was p0 [1, 2] q0 w0)), (1, (.box 83 [(fS (a0)), (.fz ((eL 1 eI) (a1))), (.fz ((eL 2 eSy) (a2))), (.row 2 (List.length (v6)))])), (2, (.frow 67 9 (List.map eRu (v6))))], [0, 1, 2]⟩) (le_ck (by kernel_rfl)) rfl rfl (.inl rfl) (by kernel_rfl)

def languages_Strings_m0 : List (Nat × AObj) := [(1, (.box 27 [(fS ((⟨#[]⟩ : ByteArray))), (.fz (.atom (.slice none 0 0))), (.fz (.atom (.slice none 0 0))), (.fz (.atom (.slice none 0 0)))]))]
def languages_Strings_m1 : List (Nat × AObj) := [(1, (.box 27 [(fS ((⟨#[]⟩ : ByteArray))), (.fz (.atom (.slice none 0 0))), (.fz (.atom (.slice none 0 0))), (.fz (.atom (.slice none 0 0)))])), (2, (.box 83 [(fS (((⟨#[115, 116, 114, 105, 110, 103, 115]⟩ : ByteArray)))), (.lim 1 (List.length (([(3)] : List (Int)))) (List.map eI (([(3)] : List (Int))))), (.fz ((eL 2 eSy) ((([(Sy.mk ((⟨#[116, 101, 120, 116]⟩ : ByteArray)) (3)), (Sy.mk ((⟨#[110, 117, 109, 98, 101, 114]⟩ : ByteArray)) (2))] : List (Sy)))))), (.row 3 (List.length (([] : List (Ru)))))])), (3, (.frow 67 9 (List.map eRu (([] : List (Ru))))))]
def languages_Strings_m2 (v1 : (Int) × (List Va)) : List (Nat × AObj) := [(1, (.box 27 [(fS ((⟨#[]⟩ : ByteArray))), (.fz (.atom (.slice none 0 0))), (.fz (.atom (.slice none 0 0))), (.fz (.atom (.slice none 0 0)))])), (2, (.frow 65 4 (List.map eVaR (v1.2))))]
def languages_Strings_m3 (v6 : List Va) : List (Nat × AObj) := [(1, (.box 27 [(fS ((⟨#[]⟩ : ByteArray))), (.fz (.atom (.slice none 0 0))), (.fz (.atom (.slice none 0 0))), (.fz (.atom (.slice none 0 0)))])), (2, (.frow 65 4 (List.map eVaR (v6))))]
def languages_Strings_l1 (a0 : List ByteArray) (v1 : (Int) × (List Va)) : Option (((Int) × (List Va)) ⊕ ((List Va))) := (bif (decide (v1.1 < (List.length a0 : Int))) then (Option.bind (idx a0 v1.1) fun v2 => (Option.bind (value_OfText (v2)) fun v3 => (Option.bind (app 56 v1.2 ([v3] : List (Va))) fun v4 => (some (.inl ((w64 (v1.1 + 1)), v4)))))) else (some (.inr (v1.2))))
def languages_Strings (a0 : List ByteArray) (a1 : List Int) : Option ((La) × (Int)) := (Option.bind (loopN (languages_Strings_l1 a0) fuel (0, ([] : List (Va)))) fun (v6 : (List Va)) => (Option.bind (languages_checked (v6)) fun v7 => (bif (v7 != 0) then (some ((La.mk ((⟨#[]⟩ : ByteArray)) (([] : List Int)) (([] : List Sy)) (([] : List Ru))), v7)) else (Option.bind (languages_integers (a1)) fun v8 => (Option.bind (languages_checked (v8)) fun v9 => (bif (v9 != 0) then (some ((La.mk ((⟨#[]⟩ : ByteArray)) (([] : List Int)) (([] : List Sy)) (([] : List Ru))), v9)) else (Option.bind (languages_begin_h ((⟨#[115, 116, 114, 105, 110, 103, 115]⟩ : ByteArray)) (3) (([(Sy.mk ((⟨#[116, 101, 120, 116]⟩ : ByteArray)) (3)), (Sy.mk ((⟨#[110, 117, 109, 98, 101, 114]⟩ : ByteArray)) (2))] : List (Sy)))) fun v10 => (Option.bind (languages_writer_input_h (((⟨#[115, 116, 114, 105, 110, 103, 115]⟩ : ByteArray))) (([(3)] : List (Int))) ((([(Sy.mk ((⟨#[116, 101, 120, 116]⟩ : ByteArray)) (3)), (Sy.mk ((⟨#[110, 117, 109, 98, 101, 114]⟩ : ByteArray)) (2))] : List (Sy)))) (([] : List (Ru))) (0)) fun v11 => (Option.bind (languages_writer_constants_h ((((⟨#[115, 116, 114, 105, 110, 103, 115]⟩ : ByteArray)))) ((([(3)] : List (Int)))) (((([(Sy.mk ((⟨#[116, 101, 120, 116]⟩ : ByteArray)) (3)), (Sy.mk ((⟨#[110, 117, 109, 98, 101, 114]⟩ : ByteArray)) (2))] : List (Sy))))) (v11) (0) (v6)) fun v12 => (Option.bind (languages_writer_ops_h (((((⟨#[115, 116, 114, 105, 110, 103, 115]⟩ : ByteArray))))) (((([(3)] : List (Int))))) ((((([(Sy.mk ((⟨#[116, 101, 120, 116]⟩ : ByteArray)) (3)), (Sy.mk ((⟨#[110, 117, 109, 98, 101, 114]⟩ : ByteArray)) (2))] : List (Sy)))))) (v12) (0) (([0, 0] : List (Int))) (([(⟨#[99, 111, 110, 99, 97, 116]⟩ : ByteArray)] : List (ByteArray)))) fun v13 => (Option.bind (languages_writer_ops_h ((((((⟨#[115, 116, 114, 105, 110, 103, 115]⟩ : ByteArray)))))) ((((([(3)] : List (Int)))))) (((((([(Sy.mk ((⟨#[116, 101, 120, 116]⟩ : ByteArray)) (3)), (Sy.mk ((⟨#[110, 117, 109, 98, 101, 114]⟩ : ByteArray)) (2))] : List (Sy))))))) (v13) (0) (([0] : List (Int))) (([(⟨#[117, 112, 112, 101, 114]⟩ : ByteArray), (⟨#[108, 111, 119, 101, 114]⟩ : ByteArray), (⟨#[116, 114, 105, 109]⟩ : ByteArray)] : List (ByteArray)))) fun v14 => (Option.bind (languages_writer_ops_h (((((((⟨#[115, 116, 114, 105, 110, 103, 115]⟩ : ByteArray))))))) (((((([(3)] : List (Int))))))) ((((((([(Sy.mk ((⟨#[116, 101, 120, 116]⟩ : ByteArray)) (3)), (Sy.mk ((⟨#[110, 117, 109, 98, 101, 114]⟩ : ByteArray)) (2))] : List (Sy)))))))) (v14) (0) (([0, 1] : List (Int))) (([(⟨#[119, 111, 114, 100]⟩ : ByteArray), (⟨#[99, 104, 97, 114]⟩ : ByteArray), (⟨#[114, 101, 112, 101, 97, 116]⟩ : ByteArray)] : List (ByteArray)))) fun v15 => (Option.bind (languages_writer_ops_h ((((((((⟨#[115, 116, 114, 105, 110, 103, 115]⟩ : ByteArray)))))))) ((((((([(3)] : List (Int)))))))) (((((((([(Sy.mk ((⟨#[116, 101, 120, 116]⟩ : ByteArray)) (3)), (Sy.mk ((⟨#[110, 117, 109, 98, 101, 114]⟩ : ByteArray)) (2))] : List (Sy))))))))) (v15) (0) (([0, 1, 1] : List (Int))) (([(⟨#[115, 108, 105, 99, 101]⟩ : ByteArray)] : List (ByteArray)))) fun v16 => (Option.bind (languages_writer_ops_h (((((((((⟨#[115, 116, 114, 105, 110, 103, 115]⟩ : ByteArray))))))))) (((((((([(3)] : List (Int))))))))) ((((((((([(Sy.mk ((⟨#[116, 101, 120, 116]⟩ : ByteArray)) (3)), (Sy.mk ((⟨#[110, 117, 109, 98, 101, 114]⟩ : ByteArray)) (2))] : List (Sy)))))))))) (v16) (0) (([0, 0, 0] : List (Int))) (([(⟨#[114, 101, 112, 108, 97, 99, 101]⟩ : ByteArray)] : List (ByteArray)))) fun v17 => (Option.bind (languages_integers (a1)) fun v18 => (Option.bind (languages_writer_constants_h ((((((((((⟨#[115, 116, 114, 105, 110, 103, 115]⟩ : ByteArray)))))))))) ((((((((([(3)] : List (Int)))))))))) (((((((((([(Sy.mk ((⟨#[116, 101, 120, 116]⟩ : ByteArray)) (3)), (Sy.mk ((⟨#[110, 117, 109, 98, 101, 114]⟩ : ByteArray)) (2))] : List (Sy))))))))))) (v17) (1) (v18)) fun v19 => (Option.bind (languages_writer_ops_h (((((((((((⟨#[115, 116, 114, 105, 110, 103, 115]⟩ : ByteArray))))))))))) (((((((((([(3)] : List (Int))))))))))) ((((((((((([(Sy.mk ((⟨#[116, 101, 120, 116]⟩ : ByteArray)) (3)), (Sy.mk ((⟨#[110, 117, 109, 98, 101, 114]⟩ : ByteArray)) (2))] : List (Sy)))))))))))) (v19) (1) (([0] : List (Int))) (([(⟨#[108, 101, 110]⟩ : ByteArray)] : List (ByteArray)))) fun v20 => (Option.bind (languages_writer_ops_h ((((((((((((⟨#[115, 116, 114, 105, 110, 103, 115]⟩ : ByteArray)))))))))))) ((((((((((([(3)] : List (Int)))))))))))) (((((((((((([(Sy.mk ((⟨#[116, 101, 120, 116]⟩ : ByteArray)) (3)), (Sy.mk ((⟨#[110, 117, 109, 98, 101, 114]⟩ : ByteArray)) (2))] : List (Sy))))))))))))) (v20) (1) (([0, 0] : List (Int))) (([(⟨#[102, 105, 110, 100]⟩ : ByteArray)] : List (ByteArray)))) fun v21 => (some ((La.mk (((((((((((((⟨#[115, 116, 114, 105, 110, 103, 115]⟩ : ByteArray))))))))))))) (((((((((((([(3)] : List (Int))))))))))))) ((((((((((((([(Sy.mk ((⟨#[116, 101, 120, 116]⟩ : ByteArray)) (3)), (Sy.mk ((⟨#[110, 117, 109, 98, 101, 114]⟩ : ByteArray)) (2))] : List (Sy)))))))))))))) (v21)), 0))))))))))))))))))))
theorem languages_Strings_ok (a0 : List ByteArray) (a1 : List Int) (r : (La) × (Int)) (h : languages_Strings a0 a1 = some r) : PCall Try.prog 24 [(eL 1 eS) a0, (eL 1 eI) a1] (.tup [eLa (r.1), eI (r.2)]) := by
 unfold languages_Strings at h
 refine pcall_intro (T := TT) tt_ok [.ag [.keep, .sl 1, .sl 2, .sl 9], .one .keep] Try.func24 rfl (by kernel_rfl) (by kernel_rfl) ?_
 refine awp_le (st' := ⟨82, [(0, (.fz ((eL 1 eS) (a0)))), (1, (.fz ((eL 1 eI) (a1))))], [], []⟩) (le_ck (by kernel_rfl)) ?_
 refine awp_seq ?_
 refine awp_region ?_
 refine l_rk 2 tt_ok ⟨82, [(0, (.fz ((eL 1 eS) (a0)))), (1, (.fz ((eL 1 eI) (a1)))), (4, (.ref 1 0 0))], (languages_Strings_m0), [1]⟩ (by kernel_rfl) ?_
 refine l_nil ?_
 refine awp_seq ?_
 refine awp_region ?_
 refine l_rk 1 tt_ok ⟨82, [(0, (.fz ((eL 1 eS) (a0)))), (1, (.fz ((eL 1 eI) (a1)))), (4, (.ref 1 0 0)), (6, (.fz (.atom (.slice none 0 0))))], (languages_Strings_m0), [1]⟩ (by kernel_rfl) ?_
 refine l_nil ?_
 refine awp_seq ?_
 refine awp_seq ?_
 refine awp_region ?_
 refine l_rk 3 tt_ok ⟨82, [(1, (.fz ((eL 1 eI) (a1)))), (4, (.ref 1 0 0)), (6, (.fz (.atom (.slice none 0 0)))), (12, (.fz ((eL 1 eS) (a0)))), (13, (fI ((List.length a0 : Int)))), (14, (fI (0)))], (languages_Strings_m0), [1]⟩ (by kernel_rfl) ?_
 refine l_nil ?_
 refine awp_block ?_
 refine awp_le (le_nilrow (e := 65) (size := 4) (t := 6) (id := 2) (by decide) (by kernel_rfl) (by kernel_rfl)) ?_
 obtain ⟨v6, hj, h⟩ := Option.bind_eq_some_iff.1 h
 refine awp_join (Qa := fun e st => e = .exit 0 ∧ LeSt st ⟨82, [(1, (.fz ((eL 1 eI) (a1)))), (4, (.ref 1 0 0)), (6, (.row 2 (List.length (v6))))], (languages_Strings_m3 v6), [2, 1]⟩) ?_ ?_
 ·refine awp_loopS (stOf := fun v1 => ⟨82, [(1, (.fz ((eL 1 eI) (a1)))), (4, (.ref 1 0 0)), (6, (.row 2 (List.length (v1.2)))), (12, (.fz ((eL 1 eS) (a0)))), (13, (fI ((List.length a0 : Int)))), (14, (fI (v1.1)))], (languages_Strings_m2 v1), [2, 1]⟩) (Qb := fun j e st => e = .exit 0 ∧ LeSt st ⟨82, [(1, (.fz ((eL 1 eI) (a1)))), (4, (.ref 1 0 0)), (6, (.row 2 (List.length (j))))], [(1, (.box 27 [(fS ((⟨#[]⟩ : ByteArray))), (.fz (.atom (.slice none 0 0))), (.fz (.atom (.slice none 0 0))), (.fz (.atom (.slice none 0 0)))])), (2, (.frow 65 4 (List.map eVaR (j))))], [2, 1]⟩) hj (le_ck (by kernel_rfl)) ?_
  clear hj h
  intro v1 r h
  unfold languages_Strings_l1 at h
  refine awp_seq ?_
  refine awp_region ?_
  refine l_rk 1 tt_ok ⟨82, [(1, (.fz ((eL 1 eI) (a1)))), (4, (.ref 1 0 0)), (6, (.row 2 (List.length (v1.2)))), (12, (.fz ((eL 1 eS) (a0)))), (13, (fI ((List.length a0 : Int)))), (14, (fI (v1.1))), (15, (fB ((decide (v1.1 < (List.length a0 : Int))))))], (languages_Strings_m2 v1), [2, 1]⟩ (by kernel_rfl) ?_
  refine l_nil ?_
  refine awp_seq ?_
  rcases cond_some h with ⟨hb, h⟩ | ⟨hb, h⟩
  ·refine awp_cond_t (b := (decide (v1.1 < (List.length a0 : Int)))) (by kernel_rfl) hb ?_
   refine awp_skip ?_
   refine awp_seq ?_
   refine awp_block ?_
   refine awp_seq ?_
   refine awp_region ?_
   obtain ⟨v2, hv2, h⟩ := Option.bind_eq_some_iff.1 h
   refine l_step ((s_index (k := .i64) (d := tt32) (e := 9) (de := tt9) (enc := eS) hv2 tt_ok rfl (by kernel_rfl) (by kernel_rfl) (by kernel_rfl) (by kernel_rfl) len_eS (by kernel_rfl) rfl).step) (by kernel_rfl) (dst_of (by kernel_rfl)) ?_
   refine l_rk 2 tt_ok ⟨82, [(1, (.fz ((eL 1 eI) (a1)))), (4, (.ref 1 0 0)), (6, (.row 2 (List.length (v1.2)))), (8, (fS (v2))), (12, (.fz ((eL 1 eS) (a0)))), (13, (fI ((List.length a0 : Int)))), (14, (fI (v1.1)))], (languages_Strings_m2 v1), [2, 1]⟩ (by kernel_rfl) ?_
   refine l_nil ?_
   refine awp_region ?_
   refine l_rk 2 tt_ok ⟨82, [(1, (.fz ((eL 1 eI) (a1)))), (4, (.ref 1 0 0)), (12, (.fz ((eL 1 eS) (a0)))), (13, (fI ((List.length a0 : Int)))), (14, (fI (v1.1))), (18, (.row 2 (List.length (v1.2)))), (19, (fS (v2)))], (languages_Strings_m2 v1), [2, 1]⟩ (by kernel_rfl) ?_
   obtain ⟨v3, hv3, h⟩ := Option.bind_eq_some_iff.1 h
   refine l_step ((n_call (ys := [eS (v2)]) (cs := [(.one (.keep))]) rfl (by kernel_rfl) (value_OfText_ok (v2) _ hv3)).step) (by kernel_rfl) (dst_of (by kernel_rfl)) ?_
   refine l_step (xstep_ok (c := .lim 4 1 [eVa (v3)]) (h := [(1, (.box 27 [(fS ((⟨#[]⟩ : ByteArray))), (.fz (.atom (.slice none 0 0))), (.fz (.atom (.slice none 0 0))), (.fz (.atom (.slice none 0 0)))])), (2, (.frow 65 4 (List.map eVaR (v1.2))))]) (i := [2, 1]) tt_ok (by kernel_rfl)) (by kernel_rfl) (dst_of (by kernel_rfl)) ?_
   refine l_le (le_eq (t := 21) (x := .lim 4 1 [eVa (v3)]) (y := .lim 4 1 (List.map eVaR ([v3] : List (Va)))) (by kernel_rfl) (by simp only [List.map, eVaR_eq])) ?_
   obtain ⟨v4, hv4, h⟩ := Option.bind_eq_some_iff.1 h
   refine l_step (s_append (d := tt63) (e := 65) (de := tt65) (enc := eVaR) (xs := v1.2) (ys := ([v3] : List (Va))) (m := List.length ([v3] : List (Va))) (id := 2) (n := List.length (v1.2)) hv4 tt_ok rfl (by kernel_rfl) (by kernel_rfl) (by kernel_rfl) (by kernel_rfl) (by kernel_rfl) (by kernel_rfl) (by kernel_rfl) (by kernel_rfl) rfl (.inr (by kernel_rfl))) (by kernel_rfl) (dst_of (by kernel_rfl)) ?_
   refine l_rk 1 tt_ok ⟨82, [(1, (.fz ((eL 1 eI) (a1)))), (4, (.ref 1 0 0)), (6, (.row 2 (List.length (v4)))), (12, (.fz ((eL 1 eS) (a0)))), (13, (fI ((List.length a0 : Int)))), (14, (fI (v1.1)))], [(1, (.box 27 [(fS ((⟨#[]⟩ : ByteArray))), (.fz (.atom (.slice none 0 0))), (.fz (.atom (.slice none 0 0))), (.fz (.atom (.slice none 0 0)))])), (2, (.frow 65 4 (List.map eVaR (v4))))], [2, 1]⟩ (by kernel_rfl) ?_
   refine l_nil ?_
   refine awp_region ?_
   refine l_rk 2 tt_ok ⟨82, [(1, (.fz ((eL 1 eI) (a1)))), (4, (.ref 1 0 0)), (6, (.row 2 (List.length (v4)))), (12, (.fz ((eL 1 eS) (a0)))), (13, (fI ((List.length a0 : Int)))), (14, (fI ((w64 (v1.1 + 1)))))], [(1, (.box 27 [(fS ((⟨#[]⟩ : ByteArray))), (.fz (.atom (.slice none 0 0))), (.fz (.atom (.slice none 0 0))), (.fz (.atom (.slice none 0 0)))])), (2, (.frow 65 4 (List.map eVaR (v4))))], [2, 1]⟩ (by kernel_rfl) ?_
   refine l_nil ?_
   obtain rfl := Option.some.inj h
   exact And.intro rfl (le_ck (by kernel_rfl))
  ·refine awp_cond_f (b := (decide (v1.1 < (List.length a0 : Int)))) (by kernel_rfl) hb ?_
   refine awp_exit ?_
   obtain rfl := Option.some.inj h
   exact And.intro (And.intro (fun h => nomatch h) (fun h => nomatch h)) (And.intro rfl (le_ck (by kernel_rfl)))
 ·clear hj
  intro e st' hq
  obtain ⟨rfl, hle⟩ := hq
  refine ⟨_, hle, ?_⟩
  refine awp_seq ?_
  refine awp_seq ?_
  refine awp_region ?_
  refine l_rk 1 tt_ok ⟨82, [(1, (.fz ((eL 1 eI) (a1)))), (4, (.ref 1 0 0)), (6, (.row 2 (List.length (v6)))), (24, (.row 2 (List.length (v6))))], (languages_Strings_m3 v6), [2, 1]⟩ (by kernel_rfl) ?_
  refine l_le (le_freezeTs (id := 2) (n := List.length (v6)) (e := 65) (size := 4) (xs := List.map eVaR (v6)) [6, 24] ⟨by kernel_rfl, by kernel_rfl, trivial⟩ (by kernel_rfl) (by simp)) ?_
  obtain ⟨v7, hv7, h⟩ := Option.bind_eq_some_iff.1 h
  refine l_step ((n_call (ys := [(eL 4 eVaR) (v6)]) (cs := [(.one (.sl 4))]) rfl (by kernel_rfl) (languages_checked_ok (v6) _ hv7)).step) (by kernel_rfl) (dst_of (by kernel_rfl)) ?_
  refine l_rk 1 tt_ok ⟨82, [(1, (.fz ((eL 1 eI) (a1)))), (4, (.ref 1 0 0)), (6, (.fz ((eL 4 eVaR) (v6)))), (9, (fI (v7)))], (languages_Strings_m0), [1]⟩ (by kernel_rfl) ?_
  refine l_nil ?_
  refine awp_seq ?_
  refine awp_region ?_
  refine l_rk 2 tt_ok ⟨82, [(1, (.fz ((eL 1 eI) (a1)))), (4, (.ref 1 0 0)), (6, (.fz ((eL 4 eVaR) (v6)))), (9, (fI (v7))), (27, (fB ((v7 != 0))))], (languages_Strings_m0), [1]⟩ (by kernel_rfl) ?_
  refine l_nil ?_
  rcases cond_some h with ⟨hb, h⟩ | ⟨hb, h⟩
  ·refine awp_cond_t (b := (v7 != 0)) (by kernel_rfl) hb ?_
   refine awp_seq ?_
   refine awp_region ?_
   refine l_rk 4 tt_ok ⟨82, [(4, (.ref 1 0 0)), (5, (fI (v7)))], (languages_Strings_m0), [1]⟩ (by kernel_rfl) ?_
   refine l_nil ?_
   refine awp_ret ?_
   obtain rfl := Option.some.inj h
   exact (show retX _ _ _ _ = some _ from by kernel_rfl)
  ·refine awp_cond_f (b := (v7 != 0)) (by kernel_rfl) hb ?_
   refine awp_skip ?_
   refine awp_seq ?_
   refine awp_seq ?_
   refine awp_region ?_
   refine l_rk 1 tt_ok ⟨82, [(1, (.fz ((eL 1 eI) (a1)))), (4, (.ref 1 0 0)), (6, (.fz ((eL 4 eVaR) (v6)))), (30, (.fz ((eL 1 eI) (a1))))], (languages_Strings_m0), [1]⟩ (by kernel_rfl) ?_
   obtain ⟨v8, hv8, h⟩ := Option.bind_eq_some_iff.1 h
   refine l_step ((n_call (ys := [(eL 1 eI) (a1)]) (cs := [(.one (.sl 1))]) rfl (by kernel_rfl) (languages_integers_ok (a1) _ hv8)).step) (by kernel_rfl) (dst_of (by kernel_rfl)) ?_
   obtain ⟨v9, hv9, h⟩ := Option.bind_eq_some_iff.1 h
   refine l_step ((n_call (ys := [(eL 4 eVaR) (v8)]) (cs := [(.one (.sl 4))]) rfl (by kernel_rfl) (languages_checked_ok (v8) _ hv9)).step) (by kernel_rfl) (dst_of (by kernel_rfl)) ?_
   refine l_rk 1 tt_ok ⟨82, [(1, (.fz ((eL 1 eI) (a1)))), (4, (.ref 1 0 0)), (6, (.fz ((eL 4 eVaR) (v6)))), (10, (fI (v9)))], (languages_Strings_m0), [1]⟩ (by kernel_rfl) ?_
   refine l_nil ?_
   refine awp_seq ?_
   refine awp_region ?_
   refine l_rk 2 tt_ok ⟨82, [(1, (.fz ((eL 1 eI) (a1)))), (4, (.ref 1 0 0)), (6, (.fz ((eL 4 eVaR) (v6)))), (10, (fI (v9))), (34, (fB ((v9 != 0))))], (languages_Strings_m0), [1]⟩ (by kernel_rfl) ?_
   refine l_nil ?_
   rcases cond_some h with ⟨hb, h⟩ | ⟨hb, h⟩
   ·refine awp_cond_t (b := (v9 != 0)) (by kernel_rfl) hb ?_
    refine awp_seq ?_
    refine awp_region ?_
    refine l_rk 4 tt_ok ⟨82, [(4, (.ref 1 0 0)), (5, (fI (v9)))], (languages_Strings_m0), [1]⟩ (by kernel_rfl) ?_
    refine l_nil ?_
    refine awp_ret ?_
    obtain rfl := Option.some.inj h
    exact (show retX _ _ _ _ = some _ from by kernel_rfl)
   ·refine awp_cond_f (b := (v9 != 0)) (by kernel_rfl) hb ?_
    refine awp_skip ?_
    refine awp_seq ?_
    refine awp_region ?_
    refine l_rk 3 tt_ok ⟨82, [(1, (.fz ((eL 1 eI) (a1)))), (4, (.ref 1 0 0)), (6, (.fz ((eL 4 eVaR) (v6)))), (39, (.lim 2 (List.length (([(Sy.mk ((⟨#[116, 101, 120, 116]⟩ : ByteArray)) (3)), (Sy.mk ((⟨#[110, 117, 109, 98, 101, 114]⟩ : ByteArray)) (2))] : List (Sy)))) (List.map eSy (([(Sy.mk ((⟨#[116, 101, 120, 116]⟩ : ByteArray)) (3)), (Sy.mk ((⟨#[110, 117, 109, 98, 101, 114]⟩ : ByteArray)) (2))] : List (Sy))))))], (languages_Strings_m0), [1]⟩ (by kernel_rfl) ?_
    obtain ⟨v10, hv10, h⟩ := Option.bind_eq_some_iff.1 h
    refine l_step (h_step (f := 65) (cap := []) (cs := [.one .keep, .one .keep, (.one (.sl 2))]) (keys := []) [] [(1, 2), (2, 3)] rfl (by kernel_rfl) (languages_begin_h_ok ((⟨#[115, 116, 114, 105, 110, 103, 115]⟩ : ByteArray)) (3) (([(Sy.mk ((⟨#[116, 101, 120, 116]⟩ : ByteArray)) (3)), (Sy.mk ((⟨#[110, 117, 109, 98, 101, 114]⟩ : ByteArray)) (2))] : List (Sy))) _ hv10) (by kernel_rfl) (by kernel_rfl) (by kernel_rfl) (by kernel_rfl)) (by kernel_rfl) (dst_of (by kernel_rfl)) ?_
    refine l_rk 1 tt_ok ⟨82, [(1, (.fz ((eL 1 eI) (a1)))), (4, (.ref 1 0 0)), (6, (.fz ((eL 4 eVaR) (v6)))), (11, (.ref 2 0 0))], (languages_Strings_m1), [2, 3, 1]⟩ (by kernel_rfl) ?_
    refine l_nil ?_
    refine awp_seq ?_
    refine awp_region ?_
    refine l_rk 1 tt_ok ⟨82, [(1, (.fz ((eL 1 eI) (a1)))), (4, (.ref 1 0 0)), (6, (.fz ((eL 4 eVaR) (v6)))), (11, (.ref 2 0 0)), (41, (.ref 2 0 0))], (languages_Strings_m1), [2, 3, 1]⟩ (by kernel_rfl) ?_
    obtain ⟨v11, hv11, h⟩ := Option.bind_eq_some_iff.1 h
    refine l_le (le_co (ids := [2, 3, 1]) (ts := [(1, .one .keep), (4, .one .keep), (6, .one .keep), (11, .one .keep), (41, .one .keep)]) (os := [(1, []), (2, [.keep, .sl 1]), (3, [])]) (by kernel_rfl) : LeSt _ ⟨82, [(1, (.fz ((eL 1 eI) (a1)))), (4, (.ref 1 0 0)), (6, (.fz ((eL 4 eVaR) (v6)))), (11, (.ref 2 0 0)), (41, (.ref 2 0 0))], [(1, (.box 27 [(fS ((⟨#[]⟩ : ByteArray))), (.fz (.atom (.slice none 0 0))), (.fz (.atom (.slice none 0 0))), (.fz (.atom (.slice none 0 0)))])), (2, (.box 83 [(fS (((⟨#[115, 116, 114, 105, 110, 103, 115]⟩ : ByteArray)))), (.fz ((eL 1 eI) (([(3)] : List (Int))))), (.fz ((eL 2 eSy) ((([(Sy.mk ((⟨#[116, 101, 120, 116]⟩ : ByteArray)) (3)), (Sy.mk ((⟨#[110, 117, 109, 98, 101, 114]⟩ : ByteArray)) (2))] : List (Sy)))))), (.row 3 (List.length (([] : List (Ru)))))])), (3, (.frow 67 9 (List.map eRu (([] : List (Ru))))))], [2, 3, 1]⟩) ?_
    refine l_step (h_step (f := 66) (cap := []) (cs := [.one .keep, .one .keep]) (keys := [1, 2]) [(2, 1), (3, 2)] [(1, 2), (2, 3)] rfl (by kernel_rfl) (languages_writer_input_h_ok (((⟨#[115, 116, 114, 105, 110, 103, 115]⟩ : ByteArray))) (([(3)] : List (Int))) ((([(Sy.mk ((⟨#[116, 101, 120, 116]⟩ : ByteArray)) (3)), (Sy.mk ((⟨#[110, 117, 109, 98, 101, 114]⟩ : ByteArray)) (2))] : List (Sy)))) (([] : List (Ru))) (0) _ hv11) (by kernel_rfl) (by kernel_rfl) (by kernel_rfl) (by kernel_rfl)) (by kernel_rfl) (dst_of (by kernel_rfl)) ?_
    refine l_nil ?_
    refine awp_seq ?_
    refine awp_region ?_
    refine l_rk 2 tt_ok ⟨82, [(1, (.fz ((eL 1 eI) (a1)))), (4, (.ref 1 0 0)), (11, (.ref 2 0 0)), (43, (.ref 2 0 0)), (44, (.fz ((eL 4 eVaR) (v6))))], [(1, (.box 27 [(fS ((⟨#[]⟩ : ByteArray))), (.fz (.atom (.slice none 0 0))), (.fz (.atom (.slice none 0 0))), (.fz (.atom (.slice none 0 0)))])), (2, (.box 83 [(fS ((((⟨#[115, 116, 114, 105, 110, 103, 115]⟩ : ByteArray))))), (.fz ((eL 1 eI) ((([(3)] : List (Int)))))), (.fz ((eL 2 eSy) (((([(Sy.mk ((⟨#[116, 101, 120, 116]⟩ : ByteArray)) (3)), (Sy.mk ((⟨#[110, 117, 109, 98, 101, 114]⟩ : ByteArray)) (2))] : List (Sy))))))), (.row 3 (List.length (v11)))])), (3, (.frow 67 9 (List.map eRu (v11))))], [2, 3, 1]⟩ (by kernel_rfl) ?_
    obtain ⟨v12, hv12, h⟩ := Option.bind_eq_some_iff.1 h
    refine l_step (h_step (f := 67) (cap := []) (cs := [.one .keep, .one .keep, .one .keep]) (keys := [1, 2]) [(2, 1), (3, 2)] [(1, 2), (2, 3)] rfl (by kernel_rfl) (languages_writer_constants_h_ok ((((⟨#[115, 116, 114, 105, 110, 103, 115]⟩ : ByteArray)))) ((([(3)] : List (Int)))) (((([(Sy.mk ((⟨#[116, 101, 120, 116]⟩ : ByteArray)) (3)), (Sy.mk ((⟨#[110, 117, 109, 98, 101, 114]⟩ : ByteArray)) (2))] : List (Sy))))) (v11) (0) (v6) _ hv12) (by kernel_rfl) (by kernel_rfl) (by kernel_rfl) (by kernel_rfl)) (by kernel_rfl) (dst_of (by kernel_rfl)) ?_
    refine l_nil ?_
    refine awp_seq ?_
    refine awp_region ?_
    refine l_rk 3 tt_ok ⟨82, [(1, (.fz ((eL 1 eI) (a1)))), (4, (.ref 1 0 0)), (11, (.ref 2 0 0)), (46, (.ref 2 0 0)), (47, (.lim 1 (List.length (([0, 0] : List (Int)))) (List.map eI (([0, 0] : List (Int)))))), (48, (.lim 1 (List.length (([(⟨#[99, 111, 110, 99, 97, 116]⟩ : ByteArray)] : List (ByteArray)))) (List.map eS (([(⟨#[99, 111, 110, 99, 97, 116]⟩ : ByteArray)] : List (ByteArray))))))], [(1, (.box 27 [(fS ((⟨#[]⟩ : ByteArray))), (.fz (.atom (.slice none 0 0))), (.fz (.atom (.slice none 0 0))), (.fz (.atom (.slice none 0 0)))])), (2, (.box 83 [(fS (((((⟨#[115, 116, 114, 105, 110, 103, 115]⟩ : ByteArray)))))), (.fz ((eL 1 eI) (((([(3)] : List (Int))))))), (.fz ((eL 2 eSy) ((((([(Sy.mk ((⟨#[116, 101, 120, 116]⟩ : ByteArray)) (3)), (Sy.mk ((⟨#[110, 117, 109, 98, 101, 114]⟩ : ByteArray)) (2))] : List (Sy)))))))), (.row 3 (List.length (v12)))])), (3, (.frow 67 9 (List.map eRu (v12))))], [2, 3, 1]⟩ (by kernel_rfl) ?_
    obtain ⟨v13, hv13, h⟩ := Option.bind_eq_some_iff.1 h
    refine l_step (h_step (f := 68) (cap := []) (cs := [.one .keep, .one .keep, (.one (.sl 1)), (.one (.sl 1))]) (keys := [1, 2]) [(2, 1), (3, 2)] [(1, 2), (2, 3)] rfl (by kernel_rfl) (languages_writer_ops_h_ok (((((⟨#[115, 116, 114, 105, 110, 103, 115]⟩ : ByteArray))))) (((([(3)] : List (Int))))) ((((([(Sy.mk ((⟨#[116, 101, 120, 116]⟩ : ByteArray)) (3)), (Sy.mk ((⟨#[110, 117, 109, 98, 101, 114]⟩ : ByteArray)) (2))] : List (Sy)))))) (v12) (0) (([0, 0] : List (Int))) (([(⟨#[99, 111, 110, 99, 97, 116]⟩ : ByteArray)] : List (ByteArray))) _ hv13) (by kernel_rfl) (by kernel_rfl) (by kernel_rfl) (by kernel_rfl)) (by kernel_rfl) (dst_of (by kernel_rfl)) ?_
    refine l_nil ?_
    refine awp_seq ?_
    refine awp_region ?_
    refine l_rk 3 tt_ok ⟨82, [(1, (.fz ((eL 1 eI) (a1)))), (4, (.ref 1 0 0)), (11, (.ref 2 0 0)), (50, (.ref 2 0 0)), (51, (.lim 1 (List.length (([0] : List (Int)))) (List.map eI (([0] : List (Int)))))), (52, (.lim 1 (List.length (([(⟨#[117, 112, 112, 101, 114]⟩ : ByteArray), (⟨#[108, 111, 119, 101, 114]⟩ : ByteArray), (⟨#[116, 114, 105, 109]⟩ : ByteArray)] : List (ByteArray)))) (List.map eS (([(⟨#[117, 112, 112, 101, 114]⟩ : ByteArray), (⟨#[108, 111, 119, 101, 114]⟩ : ByteArray), (⟨#[116, 114, 105, 109]⟩ : ByteArray)] : List (ByteArray))))))], [(1, (.box 27 [(fS ((⟨#[]⟩ : ByteArray))), (.fz (.atom (.slice none 0 0))), (.fz (.atom (.slice none 0 0))), (.fz (.atom (.slice none 0 0)))])), (2, (.box 83 [(fS ((((((⟨#[115, 116, 114, 105, 110, 103, 115]⟩ : ByteArray))))))), (.fz ((eL 1 eI) ((((([(3)] : List (Int)))))))), (.fz ((eL 2 eSy) (((((([(Sy.mk ((⟨#[116, 101, 120, 116]⟩ : ByteArray)) (3)), (Sy.mk ((⟨#[110, 117, 109, 98, 101, 114]⟩ : ByteArray)) (2))] : List (Sy))))))))), (.row 3 (List.length (v13)))])), (3, (.frow 67 9 (List.map eRu (v13))))], [2, 3, 1]⟩ (by kernel_rfl) ?_
    obtain ⟨v14, hv14, h⟩ := Option.bind_eq_some_iff.1 h
    refine l_step (h_step (f := 68) (cap := []) (cs := [.one .keep, .one .keep, (.one (.sl 1)), (.one (.sl 1))]) (keys := [1, 2]) [(2, 1), (3, 2)] [(1, 2), (2, 3)] rfl (by kernel_rfl) (languages_writer_ops_h_ok ((((((⟨#[115, 116, 114, 105, 110, 103, 115]⟩ : ByteArray)))))) ((((([(3)] : List (Int)))))) (((((([(Sy.mk ((⟨#[116, 101, 120, 116]⟩ : ByteArray)) (3)), (Sy.mk ((⟨#[110, 117, 109, 98, 101, 114]⟩ : ByteArray)) (2))] : List (Sy))))))) (v13) (0) (([0] : List (Int))) (([(⟨#[117, 112, 112, 101, 114]⟩ : ByteArray), (⟨#[108, 111, 119, 101, 114]⟩ : ByteArray), (⟨#[116, 114, 105, 109]⟩ : ByteArray)] : List (ByteArray))) _ hv14) (by kernel_rfl) (by kernel_rfl) (by kernel_rfl) (by kernel_rfl)) (by kernel_rfl) (dst_of (by kernel_rfl)) ?_
    refine l_nil ?_
    refine awp_seq ?_
    refine awp_region ?_
    refine l_rk 3 tt_ok ⟨82, [(1, (.fz ((eL 1 eI) (a1)))), (4, (.ref 1 0 0)), (11, (.ref 2 0 0)), (54, (.ref 2 0 0)), (55, (.lim 1 (List.length (([0, 1] : List (Int)))) (List.map eI (([0, 1] : List (Int)))))), (56, (.lim 1 (List.length (([(⟨#[119, 111, 114, 100]⟩ : ByteArray), (⟨#[99, 104, 97, 114]⟩ : ByteArray), (⟨#[114, 101, 112, 101, 97, 116]⟩ : ByteArray)] : List (ByteArray)))) (List.map eS (([(⟨#[119, 111, 114, 100]⟩ : ByteArray), (⟨#[99, 104, 97, 114]⟩ : ByteArray), (⟨#[114, 101, 112, 101, 97, 116]⟩ : ByteArray)] : List (ByteArray))))))], [(1, (.box 27 [(fS ((⟨#[]⟩ : ByteArray))), (.fz (.atom (.slice none 0 0))), (.fz (.atom (.slice none 0 0))), (.fz (.atom (.slice none 0 0)))])), (2, (.box 83 [(fS (((((((⟨#[115, 116, 114, 105, 110, 103, 115]⟩ : ByteArray)))))))), (.fz ((eL 1 eI) (((((([(3)] : List (Int))))))))), (.fz ((eL 2 eSy) ((((((([(Sy.mk ((⟨#[116, 101, 120, 116]⟩ : ByteArray)) (3)), (Sy.mk ((⟨#[110, 117, 109, 98, 101, 114]⟩ : ByteArray)) (2))] : List (Sy)))))))))), (.row 3 (List.length (v14)))])), (3, (.frow 67 9 (List.map eRu (v14))))], [2, 3, 1]⟩ (by kernel_rfl) ?_
    obtain ⟨v15, hv15, h⟩ := Option.bind_eq_some_iff.1 h
    refine l_step (h_step (f := 68) (cap := []) (cs := [.one .keep, .one .keep, (.one (.sl 1)), (.one (.sl 1))]) (keys := [1, 2]) [(2, 1), (3, 2)] [(1, 2), (2, 3)] rfl (by kernel_rfl) (languages_writer_ops_h_ok (((((((⟨#[115, 116, 114, 105, 110, 103, 115]⟩ : ByteArray))))))) (((((([(3)] : List (Int))))))) ((((((([(Sy.mk ((⟨#[116, 101, 120, 116]⟩ : ByteArray)) (3)), (Sy.mk ((⟨#[110, 117, 109, 98, 101, 114]⟩ : ByteArray)) (2))] : List (Sy)))))))) (v14) (0) (([0, 1] : List (Int))) (([(⟨#[119, 111, 114, 100]⟩ : ByteArray), (⟨#[99, 104, 97, 114]⟩ : ByteArray), (⟨#[114, 101, 112, 101, 97, 116]⟩ : ByteArray)] : List (ByteArray))) _ hv15) (by kernel_rfl) (by kernel_rfl) (by kernel_rfl) (by kernel_rfl)) (by kernel_rfl) (dst_of (by kernel_rfl)) ?_
    refine l_nil ?_
    refine awp_seq ?_
    refine awp_region ?_
    refine l_rk 3 tt_ok ⟨82, [(1, (.fz ((eL 1 eI) (a1)))), (4, (.ref 1 0 0)), (11, (.ref 2 0 0)), (58, (.ref 2 0 0)), (59, (.lim 1 (List.length (([0, 1, 1] : List (Int)))) (List.map eI (([0, 1, 1] : List (Int)))))), (60, (.lim 1 (List.length (([(⟨#[115, 108, 105, 99, 101]⟩ : ByteArray)] : List (ByteArray)))) (List.map eS (([(⟨#[115, 108, 105, 99, 101]⟩ : ByteArray)] : List (ByteArray))))))], [(1, (.box 27 [(fS ((⟨#[]⟩ : ByteArray))), (.fz (.atom (.slice none 0 0))), (.fz (.atom (.slice none 0 0))), (.fz (.atom (.slice none 0 0)))])), (2, (.box 83 [(fS ((((((((⟨#[115, 116, 114, 105, 110, 103, 115]⟩ : ByteArray))))))))), (.fz ((eL 1 eI) ((((((([(3)] : List (Int)))))))))), (.fz ((eL 2 eSy) (((((((([(Sy.mk ((⟨#[116, 101, 120, 116]⟩ : ByteArray)) (3)), (Sy.mk ((⟨#[110, 117, 109, 98, 101, 114]⟩ : ByteArray)) (2))] : List (Sy))))))))))), (.row 3 (List.length (v15)))])), (3, (.frow 67 9 (List.map eRu (v15))))], [2, 3, 1]⟩ (by kernel_rfl) ?_
    obtain ⟨v16, hv16, h⟩ := Option.bind_eq_some_iff.1 h
    refine l_step (h_step (f := 68) (cap := []) (cs := [.one .keep, .one .keep, (.one (.sl 1)), (.one (.sl 1))]) (keys := [1, 2]) [(2, 1), (3, 2)] [(1, 2), (2, 3)] rfl (by kernel_rfl) (languages_writer_ops_h_ok ((((((((⟨#[115, 116, 114, 105, 110, 103, 115]⟩ : ByteArray)))))))) ((((((([(3)] : List (Int)))))))) (((((((([(Sy.mk ((⟨#[116, 101, 120, 116]⟩ : ByteArray)) (3)), (Sy.mk ((⟨#[110, 117, 109, 98, 101, 114]⟩ : ByteArray)) (2))] : List (Sy))))))))) (v15) (0) (([0, 1, 1] : List (Int))) (([(⟨#[115, 108, 105, 99, 101]⟩ : ByteArray)] : List (ByteArray))) _ hv16) (by kernel_rfl) (by kernel_rfl) (by kernel_rfl) (by kernel_rfl)) (by kernel_rfl) (dst_of (by kernel_rfl)) ?_
    refine l_nil ?_
    refine awp_seq ?_
    refine awp_region ?_
    refine l_rk 3 tt_ok ⟨82, [(1, (.fz ((eL 1 eI) (a1)))), (4, (.ref 1 0 0)), (11, (.ref 2 0 0)), (62, (.ref 2 0 0)), (63, (.lim 1 (List.length (([0, 0, 0] : List (Int)))) (List.map eI (([0, 0, 0] : List (Int)))))), (64, (.lim 1 (List.length (([(⟨#[114, 101, 112, 108, 97, 99, 101]⟩ : ByteArray)] : List (ByteArray)))) (List.map eS (([(⟨#[114, 101, 112, 108, 97, 99, 101]⟩ : ByteArray)] : List (ByteArray))))))], [(1, (.box 27 [(fS ((⟨#[]⟩ : ByteArray))), (.fz (.atom (.slice none 0 0))), (.fz (.atom (.slice none 0 0))), (.fz (.atom (.slice none 0 0)))])), (2, (.box 83 [(fS (((((((((⟨#[115, 116, 114, 105, 110, 103, 115]⟩ : ByteArray)))))))))), (.fz ((eL 1 eI) (((((((([(3)] : List (Int))))))))))), (.fz ((eL 2 eSy) ((((((((([(Sy.mk ((⟨#[116, 101, 120, 116]⟩ : ByteArray)) (3)), (Sy.mk ((⟨#[110, 117, 109, 98, 101, 114]⟩ : ByteArray)) (2))] : List (Sy)))))))))))), (.row 3 (List.length (v16)))])), (3, (.frow 67 9 (List.map eRu (v16))))], [2, 3, 1]⟩ (by kernel_rfl) ?_
    obtain ⟨v17, hv17, h⟩ := Option.bind_eq_some_iff.1 h
    refine l_step (h_step (f := 68) (cap := []) (cs := [.one .keep, .one .keep, (.one (.sl 1)), (.one (.sl 1))]) (keys := [1, 2]) [(2, 1), (3, 2)] [(1, 2), (2, 3)] rfl (by kernel_rfl) (languages_writer_ops_h_ok (((((((((⟨#[115, 116, 114, 105, 110, 103, 115]⟩ : ByteArray))))))))) (((((((([(3)] : List (Int))))))))) ((((((((([(Sy.mk ((⟨#[116, 101, 120, 116]⟩ : ByteArray)) (3)), (Sy.mk ((⟨#[110, 117, 109, 98, 101, 114]⟩ : ByteArray)) (2))] : List (Sy)))))))))) (v16) (0) (([0, 0, 0] : List (Int))) (([(⟨#[114, 101, 112, 108, 97, 99, 101]⟩ : ByteArray)] : List (ByteArray))) _ hv17) (by kernel_rfl) (by kernel_rfl) (by kernel_rfl) (by kernel_rfl)) (by kernel_rfl) (dst_of (by kernel_rfl)) ?_
    refine l_nil ?_
    refine awp_seq ?_
    refine awp_region ?_
    refine l_rk 2 tt_ok ⟨82, [(4, (.ref 1 0 0)), (11, (.ref 2 0 0)), (66, (.ref 2 0 0)), (67, (.fz ((eL 1 eI) (a1))))], [(1, (.box 27 [(fS ((⟨#[]⟩ : ByteArray))), (.fz (.atom (.slice none 0 0))), (.fz (.atom (.slice none 0 0))), (.fz (.atom (.slice none 0 0)))])), (2, (.box 83 [(fS ((((((((((⟨#[115, 116, 114, 105, 110, 103, 115]⟩ : ByteArray))))))))))), (.fz ((eL 1 eI) ((((((((([(3)] : List (Int)))))))))))), (.fz ((eL 2 eSy) (((((((((([(Sy.mk ((⟨#[116, 101, 120, 116]⟩ : ByteArray)) (3)), (Sy.mk ((⟨#[110, 117, 109, 98, 101, 114]⟩ : ByteArray)) (2))] : List (Sy))))))))))))), (.row 3 (List.length (v17)))])), (3, (.frow 67 9 (List.map eRu (v17))))], [2, 3, 1]⟩ (by kernel_rfl) ?_
    obtain ⟨v18, hv18, h⟩ := Option.bind_eq_some_iff.1 h
    refine l_step ((n_call (ys := [(eL 1 eI) (a1)]) (cs := [(.one (.sl 1))]) rfl (by kernel_rfl) (languages_integers_ok (a1) _ hv18)).step) (by kernel_rfl) (dst_of (by kernel_rfl)) ?_
    obtain ⟨v19, hv19, h⟩ := Option.bind_eq_some_iff.1 h
    refine l_step (h_step (f := 67) (cap := []) (cs := [.one .keep, .one .keep, .one .keep]) (keys := [1, 2]) [(2, 1), (3, 2)] [(1, 2), (2, 3)] rfl (by kernel_rfl) (languages_writer_constants_h_ok ((((((((((⟨#[115, 116, 114, 105, 110, 103, 115]⟩ : ByteArray)))))))))) ((((((((([(3)] : List (Int)))))))))) (((((((((([(Sy.mk ((⟨#[116, 101, 120, 116]⟩ : ByteArray)) (3)), (Sy.mk ((⟨#[110, 117, 109, 98, 101, 114]⟩ : ByteArray)) (2))] : List (Sy))))))))))) (v17) (1) (v18) _ hv19) (by kernel_rfl) (by kernel_rfl) (by kernel_rfl) (by kernel_rfl)) (by kernel_rfl) (dst_of (by kernel_rfl)) ?_
    refine l_nil ?_
    refine awp_seq ?_
    refine awp_region ?_
    refine l_rk 3 tt_ok ⟨82, [(4, (.ref 1 0 0)), (11, (.ref 2 0 0)), (70, (.ref 2 0 0)), (71, (.lim 1 (List.length (([0] : List (Int)))) (List.map eI (([0] : List (Int)))))), (72, (.lim 1 (List.length (([(⟨#[108, 101, 110]⟩ : ByteArray)] : List (ByteArray)))) (List.map eS (([(⟨#[108, 101, 110]⟩ : ByteArray)] : List (ByteArray))))))], [(1, (.box 27 [(fS ((⟨#[]⟩ : ByteArray))), (.fz (.atom (.slice none 0 0))), (.fz (.atom (.slice none 0 0))), (.fz (.atom (.slice none 0 0)))])), (2, (.box 83 [(fS (((((((((((⟨#[115, 116, 114, 105, 110, 103, 115]⟩ : ByteArray)))))))))))), (.fz ((eL 1 eI) (((((((((([(3)] : List (Int))))))))))))), (.fz ((eL 2 eSy) ((((((((((([(Sy.mk ((⟨#[116, 101, 120, 116]⟩ : ByteArray)) (3)), (Sy.mk ((⟨#[110, 117, 109, 98, 101, 114]⟩ : ByteArray)) (2))] : List (Sy)))))))))))))), (.row 3 (List.length (v19)))])), (3, (.frow 67 9 (List.map eRu (v19))))], [2, 3, 1]⟩ (by kernel_rfl) ?_
    obtain ⟨v20, hv20, h⟩ := Option.bind_eq_some_iff.1 h
    refine l_step (h_step (f := 68) (cap := []) (cs := [.one .keep, .one .keep, (.one (.sl 1)), (.one (.sl 1))]) (keys := [1, 2]) [(2, 1), (3, 2)] [(1, 2), (2, 3)] rfl (by kernel_rfl) (languages_writer_ops_h_ok (((((((((((⟨#[115, 116, 114, 105, 110, 103, 115]⟩ : ByteArray))))))))))) (((((((((([(3)] : List (Int))))))))))) ((((((((((([(Sy.mk ((⟨#[116, 101, 120, 116]⟩ : ByteArray)) (3)), (Sy.mk ((⟨#[110, 117, 109, 98, 101, 114]⟩ : ByteArray)) (2))] : List (Sy)))))))))))) (v19) (1) (([0] : List (Int))) (([(⟨#[108, 101, 110]⟩ : ByteArray)] : List (ByteArray))) _ hv20) (by kernel_rfl) (by kernel_rfl) (by kernel_rfl) (by kernel_rfl)) (by kernel_rfl) (dst_of (by kernel_rfl)) ?_
    refine l_nil ?_
    refine awp_seq ?_
    refine awp_region ?_
    refine l_rk 3 tt_ok ⟨82, [(4, (.ref 1 0 0)), (11, (.ref 2 0 0)), (74, (.ref 2 0 0)), (75, (.lim 1 (List.length (([0, 0] : List (Int)))) (List.map eI (([0, 0] : List (Int)))))), (76, (.lim 1 (List.length (([(⟨#[102, 105, 110, 100]⟩ : ByteArray)] : List (ByteArray)))) (List.map eS (([(⟨#[102, 105, 110, 100]⟩ : ByteArray)] : List (ByteArray))))))], [(1, (.box 27 [(fS ((⟨#[]⟩ : ByteArray))), (.fz (.atom (.slice none 0 0))), (.fz (.atom (.slice none 0 0))), (.fz (.atom (.slice none 0 0)))])), (2, (.box 83 [(fS ((((((((((((⟨#[115, 116, 114, 105, 110, 103, 115]⟩ : ByteArray))))))))))))), (.fz ((eL 1 eI) ((((((((((([(3)] : List (Int)))))))))))))), (.fz ((eL 2 eSy) (((((((((((([(Sy.mk ((⟨#[116, 101, 120, 116]⟩ : ByteArray)) (3)), (Sy.mk ((⟨#[110, 117, 109, 98, 101, 114]⟩ : ByteArray)) (2))] : List (Sy))))))))))))))), (.row 3 (List.length (v20)))])), (3, (.frow 67 9 (List.map eRu (v20))))], [2, 3, 1]⟩ (by kernel_rfl) ?_
    obtain ⟨v21, hv21, h⟩ := Option.bind_eq_some_iff.1 h
    refine l_step (h_step (f := 68) (cap := []) (cs := [.one .keep, .one .keep, (.one (.sl 1)), (.one (.sl 1))]) (keys := [1, 2]) [(2, 1), (3, 2)] [(1, 2), (2, 3)] rfl (by kernel_rfl) (languages_writer_ops_h_ok ((((((((((((⟨#[115, 116, 114, 105, 110, 103, 115]⟩ : ByteArray)))))))))))) ((((((((((([(3)] : List (Int)))))))))))) (((((((((((([(Sy.mk ((⟨#[116, 101, 120, 116]⟩ : ByteArray)) (3)), (Sy.mk ((⟨#[110, 117, 109, 98, 101, 114]⟩ : ByteArray)) (2))] : List (Sy))))))))))))) (v20) (1) (([0, 0] : List (Int))) (([(⟨#[102, 105, 110, 100]⟩ : ByteArray)] : List (ByteArray))) _ hv21) (by kernel_rfl) (by kernel_rfl) (by kernel_rfl) (by kernel_rfl)) (by kernel_rfl) (dst_of (by kernel_rfl)) ?_
    refine l_nil ?_
    refine awp_seq ?_
    refine awp_region ?_
    refine l_rk 6 tt_ok ⟨82, [(4, (.ref 1 0 0)), (5, (fI (0)))], [(1, (.box 27 [(fS (((((((((((((⟨#[115, 116, 114, 105, 110, 103, 115]⟩ : ByteArray)))))))))))))), (.fz ((eL 1 eI) (((((((((((([(3)] : List (Int))))))))))))))), (.fz ((eL 2 eSy) ((((((((((((([(Sy.mk ((⟨#[116, 101, 120, 116]⟩ : ByteArray)) (3)), (Sy.mk ((⟨#[110, 117, 109, 98, 101, 114]⟩ : ByteArray)) (2))] : List (Sy)))))))))))))))), (.row 3 (List.length (v21)))])), (3, (.frow 67 9 (List.map eRu (v21))))], [3, 1]⟩ (by kernel_rfl) ?_
    refine l_nil ?_
    refine awp_le (le_freezeCell (e2 := 27) (id2 := 1) (j := 3) (id := 3) (n := List.length (v21)) (e := 67) (size := 9) (xs := List.map eRu (v21)) (cells := [(fS (((((((((((((⟨#[115, 116, 114, 105, 110, 103, 115]⟩ : ByteArray)))))))))))))), (.fz ((eL 1 eI) (((((((((((([(3)] : List (Int))))))))))))))), (.fz ((eL 2 eSy) ((((((((((((([(Sy.mk ((⟨#[116, 101, 120, 116]⟩ : ByteArray)) (3)), (Sy.mk ((⟨#[110, 117, 109, 98, 101, 114]⟩ : ByteArray)) (2))] : List (Sy)))))))))))))))), (.row 3 (List.length (v21)))]) (by kernel_rfl) (by kernel_rfl) (by kernel_rfl) (by simp)) ?_
    refine awp_ret ?_
    obtain rfl := Option.some.inj h
    exact (show retX _ _ _ _ = some _ from by kernel_rfl)

def value_OfPattern (a0 : ByteArray) : Option (Va) := (some (Va.mk (8) (0) (a0) (([] : List Va))))
theorem value_OfPattern_ok (a0 : ByteArray) (r : Va) (h : value_OfPattern a0 = some r) : PCall Try.prog 77 [eS a0] (eVa (r)) := by
 unfold value_OfPattern at h
 refine pcall_intro (T := TT) tt_ok [.ag [.keep, .keep, .keep, .sl 4]] Try.func77 rfl (by kernel_rfl) (by kernel_rfl) ?_
 refine awp_le (st' := ⟨5, [(0, (fS (a0)))], [], []⟩) (le_ck (by kernel_rfl)) ?_
 refine awp_seq ?_
 refine awp_region ?_
 refine l_rk 1 tt_ok ⟨5, [(0, (fS (a0))), (2, (.ref 1 0 0))], [(1, (.box 65 [(fI (0)), (fI (0)), (fS ((⟨#[]⟩ : ByteArray))), (.fz (.atom (.slice none 0 0)))]))], [1]⟩ (by kernel_rfl) ?_
 refine l_nil ?_
 refine awp_seq ?_
 refine awp_region ?_
 refine l_rk 3 tt_ok ⟨5, [(2, (.ref 1 0 0))], [(1, (.box 65 [(fI (8)), (fI (0)), (fS (a0)), (.fz (.atom (.slice none 0 0)))]))], [1]⟩ (by kernel_rfl) ?_
 refine l_nil ?_
 refine awp_ret ?_
 obtain rfl := Option.some.inj h
 exact (show retX _ _ _ _ = some _ from by kernel_rfl)

def pattern_inside (a0 : Int) : Option (Bool) := (Option.bind ((bif (decide (32 ≤ a0)) then (some ((decide (a0 ≤ 126)))) else (some (false))) : Option ((Bool))) fun (v2 : (Bool)) => (some v2))
theorem pattern_inside_ok (a0 : Int) (r : Bool) (h : pattern_inside a0 = some r) : PCall Try.prog 132 [eU8 a0] (eB (r)) := by
 unfold pattern_inside at h
 refine pcall_intro (T := TT) tt_ok [.one .keep] Try.func132 rfl (by kernel_rfl) (by kernel_rfl) ?_
 refine awp_le (st' := ⟨9, [(0, (.fz (eU8 (a0))))], [], []⟩) (le_ck (by kernel_rfl)) ?_
 refine awp_seq ?_
 refine awp_region ?_
 refine l_rk 1 tt_ok ⟨9, [(0, (.fz (eU8 (a0))))], [], []⟩ (by kernel_rfl) ?_
 refine l_nil ?_
 refine awp_seq ?_
 obtain ⟨v2, hj, h⟩ := Option.bind_eq_some_iff.1 h
 refine awp_join (Qa := fun e st => e = .normal ∧ LeSt st ⟨9, [(2, (fB (v2)))], [], []⟩) ?_ ?_
 ·replace h := hj
  clear hj
  refine awp_region ?_
  refine l_rk 3 tt_ok ⟨9, [(0, (.fz (eU8 (a0)))), (5, (fB ((decide (32 ≤ a0)))))], [], []⟩ (by kernel_rfl) ?_
  rcases cond_some h with ⟨hb, h⟩ | ⟨hb, h⟩
  ·refine l_le (le_eq (t := 5) (x := .fz (eB (decide (32 ≤ a0)))) (y := .fz (eB true)) (by kernel_rfl) (congrArg (fun b => AV.fz (eB b)) hb)) ?_
   refine l_rk 4 tt_ok ⟨9, [(2, (fB ((decide (a0 ≤ 126)))))], [], []⟩ (by kernel_rfl) ?_
   refine l_nil ?_
   obtain rfl := Option.some.inj h
   exact And.intro rfl (le_ck (by kernel_rfl))
  ·refine l_le (le_eq (t := 5) (x := .fz (eB (decide (32 ≤ a0)))) (y := .fz (eB false)) (by kernel_rfl) (congrArg (fun b => AV.fz (eB b)) hb)) ?_
   refine l_rk 4 tt_ok ⟨9, [(2, (fB (false)))], [], []⟩ (by kernel_rfl) ?_
   refine l_nil ?_
   obtain rfl := Option.some.inj h
   exact And.intro rfl (le_ck (by kernel_rfl))
 ·clear hj
  intro e st' hq
  obtain ⟨rfl, hle⟩ := hq
  refine ⟨_, hle, ?_⟩
  refine awp_ret ?_
  obtain rfl := Option.some.inj h
  exact (show retX _ _ _ _ = some _ from by kernel_rfl)

def internal_stringslite_IndexByte (a0 : ByteArray) (a1 : Int) : Option (Int) := (some (Lib.indexByte (ByteArray.data a0).toList (Int.toNat a1).toUInt8))
theorem internal_stringslite_IndexByte_ok (a0 : ByteArray) (a1 : Int) (r : Int) (h : internal_stringslite_IndexByte a0 a1 = some r) : PCall Try.prog 188 [eS a0, eU8 a1] (eI (r)) := by
 unfold internal_stringslite_IndexByte at h
 refine pcall_intro (T := TT) tt_ok [.one .keep] Try.func188 rfl (by kernel_rfl) (by kernel_rfl) ?_
 refine awp_le (st' := ⟨8, [(0, (fS (a0))), (1, (.fz (eU8 (a1))))], [], []⟩) (le_ck (by kernel_rfl)) ?_
 refine awp_seq ?_
 refine awp_region ?_
 refine l_rk 1 tt_ok ⟨8, [(0, (fS (a0))), (1, (.fz (eU8 (a1))))], [], []⟩ (by kernel_rfl) ?_
 refine l_nil ?_
 refine awp_seq ?_
 refine awp_region ?_
 refine l_rk 2 tt_ok ⟨8, [(5, (fS (a0))), (6, (.fz (eU8 (a1))))], [], []⟩ (by kernel_rfl) ?_
 refine l_step ((s_idxByte (fn := Try.f192) (s := a0) (c := a1) rfl Try.func192 (by kernel_rfl) (by kernel_rfl) (by kernel_rfl) (by kernel_rfl) (by kernel_rfl) (by kernel_rfl)).step) (by kernel_rfl) (dst_of (by kernel_rfl)) ?_
 refine l_rk 1 tt_ok ⟨8, [(4, (fI ((Lib.indexByte (ByteArray.data a0).toList (Int.toNat a1).toUInt8))))], [], []⟩ (by kernel_rfl) ?_
 refine l_nil ?_
 refine awp_ret ?_
 obtain rfl := Option.some.inj h
 exact (show retX _ _ _ _ = some _ from by kernel_rfl)

def strings_IndexByte (a0 : ByteArray) (a1 : Int) : Option (Int) := (Option.bind (internal_stringslite_IndexByte (a0) (a1)) fun v1 => (some v1))
theorem strings_IndexByte_ok (a0 : ByteArray) (a1 : Int) (r : Int) (h : strings_IndexByte a0 a1 = some r) : PCall Try.prog 173 [eS a0, eU8 a1] (eI (r)) := by
 unfold strings_IndexByte at h
 refine pcall_intro (T := TT) tt_ok [.one .keep] Try.func173 rfl (by kernel_rfl) (by kernel_rfl) ?_
 refine awp_le (st' := ⟨8, [(0, (fS (a0))), (1, (.fz (eU8 (a1))))], [], []⟩) (le_ck (by kernel_rfl)) ?_
 refine awp_seq ?_
 refine awp_region ?_
 refine l_rk 1 tt_ok ⟨8, [(0, (fS (a0))), (1, (.fz (eU8 (a1))))], [], []⟩ (by kernel_rfl) ?_
 refine l_nil ?_
 refine awp_seq ?_
 refine awp_region ?_
 refine l_rk 2 tt_ok ⟨8, [(5, (fS (a0))), (6, (.fz (eU8 (a1))))], [], []⟩ (by kernel_rfl) ?_
 obtain ⟨v1, hv1, h⟩ := Option.bind_eq_some_iff.1 h
 refine l_step ((n_call (ys := [eS (a0), eU8 (a1)]) (cs := [(.one (.keep)), (.one (.keep))]) rfl (by kernel_rfl) (internal_stringslite_IndexByte_ok (a0) (a1) _ hv1)).step) (by kernel_rfl) (dst_of (by kernel_rfl)) ?_
 refine l_rk 1 tt_ok ⟨8, [(4, (fI (v1)))], [], []⟩ (by kernel_rfl) ?_
 refine l_nil ?_
 refine awp_ret ?_
 obtain rfl := Option.some.inj h
 exact (show retX _ _ _ _ = some _ from by kernel_rfl)

def pattern_special (a0 : Int) : Option (Bool) := (Option.bind (strings_IndexByte ((⟨#[40, 41, 91, 93, 46, 42, 124, 92]⟩ : ByteArray)) (a0)) fun v1 => (some (decide (0 ≤ v1))))
theorem pattern_special_ok (a0 : Int) (r : Bool) (h : pattern_special a0 = some r) : PCall Try.prog 133 [eU8 a0] (eB (r)) := by
 unfold pattern_special at h
 refine pcall_intro (T := TT) tt_ok [.one .keep] Try.func133 rfl (by kernel_rfl) (by kernel_rfl) ?_
 refine awp_le (st' := ⟨6, [(0, (.fz (eU8 (a0))))], [], []⟩) (le_ck (by kernel_rfl)) ?_
 refine awp_seq ?_
 refine awp_region ?_
 refine l_rk 1 tt_ok ⟨6, [(0, (.fz (eU8 (a0))))], [], []⟩ (by kernel_rfl) ?_
 refine l_nil ?_
 refine awp_seq ?_
 refine awp_region ?_
 refine l_rk 1 tt_ok ⟨6, [(3, (.fz (eU8 (a0))))], [], []⟩ (by kernel_rfl) ?_
 obtain ⟨v1, hv1, h⟩ := Option.bind_eq_some_iff.1 h
 refine l_step ((n_call (ys := [eS ((⟨#[40, 41, 91, 93, 46, 42, 124, 92]⟩ : ByteArray)), eU8 (a0)]) (cs := [(.one (.keep)), (.one (.keep))]) rfl (by kernel_rfl) (strings_IndexByte_ok ((⟨#[40, 41, 91, 93, 46, 42, 124, 92]⟩ : ByteArray)) (a0) _ hv1)).step) (by kernel_rfl) (dst_of (by kernel_rfl)) ?_
 refine l_rk 2 tt_ok ⟨6, [(2, (fB ((decide (0 ≤ v1)))))], [], []⟩ (by kernel_rfl) ?_
 refine l_nil ?_
 refine awp_ret ?_
 obtain rfl := Option.some.inj h
 exact (show retX _ _ _ _ = some _ from by kernel_rfl)
end Go.Proofs.Ytaeicmnimjfbaaa
