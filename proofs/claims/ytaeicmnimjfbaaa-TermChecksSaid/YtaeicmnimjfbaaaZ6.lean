/- Typed programs and what computes them. -/
import Derived.Test.YtaeicmnimjfbaaaZ5
set_option linter.unusedVariables false
set_option linter.unusedSimpArgs false
set_option maxRecDepth 100000
namespace Go.Proofs.Ytaeicmnimjfbaaa
open Go Go.RowKit Go.Proofs
def synthesisref09_Family_l1 (a0 : ByteArray) (v3 : ByteArray) (v4 : List S_a189) (v5 : (Int)) : Option (((Int)) ⊕ (((Unit) ⊕ (ByteArray)))) := (bif (decide (v5 < (List.length v4 : Int))) then (Option.bind (idx v4 v5) fun v6 => (bif (v6.f_0.toList == a0.toList) then (some (.inr (.inr v3))) else (some (.inl ((w64 (v5 + 1))))))) else (some (.inr (.inl ()))))
def synthesisref09_Family_l2 (a0 : ByteArray) (v1 : List ByteArray) (v2 : (Int)) : Option (((Int)) ⊕ (((Unit) ⊕ (ByteArray)))) := (bif (decide (v2 < (List.length v1 : Int))) then (Option.bind (idx v1 v2) fun v3 => (Option.bind (synthesisref09_catalog (v3)) fun v4 => (Option.bind (loopN (synthesisref09_Family_l1 a0 v3 v4) fuel (0)) fun (v7 : ((Unit) ⊕ (ByteArray))) => Sum.elim (fun v8 => (some (.inl ((w64 (v2 + 1)))))) (fun v9 => (some (.inr (.inr v9)))) v7))) else (some (.inr (.inl ()))))
def synthesisref09_Family (a0 : ByteArray) : Option (ByteArray) := (Option.bind (synthesisref09_families ) fun v1 => (Option.bind (loopN (synthesisref09_Family_l2 a0 v1) fuel (0)) fun (v10 : ((Unit) ⊕ (ByteArray))) => Sum.elim (fun v11 => (some (⟨#[]⟩ : ByteArray))) (fun v12 => (some v12)) v10))
theorem synthesisref09_Family_ok (a0 : ByteArray) (r : ByteArray) (h : synthesisref09_Family a0 = some r) : PCall Try.prog 194 [eS a0] (eS (r)) := by
 unfold synthesisref09_Family at h
 refine pcall_intro (T := TT) tt_ok [.one .keep] Try.func194 rfl (by kernel_rfl) (by kernel_rfl) ?_
 refine awp_le (st' := ⟨27, [(0, (fS (a0)))], [], []⟩) (le_ck (by kernel_rfl)) ?_
 refine awp_seq ?_
 refine awp_region ?_
 refine l_rk 1 tt_ok ⟨27, [(0, (fS (a0)))], [], []⟩ (by kernel_rfl) ?_
 refine l_nil ?_
 refine awp_seq ?_
 refine awp_seq ?_
 refine awp_region ?_
 obtain ⟨v1, hv1, h⟩ := Option.bind_eq_some_iff.1 h
 refine l_step ((n_call (ys := []) (cs := []) rfl (by kernel_rfl) (synthesisref09_families_ok  _ hv1)).step) (by kernel_rfl) (dst_of (by kernel_rfl)) ?_
 refine l_rk 2 tt_ok ⟨27, [(0, (fS (a0))), (7, (.fz ((eL 1 eS) (v1)))), (8, (fI ((List.length v1 : Int)))), (9, (fI (0)))], [], []⟩ (by kernel_rfl) ?_
 refine l_nil ?_
 refine awp_block ?_
 obtain ⟨v10, hj, h⟩ := Option.bind_eq_some_iff.1 h
 refine awp_join (Qa := fun e st => Sum.elim (fun p => e = .exit 0 ∧ LeSt st ⟨27, [], [], []⟩) (fun p => e = .ret ∧ retX TT st Try.f194.results.toList [.one .keep] = some (eS (p))) v10) ?_ ?_
 ·refine awp_loopS (stOf := fun v2 => ⟨27, [(0, (fS (a0))), (7, (.fz ((eL 1 eS) (v1)))), (8, (fI ((List.length v1 : Int)))), (9, (fI (v2)))], [], []⟩) (Qb := fun j e st => Sum.elim (fun p => e = .exit 0 ∧ LeSt st ⟨27, [], [], []⟩) (fun p => e = .ret ∧ retX TT st Try.f194.results.toList [.one .keep] = some (eS (p))) j) hj (le_ck (by kernel_rfl)) ?_
  clear hj h
  intro v2 r h
  unfold synthesisref09_Family_l2 at h
  refine awp_seq ?_
  refine awp_region ?_
  refine l_rk 1 tt_ok ⟨27, [(0, (fS (a0))), (7, (.fz ((eL 1 eS) (v1)))), (8, (fI ((List.length v1 : Int)))), (9, (fI (v2))), (10, (fB ((decide (v2 < (List.length v1 : Int))))))], [], []⟩ (by kernel_rfl) ?_
  refine l_nil ?_
  refine awp_seq ?_
  rcases cond_some h with ⟨hb, h⟩ | ⟨hb, h⟩
  ·refine awp_cond_t (b := (decide (v2 < (List.length v1 : Int)))) (by kernel_rfl) hb ?_
   refine awp_skip ?_
   refine awp_seq ?_
   refine awp_block ?_
   refine awp_seq ?_
   refine awp_region ?_
   obtain ⟨v3, hv3, h⟩ := Option.bind_eq_some_iff.1 h
   refine l_step ((s_index (k := .i64) (d := tt32) (e := 9) (de := tt9) (enc := eS) hv3 tt_ok rfl (by kernel_rfl) (by kernel_rfl) (by kernel_rfl) (by kernel_rfl) len_eS (by kernel_rfl) rfl).step) (by kernel_rfl) (dst_of (by kernel_rfl)) ?_
   refine l_rk 2 tt_ok ⟨27, [(0, (fS (a0))), (4, (fS (v3))), (7, (.fz ((eL 1 eS) (v1)))), (8, (fI ((List.length v1 : Int)))), (9, (fI (v2)))], [], []⟩ (by kernel_rfl) ?_
   refine l_nil ?_
   refine awp_seq ?_
   refine awp_region ?_
   refine l_rk 1 tt_ok ⟨27, [(0, (fS (a0))), (4, (fS (v3))), (7, (.fz ((eL 1 eS) (v1)))), (8, (fI ((List.length v1 : Int)))), (9, (fI (v2))), (13, (fS (v3)))], [], []⟩ (by kernel_rfl) ?_
   obtain ⟨v4, hv4, h⟩ := Option.bind_eq_some_iff.1 h
   refine l_step ((n_call (ys := [eS (v3)]) (cs := [(.one (.keep))]) rfl (by kernel_rfl) (synthesisref09_catalog_ok (v3) _ hv4)).step) (by kernel_rfl) (dst_of (by kernel_rfl)) ?_
   refine l_rk 2 tt_ok ⟨27, [(0, (fS (a0))), (4, (fS (v3))), (7, (.fz ((eL 1 eS) (v1)))), (8, (fI ((List.length v1 : Int)))), (9, (fI (v2))), (14, (.fz ((eL 3 eS_a189) (v4)))), (15, (fI ((List.length v4 : Int)))), (16, (fI (0)))], [], []⟩ (by kernel_rfl) ?_
   refine l_nil ?_
   refine awp_block ?_
   obtain ⟨v7, hj, h⟩ := Option.bind_eq_some_iff.1 h
   refine awp_join (Qa := fun e st => Sum.elim (fun p => e = .exit 2 ∧ LeSt st ⟨27, [(0, (fS (a0))), (7, (.fz ((eL 1 eS) (v1)))), (8, (fI ((List.length v1 : Int)))), (9, (fI (v2)))], [], []⟩) (fun p => e = .ret ∧ retX TT st Try.f194.results.toList [.one .keep] = some (eS (p))) v7) ?_ ?_
   ·refine awp_loopS (stOf := fun v5 => ⟨27, [(0, (fS (a0))), (4, (fS (v3))), (7, (.fz ((eL 1 eS) (v1)))), (8, (fI ((List.length v1 : Int)))), (9, (fI (v2))), (14, (.fz ((eL 3 eS_a189) (v4)))), (15, (fI ((List.length v4 : Int)))), (16, (fI (v5)))], [], []⟩) (Qb := fun j e st => Sum.elim (fun p => e = .exit 2 ∧ LeSt st ⟨27, [(0, (fS (a0))), (7, (.fz ((eL 1 eS) (v1)))), (8, (fI ((List.length v1 : Int)))), (9, (fI (v2)))], [], []⟩) (fun p => e = .ret ∧ retX TT st Try.f194.results.toList [.one .keep] = some (eS (p))) j) hj (le_ck (by kernel_rfl)) ?_
    clear hj h
    intro v5 r h
    unfold synthesisref09_Family_l1 at h
    refine awp_seq ?_
    refine awp_region ?_
    refine l_rk 1 tt_ok ⟨27, [(0, (fS (a0))), (4, (fS (v3))), (7, (.fz ((eL 1 eS) (v1)))), (8, (fI ((List.length v1 : Int)))), (9, (fI (v2))), (14, (.fz ((eL 3 eS_a189) (v4)))), (15, (fI ((List.length v4 : Int)))), (16, (fI (v5))), (17, (fB ((decide (v5 < (List.length v4 : Int))))))], [], []⟩ (by kernel_rfl) ?_
    refine l_nil ?_
    refine awp_seq ?_
    rcases cond_some h with ⟨hb, h⟩ | ⟨hb, h⟩
    ·refine awp_cond_t (b := (decide (v5 < (List.length v4 : Int)))) (by kernel_rfl) hb ?_
     refine awp_skip ?_
     refine awp_seq ?_
     refine awp_block ?_
     refine awp_seq ?_
     refine awp_region ?_
     obtain ⟨v6, hv6, h⟩ := Option.bind_eq_some_iff.1 h
     refine l_step ((s_index (k := .i64) (d := tt187) (e := 189) (de := tt189) (enc := eS_a189) hv6 tt_ok rfl (by kernel_rfl) (by kernel_rfl) (by kernel_rfl) (by kernel_rfl) len_eS_a189 (by kernel_rfl) rfl).step) (by kernel_rfl) (dst_of (by kernel_rfl)) ?_
     refine l_rk 3 tt_ok ⟨27, [(0, (fS (a0))), (4, (fS (v3))), (6, (.ref 1 0 0)), (7, (.fz ((eL 1 eS) (v1)))), (8, (fI ((List.length v1 : Int)))), (9, (fI (v2))), (14, (.fz ((eL 3 eS_a189) (v4)))), (15, (fI ((List.length v4 : Int)))), (16, (fI (v5)))], [(1, (.box 189 [(fS (v6.f_0)), (fS (v6.f_1)), (fS (v6.f_2))]))], [1]⟩ (by kernel_rfl) ?_
     refine l_nil ?_
     refine awp_seq ?_
     refine awp_region ?_
     refine l_rk 4 tt_ok ⟨27, [(0, (fS (a0))), (4, (fS (v3))), (7, (.fz ((eL 1 eS) (v1)))), (8, (fI ((List.length v1 : Int)))), (9, (fI (v2))), (14, (.fz ((eL 3 eS_a189) (v4)))), (15, (fI ((List.length v4 : Int)))), (16, (fI (v5))), (23, (fB ((v6.f_0.toList == a0.toList))))], [], []⟩ (by kernel_rfl) ?_
     refine l_nil ?_
     rcases cond_some h with ⟨hb, h⟩ | ⟨hb, h⟩
     ·refine awp_cond_t (b := (v6.f_0.toList == a0.toList)) (by kernel_rfl) hb ?_
      refine awp_seq ?_
      refine awp_region ?_
      refine l_rk 2 tt_ok ⟨27, [(2, (fS (v3)))], [], []⟩ (by kernel_rfl) ?_
      refine l_nil ?_
      refine awp_ret ?_
      obtain rfl := Option.some.inj h
      exact And.intro (And.intro (fun h => nomatch h) (fun h => nomatch h)) (And.intro rfl (show retX _ _ _ _ = some _ from by kernel_rfl))
     ·refine awp_cond_f (b := (v6.f_0.toList == a0.toList)) (by kernel_rfl) hb ?_
      refine awp_skip ?_
      refine awp_region ?_
      refine l_rk 2 tt_ok ⟨27, [(0, (fS (a0))), (4, (fS (v3))), (7, (.fz ((eL 1 eS) (v1)))), (8, (fI ((List.length v1 : Int)))), (9, (fI (v2))), (14, (.fz ((eL 3 eS_a189) (v4)))), (15, (fI ((List.length v4 : Int)))), (16, (fI ((w64 (v5 + 1)))))], [], []⟩ (by kernel_rfl) ?_
      refine l_nil ?_
      obtain rfl := Option.some.inj h
      exact And.intro rfl (le_ck (by kernel_rfl))
    ·refine awp_cond_f (b := (decide (v5 < (List.length v4 : Int)))) (by kernel_rfl) hb ?_
     refine awp_exit ?_
     obtain rfl := Option.some.inj h
     exact And.intro (And.intro (fun h => nomatch h) (fun h => nomatch h)) (And.intro rfl (le_ck (by kernel_rfl)))
   ·clear hj
    intro e st' hq
    rcases v7 with v8 | v9
    ·try simp only [Sum.elim_inl, Sum.elim_inr] at h
     obtain ⟨rfl, hle⟩ := hq
     refine ⟨_, hle, ?_⟩
     refine awp_region ?_
     refine l_rk 2 tt_ok ⟨27, [(0, (fS (a0))), (7, (.fz ((eL 1 eS) (v1)))), (8, (fI ((List.length v1 : Int)))), (9, (fI ((w64 (v2 + 1)))))], [], []⟩ (by kernel_rfl) ?_
     refine l_nil ?_
     obtain rfl := Option.some.inj h
     exact And.intro rfl (le_ck (by kernel_rfl))
    ·try simp only [Sum.elim_inl, Sum.elim_inr] at h
     obtain ⟨rfl, hret⟩ := hq
     refine ⟨_, LeSt.refl, ?_⟩
     obtain rfl := Option.some.inj h
     exact And.intro (And.intro (fun h => nomatch h) (fun h => nomatch h)) (And.intro rfl hret)
  ·refine awp_cond_f (b := (decide (v2 < (List.length v1 : Int)))) (by kernel_rfl) hb ?_
   refine awp_exit ?_
   obtain rfl := Option.some.inj h
   exact And.intro (And.intro (fun h => nomatch h) (fun h => nomatch h)) (And.intro rfl (le_ck (by kernel_rfl)))
 ·clear hj
  intro e st' hq
  rcases v10 with v11 | v12
  ·try simp only [Sum.elim_inl, Sum.elim_inr] at h
   obtain ⟨rfl, hle⟩ := hq
   refine ⟨_, hle, ?_⟩
   refine awp_seq ?_
   refine awp_region ?_
   refine l_rk 1 tt_ok ⟨27, [(2, (fS ((⟨#[]⟩ : ByteArray))))], [], []⟩ (by kernel_rfl) ?_
   refine l_nil ?_
   refine awp_ret ?_
   obtain rfl := Option.some.inj h
   exact (show retX _ _ _ _ = some _ from by kernel_rfl)
  ·try simp only [Sum.elim_inl, Sum.elim_inr] at h
   obtain ⟨rfl, hret⟩ := hq
   refine ⟨_, LeSt.refl, ?_⟩
   obtain rfl := Option.some.inj h
   exact hret

def synthesisref09_letter_l1 (a0 : Int) (v1 : (Int)) : Option (((Int)) ⊕ (((Unit) ⊕ (Int)))) := (bif (decide (v1 < ((⟨#[66, 73, 84, 86, 76, 83, 77, 80]⟩ : ByteArray).size : Int))) then (Option.bind (byt (⟨#[66, 73, 84, 86, 76, 83, 77, 80]⟩ : ByteArray) v1) fun v2 => (bif (v2 == a0) then (some (.inr (.inr (w64 (v1 + 1))))) else (some (.inl ((w64 (v1 + 1))))))) else (some (.inr (.inl ()))))
def synthesisref09_letter (a0 : Int) : Option (Int) := (Option.bind (loopN (synthesisref09_letter_l1 a0) fuel (0)) fun (v3 : ((Unit) ⊕ (Int))) => Sum.elim (fun v4 => (some 0)) (fun v5 => (some v5)) v3)
theorem synthesisref09_letter_ok (a0 : Int) (r : Int) (h : synthesisref09_letter a0 = some r) : PCall Try.prog 196 [eU8 a0] (eI (r)) := by
 unfold synthesisref09_letter at h
 refine pcall_intro (T := TT) tt_ok [.one .keep] Try.func196 rfl (by kernel_rfl) (by kernel_rfl) ?_
 refine awp_le (st' := ⟨18, [(0, (.fz (eU8 (a0))))], [], []⟩) (le_ck (by kernel_rfl)) ?_
 refine awp_seq ?_
 refine awp_region ?_
 refine l_rk 1 tt_ok ⟨18, [(0, (.fz (eU8 (a0))))], [], []⟩ (by kernel_rfl) ?_
 refine l_nil ?_
 refine awp_seq ?_
 refine awp_region ?_
 refine l_rk 1 tt_ok ⟨18, [(0, (.fz (eU8 (a0)))), (3, (fS ((⟨#[66, 73, 84, 86, 76, 83, 77, 80]⟩ : ByteArray))))], [], []⟩ (by kernel_rfl) ?_
 refine l_nil ?_
 refine awp_seq ?_
 refine awp_seq ?_
 refine awp_region ?_
 refine l_rk 1 tt_ok ⟨18, [(0, (.fz (eU8 (a0)))), (3, (fS ((⟨#[66, 73, 84, 86, 76, 83, 77, 80]⟩ : ByteArray)))), (4, (fI (0)))], [], []⟩ (by kernel_rfl) ?_
 refine l_nil ?_
 refine awp_block ?_
 obtain ⟨v3, hj, h⟩ := Option.bind_eq_some_iff.1 h
 refine awp_join (Qa := fun e st => Sum.elim (fun p => e = .exit 0 ∧ LeSt st ⟨18, [], [], []⟩) (fun p => e = .ret ∧ retX TT st Try.f196.results.toList [.one .keep] = some (eI (p))) v3) ?_ ?_
 ·refine awp_loopS (stOf := fun v1 => ⟨18, [(0, (.fz (eU8 (a0)))), (3, (fS ((⟨#[66, 73, 84, 86, 76, 83, 77, 80]⟩ : ByteArray)))), (4, (fI (v1)))], [], []⟩) (Qb := fun j e st => Sum.elim (fun p => e = .exit 0 ∧ LeSt st ⟨18, [], [], []⟩) (fun p => e = .ret ∧ retX TT st Try.f196.results.toList [.one .keep] = some (eI (p))) j) hj (le_ck (by kernel_rfl)) ?_
  clear hj h
  intro v1 r h
  unfold synthesisref09_letter_l1 at h
  refine awp_seq ?_
  refine awp_seq ?_
  refine awp_region ?_
  refine l_rk 4 tt_ok ⟨18, [(0, (.fz (eU8 (a0)))), (3, (fS ((⟨#[66, 73, 84, 86, 76, 83, 77, 80]⟩ : ByteArray)))), (4, (fI (v1))), (8, (fB ((decide (v1 < ((⟨#[66, 73, 84, 86, 76, 83, 77, 80]⟩ : ByteArray).size : Int))))))], [], []⟩ (by kernel_rfl) ?_
  refine l_nil ?_
  rcases cond_some h with ⟨hb, h⟩ | ⟨hb, h⟩
  ·refine awp_cond_t (b := (decide (v1 < ((⟨#[66, 73, 84, 86, 76, 83, 77, 80]⟩ : ByteArray).size : Int)))) (by kernel_rfl) hb ?_
   refine awp_skip ?_
   refine awp_seq ?_
   refine awp_block ?_
   refine awp_seq ?_
   refine awp_region ?_
   refine l_rk 2 tt_ok ⟨18, [(0, (.fz (eU8 (a0)))), (3, (fS ((⟨#[66, 73, 84, 86, 76, 83, 77, 80]⟩ : ByteArray)))), (4, (fI (v1))), (11, (fS ((⟨#[66, 73, 84, 86, 76, 83, 77, 80]⟩ : ByteArray)))), (12, (fI (v1)))], [], []⟩ (by kernel_rfl) ?_
   obtain ⟨v2, hv2, h⟩ := Option.bind_eq_some_iff.1 h
   refine l_step ((s_byte (k := .i64) (d := tt9) (s := (⟨#[66, 73, 84, 86, 76, 83, 77, 80]⟩ : ByteArray)) hv2 tt_ok rfl (by kernel_rfl) (by kernel_rfl) (by kernel_rfl) (by kernel_rfl)).step) (by kernel_rfl) (dst_of (by kernel_rfl)) ?_
   refine l_rk 2 tt_ok ⟨18, [(0, (.fz (eU8 (a0)))), (3, (fS ((⟨#[66, 73, 84, 86, 76, 83, 77, 80]⟩ : ByteArray)))), (4, (fI (v1))), (15, (fB ((v2 == a0))))], [], []⟩ (by kernel_rfl) ?_
   refine l_nil ?_
   rcases cond_some h with ⟨hb, h⟩ | ⟨hb, h⟩
   ·refine awp_cond_t (b := (v2 == a0)) (by kernel_rfl) hb ?_
    refine awp_seq ?_
    refine awp_region ?_
    refine l_rk 3 tt_ok ⟨18, [(2, (fI ((w64 (v1 + 1)))))], [], []⟩ (by kernel_rfl) ?_
    refine l_nil ?_
    refine awp_ret ?_
    obtain rfl := Option.some.inj h
    exact And.intro (And.intro (fun h => nomatch h) (fun h => nomatch h)) (And.intro rfl (show retX _ _ _ _ = some _ from by kernel_rfl))
   ·refine awp_cond_f (b := (v2 == a0)) (by kernel_rfl) hb ?_
    refine awp_skip ?_
    refine awp_region ?_
    refine l_rk 3 tt_ok ⟨18, [(0, (.fz (eU8 (a0)))), (3, (fS ((⟨#[66, 73, 84, 86, 76, 83, 77, 80]⟩ : ByteArray)))), (4, (fI ((w64 (v1 + 1)))))], [], []⟩ (by kernel_rfl) ?_
    refine l_nil ?_
    obtain rfl := Option.some.inj h
    exact And.intro rfl (le_ck (by kernel_rfl))
  ·refine awp_cond_f (b := (decide (v1 < ((⟨#[66, 73, 84, 86, 76, 83, 77, 80]⟩ : ByteArray).size : Int)))) (by kernel_rfl) hb ?_
   refine awp_exit ?_
   obtain rfl := Option.some.inj h
   exact And.intro (And.intro (fun h => nomatch h) (fun h => nomatch h)) (And.intro rfl (le_ck (by kernel_rfl)))
 ·clear hj
  intro e st' hq
  rcases v3 with v4 | v5
  ·try simp only [Sum.elim_inl, Sum.elim_inr] at h
   obtain ⟨rfl, hle⟩ := hq
   refine ⟨_, hle, ?_⟩
   refine awp_seq ?_
   refine awp_region ?_
   refine l_rk 1 tt_ok ⟨18, [(2, (fI (0)))], [], []⟩ (by kernel_rfl) ?_
   refine l_nil ?_
   refine awp_ret ?_
   obtain rfl := Option.some.inj h
   exact (show retX _ _ _ _ = some _ from by kernel_rfl)
  ·try simp only [Sum.elim_inl, Sum.elim_inr] at h
   obtain ⟨rfl, hret⟩ := hq
   refine ⟨_, LeSt.refl, ?_⟩
   obtain rfl := Option.some.inj h
   exact hret

def synthesisref09_Find_m0 : List (Nat × AObj) := [(1, (.box 171 [(fS ((⟨#[]⟩ : ByteArray))), (.fz (.atom (.slice none 0 0))), (fI (0))]))]
def synthesisref09_Find_m1 (v4 : S_a189) : List (Nat × AObj) := [(1, (.box 171 [(fS ((⟨#[]⟩ : ByteArray))), (.fz (.atom (.slice none 0 0))), (fI (0))])), (2, (.box 189 [(fS (v4.f_0)), (fS (v4.f_1)), (fS (v4.f_2))]))]
def synthesisref09_Find_l1 (v4 : S_a189) (v7 : (Int) × (List Int)) : Option (((Int) × (List Int)) ⊕ ((List Int))) := (bif (decide (v7.1 < (v4.f_1.size : Int))) then (Option.bind (byt v4.f_1 v7.1) fun v8 => (Option.bind (synthesisref09_letter (v8)) fun v9 => (Option.bind (app 8 v7.2 ([v9] : List (Int))) fun v10 => (some (.inl ((w64 (v7.1 + 1)), v10)))))) else (some (.inr (v7.2))))
def synthesisref09_Find_l2 (a0 : ByteArray) (v2 : List S_a189) (v3 : (Int)) : Option (((Int)) ⊕ (((Unit) ⊕ ((S_api_Operator) × (Bool))))) := (bif (decide (v3 < (List.length v2 : Int))) then (Option.bind (idx v2 v3) fun v4 => (bif (v4.f_0.toList == a0.toList) then (Option.bind (byt v4.f_2 0) fun v5 => (Option.bind (synthesisref09_letter (v5)) fun v6 => (Option.bind (loopN (synthesisref09_Find_l1 v4) fuel (0, ([] : List (Int)))) fun (v12 : (List Int)) => (some (.inr (.inr ((S_api_Operator.mk (a0) (v12) (v6)), true))))))) else (some (.inl ((w64 (v3 + 1))))))) else (some (.inr (.inl ()))))
def synthesisref09_Find (a0 : ByteArray) : Option ((S_api_Operator) × (Bool)) := (Option.bind (synthesisref09_Family (a0)) fun v1 => (bif (v1.toList == (⟨#[]⟩ : ByteArray).toList) then (some ((S_api_Operator.mk ((⟨#[]⟩ : ByteArray)) (([] : List Int)) (0)), false)) else (Option.bind (synthesisref09_catalog (v1)) fun v2 => (Option.bind (loopN (synthesisref09_Find_l2 a0 v2) fuel (0)) fun (v13 : ((Unit) ⊕ ((S_api_Operator) × (Bool)))) => Sum.elim (fun v14 => (some ((S_api_Operator.mk ((⟨#[]⟩ : ByteArray)) (([] : List Int)) (0)), false))) (fun v15 => (some v15)) v13))))
theorem synthesisref09_Find_ok (a0 : ByteArray) (r : (S_api_Operator) × (Bool)) (h : synthesisref09_Find a0 = some r) : PCall Try.prog 191 [eS a0] (.tup [eS_api_Operator (r.1), eB (r.2)]) := by
 unfold synthesisref09_Find at h
 refine pcall_intro (T := TT) tt_ok [.ag [.keep, .sl 1, .keep], .one .keep] Try.func191 rfl (by kernel_rfl) (by kernel_rfl) ?_
 refine awp_le (st' := ⟨51, [(0, (fS (a0)))], [], []⟩) (le_ck (by kernel_rfl)) ?_
 refine awp_seq ?_
 refine awp_region ?_
 refine l_rk 2 tt_ok ⟨51, [(0, (fS (a0))), (2, (.ref 1 0 0))], (synthesisref09_Find_m0), [1]⟩ (by kernel_rfl) ?_
 refine l_nil ?_
 refine awp_seq ?_
 refine awp_region ?_
 refine l_rk 1 tt_ok ⟨51, [(0, (fS (a0))), (2, (.ref 1 0 0)), (9, (fS (a0)))], (synthesisref09_Find_m0), [1]⟩ (by kernel_rfl) ?_
 obtain ⟨v1, hv1, h⟩ := Option.bind_eq_some_iff.1 h
 refine l_step ((n_call (ys := [eS (a0)]) (cs := [(.one (.keep))]) rfl (by kernel_rfl) (synthesisref09_Family_ok (a0) _ hv1)).step) (by kernel_rfl) (dst_of (by kernel_rfl)) ?_
 refine l_rk 1 tt_ok ⟨51, [(0, (fS (a0))), (2, (.ref 1 0 0)), (4, (fS (v1)))], (synthesisref09_Find_m0), [1]⟩ (by kernel_rfl) ?_
 refine l_nil ?_
 refine awp_seq ?_
 refine awp_seq ?_
 refine awp_region ?_
 refine l_rk 2 tt_ok ⟨51, [(0, (fS (a0))), (2, (.ref 1 0 0)), (4, (fS (v1))), (12, (fB ((v1.toList == (⟨#[]⟩ : ByteArray).toList))))], (synthesisref09_Find_m0), [1]⟩ (by kernel_rfl) ?_
 refine l_nil ?_
 rcases cond_some h with ⟨hb, h⟩ | ⟨hb, h⟩
 ·refine awp_cond_t (b := (v1.toList == (⟨#[]⟩ : ByteArray).toList)) (by kernel_rfl) hb ?_
  refine awp_seq ?_
  refine awp_region ?_
  refine l_rk 3 tt_ok ⟨51, [(2, (.ref 1 0 0)), (3, (fB (false)))], (synthesisref09_Find_m0), [1]⟩ (by kernel_rfl) ?_
  refine l_nil ?_
  refine awp_ret ?_
  obtain rfl := Option.some.inj h
  exact (show retX _ _ _ _ = some _ from by kernel_rfl)
 ·refine awp_cond_f (b := (v1.toList == (⟨#[]⟩ : ByteArray).toList)) (by kernel_rfl) hb ?_
  refine awp_skip ?_
  refine awp_seq ?_
  refine awp_seq ?_
  refine awp_region ?_
  refine l_rk 1 tt_ok ⟨51, [(0, (fS (a0))), (2, (.ref 1 0 0)), (14, (fS (v1)))], (synthesisref09_Find_m0), [1]⟩ (by kernel_rfl) ?_
  obtain ⟨v2, hv2, h⟩ := Option.bind_eq_some_iff.1 h
  refine l_step ((n_call (ys := [eS (v1)]) (cs := [(.one (.keep))]) rfl (by kernel_rfl) (synthesisref09_catalog_ok (v1) _ hv2)).step) (by kernel_rfl) (dst_of (by kernel_rfl)) ?_
  refine l_rk 2 tt_ok ⟨51, [(0, (fS (a0))), (2, (.ref 1 0 0)), (15, (.fz ((eL 3 eS_a189) (v2)))), (16, (fI ((List.length v2 : Int)))), (17, (fI (0)))], (synthesisref09_Find_m0), [1]⟩ (by kernel_rfl) ?_
  refine l_nil ?_
  refine awp_block ?_
  obtain ⟨v13, hj, h⟩ := Option.bind_eq_some_iff.1 h
  refine awp_join (Qa := fun e st => Sum.elim (fun p => e = .exit 0 ∧ LeSt st ⟨51, [(2, (.ref 1 0 0))], (synthesisref09_Find_m0), [1]⟩) (fun p => e = .ret ∧ retX TT st Try.f191.results.toList [.ag [.keep, .sl 1, .keep], .one .keep] = some (.tup [eS_api_Operator (p.1), eB (p.2)])) v13) ?_ ?_
  ·refine awp_loopS (stOf := fun v3 => ⟨51, [(0, (fS (a0))), (2, (.ref 1 0 0)), (15, (.fz ((eL 3 eS_a189) (v2)))), (16, (fI ((List.length v2 : Int)))), (17, (fI (v3)))], (synthesisref09_Find_m0), [1]⟩) (Qb := fun j e st => Sum.elim (fun p => e = .exit 0 ∧ LeSt st ⟨51, [(2, (.ref 1 0 0))], (synthesisref09_Find_m0), [1]⟩) (fun p => e = .ret ∧ retX TT st Try.f191.results.toList [.ag [.keep, .sl 1, .keep], .one .keep] = some (.tup [eS_api_Operator (p.1), eB (p.2)])) j) hj (le_ck (by kernel_rfl)) ?_
   clear hj h
   intro v3 r h
   unfold synthesisref09_Find_l2 at h
   refine awp_seq ?_
   refine awp_region ?_
   refine l_rk 1 tt_ok ⟨51, [(0, (fS (a0))), (2, (.ref 1 0 0)), (15, (.fz ((eL 3 eS_a189) (v2)))), (16, (fI ((List.length v2 : Int)))), (17, (fI (v3))), (18, (fB ((decide (v3 < (List.length v2 : Int))))))], (synthesisref09_Find_m0), [1]⟩ (by kernel_rfl) ?_
   refine l_nil ?_
   refine awp_seq ?_
   rcases cond_some h with ⟨hb, h⟩ | ⟨hb, h⟩
   ·refine awp_cond_t (b := (decide (v3 < (List.length v2 : Int)))) (by kernel_rfl) hb ?_
    refine awp_skip ?_
    refine awp_seq ?_
    refine awp_block ?_
    refine awp_seq ?_
    refine awp_region ?_
    obtain ⟨v4, hv4, h⟩ := Option.bind_eq_some_iff.1 h
    refine l_step ((s_index (k := .i64) (d := tt187) (e := 189) (de := tt189) (enc := eS_a189) hv4 tt_ok rfl (by kernel_rfl) (by kernel_rfl) (by kernel_rfl) (by kernel_rfl) len_eS_a189 (by kernel_rfl) rfl).step) (by kernel_rfl) (dst_of (by kernel_rfl)) ?_
    refine l_rk 3 tt_ok ⟨51, [(0, (fS (a0))), (2, (.ref 1 0 0)), (6, (.ref 2 0 0)), (15, (.fz ((eL 3 eS_a189) (v2)))), (16, (fI ((List.length v2 : Int)))), (17, (fI (v3)))], (synthesisref09_Find_m1 v4), [2, 1]⟩ (by kernel_rfl) ?_
    refine l_nil ?_
    refine awp_seq ?_
    refine awp_region ?_
    refine l_rk 4 tt_ok ⟨51, [(0, (fS (a0))), (2, (.ref 1 0 0)), (6, (.ref 2 0 0)), (15, (.fz ((eL 3 eS_a189) (v2)))), (16, (fI ((List.length v2 : Int)))), (17, (fI (v3))), (24, (fB ((v4.f_0.toList == a0.toList))))], (synthesisref09_Find_m1 v4), [2, 1]⟩ (by kernel_rfl) ?_
    refine l_nil ?_
    rcases cond_some h with ⟨hb, h⟩ | ⟨hb, h⟩
    ·refine awp_cond_t (b := (v4.f_0.toList == a0.toList)) (by kernel_rfl) hb ?_
     refine awp_seq ?_
     refine awp_region ?_
     refine l_rk 3 tt_ok ⟨51, [(2, (.ref 1 0 0)), (6, (.ref 2 0 0)), (25, (fS (a0))), (27, (fS (v4.f_2)))], (synthesisref09_Find_m1 v4), [2, 1]⟩ (by kernel_rfl) ?_
     obtain ⟨v5, hv5, h⟩ := Option.bind_eq_some_iff.1 h
     refine l_step ((s_byte (k := .i64) (d := tt9) (s := v4.f_2) hv5 tt_ok rfl (by kernel_rfl) (by kernel_rfl) (by kernel_rfl) (by kernel_rfl)).step) (by kernel_rfl) (dst_of (by kernel_rfl)) ?_
     obtain ⟨v6, hv6, h⟩ := Option.bind_eq_some_iff.1 h
     refine l_step ((n_call (ys := [eU8 (v5)]) (cs := [(.one (.keep))]) rfl (by kernel_rfl) (synthesisref09_letter_ok (v5) _ hv6)).step) (by kernel_rfl) (dst_of (by kernel_rfl)) ?_
     refine l_rk 3 tt_ok ⟨51, [(2, (.ref 1 0 0)), (6, (.ref 2 0 0)), (7, (.ref 3 0 0))], [(1, (.box 171 [(fS ((⟨#[]⟩ : ByteArray))), (.fz (.atom (.slice none 0 0))), (fI (0))])), (2, (.box 189 [(fS (v4.f_0)), (fS (v4.f_1)), (fS (v4.f_2))])), (3, (.box 171 [(fS (a0)), (.fz (.atom (.slice none 0 0))), (fI (v6))]))], [3, 2, 1]⟩ (by kernel_rfl) ?_
     refine l_nil ?_
     refine awp_seq ?_
     refine awp_seq ?_
     refine awp_region ?_
     refine l_rk 1 tt_ok ⟨51, [(2, (.ref 1 0 0)), (6, (.ref 2 0 0)), (7, (.ref 3 0 0)), (8, (fI (0)))], [(1, (.box 171 [(fS ((⟨#[]⟩ : ByteArray))), (.fz (.atom (.slice none 0 0))), (fI (0))])), (2, (.box 189 [(fS (v4.f_0)), (fS (v4.f_1)), (fS (v4.f_2))])), (3, (.box 171 [(fS (a0)), (.fz (.atom (.slice none 0 0))), (fI (v6))]))], [3, 2, 1]⟩ (by kernel_rfl) ?_
     refine l_nil ?_
     refine awp_block ?_
     refine awp_le (le_nilcell (e2 := 171) (e := 3) (size := 1) (id2 := 3) (j := 1) (id := 4) (cells := [(fS (a0)), (.fz (.atom (.slice none 0 0))), (fI (v6))]) (by kernel_rfl) (by kernel_rfl) (by kernel_rfl) (by kernel_rfl)) ?_
     obtain ⟨v12, hj, h⟩ := Option.bind_eq_some_iff.1 h
     refine awp_join (Qa := fun e st => e = .exit 2 ∧ LeSt st ⟨51, [(2, (.ref 1 0 0)), (7, (.ref 3 0 0))], [(1, (.box 171 [(fS ((⟨#[]⟩ : ByteArray))), (.fz (.atom (.slice none 0 0))), (fI (0))])), (3, (.box 171 [(fS (a0)), (.row 4 (List.length (v12))), (fI (v6))])), (4, (.frow 3 1 (List.map eI (v12))))], [4, 3, 1]⟩) ?_ ?_
     ·refine awp_loopS (stOf := fun v7 => ⟨51, [(2, (.ref 1 0 0)), (6, (.ref 2 0 0)), (7, (.ref 3 0 0)), (8, (fI (v7.1)))], [(1, (.box 171 [(fS ((⟨#[]⟩ : ByteArray))), (.fz (.atom (.slice none 0 0))), (fI (0))])), (2, (.box 189 [(fS (v4.f_0)), (fS (v4.f_1)), (fS (v4.f_2))])), (3, (.box 171 [(fS (a0)), (.row 4 (List.length (v7.2))), (fI (v6))])), (4, (.frow 3 1 (List.map eI (v7.2))))], [4, 3, 2, 1]⟩) (Qb := fun j e st => e = .exit 2 ∧ LeSt st ⟨51, [(2, (.ref 1 0 0)), (7, (.ref 3 0 0))], [(1, (.box 171 [(fS ((⟨#[]⟩ : ByteArray))), (.fz (.atom (.slice none 0 0))), (fI (0))])), (3, (.box 171 [(fS (a0)), (.row 4 (List.length (j))), (fI (v6))])), (4, (.frow 3 1 (List.map eI (j))))], [4, 3, 1]⟩) hj (le_ck (by kernel_rfl)) ?_
      clear hj h
      intro v7 r h
      unfold synthesisref09_Find_l1 at h
      refine awp_seq ?_
      refine awp_seq ?_
      refine awp_region ?_
      refine l_rk 5 tt_ok ⟨51, [(2, (.ref 1 0 0)), (6, (.ref 2 0 0)), (7, (.ref 3 0 0)), (8, (fI (v7.1))), (35, (fB ((decide (v7.1 < (v4.f_1.size : Int))))))], [(1, (.box 171 [(fS ((⟨#[]⟩ : ByteArray))), (.fz (.atom (.slice none 0 0))), (fI (0))])), (2, (.box 189 [(fS (v4.f_0)), (fS (v4.f_1)), (fS (v4.f_2))])), (3, (.box 171 [(fS (a0)), (.row 4 (List.length (v7.2))), (fI (v6))])), (4, (.frow 3 1 (List.map eI (v7.2))))], [4, 3, 2, 1]⟩ (by kernel_rfl) ?_
      refine l_nil ?_
      rcases cond_some h with ⟨hb, h⟩ | ⟨hb, h⟩
      ·refine awp_cond_t (b := (decide (v7.1 < (v4.f_1.size : Int)))) (by kernel_rfl) hb ?_
       refine awp_skip ?_
       refine awp_seq ?_
       refine awp_block ?_
       obtain ⟨v8, hv8, h⟩ := Option.bind_eq_some_iff.1 h
       obtain ⟨v9, hv9, h⟩ := Option.bind_eq_some_iff.1 h
       refine awp_drawn (by kernel_rfl) [(.ref 3 0 1), (.row 4 (List.length (v7.2))), (.ref 2 0 1), (fS (v4.f_1)), (fI (v7.1)), (.fz (eU8 (v8))), (fI (v9)), (.lim 1 (List.length (([v9] : List (Int)))) (List.map eI (([v9] : List (Int)))))] (by kernel_rfl) ?_
       refine ⟨.inl ⟨by kernel_rfl, (nstep_ok tt_ok (by kernel_rfl))⟩, ?_⟩
       refine ⟨.inl ⟨by kernel_rfl, (nstep_ok tt_ok (by kernel_rfl))⟩, ?_⟩
       refine ⟨.inl ⟨by kernel_rfl, (nstep_ok tt_ok (by kernel_rfl))⟩, ?_⟩
       refine ⟨.inl ⟨by kernel_rfl, (nstep_ok tt_ok (by kernel_rfl))⟩, ?_⟩
       refine ⟨.inl ⟨by kernel_rfl, (nstep_ok tt_ok (by kernel_rfl))⟩, ?_⟩
       refine ⟨.inl ⟨by kernel_rfl, (s_byte (k := .i64) (d := tt9) (s := v4.f_1) hv8 tt_ok rfl (by kernel_rfl) (by kernel_rfl) (by kernel_rfl) (by kernel_rfl))⟩, ?_⟩
       refine ⟨.inl ⟨by kernel_rfl, (n_call (ys := [eU8 (v8)]) (cs := [(.one (.keep))]) rfl (by kernel_rfl) (synthesisref09_letter_ok (v8) _ hv9))⟩, ?_⟩
       refine ⟨.inl ⟨by kernel_rfl, (nstep_ok tt_ok (by kernel_rfl))⟩, ?_⟩
       refine l_rk 0 tt_ok ⟨51, [(2, (.ref 1 0 0)), (6, (.ref 2 0 0)), (7, (.ref 3 0 0)), (8, (fI (v7.1))), (39, (.row 4 (List.length (v7.2)))), (45, (.lim 1 (List.length (([v9] : List (Int)))) (List.map eI (([v9] : List (Int))))))], [(1, (.box 171 [(fS ((⟨#[]⟩ : ByteArray))), (.fz (.atom (.slice none 0 0))), (fI (0))])), (2, (.box 189 [(fS (v4.f_0)), (fS (v4.f_1)), (fS (v4.f_2))])), (3, (.box 171 [(fS (a0)), (.row 4 (List.length (v7.2))), (fI (v6))])), (4, (.frow 3 1 (List.map eI (v7.2))))], [4, 3, 2, 1]⟩ (by kernel_rfl) ?_
       obtain ⟨v10, hv10, h⟩ := Option.bind_eq_some_iff.1 h
       refine l_step (s_append (d := tt23) (e := 3) (de := tt3) (enc := eI) (xs := v7.2) (ys := ([v9] : List (Int))) (m := List.length ([v9] : List (Int))) (id := 4) (n := List.length (v7.2)) hv10 tt_ok rfl (by kernel_rfl) (by kernel_rfl) (by kernel_rfl) (by kernel_rfl) (by kernel_rfl) (by kernel_rfl) (by kernel_rfl) (by kernel_rfl) rfl (.inr (by kernel_rfl))) (by kernel_rfl) (dst_of (by kernel_rfl)) ?_
       refine l_rk 2 tt_ok ⟨51, [(2, (.ref 1 0 0)), (6, (.ref 2 0 0)), (7, (.ref 3 0 0)), (8, (fI (v7.1)))], [(1, (.box 171 [(fS ((⟨#[]⟩ : ByteArray))), (.fz (.atom (.slice none 0 0))), (fI (0))])), (2, (.box 189 [(fS (v4.f_0)), (fS (v4.f_1)), (fS (v4.f_2))])), (3, (.box 171 [(fS (a0)), (.row 4 (List.length (v10))), (fI (v6))])), (4, (.frow 3 1 (List.map eI (v10))))], [4, 3, 2, 1]⟩ (by kernel_rfl) ?_
       refine l_nil ?_
       refine awp_region ?_
       refine l_rk 3 tt_ok ⟨51, [(2, (.ref 1 0 0)), (6, (.ref 2 0 0)), (7, (.ref 3 0 0)), (8, (fI ((w64 (v7.1 + 1)))))], [(1, (.box 171 [(fS ((⟨#[]⟩ : ByteArray))), (.fz (.atom (.slice none 0 0))), (fI (0))])), (2, (.box 189 [(fS (v4.f_0)), (fS (v4.f_1)), (fS (v4.f_2))])), (3, (.box 171 [(fS (a0)), (.row 4 (List.length (v10))), (fI (v6))])), (4, (.frow 3 1 (List.map eI (v10))))], [4, 3, 2, 1]⟩ (by kernel_rfl) ?_
       refine l_nil ?_
       obtain rfl := Option.some.inj h
       exact And.intro rfl (le_ck (by kernel_rfl))
      ·refine awp_cond_f (b := (decide (v7.1 < (v4.f_1.size : Int)))) (by kernel_rfl) hb ?_
       refine awp_exit ?_
       obtain rfl := Option.some.inj h
       exact And.intro (And.intro (fun h => nomatch h) (fun h => nomatch h)) (And.intro rfl (le_ck (by kernel_rfl)))
     ·clear hj
      intro e st' hq
      obtain ⟨rfl, hle⟩ := hq
      refine ⟨_, hle, ?_⟩
      refine awp_seq ?_
      refine awp_region ?_
      refine l_rk 3 tt_ok ⟨51, [(2, (.ref 1 0 0)), (3, (fB (true)))], [(1, (.box 171 [(fS (a0)), (.row 4 (List.length (v12))), (fI (v6))])), (4, (.frow 3 1 (List.map eI (v12))))], [4, 1]⟩ (by kernel_rfl) ?_
      refine l_nil ?_
      refine awp_le (le_freezeCell (e2 := 171) (id2 := 1) (j := 1) (id := 4) (n := List.length (v12)) (e := 3) (size := 1) (xs := List.map eI (v12)) (cells := [(fS (a0)), (.row 4 (List.length (v12))), (fI (v6))]) (by kernel_rfl) (by kernel_rfl) (by kernel_rfl) (by simp)) ?_
      refine awp_ret ?_
      obtain rfl := Option.some.inj h
      exact And.intro (And.intro (fun h => nomatch h) (fun h => nomatch h)) (And.intro rfl (show retX _ _ _ _ = some _ from by kernel_rfl))
    ·refine awp_cond_f (b := (v4.f_0.toList == a0.toList)) (by kernel_rfl) hb ?_
     refine awp_skip ?_
     refine awp_region ?_
     refine l_rk 2 tt_ok ⟨51, [(0, (fS (a0))), (2, (.ref 1 0 0)), (15, (.fz ((eL 3 eS_a189) (v2)))), (16, (fI ((List.length v2 : Int)))), (17, (fI ((w64 (v3 + 1)))))], (synthesisref09_Find_m0), [1]⟩ (by kernel_rfl) ?_
     refine l_nil ?_
     obtain rfl := Option.some.inj h
     exact And.intro rfl (le_ck (by kernel_rfl))
   ·refine awp_cond_f (b := (decide (v3 < (List.length v2 : Int)))) (by kernel_rfl) hb ?_
    refine awp_exit ?_
    obtain rfl := Option.some.inj h
    exact And.intro (And.intro (fun h => nomatch h) (fun h => nomatch h)) (And.intro rfl (le_ck (by kernel_rfl)))
  ·clear hj
   intro e st' hq
   rcases v13 with v14 | v15
   ·try simp only [Sum.elim_inl, Sum.elim_inr] at h
    obtain ⟨rfl, hle⟩ := hq
    refine ⟨_, hle, ?_⟩
    refine awp_seq ?_
    refine awp_region ?_
    refine l_rk 3 tt_ok ⟨51, [(2, (.ref 1 0 0)), (3, (fB (false)))], (synthesisref09_Find_m0), [1]⟩ (by kernel_rfl) ?_
    refine l_nil ?_
    refine awp_ret ?_
    obtain rfl := Option.some.inj h
    exact (show retX _ _ _ _ = some _ from by kernel_rfl)
   ·try simp only [Sum.elim_inl, Sum.elim_inr] at h
    obtain ⟨rfl, hret⟩ := hq
    refine ⟨_, LeSt.refl, ?_⟩
    obtain rfl := Option.some.inj h
    exact hret

def synthesisref11_operation_m0 (a0 : La) (a1 : Ru) (v1 : (S_api_Operator) × (Bool)) : List (Nat × AObj) := [(1, (.box 27 [(fS (a0.name)), (.fz ((eL 1 eI) (a0.inputs))), (.fz ((eL 2 eSy) (a0.symbols))), (.fz ((eL 9 eRu) (a0.rules)))])), (2, (.box 67 [(fI (a1.symbol)), (fI (a1.kind)), (fI (a1.input)), (fI (a1.const.type)), (fI (a1.const.num)), (fS (a1.const.text)), (.fz ((eL 4 eVaR) (a1.const.items))), (fS (a1.op)), (.fz ((eL 1 eI) (a1.args)))])), (3, (.box 171 [(fS (v1.1.f_Name)), (.fz ((eL 1 eI) (v1.1.f_Args))), (fI (v1.1.f_Result))]))]
def synthesisref11_operation_m1 (a0 : La) (a1 : Ru) : List (Nat × AObj) := [(1, (.box 27 [(fS (a0.name)), (.fz ((eL 1 eI) (a0.inputs))), (.fz ((eL 2 eSy) (a0.symbols))), (.fz ((eL 9 eRu) (a0.rules)))])), (2, (.box 67 [(fI (a1.symbol)), (fI (a1.kind)), (fI (a1.input)), (fI (a1.const.type)), (fI (a1.const.num)), (fS (a1.const.text)), (.fz ((eL 4 eVaR) (a1.const.items))), (fS (a1.op)), (.fz ((eL 1 eI) (a1.args)))]))]
def synthesisref11_operation_l1 (a0 : La) (a1 : Ru) (v1 : (S_api_Operator) × (Bool)) (v2 : (Int)) : Option (((Int)) ⊕ (((Unit) ⊕ (Int)))) := (bif (decide (v2 < (List.length a1.args : Int))) then (Option.bind ((Option.bind (idx a1.args v2) fun v3 => (bif (decide (v3 < 0)) then (some (true)) else (Option.bind (idx a1.args v2) fun v4 => (some ((decide ((List.length a0.symbols : Int) ≤ v4))))))) : Option ((Bool))) fun (v6 : (Bool)) => (bif v6 then (some (.inr (.inr 1))) else (Option.bind (idx a1.args v2) fun v7 => (Option.bind (idx a0.symbols v7) fun v8 => (Option.bind (idx v1.1.f_Args v2) fun v9 => (bif (v8.type != v9) then (some (.inr (.inr 3))) else (some (.inl ((w64 (v2 + 1))))))))))) else (some (.inr (.inl ()))))
def synthesisref11_operation (a0 : La) (a1 : Ru) : Option (Int) := (Option.bind (synthesisref09_Find (a1.op)) fun v1 => (bif (!v1.2) then (some 5) else (bif ((List.length a1.args : Int) != (List.length v1.1.f_Args : Int)) then (some 2) else (Option.bind (loopN (synthesisref11_operation_l1 a0 a1 v1) fuel (0)) fun (v10 : ((Unit) ⊕ (Int))) => Sum.elim (fun v11 => (Option.bind (idx a0.symbols a1.symbol) fun v12 => (bif (v12.type != v1.1.f_Result) then (some 3) else (some 0)))) (fun v13 => (some v13)) v10))))
theorem synthesisref11_operation_ok (a0 : La) (a1 : Ru) (r : Int) (h : synthesisref11_operation a0 a1 = some r) : PCall Try.prog 181 [eLa a0, eRu a1] (eI (r)) := by
 unfold synthesisref11_operation at h
 refine pcall_intro (T := TT) tt_ok [.one .keep] Try.func181 rfl (by kernel_rfl) (by kernel_rfl) ?_
 refine awp_le (st' := ⟨73, [(0, (.fz (eLa (a0)))), (1, (.fz (eRu (a1))))], [], []⟩) (le_ck (by kernel_rfl)) ?_
 refine awp_seq ?_
 refine awp_region ?_
 refine l_rk 3 tt_ok ⟨73, [(2, (.ref 1 0 0)), (3, (.ref 2 0 0))], (synthesisref11_operation_m1 a0 a1), [2, 1]⟩ (by kernel_rfl) ?_
 refine l_nil ?_
 refine awp_seq ?_
 refine awp_region ?_
 refine l_rk 2 tt_ok ⟨73, [(2, (.ref 1 0 0)), (3, (.ref 2 0 0)), (10, (fS (a1.op)))], (synthesisref11_operation_m1 a0 a1), [2, 1]⟩ (by kernel_rfl) ?_
 obtain ⟨v1, hv1, h⟩ := Option.bind_eq_some_iff.1 h
 refine l_step ((n_call (ys := [eS (a1.op)]) (cs := [(.one (.keep))]) rfl (by kernel_rfl) (synthesisref09_Find_ok (a1.op) _ hv1)).step) (by kernel_rfl) (dst_of (by kernel_rfl)) ?_
 refine l_rk 6 tt_ok ⟨73, [(2, (.ref 1 0 0)), (3, (.ref 2 0 0)), (5, (.ref 3 0 0)), (6, (fB (v1.2)))], (synthesisref11_operation_m0 a0 a1 v1), [3, 2, 1]⟩ (by kernel_rfl) ?_
 refine l_nil ?_
 refine awp_seq ?_
 refine awp_seq ?_
 refine awp_region ?_
 refine l_rk 2 tt_ok ⟨73, [(2, (.ref 1 0 0)), (3, (.ref 2 0 0)), (5, (.ref 3 0 0)), (15, (fB ((!v1.2))))], (synthesisref11_operation_m0 a0 a1 v1), [3, 2, 1]⟩ (by kernel_rfl) ?_
 refine l_nil ?_
 rcases cond_some h with ⟨hb, h⟩ | ⟨hb, h⟩
 ·refine awp_cond_t (b := (!v1.2)) (by kernel_rfl) hb ?_
  refine awp_seq ?_
  refine awp_region ?_
  refine l_rk 1 tt_ok ⟨73, [(4, (fI (5)))], [], []⟩ (by kernel_rfl) ?_
  refine l_nil ?_
  refine awp_ret ?_
  obtain rfl := Option.some.inj h
  exact (show retX _ _ _ _ = some _ from by kernel_rfl)
 ·refine awp_cond_f (b := (!v1.2)) (by kernel_rfl) hb ?_
  refine awp_skip ?_
  refine awp_seq ?_
  refine awp_seq ?_
  refine awp_region ?_
  refine l_rk 7 tt_ok ⟨73, [(2, (.ref 1 0 0)), (3, (.ref 2 0 0)), (5, (.ref 3 0 0)), (22, (fB (((List.length a1.args : Int) != (List.length v1.1.f_Args : Int)))))], (synthesisref11_operation_m0 a0 a1 v1), [3, 2, 1]⟩ (by kernel_rfl) ?_
  refine l_nil ?_
  rcases cond_some h with ⟨hb, h⟩ | ⟨hb, h⟩
  ·refine awp_cond_t (b := ((List.length a1.args : Int) != (List.length v1.1.f_Args : Int))) (by kernel_rfl) hb ?_
   refine awp_seq ?_
   refine awp_region ?_
   refine l_rk 1 tt_ok ⟨73, [(4, (fI (2)))], [], []⟩ (by kernel_rfl) ?_
   refine l_nil ?_
   refine awp_ret ?_
   obtain rfl := Option.some.inj h
   exact (show retX _ _ _ _ = some _ from by kernel_rfl)
  ·refine awp_cond_f (b := ((List.length a1.args : Int) != (List.length v1.1.f_Args : Int))) (by kernel_rfl) hb ?_
   refine awp_skip ?_
   refine awp_seq ?_
   refine awp_seq ?_
   refine awp_region ?_
   refine l_rk 1 tt_ok ⟨73, [(2, (.ref 1 0 0)), (3, (.ref 2 0 0)), (5, (.ref 3 0 0)), (7, (fI (0)))], (synthesisref11_operation_m0 a0 a1 v1), [3, 2, 1]⟩ (by kernel_rfl) ?_
   refine l_nil ?_
   refine awp_block ?_
   obtain ⟨v10, hj, h⟩ := Option.bind_eq_some_iff.1 h
   refine awp_join (Qa := fun e st => Sum.elim (fun p => e = .exit 0 ∧ LeSt st ⟨73, [(2, (.ref 1 0 0)), (3, (.ref 2 0 0)), (5, (.ref 3 0 0))], (synthesisref11_operation_m0 a0 a1 v1), [3, 2, 1]⟩) (fun p => e = .ret ∧ retX TT st Try.f181.results.toList [.one .keep] = some (eI (p))) v10) ?_ ?_
   ·refine awp_loopS (stOf := fun v2 => ⟨73, [(2, (.ref 1 0 0)), (3, (.ref 2 0 0)), (5, (.ref 3 0 0)), (7, (fI (v2)))], (synthesisref11_operation_m0 a0 a1 v1), [3, 2, 1]⟩) (Qb := fun j e st => Sum.elim (fun p => e = .exit 0 ∧ LeSt st ⟨73, [(2, (.ref 1 0 0)), (3, (.ref 2 0 0)), (5, (.ref 3 0 0))], (synthesisref11_operation_m0 a0 a1 v1), [3, 2, 1]⟩) (fun p => e = .ret ∧ retX TT st Try.f181.results.toList [.one .keep] = some (eI (p))) j) hj (le_ck (by kernel_rfl)) ?_
    clear hj h
    intro v2 r h
    unfold synthesisref11_operation_l1 at h
    refine awp_seq ?_
    refine awp_seq ?_
    refine awp_region ?_
    refine l_rk 5 tt_ok ⟨73, [(2, (.ref 1 0 0)), (3, (.ref 2 0 0)), (5, (.ref 3 0 0)), (7, (fI (v2))), (27, (fB ((decide (v2 < (List.length a1.args : Int))))))], (synthesisref11_operation_m0 a0 a1 v1), [3, 2, 1]⟩ (by kernel_rfl) ?_
    refine l_nil ?_
    rcases cond_some h with ⟨hb, h⟩ | ⟨hb, h⟩
    ·refine awp_cond_t (b := (decide (v2 < (List.length a1.args : Int)))) (by kernel_rfl) hb ?_
     refine awp_skip ?_
     refine awp_seq ?_
     refine awp_block ?_
     refine awp_seq ?_
     refine awp_seq ?_
     obtain ⟨v6, hj, h⟩ := Option.bind_eq_some_iff.1 h
     refine awp_join (Qa := fun e st => e = .normal ∧ LeSt st ⟨73, [(2, (.ref 1 0 0)), (3, (.ref 2 0 0)), (5, (.ref 3 0 0)), (7, (fI (v2))), (46, (fB (v6)))], (synthesisref11_operation_m0 a0 a1 v1), [3, 2, 1]⟩) ?_ ?_
     ·replace h := hj
      clear hj
      obtain ⟨v3, hv3, h⟩ := Option.bind_eq_some_iff.1 h
      rcases cond_some h with ⟨hb6, h⟩ | ⟨hb6, h⟩
      ·refine awp_drawn (by kernel_rfl) [(.ref 2 0 8), (.fz ((eL 1 eI) (a1.args))), (fI (v2)), (.fz (.fp [(eI (v3))])), (fI (v3)), (fB ((decide (v3 < 0)))), (fB (true)), (.fz (.tup [])), (.fz (.tup [])), (.fz (.tup [])), (.fz (.tup [])), (.fz (.tup [])), (.fz (.tup [])), (.fz (.tup [])), (.fz (.tup []))] (by kernel_rfl) ?_
       refine ⟨.inl ⟨by kernel_rfl, (nstep_ok tt_ok (by kernel_rfl))⟩, ?_⟩
       refine ⟨.inl ⟨by kernel_rfl, (nstep_ok tt_ok (by kernel_rfl))⟩, ?_⟩
       refine ⟨.inl ⟨by kernel_rfl, (nstep_ok tt_ok (by kernel_rfl))⟩, ?_⟩
       refine ⟨.inl ⟨by kernel_rfl, (s_index (k := .i64) (d := tt23) (e := 3) (de := tt3) (enc := eI) hv3 tt_ok rfl (by kernel_rfl) (by kernel_rfl) (by kernel_rfl) (by kernel_rfl) len_eI (by kernel_rfl) rfl)⟩, ?_⟩
       refine ⟨.inl ⟨by kernel_rfl, (nstep_ok tt_ok (by kernel_rfl))⟩, ?_⟩
       refine ⟨.inl ⟨by kernel_rfl, (nstep_ok tt_ok (by kernel_rfl))⟩, ?_⟩
       refine ⟨.inl ⟨by kernel_rfl, (NStep.eqv (nstep_ok tt_ok (by kernel_rfl)) (congrArg (fun b => AV.fz (eB b)) hb6))⟩, ?_⟩
       refine ⟨.inr ⟨by kernel_rfl, rfl⟩, ?_⟩
       refine ⟨.inr ⟨by kernel_rfl, rfl⟩, ?_⟩
       refine ⟨.inr ⟨by kernel_rfl, rfl⟩, ?_⟩
       refine ⟨.inr ⟨by kernel_rfl, rfl⟩, ?_⟩
       refine ⟨.inr ⟨by kernel_rfl, rfl⟩, ?_⟩
       refine ⟨.inr ⟨by kernel_rfl, rfl⟩, ?_⟩
       refine ⟨.inr ⟨by kernel_rfl, rfl⟩, ?_⟩
       refine ⟨.inr ⟨by kernel_rfl, rfl⟩, ?_⟩
       refine l_rk 2 tt_ok ⟨73, [(2, (.ref 1 0 0)), (3, (.ref 2 0 0)), (5, (.ref 3 0 0)), (7, (fI (v2))), (46, (fB (true)))], (synthesisref11_operation_m0 a0 a1 v1), [3, 2, 1]⟩ (by kernel_rfl) ?_
       refine l_nil ?_
       obtain rfl := Option.some.inj h
       exact And.intro rfl (le_ck (by kernel_rfl))
      ·obtain ⟨v4, hv4, h⟩ := Option.bind_eq_some_iff.1 h
       refine awp_drawn (by kernel_rfl) [(.ref 2 0 8), (.fz ((eL 1 eI) (a1.args))), (fI (v2)), (.fz (.fp [(eI (v3))])), (fI (v3)), (fB ((decide (v3 < 0)))), (fB (false)), (.ref 2 0 8), (.fz ((eL 1 eI) (a1.args))), (fI (v2)), (.fz (.fp [(eI (v4))])), (fI (v4)), (.ref 1 0 2), (.fz ((eL 2 eSy) (a0.symbols))), (fI ((List.length a0.symbols : Int)))] (by kernel_rfl) ?_
       refine ⟨.inl ⟨by kernel_rfl, (nstep_ok tt_ok (by kernel_rfl))⟩, ?_⟩
       refine ⟨.inl ⟨by kernel_rfl, (nstep_ok tt_ok (by kernel_rfl))⟩, ?_⟩
       refine ⟨.inl ⟨by kernel_rfl, (nstep_ok tt_ok (by kernel_rfl))⟩, ?_⟩
       refine ⟨.inl ⟨by kernel_rfl, (s_index (k := .i64) (d := tt23) (e := 3) (de := tt3) (enc := eI) hv3 tt_ok rfl (by kernel_rfl) (by kernel_rfl) (by kernel_rfl) (by kernel_rfl) len_eI (by kernel_rfl) rfl)⟩, ?_⟩
       refine ⟨.inl ⟨by kernel_rfl, (nstep_ok tt_ok (by kernel_rfl))⟩, ?_⟩
       refine ⟨.inl ⟨by kernel_rfl, (nstep_ok tt_ok (by kernel_rfl))⟩, ?_⟩
       refine ⟨.inl ⟨by kernel_rfl, (NStep.eqv (nstep_ok tt_ok (by kernel_rfl)) (congrArg (fun b => AV.fz (eB b)) hb6))⟩, ?_⟩
       refine ⟨.inl ⟨by kernel_rfl, (nstep_ok tt_ok (by kernel_rfl))⟩, ?_⟩
       refine ⟨.inl ⟨by kernel_rfl, (nstep_ok tt_ok (by kernel_rfl))⟩, ?_⟩
       refine ⟨.inl ⟨by kernel_rfl, (nstep_ok tt_ok (by kernel_rfl))⟩, ?_⟩
       refine ⟨.inl ⟨by kernel_rfl, (s_index (k := .i64) (d := tt23) (e := 3) (de := tt3) (enc := eI) hv4 tt_ok rfl (by kernel_rfl) (by kernel_rfl) (by kernel_rfl) (by kernel_rfl) len_eI (by kernel_rfl) rfl)⟩, ?_⟩
       refine ⟨.inl ⟨by kernel_rfl, (nstep_ok tt_ok (by kernel_rfl))⟩, ?_⟩
       refine ⟨.inl ⟨by kernel_rfl, (nstep_ok tt_ok (by kernel_rfl))⟩, ?_⟩
       refine ⟨.inl ⟨by kernel_rfl, (nstep_ok tt_ok (by kernel_rfl))⟩, ?_⟩
       refine ⟨.inl ⟨by kernel_rfl, (nstep_ok tt_ok (by kernel_rfl))⟩, ?_⟩
       refine l_rk 2 tt_ok ⟨73, [(2, (.ref 1 0 0)), (3, (.ref 2 0 0)), (5, (.ref 3 0 0)), (7, (fI (v2))), (46, (fB ((decide ((List.length a0.symbols : Int) ≤ v4)))))], (synthesisref11_operation_m0 a0 a1 v1), [3, 2, 1]⟩ (by kernel_rfl) ?_
       refine l_nil ?_
       obtain rfl := Option.some.inj h
       exact And.intro rfl (le_ck (by kernel_rfl))
     ·clear hj
      intro e st' hq
      obtain ⟨rfl, hle⟩ := hq
      refine ⟨_, hle, ?_⟩
      rcases cond_some h with ⟨hb, h⟩ | ⟨hb, h⟩
      ·refine awp_cond_t (b := v6) (by kernel_rfl) hb ?_
       refine awp_seq ?_
       refine awp_region ?_
       refine l_rk 1 tt_ok ⟨73, [(4, (fI (1)))], [], []⟩ (by kernel_rfl) ?_
       refine l_nil ?_
       refine awp_ret ?_
       obtain rfl := Option.some.inj h
       exact And.intro (And.intro (fun h => nomatch h) (fun h => nomatch h)) (And.intro rfl (show retX _ _ _ _ = some _ from by kernel_rfl))
      ·refine awp_cond_f (b := v6) (by kernel_rfl) hb ?_
       refine awp_skip ?_
       refine awp_seq ?_
       obtain ⟨v7, hv7, h⟩ := Option.bind_eq_some_iff.1 h
       obtain ⟨v8, hv8, h⟩ := Option.bind_eq_some_iff.1 h
       obtain ⟨v9, hv9, h⟩ := Option.bind_eq_some_iff.1 h
       refine awp_drawn (by kernel_rfl) [(.ref 1 0 2), (.fz ((eL 2 eSy) (a0.symbols))), (.ref 2 0 8), (.fz ((eL 1 eI) (a1.args))), (fI (v2)), (.fz (.fp [(eI (v7))])), (fI (v7)), (.fz (.fp [(eS (v8.name)), (eI (v8.type))])), (.fz (.fp [(eI (v8.type))])), (fI (v8.type)), (.ref 3 0 1), (.fz ((eL 1 eI) (v1.1.f_Args))), (fI (v2)), (.fz (.fp [(eI (v9))])), (fI (v9))] (by kernel_rfl) ?_
       refine ⟨.inl ⟨by kernel_rfl, (nstep_ok tt_ok (by kernel_rfl))⟩, ?_⟩
       refine ⟨.inl ⟨by kernel_rfl, (nstep_ok tt_ok (by kernel_rfl))⟩, ?_⟩
       refine ⟨.inl ⟨by kernel_rfl, (nstep_ok tt_ok (by kernel_rfl))⟩, ?_⟩
       refine ⟨.inl ⟨by kernel_rfl, (nstep_ok tt_ok (by kernel_rfl))⟩, ?_⟩
       refine ⟨.inl ⟨by kernel_rfl, (nstep_ok tt_ok (by kernel_rfl))⟩, ?_⟩
       refine ⟨.inl ⟨by kernel_rfl, (s_index (k := .i64) (d := tt23) (e := 3) (de := tt3) (enc := eI) hv7 tt_ok rfl (by kernel_rfl) (by kernel_rfl) (by kernel_rfl) (by kernel_rfl) len_eI (by kernel_rfl) rfl)⟩, ?_⟩
       refine ⟨.inl ⟨by kernel_rfl, (nstep_ok tt_ok (by kernel_rfl))⟩, ?_⟩
       refine ⟨.inl ⟨by kernel_rfl, (s_index (k := .i64) (d := tt24) (e := 72) (de := tt72) (enc := eSy) hv8 tt_ok rfl (by kernel_rfl) (by kernel_rfl) (by kernel_rfl) (by kernel_rfl) len_eSy (by kernel_rfl) rfl)⟩, ?_⟩
       refine ⟨.inl ⟨by kernel_rfl, (nstep_ok tt_ok (by kernel_rfl))⟩, ?_⟩
       refine ⟨.inl ⟨by kernel_rfl, (nstep_ok tt_ok (by kernel_rfl))⟩, ?_⟩
       refine ⟨.inl ⟨by kernel_rfl, (nstep_ok tt_ok (by kernel_rfl))⟩, ?_⟩
       refine ⟨.inl ⟨by kernel_rfl, (nstep_ok tt_ok (by kernel_rfl))⟩, ?_⟩
       refine ⟨.inl ⟨by kernel_rfl, (nstep_ok tt_ok (by kernel_rfl))⟩, ?_⟩
       refine ⟨.inl ⟨by kernel_rfl, (s_index (k := .i64) (d := tt23) (e := 3) (de := tt3) (enc := eI) hv9 tt_ok rfl (by kernel_rfl) (by kernel_rfl) (by kernel_rfl) (by kernel_rfl) len_eI (by kernel_rfl) rfl)⟩, ?_⟩
       refine ⟨.inl ⟨by kernel_rfl, (nstep_ok tt_ok (by kernel_rfl))⟩, ?_⟩
       refine l_rk 1 tt_ok ⟨73, [(2, (.ref 1 0 0)), (3, (.ref 2 0 0)), (5, (.ref 3 0 0)), (7, (fI (v2))), (62, (fB ((v8.type != v9))))], (synthesisref11_operation_m0 a0 a1 v1), [3, 2, 1]⟩ (by kernel_rfl) ?_
       refine l_nil ?_
       rcases cond_some h with ⟨hb, h⟩ | ⟨hb, h⟩
       ·refine awp_cond_t (b := (v8.type != v9)) (by kernel_rfl) hb ?_
        refine awp_seq ?_
        refine awp_region ?_
        refine l_rk 1 tt_ok ⟨73, [(4, (fI (3)))], [], []⟩ (by kernel_rfl) ?_
        refine l_nil ?_
        refine awp_ret ?_
        obtain rfl := Option.some.inj h
        exact And.intro (And.intro (fun h => nomatch h) (fun h => nomatch h)) (And.intro rfl (show retX _ _ _ _ = some _ from by kernel_rfl))
       ·refine awp_cond_f (b := (v8.type != v9)) (by kernel_rfl) hb ?_
        refine awp_skip ?_
        refine awp_region ?_
        refine l_rk 3 tt_ok ⟨73, [(2, (.ref 1 0 0)), (3, (.ref 2 0 0)), (5, (.ref 3 0 0)), (7, (fI ((w64 (v2 + 1)))))], (synthesisref11_operation_m0 a0 a1 v1), [3, 2, 1]⟩ (by kernel_rfl) ?_
        refine l_nil ?_
        obtain rfl := Option.some.inj h
        exact And.intro rfl (le_ck (by kernel_rfl))
    ·refine awp_cond_f (b := (decide (v2 < (List.length a1.args : Int)))) (by kernel_rfl) hb ?_
     refine awp_exit ?_
     obtain rfl := Option.some.inj h
     exact And.intro (And.intro (fun h => nomatch h) (fun h => nomatch h)) (And.intro rfl (le_ck (by kernel_rfl)))
   ·clear hj
    intro e st' hq
    rcases v10 with v11 | v13
    ·try simp only [Sum.elim_inl, Sum.elim_inr] at h
     obtain ⟨rfl, hle⟩ := hq
     refine ⟨_, hle, ?_⟩
     refine awp_seq ?_
     refine awp_seq ?_
     obtain ⟨v12, hv12, h⟩ := Option.bind_eq_some_iff.1 h
     refine awp_drawn (by kernel_rfl) [(.ref 1 0 2), (.fz ((eL 2 eSy) (a0.symbols))), (.ref 2 0 0), (fI (a1.symbol)), (.fz (.fp [(eS (v12.name)), (eI (v12.type))])), (.fz (.fp [(eI (v12.type))])), (fI (v12.type)), (.ref 3 0 2), (fI (v1.1.f_Result))] (by kernel_rfl) ?_
     refine ⟨.inl ⟨by kernel_rfl, (nstep_ok tt_ok (by kernel_rfl))⟩, ?_⟩
     refine ⟨.inl ⟨by kernel_rfl, (nstep_ok tt_ok (by kernel_rfl))⟩, ?_⟩
     refine ⟨.inl ⟨by kernel_rfl, (nstep_ok tt_ok (by kernel_rfl))⟩, ?_⟩
     refine ⟨.inl ⟨by kernel_rfl, (nstep_ok tt_ok (by kernel_rfl))⟩, ?_⟩
     refine ⟨.inl ⟨by kernel_rfl, (s_index (k := .i64) (d := tt24) (e := 72) (de := tt72) (enc := eSy) hv12 tt_ok rfl (by kernel_rfl) (by kernel_rfl) (by kernel_rfl) (by kernel_rfl) len_eSy (by kernel_rfl) rfl)⟩, ?_⟩
     refine ⟨.inl ⟨by kernel_rfl, (nstep_ok tt_ok (by kernel_rfl))⟩, ?_⟩
     refine ⟨.inl ⟨by kernel_rfl, (nstep_ok tt_ok (by kernel_rfl))⟩, ?_⟩
     refine ⟨.inl ⟨by kernel_rfl, (nstep_ok tt_ok (by kernel_rfl))⟩, ?_⟩
     refine ⟨.inl ⟨by kernel_rfl, (nstep_ok tt_ok (by kernel_rfl))⟩, ?_⟩
     refine l_rk 1 tt_ok ⟨73, [(72, (fB ((v12.type != v1.1.f_Result))))], [], []⟩ (by kernel_rfl) ?_
     refine l_nil ?_
     rcases cond_some h with ⟨hb, h⟩ | ⟨hb, h⟩
     ·refine awp_cond_t (b := (v12.type != v1.1.f_Result)) (by kernel_rfl) hb ?_
      refine awp_seq ?_
      refine awp_region ?_
      refine l_rk 1 tt_ok ⟨73, [(4, (fI (3)))], [], []⟩ (by kernel_rfl) ?_
      refine l_nil ?_
      refine awp_ret ?_
      obtain rfl := Option.some.inj h
      exact (show retX _ _ _ _ = some _ from by kernel_rfl)
     ·refine awp_cond_f (b := (v12.type != v1.1.f_Result)) (by kernel_rfl) hb ?_
      refine awp_skip ?_
      refine awp_seq ?_
      refine awp_region ?_
      refine l_rk 1 tt_ok ⟨73, [(4, (fI (0)))], [], []⟩ (by kernel_rfl) ?_
      refine l_nil ?_
      refine awp_ret ?_
      obtain rfl := Option.some.inj h
      exact (show retX _ _ _ _ = some _ from by kernel_rfl)
    ·try simp only [Sum.elim_inl, Sum.elim_inr] at h
     obtain ⟨rfl, hret⟩ := hq
     refine ⟨_, LeSt.refl, ?_⟩
     obtain rfl := Option.some.inj h
     exact hret

def synthesisref11_rule_m0 (a0 : La) (a1 : Ru) : List (Nat × AObj) := [(1, (.box 27 [(fS (a0.name)), (.fz ((eL 1 eI) (a0.inputs))), (.fz ((eL 2 eSy) (a0.symbols))), (.fz ((eL 9 eRu) (a0.rules)))])), (2, (.box 67 [(fI (a1.symbol)), (fI (a1.kind)), (fI (a1.input)), (fI (a1.const.type)), (fI (a1.const.num)), (fS (a1.const.text)), (.fz ((eL 4 eVaR) (a1.const.items))), (fS (a1.op)), (.fz ((eL 1 eI) (a1.args)))]))]
def synthesisref11_rule_m1 (a1 : Ru) : List (Nat × AObj) := [(2, (.box 67 [(fI (a1.symbol)), (fI (a1.kind)), (fI (a1.input)), (fI (a1.const.type)), (fI (a1.const.num)), (fS (a1.const.text)), (.fz ((eL 4 eVaR) (a1.const.items))), (fS (a1.op)), (.fz ((eL 1 eI) (a1.args)))]))]
def synthesisref11_rule (a0 : La) (a1 : Ru) : Option (Int) := (Option.bind ((bif (decide (a1.symbol < 0)) then (some (true)) else (some ((decide ((List.length a0.symbols : Int) ≤ a1.symbol))))) : Option ((Bool))) fun (v2 : (Bool)) => (bif v2 then (some 1) else (Option.bind ((bif (decide (a1.kind < 1)) then (some (true)) else (bif (decide (3 < a1.kind)) then (some (true)) else (Option.bind (synthesisref11_zero (a1)) fun v3 => (some ((!v3)))))) : Option ((Bool))) fun (v5 : (Bool)) => (bif v5 then (some 4) else (Option.bind (idx a0.symbols a1.symbol) fun v6 => (bif (a1.kind == 1) then (Option.bind ((bif (decide (a1.input < 0)) then (some (true)) else (some ((decide ((List.length a0.inputs : Int) ≤ a1.input))))) : Option ((Bool))) fun (v8 : (Bool)) => (bif v8 then (some 1) else (Option.bind (idx a0.inputs a1.input) fun v9 => (bif (v9 != v6.type) then (some 3) else (some 0))))) else (bif (a1.kind == 2) then (Option.bind (synthesisref01_Check fuel (a1.const)) fun v10 => (bif (v10 != 0) then (some v10) else (bif (a1.const.type != v6.type) then (some 3) else (some 0)))) else (Option.bind (synthesisref11_operation (a0) (a1)) fun v11 => (some v11)))))))))
theorem synthesisref11_rule_ok (a0 : La) (a1 : Ru) (r : Int) (h : synthesisref11_rule a0 a1 = some r) : PCall Try.prog 151 [eLa a0, eRu a1] (eI (r)) := by
 unfold synthesisref11_rule at h
 refine pcall_intro (T := TT) tt_ok [.one .keep] Try.func151 rfl (by kernel_rfl) (by kernel_rfl) ?_
 refine awp_le (st' := ⟨77, [(0, (.fz (eLa (a0)))), (1, (.fz (eRu (a1))))], [], []⟩) (le_ck (by kernel_rfl)) ?_
 refine awp_seq ?_
 refine awp_region ?_
 refine l_rk 3 tt_ok ⟨77, [(2, (.ref 1 0 0)), (3, (.ref 2 0 0))], (synthesisref11_rule_m0 a0 a1), [2, 1]⟩ (by kernel_rfl) ?_
 refine l_nil ?_
 refine awp_seq ?_
 refine awp_seq ?_
 obtain ⟨v2, hj, h⟩ := Option.bind_eq_some_iff.1 h
 refine awp_join (Qa := fun e st => e = .normal ∧ LeSt st ⟨77, [(2, (.ref 1 0 0)), (3, (.ref 2 0 0)), (17, (fB (v2)))], (synthesisref11_rule_m0 a0 a1), [2, 1]⟩) ?_ ?_
 ·replace h := hj
  clear hj
  refine awp_region ?_
  refine l_rk 4 tt_ok ⟨77, [(2, (.ref 1 0 0)), (3, (.ref 2 0 0)), (10, (fB ((decide (a1.symbol < 0)))))], (synthesisref11_rule_m0 a0 a1), [2, 1]⟩ (by kernel_rfl) ?_
  rcases cond_some h with ⟨hb, h⟩ | ⟨hb, h⟩
  ·refine l_le (le_eq (t := 10) (x := .fz (eB (decide (a1.symbol < 0)))) (y := .fz (eB true)) (by kernel_rfl) (congrArg (fun b => AV.fz (eB b)) hb)) ?_
   refine l_rk 7 tt_ok ⟨77, [(2, (.ref 1 0 0)), (3, (.ref 2 0 0)), (17, (fB (true)))], (synthesisref11_rule_m0 a0 a1), [2, 1]⟩ (by kernel_rfl) ?_
   refine l_nil ?_
   obtain rfl := Option.some.inj h
   exact And.intro rfl (le_ck (by kernel_rfl))
  ·refine l_le (le_eq (t := 10) (x := .fz (eB (decide (a1.symbol < 0)))) (y := .fz (eB false)) (by kernel_rfl) (congrArg (fun b => AV.fz (eB b)) hb)) ?_
   refine l_rk 7 tt_ok ⟨77, [(2, (.ref 1 0 0)), (3, (.ref 2 0 0)), (17, (fB ((decide ((List.length a0.symbols : Int) ≤ a1.symbol)))))], (synthesisref11_rule_m0 a0 a1), [2, 1]⟩ (by kernel_rfl) ?_
   refine l_nil ?_
   obtain rfl := Option.some.inj h
   exact And.intro rfl (le_ck (by kernel_rfl))
 ·clear hj
  intro e st' hq
  obtain ⟨rfl, hle⟩ := hq
  refine ⟨_, hle, ?_⟩
  rcases cond_some h with ⟨hb, h⟩ | ⟨hb, h⟩
  ·refine awp_cond_t (b := v2) (by kernel_rfl) hb ?_
   refine awp_seq ?_
   refine awp_region ?_
   refine l_rk 1 tt_ok ⟨77, [(4, (fI (1)))], [], []⟩ (by kernel_rfl) ?_
   refine l_nil ?_
   refine awp_ret ?_
   obtain rfl := Option.some.inj h
   exact (show retX _ _ _ _ = some _ from by kernel_rfl)
  ·refine awp_cond_f (b := v2) (by kernel_rfl) hb ?_
   refine awp_skip ?_
   refine awp_seq ?_
   refine awp_seq ?_
   obtain ⟨v5, hj, h⟩ := Option.bind_eq_some_iff.1 h
   refine awp_join (Qa := fun e st => e = .normal ∧ LeSt st ⟨77, [(2, (.ref 1 0 0)), (3, (.ref 2 0 0)), (30, (fB (v5)))], (synthesisref11_rule_m0 a0 a1), [2, 1]⟩) ?_ ?_
   ·replace h := hj
    clear hj
    refine awp_region ?_
    refine l_rk 4 tt_ok ⟨77, [(2, (.ref 1 0 0)), (3, (.ref 2 0 0)), (21, (fB ((decide (a1.kind < 1)))))], (synthesisref11_rule_m0 a0 a1), [2, 1]⟩ (by kernel_rfl) ?_
    rcases cond_some h with ⟨hb, h⟩ | ⟨hb, h⟩
    ·refine l_le (le_eq (t := 21) (x := .fz (eB (decide (a1.kind < 1)))) (y := .fz (eB true)) (by kernel_rfl) (congrArg (fun b => AV.fz (eB b)) hb)) ?_
     refine l_rk 9 tt_ok ⟨77, [(2, (.ref 1 0 0)), (3, (.ref 2 0 0)), (30, (fB (true)))], (synthesisref11_rule_m0 a0 a1), [2, 1]⟩ (by kernel_rfl) ?_
     refine l_nil ?_
     obtain rfl := Option.some.inj h
     exact And.intro rfl (le_ck (by kernel_rfl))
    ·refine l_le (le_eq (t := 21) (x := .fz (eB (decide (a1.kind < 1)))) (y := .fz (eB false)) (by kernel_rfl) (congrArg (fun b => AV.fz (eB b)) hb)) ?_
     refine l_rk 5 tt_ok ⟨77, [(2, (.ref 1 0 0)), (3, (.ref 2 0 0)), (26, (fB ((decide (3 < a1.kind)))))], (synthesisref11_rule_m0 a0 a1), [2, 1]⟩ (by kernel_rfl) ?_
     rcases cond_some h with ⟨hb, h⟩ | ⟨hb, h⟩
     ·refine l_le (le_eq (t := 26) (x := .fz (eB (decide (3 < a1.kind)))) (y := .fz (eB true)) (by kernel_rfl) (congrArg (fun b => AV.fz (eB b)) hb)) ?_
      refine l_rk 4 tt_ok ⟨77, [(2, (.ref 1 0 0)), (3, (.ref 2 0 0)), (30, (fB (true)))], (synthesisref11_rule_m0 a0 a1), [2, 1]⟩ (by kernel_rfl) ?_
      refine l_nil ?_
      obtain rfl := Option.some.inj h
      exact And.intro rfl (le_ck (by kernel_rfl))
     ·refine l_le (le_eq (t := 26) (x := .fz (eB (decide (3 < a1.kind)))) (y := .fz (eB false)) (by kernel_rfl) (congrArg (fun b => AV.fz (eB b)) hb)) ?_
      refine l_rk 1 tt_ok ⟨77, [(2, (.ref 1 0 0)), (3, (.ref 2 0 0)), (26, (fB (false))), (27, (.fz (eRu (a1))))], (synthesisref11_rule_m0 a0 a1), [2, 1]⟩ (by kernel_rfl) ?_
      obtain ⟨v3, hv3, h⟩ := Option.bind_eq_some_iff.1 h
      refine l_step ((n_call (ys := [eRu (a1)]) (cs := [(.one .keep)]) rfl (by kernel_rfl) (synthesisref11_zero_ok (a1) _ hv3)).step) (by kernel_rfl) (dst_of (by kernel_rfl)) ?_
      refine l_rk 2 tt_ok ⟨77, [(2, (.ref 1 0 0)), (3, (.ref 2 0 0)), (30, (fB ((!v3))))], (synthesisref11_rule_m0 a0 a1), [2, 1]⟩ (by kernel_rfl) ?_
      refine l_nil ?_
      obtain rfl := Option.some.inj h
      exact And.intro rfl (le_ck (by kernel_rfl))
   ·clear hj
    intro e st' hq
    obtain ⟨rfl, hle⟩ := hq
    refine ⟨_, hle, ?_⟩
    rcases cond_some h with ⟨hb, h⟩ | ⟨hb, h⟩
    ·refine awp_cond_t (b := v5) (by kernel_rfl) hb ?_
     refine awp_seq ?_
     refine awp_region ?_
     refine l_rk 1 tt_ok ⟨77, [(4, (fI (4)))], [], []⟩ (by kernel_rfl) ?_
     refine l_nil ?_
     refine awp_ret ?_
     obtain rfl := Option.some.inj h
     exact (show retX _ _ _ _ = some _ from by kernel_rfl)
    ·refine awp_cond_f (b := v5) (by kernel_rfl) hb ?_
     refine awp_skip ?_
     refine awp_seq ?_
     refine awp_region ?_
     refine l_rk 4 tt_ok ⟨77, [(2, (.ref 1 0 0)), (3, (.ref 2 0 0)), (32, (.fz ((eL 2 eSy) (a0.symbols)))), (34, (fI (a1.symbol)))], (synthesisref11_rule_m0 a0 a1), [2, 1]⟩ (by kernel_rfl) ?_
     obtain ⟨v6, hv6, h⟩ := Option.bind_eq_some_iff.1 h
     refine l_step ((s_index (k := .i64) (d := tt24) (e := 72) (de := tt72) (enc := eSy) hv6 tt_ok rfl (by kernel_rfl) (by kernel_rfl) (by kernel_rfl) (by kernel_rfl) len_eSy (by kernel_rfl) rfl).step) (by kernel_rfl) (dst_of (by kernel_rfl)) ?_
     refine l_rk 3 tt_ok ⟨77, [(2, (.ref 1 0 0)), (3, (.ref 2 0 0)), (5, (fI (v6.type)))], (synthesisref11_rule_m0 a0 a1), [2, 1]⟩ (by kernel_rfl) ?_
     refine l_nil ?_
     refine awp_seq ?_
     refine awp_seq ?_
     refine awp_region ?_
     refine l_rk 2 tt_ok ⟨77, [(2, (.ref 1 0 0)), (3, (.ref 2 0 0)), (5, (fI (v6.type))), (39, (fI (a1.kind)))], (synthesisref11_rule_m0 a0 a1), [2, 1]⟩ (by kernel_rfl) ?_
     refine l_nil ?_
     refine awp_block ?_
     refine awp_seq ?_
     refine awp_region ?_
     refine l_rk 2 tt_ok ⟨77, [(2, (.ref 1 0 0)), (3, (.ref 2 0 0)), (5, (fI (v6.type))), (39, (fI (a1.kind))), (40, (fB ((a1.kind == 1))))], (synthesisref11_rule_m0 a0 a1), [2, 1]⟩ (by kernel_rfl) ?_
     refine l_nil ?_
     rcases cond_some h with ⟨hb, h⟩ | ⟨hb, h⟩
     ·refine awp_cond_t (b := (a1.kind == 1)) (by kernel_rfl) hb ?_
      refine awp_seq ?_
      refine awp_seq ?_
      obtain ⟨v8, hj, h⟩ := Option.bind_eq_some_iff.1 h
      refine awp_join (Qa := fun e st => e = .normal ∧ LeSt st ⟨77, [(2, (.ref 1 0 0)), (3, (.ref 2 0 0)), (5, (fI (v6.type))), (52, (fB (v8)))], (synthesisref11_rule_m0 a0 a1), [2, 1]⟩) ?_ ?_
      ·replace h := hj
       clear hj
       refine awp_region ?_
       refine l_rk 4 tt_ok ⟨77, [(2, (.ref 1 0 0)), (3, (.ref 2 0 0)), (5, (fI (v6.type))), (45, (fB ((decide (a1.input < 0)))))], (synthesisref11_rule_m0 a0 a1), [2, 1]⟩ (by kernel_rfl) ?_
       rcases cond_some h with ⟨hb, h⟩ | ⟨hb, h⟩
       ·refine l_le (le_eq (t := 45) (x := .fz (eB (decide (a1.input < 0)))) (y := .fz (eB true)) (by kernel_rfl) (congrArg (fun b => AV.fz (eB b)) hb)) ?_
        refine l_rk 7 tt_ok ⟨77, [(2, (.ref 1 0 0)), (3, (.ref 2 0 0)), (5, (fI (v6.type))), (52, (fB (true)))], (synthesisref11_rule_m0 a0 a1), [2, 1]⟩ (by kernel_rfl) ?_
        refine l_nil ?_
        obtain rfl := Option.some.inj h
        exact And.intro rfl (le_ck (by kernel_rfl))
       ·refine l_le (le_eq (t := 45) (x := .fz (eB (decide (a1.input < 0)))) (y := .fz (eB false)) (by kernel_rfl) (congrArg (fun b => AV.fz (eB b)) hb)) ?_
        refine l_rk 7 tt_ok ⟨77, [(2, (.ref 1 0 0)), (3, (.ref 2 0 0)), (5, (fI (v6.type))), (52, (fB ((decide ((List.length a0.inputs : Int) ≤ a1.input)))))], (synthesisref11_rule_m0 a0 a1), [2, 1]⟩ (by kernel_rfl) ?_
        refine l_nil ?_
        obtain rfl := Option.some.inj h
        exact And.intro rfl (le_ck (by kernel_rfl))
      ·clear hj
       intro e st' hq
       obtain ⟨rfl, hle⟩ := hq
       refine ⟨_, hle, ?_⟩
       rcases cond_some h with ⟨hb, h⟩ | ⟨hb, h⟩
       ·refine awp_cond_t (b := v8) (by kernel_rfl) hb ?_
        refine awp_seq ?_
        refine awp_region ?_
        refine l_rk 1 tt_ok ⟨77, [(4, (fI (1)))], [], []⟩ (by kernel_rfl) ?_
        refine l_nil ?_
        refine awp_ret ?_
        obtain rfl := Option.some.inj h
        exact (show retX _ _ _ _ = some _ from by kernel_rfl)
       ·refine awp_cond_f (b := v8) (by kernel_rfl) hb ?_
        refine awp_skip ?_
        refine awp_seq ?_
        refine awp_seq ?_
        refine awp_region ?_
        refine l_rk 4 tt_ok ⟨77, [(5, (fI (v6.type))), (54, (.fz ((eL 1 eI) (a0.inputs)))), (56, (fI (a1.input)))], [], []⟩ (by kernel_rfl) ?_
        obtain ⟨v9, hv9, h⟩ := Option.bind_eq_some_iff.1 h
        refine l_step ((s_index (k := .i64) (d := tt23) (e := 3) (de := tt3) (enc := eI) hv9 tt_ok rfl (by kernel_rfl) (by kernel_rfl) (by kernel_rfl) (by kernel_rfl) len_eI (by kernel_rfl) rfl).step) (by kernel_rfl) (dst_of (by kernel_rfl)) ?_
        refine l_rk 3 tt_ok ⟨77, [(60, (fB ((v9 != v6.type))))], [], []⟩ (by kernel_rfl) ?_
        refine l_nil ?_
        rcases cond_some h with ⟨hb, h⟩ | ⟨hb, h⟩
        ·refine awp_cond_t (b := (v9 != v6.type)) (by kernel_rfl) hb ?_
         refine awp_seq ?_
         refine awp_region ?_
         refine l_rk 1 tt_ok ⟨77, [(4, (fI (3)))], [], []⟩ (by kernel_rfl) ?_
         refine l_nil ?_
         refine awp_ret ?_
         obtain rfl := Option.some.inj h
         exact (show retX _ _ _ _ = some _ from by kernel_rfl)
        ·refine awp_cond_f (b := (v9 != v6.type)) (by kernel_rfl) hb ?_
         refine awp_skip ?_
         refine awp_seq ?_
         refine awp_region ?_
         refine l_rk 1 tt_ok ⟨77, [(4, (fI (0)))], [], []⟩ (by kernel_rfl) ?_
         refine l_nil ?_
         refine awp_ret ?_
         obtain rfl := Option.some.inj h
         exact (show retX _ _ _ _ = some _ from by kernel_rfl)
     ·refine awp_cond_f (b := (a1.kind == 1)) (by kernel_rfl) hb ?_
      refine awp_seq ?_
      refine awp_region ?_
      refine l_rk 2 tt_ok ⟨77, [(2, (.ref 1 0 0)), (3, (.ref 2 0 0)), (5, (fI (v6.type))), (61, (fB ((a1.kind == 2))))], (synthesisref11_rule_m0 a0 a1), [2, 1]⟩ (by kernel_rfl) ?_
      refine l_nil ?_
      rcases cond_some h with ⟨hb, h⟩ | ⟨hb, h⟩
      ·refine awp_cond_t (b := (a1.kind == 2)) (by kernel_rfl) hb ?_
       refine awp_seq ?_
       refine awp_seq ?_
       refine awp_region ?_
       refine l_rk 2 tt_ok ⟨77, [(3, (.ref 2 0 0)), (5, (fI (v6.type))), (64, (.fz (eVa (a1.const))))], (synthesisref11_rule_m1 a1), [2]⟩ (by kernel_rfl) ?_
       obtain ⟨v10, hv10, h⟩ := Option.bind_eq_some_iff.1 h
       refine l_step ((n_call (ys := [eVa (a1.const)]) (cs := [(.one .keep)]) rfl (by kernel_rfl) (synthesisref01_Check_ok fuel (a1.const) _ hv10)).step) (by kernel_rfl) (dst_of (by kernel_rfl)) ?_
       refine l_rk 1 tt_ok ⟨77, [(3, (.ref 2 0 0)), (5, (fI (v6.type))), (6, (fI (v10)))], (synthesisref11_rule_m1 a1), [2]⟩ (by kernel_rfl) ?_
       refine l_nil ?_
       refine awp_seq ?_
       refine awp_region ?_
       refine l_rk 2 tt_ok ⟨77, [(3, (.ref 2 0 0)), (5, (fI (v6.type))), (6, (fI (v10))), (67, (fB ((v10 != 0))))], (synthesisref11_rule_m1 a1), [2]⟩ (by kernel_rfl) ?_
       refine l_nil ?_
       rcases cond_some h with ⟨hb, h⟩ | ⟨hb, h⟩
       ·refine awp_cond_t (b := (v10 != 0)) (by kernel_rfl) hb ?_
        refine awp_seq ?_
        refine awp_region ?_
        refine l_rk 2 tt_ok ⟨77, [(4, (fI (v10)))], [], []⟩ (by kernel_rfl) ?_
        refine l_nil ?_
        refine awp_ret ?_
        obtain rfl := Option.some.inj h
        exact (show retX _ _ _ _ = some _ from by kernel_rfl)
       ·refine awp_cond_f (b := (v10 != 0)) (by kernel_rfl) hb ?_
        refine awp_skip ?_
        refine awp_seq ?_
        refine awp_seq ?_
        refine awp_region ?_
        refine l_rk 5 tt_ok ⟨77, [(73, (fB ((a1.const.type != v6.type))))], [], []⟩ (by kernel_rfl) ?_
        refine l_nil ?_
        rcases cond_some h with ⟨hb, h⟩ | ⟨hb, h⟩
        ·refine awp_cond_t (b := (a1.const.type != v6.type)) (by kernel_rfl) hb ?_
         refine awp_seq ?_
         refine awp_region ?_
         refine l_rk 1 tt_ok ⟨77, [(4, (fI (3)))], [], []⟩ (by kernel_rfl) ?_
         refine l_nil ?_
         refine awp_ret ?_
         obtain rfl := Option.some.inj h
         exact (show retX _ _ _ _ = some _ from by kernel_rfl)
        ·refine awp_cond_f (b := (a1.const.type != v6.type)) (by kernel_rfl) hb ?_
         refine awp_skip ?_
         refine awp_seq ?_
         refine awp_region ?_
         refine l_rk 1 tt_ok ⟨77, [(4, (fI (0)))], [], []⟩ (by kernel_rfl) ?_
         refine l_nil ?_
         refine awp_ret ?_
         obtain rfl := Option.some.inj h
         exact (show retX _ _ _ _ = some _ from by kernel_rfl)
      ·refine awp_cond_f (b := (a1.kind == 2)) (by kernel_rfl) hb ?_
       refine awp_skip ?_
       refine awp_seq ?_
       refine awp_region ?_
       refine l_rk 2 tt_ok ⟨77, [(74, (.fz (eLa (a0)))), (75, (.fz (eRu (a1))))], [], []⟩ (by kernel_rfl) ?_
       obtain ⟨v11, hv11, h⟩ := Option.bind_eq_some_iff.1 h
       refine l_step ((n_call (ys := [eLa (a0), eRu (a1)]) (cs := [(.one .keep), (.one .keep)]) rfl (by kernel_rfl) (synthesisref11_operation_ok (a0) (a1) _ hv11)).step) (by kernel_rfl) (dst_of (by kernel_rfl)) ?_
       refine l_rk 1 tt_ok ⟨77, [(4, (fI (v11)))], [], []⟩ (by kernel_rfl) ?_
       refine l_nil ?_
       refine awp_ret ?_
       obtain rfl := Option.some.inj h
       exact (show retX _ _ _ _ = some _ from by kernel_rfl)
end Go.Proofs.Ytaeicmnimjfbaaa
