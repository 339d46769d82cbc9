/- Typed programs and what computes them. -/
import Derived.Test.YtaeicmnimjfbaaaTT
set_option linter.unusedVariables false
set_option linter.unusedSimpArgs false
set_option maxRecDepth 100000
namespace Go.Proofs.Ytaeicmnimjfbaaa
open Go Go.RowKit Go.Proofs
def value_unused_m0 (a0 : Va) : List (Nat × AObj) := [(1, (.box 65 [(fI (a0.type)), (fI (a0.num)), (fS (a0.text)), (.fz ((eL 4 eVaR) (a0.items)))]))]
def value_unused (a0 : Va) : Option (Bool) := (Option.bind ((bif (a0.type == 1) then (some ((a0.type == 1))) else (bif (a0.type == 2) then (some ((a0.type == 2))) else (some ((a0.type == 4))))) : Option ((Bool))) fun (v2 : (Bool)) => (bif v2 then (Option.bind ((bif (a0.text.toList == (⟨#[]⟩ : ByteArray).toList) then (some (((List.length a0.items : Int) == 0))) else (some (false))) : Option ((Bool))) fun (v4 : (Bool)) => (some v4)) else (Option.bind ((bif (a0.type == 3) then (some ((a0.type == 3))) else (some ((a0.type == 8)))) : Option ((Bool))) fun (v6 : (Bool)) => (bif v6 then (Option.bind ((bif (a0.num == 0) then (some (((List.length a0.items : Int) == 0))) else (some (false))) : Option ((Bool))) fun (v8 : (Bool)) => (some v8)) else (Option.bind ((bif (a0.num == 0) then (some ((a0.text.toList == (⟨#[]⟩ : ByteArray).toList))) else (some (false))) : Option ((Bool))) fun (v10 : (Bool)) => (some v10))))))
theorem value_unused_ok (a0 : Va) (r : Bool) (h : value_unused a0 = some r) : PCall Try.prog 163 [eVa a0] (eB (r)) := by
 unfold value_unused at h
 refine pcall_intro (T := TT) tt_ok [.one .keep] Try.func163 rfl (by kernel_rfl) (by kernel_rfl) ?_
 refine awp_le (st' := ⟨38, [(0, (.fz (eVa (a0))))], [], []⟩) (le_ck (by kernel_rfl)) ?_
 refine awp_seq ?_
 refine awp_region ?_
 refine l_rk 2 tt_ok ⟨38, [(1, (.ref 1 0 0))], (value_unused_m0 a0), [1]⟩ (by kernel_rfl) ?_
 refine l_nil ?_
 refine awp_seq ?_
 refine awp_seq ?_
 refine awp_region ?_
 refine l_rk 2 tt_ok ⟨38, [(1, (.ref 1 0 0)), (4, (fI (a0.type)))], (value_unused_m0 a0), [1]⟩ (by kernel_rfl) ?_
 refine l_nil ?_
 refine awp_block ?_
 refine awp_seq ?_
 obtain ⟨v2, hj, h⟩ := Option.bind_eq_some_iff.1 h
 refine awp_join (Qa := fun e st => e = .normal ∧ LeSt st ⟨38, [(1, (.ref 1 0 0)), (4, (fI (a0.type))), (5, (fB (v2)))], (value_unused_m0 a0), [1]⟩) ?_ ?_
 ·replace h := hj
  clear hj
  refine awp_seq ?_
  refine awp_region ?_
  refine l_rk 2 tt_ok ⟨38, [(1, (.ref 1 0 0)), (4, (fI (a0.type))), (5, (fB ((a0.type == 1))))], (value_unused_m0 a0), [1]⟩ (by kernel_rfl) ?_
  refine l_nil ?_
  rcases cond_some h with ⟨hb, h⟩ | ⟨hb, h⟩
  ·refine awp_cond_t (b := (a0.type == 1)) (by kernel_rfl) hb ?_
   refine awp_skip ?_
   obtain rfl := Option.some.inj h
   exact And.intro rfl (le_ck (by kernel_rfl))
  ·refine awp_cond_f (b := (a0.type == 1)) (by kernel_rfl) hb ?_
   refine awp_seq ?_
   refine awp_region ?_
   refine l_rk 2 tt_ok ⟨38, [(1, (.ref 1 0 0)), (4, (fI (a0.type))), (5, (fB ((a0.type == 2))))], (value_unused_m0 a0), [1]⟩ (by kernel_rfl) ?_
   refine l_nil ?_
   rcases cond_some h with ⟨hb, h⟩ | ⟨hb, h⟩
   ·refine awp_cond_t (b := (a0.type == 2)) (by kernel_rfl) hb ?_
    refine awp_skip ?_
    obtain rfl := Option.some.inj h
    exact And.intro rfl (le_ck (by kernel_rfl))
   ·refine awp_cond_f (b := (a0.type == 2)) (by kernel_rfl) hb ?_
    refine awp_region ?_
    refine l_rk 2 tt_ok ⟨38, [(1, (.ref 1 0 0)), (4, (fI (a0.type))), (5, (fB ((a0.type == 4))))], (value_unused_m0 a0), [1]⟩ (by kernel_rfl) ?_
    refine l_nil ?_
    obtain rfl := Option.some.inj h
    exact And.intro rfl (le_ck (by kernel_rfl))
 ·clear hj
  intro e st' hq
  obtain ⟨rfl, hle⟩ := hq
  refine ⟨_, hle, ?_⟩
  rcases cond_some h with ⟨hb, h⟩ | ⟨hb, h⟩
  ·refine awp_cond_t (b := v2) (by kernel_rfl) hb ?_
   refine awp_seq ?_
   obtain ⟨v4, hj, h⟩ := Option.bind_eq_some_iff.1 h
   refine awp_join (Qa := fun e st => e = .normal ∧ LeSt st ⟨38, [(2, (fB (v4)))], [], []⟩) ?_ ?_
   ·replace h := hj
    clear hj
    refine awp_region ?_
    refine l_rk 4 tt_ok ⟨38, [(1, (.ref 1 0 0)), (12, (fB ((a0.text.toList == (⟨#[]⟩ : ByteArray).toList))))], (value_unused_m0 a0), [1]⟩ (by kernel_rfl) ?_
    rcases cond_some h with ⟨hb, h⟩ | ⟨hb, h⟩
    ·refine l_le (le_eq (t := 12) (x := .fz (eB (a0.text.toList == (⟨#[]⟩ : ByteArray).toList))) (y := .fz (eB true)) (by kernel_rfl) (congrArg (fun b => AV.fz (eB b)) hb)) ?_
     refine l_rk 6 tt_ok ⟨38, [(2, (fB (((List.length a0.items : Int) == 0))))], [], []⟩ (by kernel_rfl) ?_
     refine l_nil ?_
     obtain rfl := Option.some.inj h
     exact And.intro rfl (le_ck (by kernel_rfl))
    ·refine l_le (le_eq (t := 12) (x := .fz (eB (a0.text.toList == (⟨#[]⟩ : ByteArray).toList))) (y := .fz (eB false)) (by kernel_rfl) (congrArg (fun b => AV.fz (eB b)) hb)) ?_
     refine l_rk 6 tt_ok ⟨38, [(2, (fB (false)))], [], []⟩ (by kernel_rfl) ?_
     refine l_nil ?_
     obtain rfl := Option.some.inj h
     exact And.intro rfl (le_ck (by kernel_rfl))
   ·clear hj
    intro e st' hq
    obtain ⟨rfl, hle⟩ := hq
    refine ⟨_, hle, ?_⟩
    refine awp_ret ?_
    obtain rfl := Option.some.inj h
    exact (show retX _ _ _ _ = some _ from by kernel_rfl)
  ·refine awp_cond_f (b := v2) (by kernel_rfl) hb ?_
   refine awp_seq ?_
   obtain ⟨v6, hj, h⟩ := Option.bind_eq_some_iff.1 h
   refine awp_join (Qa := fun e st => e = .normal ∧ LeSt st ⟨38, [(1, (.ref 1 0 0)), (18, (fB (v6)))], (value_unused_m0 a0), [1]⟩) ?_ ?_
   ·replace h := hj
    clear hj
    refine awp_seq ?_
    refine awp_region ?_
    refine l_rk 2 tt_ok ⟨38, [(1, (.ref 1 0 0)), (4, (fI (a0.type))), (18, (fB ((a0.type == 3))))], (value_unused_m0 a0), [1]⟩ (by kernel_rfl) ?_
    refine l_nil ?_
    rcases cond_some h with ⟨hb, h⟩ | ⟨hb, h⟩
    ·refine awp_cond_t (b := (a0.type == 3)) (by kernel_rfl) hb ?_
     refine awp_skip ?_
     obtain rfl := Option.some.inj h
     exact And.intro rfl (le_ck (by kernel_rfl))
    ·refine awp_cond_f (b := (a0.type == 3)) (by kernel_rfl) hb ?_
     refine awp_region ?_
     refine l_rk 2 tt_ok ⟨38, [(1, (.ref 1 0 0)), (18, (fB ((a0.type == 8))))], (value_unused_m0 a0), [1]⟩ (by kernel_rfl) ?_
     refine l_nil ?_
     obtain rfl := Option.some.inj h
     exact And.intro rfl (le_ck (by kernel_rfl))
   ·clear hj
    intro e st' hq
    obtain ⟨rfl, hle⟩ := hq
    refine ⟨_, hle, ?_⟩
    rcases cond_some h with ⟨hb, h⟩ | ⟨hb, h⟩
    ·refine awp_cond_t (b := v6) (by kernel_rfl) hb ?_
     refine awp_seq ?_
     obtain ⟨v8, hj, h⟩ := Option.bind_eq_some_iff.1 h
     refine awp_join (Qa := fun e st => e = .normal ∧ LeSt st ⟨38, [(2, (fB (v8)))], [], []⟩) ?_ ?_
     ·replace h := hj
      clear hj
      refine awp_region ?_
      refine l_rk 4 tt_ok ⟨38, [(1, (.ref 1 0 0)), (24, (fB ((a0.num == 0))))], (value_unused_m0 a0), [1]⟩ (by kernel_rfl) ?_
      rcases cond_some h with ⟨hb, h⟩ | ⟨hb, h⟩
      ·refine l_le (le_eq (t := 24) (x := .fz (eB (a0.num == 0))) (y := .fz (eB true)) (by kernel_rfl) (congrArg (fun b => AV.fz (eB b)) hb)) ?_
       refine l_rk 6 tt_ok ⟨38, [(2, (fB (((List.length a0.items : Int) == 0))))], [], []⟩ (by kernel_rfl) ?_
       refine l_nil ?_
       obtain rfl := Option.some.inj h
       exact And.intro rfl (le_ck (by kernel_rfl))
      ·refine l_le (le_eq (t := 24) (x := .fz (eB (a0.num == 0))) (y := .fz (eB false)) (by kernel_rfl) (congrArg (fun b => AV.fz (eB b)) hb)) ?_
       refine l_rk 6 tt_ok ⟨38, [(2, (fB (false)))], [], []⟩ (by kernel_rfl) ?_
       refine l_nil ?_
       obtain rfl := Option.some.inj h
       exact And.intro rfl (le_ck (by kernel_rfl))
     ·clear hj
      intro e st' hq
      obtain ⟨rfl, hle⟩ := hq
      refine ⟨_, hle, ?_⟩
      refine awp_ret ?_
      obtain rfl := Option.some.inj h
      exact (show retX _ _ _ _ = some _ from by kernel_rfl)
    ·refine awp_cond_f (b := v6) (by kernel_rfl) hb ?_
     refine awp_skip ?_
     refine awp_seq ?_
     obtain ⟨v10, hj, h⟩ := Option.bind_eq_some_iff.1 h
     refine awp_join (Qa := fun e st => e = .normal ∧ LeSt st ⟨38, [(2, (fB (v10)))], [], []⟩) ?_ ?_
     ·replace h := hj
      clear hj
      refine awp_region ?_
      refine l_rk 4 tt_ok ⟨38, [(1, (.ref 1 0 0)), (33, (fB ((a0.num == 0))))], (value_unused_m0 a0), [1]⟩ (by kernel_rfl) ?_
      rcases cond_some h with ⟨hb, h⟩ | ⟨hb, h⟩
      ·refine l_le (le_eq (t := 33) (x := .fz (eB (a0.num == 0))) (y := .fz (eB true)) (by kernel_rfl) (congrArg (fun b => AV.fz (eB b)) hb)) ?_
       refine l_rk 5 tt_ok ⟨38, [(2, (fB ((a0.text.toList == (⟨#[]⟩ : ByteArray).toList))))], [], []⟩ (by kernel_rfl) ?_
       refine l_nil ?_
       obtain rfl := Option.some.inj h
       exact And.intro rfl (le_ck (by kernel_rfl))
      ·refine l_le (le_eq (t := 33) (x := .fz (eB (a0.num == 0))) (y := .fz (eB false)) (by kernel_rfl) (congrArg (fun b => AV.fz (eB b)) hb)) ?_
       refine l_rk 5 tt_ok ⟨38, [(2, (fB (false)))], [], []⟩ (by kernel_rfl) ?_
       refine l_nil ?_
       obtain rfl := Option.some.inj h
       exact And.intro rfl (le_ck (by kernel_rfl))
     ·clear hj
      intro e st' hq
      obtain ⟨rfl, hle⟩ := hq
      refine ⟨_, hle, ?_⟩
      refine awp_ret ?_
      obtain rfl := Option.some.inj h
      exact (show retX _ _ _ _ = some _ from by kernel_rfl)

def value_ranged (a0 : Int) (a1 : Int) (a2 : Int) : Option (Int) := (Option.bind ((bif (decide (a0 < a1)) then (some (true)) else (some ((decide (a2 < a0))))) : Option ((Bool))) fun (v2 : (Bool)) => (bif v2 then (some 1) else (some 0)))
theorem value_ranged_ok (a0 : Int) (a1 : Int) (a2 : Int) (r : Int) (h : value_ranged a0 a1 a2 = some r) : PCall Try.prog 164 [eI a0, eI a1, eI a2] (eI (r)) := by
 unfold value_ranged at h
 refine pcall_intro (T := TT) tt_ok [.one .keep] Try.func164 rfl (by kernel_rfl) (by kernel_rfl) ?_
 refine awp_le (st' := ⟨15, [(0, (fI (a0))), (1, (fI (a1))), (2, (fI (a2)))], [], []⟩) (le_ck (by kernel_rfl)) ?_
 refine awp_seq ?_
 refine awp_region ?_
 refine l_rk 1 tt_ok ⟨15, [(0, (fI (a0))), (1, (fI (a1))), (2, (fI (a2)))], [], []⟩ (by kernel_rfl) ?_
 refine l_nil ?_
 refine awp_seq ?_
 refine awp_seq ?_
 obtain ⟨v2, hj, h⟩ := Option.bind_eq_some_iff.1 h
 refine awp_join (Qa := fun e st => e = .normal ∧ LeSt st ⟨15, [(14, (fB (v2)))], [], []⟩) ?_ ?_
 ·replace h := hj
  clear hj
  refine awp_region ?_
  refine l_rk 4 tt_ok ⟨15, [(0, (fI (a0))), (2, (fI (a2))), (10, (fB ((decide (a0 < a1)))))], [], []⟩ (by kernel_rfl) ?_
  rcases cond_some h with ⟨hb, h⟩ | ⟨hb, h⟩
  ·refine l_le (le_eq (t := 10) (x := .fz (eB (decide (a0 < a1)))) (y := .fz (eB true)) (by kernel_rfl) (congrArg (fun b => AV.fz (eB b)) hb)) ?_
   refine l_rk 4 tt_ok ⟨15, [(14, (fB (true)))], [], []⟩ (by kernel_rfl) ?_
   refine l_nil ?_
   obtain rfl := Option.some.inj h
   exact And.intro rfl (le_ck (by kernel_rfl))
  ·refine l_le (le_eq (t := 10) (x := .fz (eB (decide (a0 < a1)))) (y := .fz (eB false)) (by kernel_rfl) (congrArg (fun b => AV.fz (eB b)) hb)) ?_
   refine l_rk 4 tt_ok ⟨15, [(14, (fB ((decide (a2 < a0)))))], [], []⟩ (by kernel_rfl) ?_
   refine l_nil ?_
   obtain rfl := Option.some.inj h
   exact And.intro rfl (le_ck (by kernel_rfl))
 ·clear hj
  intro e st' hq
  obtain ⟨rfl, hle⟩ := hq
  refine ⟨_, hle, ?_⟩
  rcases cond_some h with ⟨hb, h⟩ | ⟨hb, h⟩
  ·refine awp_cond_t (b := v2) (by kernel_rfl) hb ?_
   refine awp_seq ?_
   refine awp_region ?_
   refine l_rk 1 tt_ok ⟨15, [(6, (fI (1)))], [], []⟩ (by kernel_rfl) ?_
   refine l_nil ?_
   refine awp_ret ?_
   obtain rfl := Option.some.inj h
   exact (show retX _ _ _ _ = some _ from by kernel_rfl)
  ·refine awp_cond_f (b := v2) (by kernel_rfl) hb ?_
   refine awp_skip ?_
   refine awp_seq ?_
   refine awp_region ?_
   refine l_rk 1 tt_ok ⟨15, [(6, (fI (0)))], [], []⟩ (by kernel_rfl) ?_
   refine l_nil ?_
   refine awp_ret ?_
   obtain rfl := Option.some.inj h
   exact (show retX _ _ _ _ = some _ from by kernel_rfl)

def value_printed_l1 (a0 : ByteArray) (v1 : (Int)) : Option (((Int)) ⊕ (((Unit) ⊕ (Bool)))) := (bif (decide (v1 < (a0.size : Int))) then (Option.bind ((Option.bind (byt a0 v1) fun v2 => (bif (decide (v2 < 32)) then (some (true)) else (Option.bind (byt a0 v1) fun v3 => (some ((decide (126 < v3))))))) : Option ((Bool))) fun (v5 : (Bool)) => (bif v5 then (some (.inr (.inr false))) else (some (.inl ((w64 (v1 + 1))))))) else (some (.inr (.inl ()))))
def value_printed (a0 : ByteArray) : Option (Bool) := (Option.bind (loopN (value_printed_l1 a0) fuel (0)) fun (v6 : ((Unit) ⊕ (Bool))) => Sum.elim (fun v7 => (some true)) (fun v8 => (some v8)) v6)
theorem value_printed_ok (a0 : ByteArray) (r : Bool) (h : value_printed a0 = some r) : PCall Try.prog 187 [eS a0] (eB (r)) := by
 unfold value_printed at h
 refine pcall_intro (T := TT) tt_ok [.one .keep] Try.func187 rfl (by kernel_rfl) (by kernel_rfl) ?_
 refine awp_le (st' := ⟨20, [(0, (fS (a0)))], [], []⟩) (le_ck (by kernel_rfl)) ?_
 refine awp_seq ?_
 refine awp_region ?_
 refine l_rk 1 tt_ok ⟨20, [(0, (fS (a0)))], [], []⟩ (by kernel_rfl) ?_
 refine l_nil ?_
 refine awp_seq ?_
 refine awp_seq ?_
 refine awp_region ?_
 refine l_rk 1 tt_ok ⟨20, [(0, (fS (a0))), (3, (fI (0)))], [], []⟩ (by kernel_rfl) ?_
 refine l_nil ?_
 refine awp_block ?_
 obtain ⟨v6, hj, h⟩ := Option.bind_eq_some_iff.1 h
 refine awp_join (Qa := fun e st => Sum.elim (fun p => e = .exit 0 ∧ LeSt st ⟨20, [], [], []⟩) (fun p => e = .ret ∧ retX TT st Try.f187.results.toList [.one .keep] = some (eB (p))) v6) ?_ ?_
 ·refine awp_loopS (stOf := fun v1 => ⟨20, [(0, (fS (a0))), (3, (fI (v1)))], [], []⟩) (Qb := fun j e st => Sum.elim (fun p => e = .exit 0 ∧ LeSt st ⟨20, [], [], []⟩) (fun p => e = .ret ∧ retX TT st Try.f187.results.toList [.one .keep] = some (eB (p))) j) hj (le_ck (by kernel_rfl)) ?_
  clear hj h
  intro v1 r h
  unfold value_printed_l1 at h
  refine awp_seq ?_
  refine awp_seq ?_
  refine awp_region ?_
  refine l_rk 4 tt_ok ⟨20, [(0, (fS (a0))), (3, (fI (v1))), (7, (fB ((decide (v1 < (a0.size : Int))))))], [], []⟩ (by kernel_rfl) ?_
  refine l_nil ?_
  rcases cond_some h with ⟨hb, h⟩ | ⟨hb, h⟩
  ·refine awp_cond_t (b := (decide (v1 < (a0.size : Int)))) (by kernel_rfl) hb ?_
   refine awp_skip ?_
   refine awp_seq ?_
   refine awp_block ?_
   refine awp_seq ?_
   obtain ⟨v5, hj, h⟩ := Option.bind_eq_some_iff.1 h
   refine awp_join (Qa := fun e st => e = .normal ∧ LeSt st ⟨20, [(0, (fS (a0))), (3, (fI (v1))), (19, (fB (v5)))], [], []⟩) ?_ ?_
   ·replace h := hj
    clear hj
    refine awp_region ?_
    refine l_rk 2 tt_ok ⟨20, [(0, (fS (a0))), (3, (fI (v1))), (10, (fS (a0))), (11, (fI (v1)))], [], []⟩ (by kernel_rfl) ?_
    obtain ⟨v2, hv2, h⟩ := Option.bind_eq_some_iff.1 h
    refine l_step ((s_byte (k := .i64) (d := tt9) (s := a0) hv2 tt_ok rfl (by kernel_rfl) (by kernel_rfl) (by kernel_rfl) (by kernel_rfl)).step) (by kernel_rfl) (dst_of (by kernel_rfl)) ?_
    refine l_rk 2 tt_ok ⟨20, [(0, (fS (a0))), (3, (fI (v1))), (14, (fB ((decide (v2 < 32)))))], [], []⟩ (by kernel_rfl) ?_
    rcases cond_some h with ⟨hb, h⟩ | ⟨hb, h⟩
    ·refine l_le (le_eq (t := 14) (x := .fz (eB (decide (v2 < 32)))) (y := .fz (eB true)) (by kernel_rfl) (congrArg (fun b => AV.fz (eB b)) hb)) ?_
     refine l_rk 5 tt_ok ⟨20, [(0, (fS (a0))), (3, (fI (v1))), (19, (fB (true)))], [], []⟩ (by kernel_rfl) ?_
     refine l_nil ?_
     obtain rfl := Option.some.inj h
     exact And.intro rfl (le_ck (by kernel_rfl))
    ·refine l_le (le_eq (t := 14) (x := .fz (eB (decide (v2 < 32)))) (y := .fz (eB false)) (by kernel_rfl) (congrArg (fun b => AV.fz (eB b)) hb)) ?_
     refine l_rk 2 tt_ok ⟨20, [(0, (fS (a0))), (3, (fI (v1))), (14, (fB (false))), (15, (fS (a0))), (16, (fI (v1)))], [], []⟩ (by kernel_rfl) ?_
     obtain ⟨v3, hv3, h⟩ := Option.bind_eq_some_iff.1 h
     refine l_step ((s_byte (k := .i64) (d := tt9) (s := a0) hv3 tt_ok rfl (by kernel_rfl) (by kernel_rfl) (by kernel_rfl) (by kernel_rfl)).step) (by kernel_rfl) (dst_of (by kernel_rfl)) ?_
     refine l_rk 2 tt_ok ⟨20, [(0, (fS (a0))), (3, (fI (v1))), (19, (fB ((decide (126 < v3)))))], [], []⟩ (by kernel_rfl) ?_
     refine l_nil ?_
     obtain rfl := Option.some.inj h
     exact And.intro rfl (le_ck (by kernel_rfl))
   ·clear hj
    intro e st' hq
    obtain ⟨rfl, hle⟩ := hq
    refine ⟨_, hle, ?_⟩
    rcases cond_some h with ⟨hb, h⟩ | ⟨hb, h⟩
    ·refine awp_cond_t (b := v5) (by kernel_rfl) hb ?_
     refine awp_seq ?_
     refine awp_region ?_
     refine l_rk 1 tt_ok ⟨20, [(2, (fB (false)))], [], []⟩ (by kernel_rfl) ?_
     refine l_nil ?_
     refine awp_ret ?_
     obtain rfl := Option.some.inj h
     exact And.intro (And.intro (fun h => nomatch h) (fun h => nomatch h)) (And.intro rfl (show retX _ _ _ _ = some _ from by kernel_rfl))
    ·refine awp_cond_f (b := v5) (by kernel_rfl) hb ?_
     refine awp_skip ?_
     refine awp_region ?_
     refine l_rk 3 tt_ok ⟨20, [(0, (fS (a0))), (3, (fI ((w64 (v1 + 1)))))], [], []⟩ (by kernel_rfl) ?_
     refine l_nil ?_
     obtain rfl := Option.some.inj h
     exact And.intro rfl (le_ck (by kernel_rfl))
  ·refine awp_cond_f (b := (decide (v1 < (a0.size : Int)))) (by kernel_rfl) hb ?_
   refine awp_exit ?_
   obtain rfl := Option.some.inj h
   exact And.intro (And.intro (fun h => nomatch h) (fun h => nomatch h)) (And.intro rfl (le_ck (by kernel_rfl)))
 ·clear hj
  intro e st' hq
  rcases v6 with v7 | v8
  ·try simp only [Sum.elim_inl, Sum.elim_inr] at h
   obtain ⟨rfl, hle⟩ := hq
   refine ⟨_, hle, ?_⟩
   refine awp_seq ?_
   refine awp_region ?_
   refine l_rk 1 tt_ok ⟨20, [(2, (fB (true)))], [], []⟩ (by kernel_rfl) ?_
   refine l_nil ?_
   refine awp_ret ?_
   obtain rfl := Option.some.inj h
   exact (show retX _ _ _ _ = some _ from by kernel_rfl)
  ·try simp only [Sum.elim_inl, Sum.elim_inr] at h
   obtain ⟨rfl, hret⟩ := hq
   refine ⟨_, LeSt.refl, ?_⟩
   obtain rfl := Option.some.inj h
   exact hret

def value_sized (a0 : ByteArray) (a1 : Int) (a2 : Int) : Option (Int) := (Option.bind ((bif (decide ((a0.size : Int) < a1)) then (some (true)) else (some ((decide (a2 < (a0.size : Int)))))) : Option ((Bool))) fun (v2 : (Bool)) => (bif v2 then (some 2) else (Option.bind (value_printed (a0)) fun v3 => (bif (!v3) then (some 1) else (some 0)))))
theorem value_sized_ok (a0 : ByteArray) (a1 : Int) (a2 : Int) (r : Int) (h : value_sized a0 a1 a2 = some r) : PCall Try.prog 165 [eS a0, eI a1, eI a2] (eI (r)) := by
 unfold value_sized at h
 refine pcall_intro (T := TT) tt_ok [.one .keep] Try.func165 rfl (by kernel_rfl) (by kernel_rfl) ?_
 refine awp_le (st' := ⟨20, [(0, (fS (a0))), (1, (fI (a1))), (2, (fI (a2)))], [], []⟩) (le_ck (by kernel_rfl)) ?_
 refine awp_seq ?_
 refine awp_region ?_
 refine l_rk 1 tt_ok ⟨20, [(0, (fS (a0))), (1, (fI (a1))), (2, (fI (a2)))], [], []⟩ (by kernel_rfl) ?_
 refine l_nil ?_
 refine awp_seq ?_
 refine awp_seq ?_
 obtain ⟨v2, hj, h⟩ := Option.bind_eq_some_iff.1 h
 refine awp_join (Qa := fun e st => e = .normal ∧ LeSt st ⟨20, [(0, (fS (a0))), (16, (fB (v2)))], [], []⟩) ?_ ?_
 ·replace h := hj
  clear hj
  refine awp_region ?_
  refine l_rk 5 tt_ok ⟨20, [(0, (fS (a0))), (2, (fI (a2))), (11, (fB ((decide ((a0.size : Int) < a1)))))], [], []⟩ (by kernel_rfl) ?_
  rcases cond_some h with ⟨hb, h⟩ | ⟨hb, h⟩
  ·refine l_le (le_eq (t := 11) (x := .fz (eB (decide ((a0.size : Int) < a1)))) (y := .fz (eB true)) (by kernel_rfl) (congrArg (fun b => AV.fz (eB b)) hb)) ?_
   refine l_rk 5 tt_ok ⟨20, [(0, (fS (a0))), (16, (fB (true)))], [], []⟩ (by kernel_rfl) ?_
   refine l_nil ?_
   obtain rfl := Option.some.inj h
   exact And.intro rfl (le_ck (by kernel_rfl))
  ·refine l_le (le_eq (t := 11) (x := .fz (eB (decide ((a0.size : Int) < a1)))) (y := .fz (eB false)) (by kernel_rfl) (congrArg (fun b => AV.fz (eB b)) hb)) ?_
   refine l_rk 5 tt_ok ⟨20, [(0, (fS (a0))), (16, (fB ((decide (a2 < (a0.size : Int))))))], [], []⟩ (by kernel_rfl) ?_
   refine l_nil ?_
   obtain rfl := Option.some.inj h
   exact And.intro rfl (le_ck (by kernel_rfl))
 ·clear hj
  intro e st' hq
  obtain ⟨rfl, hle⟩ := hq
  refine ⟨_, hle, ?_⟩
  rcases cond_some h with ⟨hb, h⟩ | ⟨hb, h⟩
  ·refine awp_cond_t (b := v2) (by kernel_rfl) hb ?_
   refine awp_seq ?_
   refine awp_region ?_
   refine l_rk 1 tt_ok ⟨20, [(6, (fI (2)))], [], []⟩ (by kernel_rfl) ?_
   refine l_nil ?_
   refine awp_ret ?_
   obtain rfl := Option.some.inj h
   exact (show retX _ _ _ _ = some _ from by kernel_rfl)
  ·refine awp_cond_f (b := v2) (by kernel_rfl) hb ?_
   refine awp_skip ?_
   refine awp_seq ?_
   refine awp_seq ?_
   refine awp_region ?_
   refine l_rk 1 tt_ok ⟨20, [(17, (fS (a0)))], [], []⟩ (by kernel_rfl) ?_
   obtain ⟨v3, hv3, h⟩ := Option.bind_eq_some_iff.1 h
   refine l_step ((n_call (ys := [eS (a0)]) (cs := [(.one (.keep))]) rfl (by kernel_rfl) (value_printed_ok (a0) _ hv3)).step) (by kernel_rfl) (dst_of (by kernel_rfl)) ?_
   refine l_rk 1 tt_ok ⟨20, [(19, (fB ((!v3))))], [], []⟩ (by kernel_rfl) ?_
   refine l_nil ?_
   rcases cond_some h with ⟨hb, h⟩ | ⟨hb, h⟩
   ·refine awp_cond_t (b := (!v3)) (by kernel_rfl) hb ?_
    refine awp_seq ?_
    refine awp_region ?_
    refine l_rk 1 tt_ok ⟨20, [(6, (fI (1)))], [], []⟩ (by kernel_rfl) ?_
    refine l_nil ?_
    refine awp_ret ?_
    obtain rfl := Option.some.inj h
    exact (show retX _ _ _ _ = some _ from by kernel_rfl)
   ·refine awp_cond_f (b := (!v3)) (by kernel_rfl) hb ?_
    refine awp_skip ?_
    refine awp_seq ?_
    refine awp_region ?_
    refine l_rk 1 tt_ok ⟨20, [(6, (fI (0)))], [], []⟩ (by kernel_rfl) ?_
    refine l_nil ?_
    refine awp_ret ?_
    obtain rfl := Option.some.inj h
    exact (show retX _ _ _ _ = some _ from by kernel_rfl)

def value_Check_m0 (a0 : Va) : List (Nat × AObj) := [(1, (.box 65 [(fI (a0.type)), (fI (a0.num)), (fS (a0.text)), (.fz ((eL 4 eVaR) (a0.items)))]))]
def value_Check_b (r128 : (Va) → Option (Int)) (r166 : (List Va) → (Int) → Option (Int)) (r167 : (List Va) → Option (Int)) (a0 : Va) : Option (Int) := (Option.bind ((bif (decide (a0.type < 1)) then (some (true)) else (some ((decide (8 < a0.type))))) : Option ((Bool))) fun (v2 : (Bool)) => (bif v2 then (some 3) else (Option.bind (value_unused (a0)) fun v3 => (bif (!v3) then (some 4) else (Option.bind ((Option.bind ((Option.bind ((Option.bind ((bif (a0.type == 1) then (Option.bind (value_ranged (a0.num) (0) (1)) fun v4 => (some (.inr (.inr (.inr (.inr (.inr v4))))))) else (bif (a0.type == 2) then (Option.bind (value_ranged (a0.num) ((-1000000)) (1000000)) fun v5 => (some (.inr (.inr (.inr (.inr (.inr v5))))))) else (bif (a0.type == 4) then (Option.bind (value_ranged (a0.num) (0) (255)) fun v6 => (some (.inr (.inr (.inr (.inr (.inr v6))))))) else (bif (a0.type == 8) then (some (.inl ())) else (bif (a0.type == 3) then (some (.inr (.inr (.inl ())))) else (bif (a0.type == 5) then (some (.inr (.inr (.inr (.inl ()))))) else (bif (a0.type == 6) then (some (.inr (.inr (.inr (.inr (.inl ())))))) else (some (.inr (.inl ())))))))))) : Option (((Unit) ⊕ (((Unit) ⊕ (((Unit) ⊕ (((Unit) ⊕ (((Unit) ⊕ (Int)))))))))))) fun (v7 : ((Unit) ⊕ (((Unit) ⊕ (((Unit) ⊕ (((Unit) ⊕ (((Unit) ⊕ (Int))))))))))) => Sum.elim (fun v8 => (some (.inl (1, 40)))) (Sum.elim (fun v9 => (some (.inr (.inl ())))) (Sum.elim (fun v10 => (some (.inl (0, 64)))) (Sum.elim (fun v11 => (some (.inr (.inr (.inl ()))))) (Sum.elim (fun v12 => (some (.inr (.inr (.inr (.inl ())))))) (fun v13 => (some (.inr (.inr (.inr (.inr v13)))))))))) v7) : Option ((((Int) × (Int)) ⊕ (((Unit) ⊕ (((Unit) ⊕ (((Unit) ⊕ (Int)))))))))) fun (v14 : (((Int) × (Int)) ⊕ (((Unit) ⊕ (((Unit) ⊕ (((Unit) ⊕ (Int))))))))) => Sum.elim (fun v15 => (Option.bind (value_sized (a0.text) (v15.1) (v15.2)) fun v16 => (some (.inr (.inr (.inr v16)))))) (Sum.elim (fun v17 => (some (.inr (.inl ())))) (Sum.elim (fun v18 => (some (.inl ()))) (Sum.elim (fun v19 => (some (.inr (.inr (.inl ()))))) (fun v20 => (some (.inr (.inr (.inr v20)))))))) v14) : Option (((Unit) ⊕ (((Unit) ⊕ (((Unit) ⊕ (Int)))))))) fun (v21 : ((Unit) ⊕ (((Unit) ⊕ (((Unit) ⊕ (Int))))))) => Sum.elim (fun v22 => (some (.inl (2)))) (Sum.elim (fun v23 => (some (.inr (.inl ())))) (Sum.elim (fun v24 => (some (.inl (3)))) (fun v25 => (some (.inr (.inr v25)))))) v21) : Option ((((Int)) ⊕ (((Unit) ⊕ (Int)))))) fun (v26 : (((Int)) ⊕ (((Unit) ⊕ (Int))))) => Sum.elim (fun v27 => (Option.bind (r166 (a0.items) (v27)) fun v28 => (some v28))) (Sum.elim (fun v29 => (Option.bind (r167 (a0.items)) fun v30 => (some v30))) (fun v31 => (some v31))) v26)))))
theorem value_Check_b_ok (r128 : (Va) → Option (Int)) (r166 : (List Va) → (Int) → Option (Int)) (r167 : (List Va) → Option (Int)) (ih128 : ∀ (x0 : Va) r, r128 x0 = some r → PCall Try.prog 128 [eVa x0] (eI (r))) (ih166 : ∀ (x0 : List Va) (x1 : Int) r, r166 x0 x1 = some r → PCall Try.prog 166 [(eL 4 eVaR) x0, eI x1] (eI (r))) (ih167 : ∀ (x0 : List Va) r, r167 x0 = some r → PCall Try.prog 167 [(eL 4 eVaR) x0] (eI (r))) (a0 : Va) (r : Int) (h : value_Check_b r128 r166 r167 a0 = some r) : PCall Try.prog 128 [eVa a0] (eI (r)) := by
 unfold value_Check_b at h
 refine pcall_intro (T := TT) tt_ok [.one .keep] Try.func128 rfl (by kernel_rfl) (by kernel_rfl) ?_
 refine awp_le (st' := ⟨54, [(0, (.fz (eVa (a0))))], [], []⟩) (le_ck (by kernel_rfl)) ?_
 refine awp_seq ?_
 refine awp_region ?_
 refine l_rk 2 tt_ok ⟨54, [(1, (.ref 1 0 0))], (value_Check_m0 a0), [1]⟩ (by kernel_rfl) ?_
 refine l_nil ?_
 refine awp_seq ?_
 refine awp_seq ?_
 obtain ⟨v2, hj, h⟩ := Option.bind_eq_some_iff.1 h
 refine awp_join (Qa := fun e st => e = .normal ∧ LeSt st ⟨54, [(1, (.ref 1 0 0)), (13, (fB (v2)))], (value_Check_m0 a0), [1]⟩) ?_ ?_
 ·replace h := hj
  clear hj
  refine awp_region ?_
  refine l_rk 4 tt_ok ⟨54, [(1, (.ref 1 0 0)), (9, (fB ((decide (a0.type < 1)))))], (value_Check_m0 a0), [1]⟩ (by kernel_rfl) ?_
  rcases cond_some h with ⟨hb, h⟩ | ⟨hb, h⟩
  ·refine l_le (le_eq (t := 9) (x := .fz (eB (decide (a0.type < 1)))) (y := .fz (eB true)) (by kernel_rfl) (congrArg (fun b => AV.fz (eB b)) hb)) ?_
   refine l_rk 4 tt_ok ⟨54, [(1, (.ref 1 0 0)), (13, (fB (true)))], (value_Check_m0 a0), [1]⟩ (by kernel_rfl) ?_
   refine l_nil ?_
   obtain rfl := Option.some.inj h
   exact And.intro rfl (le_ck (by kernel_rfl))
  ·refine l_le (le_eq (t := 9) (x := .fz (eB (decide (a0.type < 1)))) (y := .fz (eB false)) (by kernel_rfl) (congrArg (fun b => AV.fz (eB b)) hb)) ?_
   refine l_rk 4 tt_ok ⟨54, [(1, (.ref 1 0 0)), (13, (fB ((decide (8 < a0.type)))))], (value_Check_m0 a0), [1]⟩ (by kernel_rfl) ?_
   refine l_nil ?_
   obtain rfl := Option.some.inj h
   exact And.intro rfl (le_ck (by kernel_rfl))
 ·clear hj
  intro e st' hq
  obtain ⟨rfl, hle⟩ := hq
  refine ⟨_, hle, ?_⟩
  rcases cond_some h with ⟨hb, h⟩ | ⟨hb, h⟩
  ·refine awp_cond_t (b := v2) (by kernel_rfl) hb ?_
   refine awp_seq ?_
   refine awp_region ?_
   refine l_rk 1 tt_ok ⟨54, [(2, (fI (3)))], [], []⟩ (by kernel_rfl) ?_
   refine l_nil ?_
   refine awp_ret ?_
   obtain rfl := Option.some.inj h
   exact (show retX _ _ _ _ = some _ from by kernel_rfl)
  ·refine awp_cond_f (b := v2) (by kernel_rfl) hb ?_
   refine awp_skip ?_
   refine awp_seq ?_
   refine awp_seq ?_
   refine awp_region ?_
   refine l_rk 1 tt_ok ⟨54, [(1, (.ref 1 0 0)), (14, (.fz (eVa (a0))))], (value_Check_m0 a0), [1]⟩ (by kernel_rfl) ?_
   obtain ⟨v3, hv3, h⟩ := Option.bind_eq_some_iff.1 h
   refine l_step ((n_call (ys := [eVa (a0)]) (cs := [(.one .keep)]) rfl (by kernel_rfl) (value_unused_ok (a0) _ hv3)).step) (by kernel_rfl) (dst_of (by kernel_rfl)) ?_
   refine l_rk 1 tt_ok ⟨54, [(1, (.ref 1 0 0)), (16, (fB ((!v3))))], (value_Check_m0 a0), [1]⟩ (by kernel_rfl) ?_
   refine l_nil ?_
   rcases cond_some h with ⟨hb, h⟩ | ⟨hb, h⟩
   ·refine awp_cond_t (b := (!v3)) (by kernel_rfl) hb ?_
    refine awp_seq ?_
    refine awp_region ?_
    refine l_rk 1 tt_ok ⟨54, [(2, (fI (4)))], [], []⟩ (by kernel_rfl) ?_
    refine l_nil ?_
    refine awp_ret ?_
    obtain rfl := Option.some.inj h
    exact (show retX _ _ _ _ = some _ from by kernel_rfl)
   ·refine awp_cond_f (b := (!v3)) (by kernel_rfl) hb ?_
    refine awp_skip ?_
    refine awp_seq ?_
    refine awp_region ?_
    refine l_rk 3 tt_ok ⟨54, [(1, (.ref 1 0 0)), (3, (fI (0))), (4, (fI (64))), (5, (fI (3)))], (value_Check_m0 a0), [1]⟩ (by kernel_rfl) ?_
    refine l_nil ?_
    refine awp_seq ?_
    refine awp_seq ?_
    refine awp_region ?_
    refine l_rk 2 tt_ok ⟨54, [(1, (.ref 1 0 0)), (3, (fI (0))), (4, (fI (64))), (5, (fI (3))), (18, (fI (a0.type)))], (value_Check_m0 a0), [1]⟩ (by kernel_rfl) ?_
    refine l_nil ?_
    refine awp_block ?_
    refine awp_seq ?_
    obtain ⟨v26, hj, h⟩ := Option.bind_eq_some_iff.1 h
    refine awp_join (Qa := fun e st => Sum.elim (fun p => e = .normal ∧ LeSt st ⟨54, [(1, (.ref 1 0 0)), (5, (fI (p)))], (value_Check_m0 a0), [1]⟩) (Sum.elim (fun p => e = .exit 0 ∧ LeSt st ⟨54, [(1, (.ref 1 0 0))], (value_Check_m0 a0), [1]⟩) (fun p => e = .ret ∧ retX TT st Try.f128.results.toList [.one .keep] = some (eI (p)))) v26) ?_ ?_
    ·replace h := hj
     clear hj
     refine awp_block ?_
     obtain ⟨v21, hj, h⟩ := Option.bind_eq_some_iff.1 h
     refine awp_join (Qa := fun e st => Sum.elim (fun p => e = .normal ∧ LeSt st ⟨54, [(1, (.ref 1 0 0)), (5, (fI (2)))], (value_Check_m0 a0), [1]⟩) (Sum.elim (fun p => e = .exit 0 ∧ LeSt st ⟨54, [(1, (.ref 1 0 0))], (value_Check_m0 a0), [1]⟩) (Sum.elim (fun p => e = .exit 7 ∧ LeSt st ⟨54, [(1, (.ref 1 0 0)), (5, (fI (3)))], (value_Check_m0 a0), [1]⟩) (fun p => e = .ret ∧ retX TT st Try.f128.results.toList [.one .keep] = some (eI (p))))) v21) ?_ ?_
     ·replace h := hj
      clear hj
      refine awp_seq ?_
      refine awp_block ?_
      refine awp_seq ?_
      obtain ⟨v14, hj, h⟩ := Option.bind_eq_some_iff.1 h
      refine awp_join (Qa := fun e st => Sum.elim (fun p => e = .normal ∧ LeSt st ⟨54, [(1, (.ref 1 0 0)), (3, (fI (p.1))), (4, (fI (p.2)))], (value_Check_m0 a0), [1]⟩) (Sum.elim (fun p => e = .exit 0 ∧ LeSt st ⟨54, [(1, (.ref 1 0 0))], (value_Check_m0 a0), [1]⟩) (Sum.elim (fun p => e = .exit 6 ∧ LeSt st ⟨54, [(1, (.ref 1 0 0))], (value_Check_m0 a0), [1]⟩) (Sum.elim (fun p => e = .exit 7 ∧ LeSt st ⟨54, [(1, (.ref 1 0 0)), (5, (fI (3)))], (value_Check_m0 a0), [1]⟩) (fun p => e = .ret ∧ retX TT st Try.f128.results.toList [.one .keep] = some (eI (p)))))) v14) ?_ ?_
      ·replace h := hj
       clear hj
       refine awp_block ?_
       obtain ⟨v7, hj, h⟩ := Option.bind_eq_some_iff.1 h
       refine awp_join (Qa := fun e st => Sum.elim (fun p => e = .normal ∧ LeSt st ⟨54, [(1, (.ref 1 0 0)), (3, (fI (1))), (4, (fI (40)))], (value_Check_m0 a0), [1]⟩) (Sum.elim (fun p => e = .exit 0 ∧ LeSt st ⟨54, [(1, (.ref 1 0 0))], (value_Check_m0 a0), [1]⟩) (Sum.elim (fun p => e = .exit 5 ∧ LeSt st ⟨54, [(1, (.ref 1 0 0)), (3, (fI (0))), (4, (fI (64)))], (value_Check_m0 a0), [1]⟩) (Sum.elim (fun p => e = .exit 6 ∧ LeSt st ⟨54, [(1, (.ref 1 0 0))], (value_Check_m0 a0), [1]⟩) (Sum.elim (fun p => e = .exit 7 ∧ LeSt st ⟨54, [(1, (.ref 1 0 0)), (5, (fI (3)))], (value_Check_m0 a0), [1]⟩) (fun p => e = .ret ∧ retX TT st Try.f128.results.toList [.one .keep] = some (eI (p))))))) v7) ?_ ?_
       ·replace h := hj
        clear hj
        refine awp_seq ?_
        refine awp_block ?_
        refine awp_seq ?_
        refine awp_block ?_
        refine awp_seq ?_
        refine awp_block ?_
        refine awp_seq ?_
        refine awp_block ?_
        refine awp_seq ?_
        refine awp_seq ?_
        refine awp_seq ?_
        refine awp_region ?_
        refine l_rk 2 tt_ok ⟨54, [(1, (.ref 1 0 0)), (3, (fI (0))), (4, (fI (64))), (5, (fI (3))), (18, (fI (a0.type))), (19, (fB ((a0.type == 1))))], (value_Check_m0 a0), [1]⟩ (by kernel_rfl) ?_
        refine l_nil ?_
        rcases cond_some h with ⟨hb, h⟩ | ⟨hb, h⟩
        ·refine awp_cond_t (b := (a0.type == 1)) (by kernel_rfl) hb ?_
         refine awp_exit ?_
         refine awp_seq ?_
         refine awp_seq ?_
         refine awp_region ?_
         refine l_rk 2 tt_ok ⟨54, [(34, (fI (a0.num)))], [], []⟩ (by kernel_rfl) ?_
         obtain ⟨v4, hv4, h⟩ := Option.bind_eq_some_iff.1 h
         refine l_step ((n_call (ys := [eI (a0.num), eI (0), eI (1)]) (cs := [(.one (.keep)), (.one (.keep)), (.one (.keep))]) rfl (by kernel_rfl) (value_ranged_ok (a0.num) (0) (1) _ hv4)).step) (by kernel_rfl) (dst_of (by kernel_rfl)) ?_
         refine l_rk 1 tt_ok ⟨54, [(2, (fI (v4)))], [], []⟩ (by kernel_rfl) ?_
         refine l_nil ?_
         refine awp_ret ?_
         obtain rfl := Option.some.inj h
         exact And.intro rfl (show retX _ _ _ _ = some _ from by kernel_rfl)
        ·refine awp_cond_f (b := (a0.type == 1)) (by kernel_rfl) hb ?_
         refine awp_skip ?_
         refine awp_seq ?_
         refine awp_seq ?_
         refine awp_region ?_
         refine l_rk 2 tt_ok ⟨54, [(1, (.ref 1 0 0)), (3, (fI (0))), (4, (fI (64))), (5, (fI (3))), (18, (fI (a0.type))), (21, (fB ((a0.type == 2))))], (value_Check_m0 a0), [1]⟩ (by kernel_rfl) ?_
         refine l_nil ?_
         rcases cond_some h with ⟨hb, h⟩ | ⟨hb, h⟩
         ·refine awp_cond_t (b := (a0.type == 2)) (by kernel_rfl) hb ?_
          refine awp_exit ?_
          refine awp_seq ?_
          refine awp_seq ?_
          refine awp_region ?_
          refine l_rk 2 tt_ok ⟨54, [(37, (fI (a0.num)))], [], []⟩ (by kernel_rfl) ?_
          obtain ⟨v5, hv5, h⟩ := Option.bind_eq_some_iff.1 h
          refine l_step ((n_call (ys := [eI (a0.num), eI ((-1000000)), eI (1000000)]) (cs := [(.one (.keep)), (.one (.keep)), (.one (.keep))]) rfl (by kernel_rfl) (value_ranged_ok (a0.num) ((-1000000)) (1000000) _ hv5)).step) (by kernel_rfl) (dst_of (by kernel_rfl)) ?_
          refine l_rk 1 tt_ok ⟨54, [(2, (fI (v5)))], [], []⟩ (by kernel_rfl) ?_
          refine l_nil ?_
          refine awp_ret ?_
          obtain rfl := Option.some.inj h
          exact And.intro rfl (show retX _ _ _ _ = some _ from by kernel_rfl)
         ·refine awp_cond_f (b := (a0.type == 2)) (by kernel_rfl) hb ?_
          refine awp_skip ?_
          refine awp_seq ?_
          refine awp_seq ?_
          refine awp_region ?_
          refine l_rk 2 tt_ok ⟨54, [(1, (.ref 1 0 0)), (3, (fI (0))), (4, (fI (64))), (5, (fI (3))), (18, (fI (a0.type))), (23, (fB ((a0.type == 4))))], (value_Check_m0 a0), [1]⟩ (by kernel_rfl) ?_
          refine l_nil ?_
          rcases cond_some h with ⟨hb, h⟩ | ⟨hb, h⟩
          ·refine awp_cond_t (b := (a0.type == 4)) (by kernel_rfl) hb ?_
           refine awp_exit ?_
           refine awp_seq ?_
           refine awp_seq ?_
           refine awp_region ?_
           refine l_rk 2 tt_ok ⟨54, [(40, (fI (a0.num)))], [], []⟩ (by kernel_rfl) ?_
           obtain ⟨v6, hv6, h⟩ := Option.bind_eq_some_iff.1 h
           refine l_step ((n_call (ys := [eI (a0.num), eI (0), eI (255)]) (cs := [(.one (.keep)), (.one (.keep)), (.one (.keep))]) rfl (by kernel_rfl) (value_ranged_ok (a0.num) (0) (255) _ hv6)).step) (by kernel_rfl) (dst_of (by kernel_rfl)) ?_
           refine l_rk 1 tt_ok ⟨54, [(2, (fI (v6)))], [], []⟩ (by kernel_rfl) ?_
           refine l_nil ?_
           refine awp_ret ?_
           obtain rfl := Option.some.inj h
           exact And.intro rfl (show retX _ _ _ _ = some _ from by kernel_rfl)
          ·refine awp_cond_f (b := (a0.type == 4)) (by kernel_rfl) hb ?_
           refine awp_skip ?_
           refine awp_seq ?_
           refine awp_seq ?_
           refine awp_region ?_
           refine l_rk 2 tt_ok ⟨54, [(1, (.ref 1 0 0)), (3, (fI (0))), (4, (fI (64))), (5, (fI (3))), (18, (fI (a0.type))), (25, (fB ((a0.type == 8))))], (value_Check_m0 a0), [1]⟩ (by kernel_rfl) ?_
           refine l_nil ?_
           rcases cond_some h with ⟨hb, h⟩ | ⟨hb, h⟩
           ·refine awp_cond_t (b := (a0.type == 8)) (by kernel_rfl) hb ?_
            refine awp_exit ?_
            refine awp_region ?_
            refine l_rk 2 tt_ok ⟨54, [(1, (.ref 1 0 0)), (3, (fI (1))), (4, (fI (40)))], (value_Check_m0 a0), [1]⟩ (by kernel_rfl) ?_
            refine l_nil ?_
            obtain rfl := Option.some.inj h
            exact And.intro rfl (le_ck (by kernel_rfl))
           ·refine awp_cond_f (b := (a0.type == 8)) (by kernel_rfl) hb ?_
            refine awp_skip ?_
            refine awp_seq ?_
            refine awp_seq ?_
            refine awp_region ?_
            refine l_rk 2 tt_ok ⟨54, [(1, (.ref 1 0 0)), (3, (fI (0))), (4, (fI (64))), (5, (fI (3))), (18, (fI (a0.type))), (27, (fB ((a0.type == 3))))], (value_Check_m0 a0), [1]⟩ (by kernel_rfl) ?_
            refine l_nil ?_
            rcases cond_some h with ⟨hb, h⟩ | ⟨hb, h⟩
            ·refine awp_cond_t (b := (a0.type == 3)) (by kernel_rfl) hb ?_
             refine awp_exit ?_
             obtain rfl := Option.some.inj h
             exact And.intro rfl (le_ck (by kernel_rfl))
            ·refine awp_cond_f (b := (a0.type == 3)) (by kernel_rfl) hb ?_
             refine awp_skip ?_
             refine awp_seq ?_
             refine awp_seq ?_
             refine awp_region ?_
             refine l_rk 2 tt_ok ⟨54, [(1, (.ref 1 0 0)), (5, (fI (3))), (18, (fI (a0.type))), (29, (fB ((a0.type == 5))))], (value_Check_m0 a0), [1]⟩ (by kernel_rfl) ?_
             refine l_nil ?_
             rcases cond_some h with ⟨hb, h⟩ | ⟨hb, h⟩
             ·refine awp_cond_t (b := (a0.type == 5)) (by kernel_rfl) hb ?_
              refine awp_exit ?_
              obtain rfl := Option.some.inj h
              exact And.intro rfl (le_ck (by kernel_rfl))
             ·refine awp_cond_f (b := (a0.type == 5)) (by kernel_rfl) hb ?_
              refine awp_skip ?_
              refine awp_seq ?_
              refine awp_region ?_
              refine l_rk 2 tt_ok ⟨54, [(1, (.ref 1 0 0)), (5, (fI (3))), (31, (fB ((a0.type == 6))))], (value_Check_m0 a0), [1]⟩ (by kernel_rfl) ?_
              refine l_nil ?_
              rcases cond_some h with ⟨hb, h⟩ | ⟨hb, h⟩
              ·refine awp_cond_t (b := (a0.type == 6)) (by kernel_rfl) hb ?_
               refine awp_exit ?_
               obtain rfl := Option.some.inj h
               exact And.intro rfl (le_ck (by kernel_rfl))
              ·refine awp_cond_f (b := (a0.type == 6)) (by kernel_rfl) hb ?_
               refine awp_skip ?_
               refine awp_exit ?_
               obtain rfl := Option.some.inj h
               exact And.intro rfl (le_ck (by kernel_rfl))
       ·clear hj
        intro e st' hq
        rcases v7 with v8 | (v9 | (v10 | (v11 | (v12 | v13))))
        ·try simp only [Sum.elim_inl, Sum.elim_inr] at h
         obtain ⟨rfl, hle⟩ := hq
         refine ⟨_, hle, ?_⟩
         obtain rfl := Option.some.inj h
         exact And.intro rfl (le_ck (by kernel_rfl))
        ·try simp only [Sum.elim_inl, Sum.elim_inr] at h
         obtain ⟨rfl, hle⟩ := hq
         refine ⟨_, hle, ?_⟩
         obtain rfl := Option.some.inj h
         exact And.intro rfl (le_ck (by kernel_rfl))
        ·try simp only [Sum.elim_inl, Sum.elim_inr] at h
         obtain ⟨rfl, hle⟩ := hq
         refine ⟨_, hle, ?_⟩
         obtain rfl := Option.some.inj h
         exact And.intro rfl (le_ck (by kernel_rfl))
        ·try simp only [Sum.elim_inl, Sum.elim_inr] at h
         obtain ⟨rfl, hle⟩ := hq
         refine ⟨_, hle, ?_⟩
         obtain rfl := Option.some.inj h
         exact And.intro rfl (le_ck (by kernel_rfl))
        ·try simp only [Sum.elim_inl, Sum.elim_inr] at h
         obtain ⟨rfl, hle⟩ := hq
         refine ⟨_, hle, ?_⟩
         obtain rfl := Option.some.inj h
         exact And.intro rfl (le_ck (by kernel_rfl))
        ·try simp only [Sum.elim_inl, Sum.elim_inr] at h
         obtain ⟨rfl, hret⟩ := hq
         refine ⟨_, LeSt.refl, ?_⟩
         obtain rfl := Option.some.inj h
         exact And.intro rfl hret
      ·clear hj
       intro e st' hq
       rcases v14 with v15 | (v17 | (v18 | (v19 | v20)))
       ·try simp only [Sum.elim_inl, Sum.elim_inr] at h
        obtain ⟨rfl, hle⟩ := hq
        refine ⟨_, hle, ?_⟩
        refine awp_seq ?_
        refine awp_seq ?_
        refine awp_region ?_
        refine l_rk 4 tt_ok ⟨54, [(43, (fS (a0.text))), (44, (fI (v15.1))), (45, (fI (v15.2)))], [], []⟩ (by kernel_rfl) ?_
        obtain ⟨v16, hv16, h⟩ := Option.bind_eq_some_iff.1 h
        refine l_step ((n_call (ys := [eS (a0.text), eI (v15.1), eI (v15.2)]) (cs := [(.one (.keep)), (.one (.keep)), (.one (.keep))]) rfl (by kernel_rfl) (value_sized_ok (a0.text) (v15.1) (v15.2) _ hv16)).step) (by kernel_rfl) (dst_of (by kernel_rfl)) ?_
        refine l_rk 1 tt_ok ⟨54, [(2, (fI (v16)))], [], []⟩ (by kernel_rfl) ?_
        refine l_nil ?_
        refine awp_ret ?_
        obtain rfl := Option.some.inj h
        exact And.intro rfl (show retX _ _ _ _ = some _ from by kernel_rfl)
       ·try simp only [Sum.elim_inl, Sum.elim_inr] at h
        obtain ⟨rfl, hle⟩ := hq
        refine ⟨_, hle, ?_⟩
        obtain rfl := Option.some.inj h
        exact And.intro rfl (le_ck (by kernel_rfl))
       ·try simp only [Sum.elim_inl, Sum.elim_inr] at h
        obtain ⟨rfl, hle⟩ := hq
        refine ⟨_, hle, ?_⟩
        refine awp_region ?_
        refine l_rk 1 tt_ok ⟨54, [(1, (.ref 1 0 0)), (5, (fI (2)))], (value_Check_m0 a0), [1]⟩ (by kernel_rfl) ?_
        refine l_nil ?_
        obtain rfl := Option.some.inj h
        exact And.intro rfl (le_ck (by kernel_rfl))
       ·try simp only [Sum.elim_inl, Sum.elim_inr] at h
        obtain ⟨rfl, hle⟩ := hq
        refine ⟨_, hle, ?_⟩
        obtain rfl := Option.some.inj h
        exact And.intro rfl (le_ck (by kernel_rfl))
       ·try simp only [Sum.elim_inl, Sum.elim_inr] at h
        obtain ⟨rfl, hret⟩ := hq
        refine ⟨_, LeSt.refl, ?_⟩
        obtain rfl := Option.some.inj h
        exact And.intro rfl hret
     ·clear hj
      intro e st' hq
      rcases v21 with v22 | (v23 | (v24 | v25))
      ·try simp only [Sum.elim_inl, Sum.elim_inr] at h
       obtain ⟨rfl, hle⟩ := hq
       refine ⟨_, hle, ?_⟩
       obtain rfl := Option.some.inj h
       exact And.intro rfl (le_ck (by kernel_rfl))
      ·try simp only [Sum.elim_inl, Sum.elim_inr] at h
       obtain ⟨rfl, hle⟩ := hq
       refine ⟨_, hle, ?_⟩
       obtain rfl := Option.some.inj h
       exact And.intro rfl (le_ck (by kernel_rfl))
      ·try simp only [Sum.elim_inl, Sum.elim_inr] at h
       obtain ⟨rfl, hle⟩ := hq
       refine ⟨_, hle, ?_⟩
       obtain rfl := Option.some.inj h
       exact And.intro rfl (le_ck (by kernel_rfl))
      ·try simp only [Sum.elim_inl, Sum.elim_inr] at h
       obtain ⟨rfl, hret⟩ := hq
       refine ⟨_, LeSt.refl, ?_⟩
       obtain rfl := Option.some.inj h
       exact And.intro rfl hret
    ·clear hj
     intro e st' hq
     rcases v26 with v27 | (v29 | v31)
     ·try simp only [Sum.elim_inl, Sum.elim_inr] at h
      obtain ⟨rfl, hle⟩ := hq
      refine ⟨_, hle, ?_⟩
      refine awp_seq ?_
      refine awp_seq ?_
      refine awp_region ?_
      refine l_rk 3 tt_ok ⟨54, [(48, (.fz ((eL 4 eVaR) (a0.items)))), (49, (fI (v27)))], [], []⟩ (by kernel_rfl) ?_
      obtain ⟨v28, hv28, h⟩ := Option.bind_eq_some_iff.1 h
      refine l_step ((n_call (ys := [(eL 4 eVaR) (a0.items), eI (v27)]) (cs := [(.one (.sl 4)), (.one (.keep))]) rfl (by kernel_rfl) (ih166 (a0.items) (v27) _ hv28)).step) (by kernel_rfl) (dst_of (by kernel_rfl)) ?_
      refine l_rk 1 tt_ok ⟨54, [(2, (fI (v28)))], [], []⟩ (by kernel_rfl) ?_
      refine l_nil ?_
      refine awp_ret ?_
      obtain rfl := Option.some.inj h
      exact (show retX _ _ _ _ = some _ from by kernel_rfl)
     ·try simp only [Sum.elim_inl, Sum.elim_inr] at h
      obtain ⟨rfl, hle⟩ := hq
      refine ⟨_, hle, ?_⟩
      refine awp_seq ?_
      refine awp_region ?_
      refine l_rk 2 tt_ok ⟨54, [(52, (.fz ((eL 4 eVaR) (a0.items))))], [], []⟩ (by kernel_rfl) ?_
      obtain ⟨v30, hv30, h⟩ := Option.bind_eq_some_iff.1 h
      refine l_step ((n_call (ys := [(eL 4 eVaR) (a0.items)]) (cs := [(.one (.sl 4))]) rfl (by kernel_rfl) (ih167 (a0.items) _ hv30)).step) (by kernel_rfl) (dst_of (by kernel_rfl)) ?_
      refine l_rk 1 tt_ok ⟨54, [(2, (fI (v30)))], [], []⟩ (by kernel_rfl) ?_
      refine l_nil ?_
      refine awp_ret ?_
      obtain rfl := Option.some.inj h
      exact (show retX _ _ _ _ = some _ from by kernel_rfl)
     ·try simp only [Sum.elim_inl, Sum.elim_inr] at h
      obtain ⟨rfl, hret⟩ := hq
      refine ⟨_, LeSt.refl, ?_⟩
      obtain rfl := Option.some.inj h
      exact hret
def value_elements_l1 (a0 : List Va) (a1 : Int) (r128 : (Va) → Option (Int)) (v1 : (Int)) : Option (((Int)) ⊕ (((Unit) ⊕ (Int)))) := (bif (decide (v1 < (List.length a0 : Int))) then (Option.bind (idx a0 v1) fun v2 => (bif (v2.type != a1) then (some (.inr (.inr 3))) else (Option.bind (r128 (v2)) fun v3 => (bif (v3 != 0) then (some (.inr (.inr v3))) else (some (.inl ((w64 (v1 + 1))))))))) else (some (.inr (.inl ()))))
def value_elements_b (r128 : (Va) → Option (Int)) (r166 : (List Va) → (Int) → Option (Int)) (r167 : (List Va) → Option (Int)) (a0 : List Va) (a1 : Int) : Option (Int) := (bif (decide (16 < (List.length a0 : Int))) then (some 2) else (Option.bind (loopN (value_elements_l1 a0 a1 r128) fuel (0)) fun (v4 : ((Unit) ⊕ (Int))) => Sum.elim (fun v5 => (some 0)) (fun v6 => (some v6)) v4))
theorem value_elements_b_ok (r128 : (Va) → Option (Int)) (r166 : (List Va) → (Int) → Option (Int)) (r167 : (List Va) → Option (Int)) (ih128 : ∀ (x0 : Va) r, r128 x0 = some r → PCall Try.prog 128 [eVa x0] (eI (r))) (ih166 : ∀ (x0 : List Va) (x1 : Int) r, r166 x0 x1 = some r → PCall Try.prog 166 [(eL 4 eVaR) x0, eI x1] (eI (r))) (ih167 : ∀ (x0 : List Va) r, r167 x0 = some r → PCall Try.prog 167 [(eL 4 eVaR) x0] (eI (r))) (a0 : List Va) (a1 : Int) (r : Int) (h : value_elements_b r128 r166 r167 a0 a1 = some r) : PCall Try.prog 166 [(eL 4 eVaR) a0, eI a1] (eI (r)) := by
 unfold value_elements_b at h
 refine pcall_intro (T := TT) tt_ok [.one .keep] Try.func166 rfl (by kernel_rfl) (by kernel_rfl) ?_
 refine awp_le (st' := ⟨27, [(0, (.fz ((eL 4 eVaR) (a0)))), (1, (fI (a1)))], [], []⟩) (le_ck (by kernel_rfl)) ?_
 refine awp_seq ?_
 refine awp_region ?_
 refine l_rk 1 tt_ok ⟨27, [(0, (.fz ((eL 4 eVaR) (a0)))), (1, (fI (a1)))], [], []⟩ (by kernel_rfl) ?_
 refine l_nil ?_
 refine awp_seq ?_
 refine awp_seq ?_
 refine awp_region ?_
 refine l_rk 3 tt_ok ⟨27, [(0, (.fz ((eL 4 eVaR) (a0)))), (1, (fI (a1))), (10, (fB ((decide (16 < (List.length a0 : Int))))))], [], []⟩ (by kernel_rfl) ?_
 refine l_nil ?_
 rcases cond_some h with ⟨hb, h⟩ | ⟨hb, h⟩
 ·refine awp_cond_t (b := (decide (16 < (List.length a0 : Int)))) (by kernel_rfl) hb ?_
  refine awp_seq ?_
  refine awp_region ?_
  refine l_rk 1 tt_ok ⟨27, [(4, (fI (2)))], [], []⟩ (by kernel_rfl) ?_
  refine l_nil ?_
  refine awp_ret ?_
  obtain rfl := Option.some.inj h
  exact (show retX _ _ _ _ = some _ from by kernel_rfl)
 ·refine awp_cond_f (b := (decide (16 < (List.length a0 : Int)))) (by kernel_rfl) hb ?_
  refine awp_skip ?_
  refine awp_seq ?_
  refine awp_seq ?_
  refine awp_region ?_
  refine l_rk 3 tt_ok ⟨27, [(1, (fI (a1))), (11, (.fz ((eL 4 eVaR) (a0)))), (12, (fI ((List.length a0 : Int)))), (13, (fI (0)))], [], []⟩ (by kernel_rfl) ?_
  refine l_nil ?_
  refine awp_block ?_
  obtain ⟨v4, hj, h⟩ := Option.bind_eq_some_iff.1 h
  refine awp_join (Qa := fun e st => Sum.elim (fun p => e = .exit 0 ∧ LeSt st ⟨27, [], [], []⟩) (fun p => e = .ret ∧ retX TT st Try.f166.results.toList [.one .keep] = some (eI (p))) v4) ?_ ?_
  ·refine awp_loopS (stOf := fun v1 => ⟨27, [(1, (fI (a1))), (11, (.fz ((eL 4 eVaR) (a0)))), (12, (fI ((List.length a0 : Int)))), (13, (fI (v1)))], [], []⟩) (Qb := fun j e st => Sum.elim (fun p => e = .exit 0 ∧ LeSt st ⟨27, [], [], []⟩) (fun p => e = .ret ∧ retX TT st Try.f166.results.toList [.one .keep] = some (eI (p))) j) hj (le_ck (by kernel_rfl)) ?_
   clear hj h
   intro v1 r h
   unfold value_elements_l1 at h
   refine awp_seq ?_
   refine awp_region ?_
   refine l_rk 1 tt_ok ⟨27, [(1, (fI (a1))), (11, (.fz ((eL 4 eVaR) (a0)))), (12, (fI ((List.length a0 : Int)))), (13, (fI (v1))), (14, (fB ((decide (v1 < (List.length a0 : Int))))))], [], []⟩ (by kernel_rfl) ?_
   refine l_nil ?_
   refine awp_seq ?_
   rcases cond_some h with ⟨hb, h⟩ | ⟨hb, h⟩
   ·refine awp_cond_t (b := (decide (v1 < (List.length a0 : Int)))) (by kernel_rfl) hb ?_
    refine awp_skip ?_
    refine awp_seq ?_
    refine awp_block ?_
    refine awp_seq ?_
    refine awp_region ?_
    obtain ⟨v2, hv2, h⟩ := Option.bind_eq_some_iff.1 h
    refine l_step ((s_index (k := .i64) (d := tt63) (e := 65) (de := tt65) (enc := eVaR) hv2 tt_ok rfl (by kernel_rfl) (by kernel_rfl) (by kernel_rfl) (by kernel_rfl) len_eVaR (by kernel_rfl) (cells_eVaR v2)).step) (by kernel_rfl) (dst_of (by kernel_rfl)) ?_
    refine l_rk 3 tt_ok ⟨27, [(1, (fI (a1))), (6, (.ref 1 0 0)), (11, (.fz ((eL 4 eVaR) (a0)))), (12, (fI ((List.length a0 : Int)))), (13, (fI (v1)))], [(1, (.box 65 [(fI (v2.type)), (fI (v2.num)), (fS (v2.text)), (.fz ((eL 4 eVaR) (v2.items)))]))], [1]⟩ (by kernel_rfl) ?_
    refine l_nil ?_
    refine awp_seq ?_
    refine awp_seq ?_
    refine awp_region ?_
    refine l_rk 4 tt_ok ⟨27, [(1, (fI (a1))), (6, (.ref 1 0 0)), (11, (.fz ((eL 4 eVaR) (a0)))), (12, (fI ((List.length a0 : Int)))), (13, (fI (v1))), (20, (fB ((v2.type != a1))))], [(1, (.box 65 [(fI (v2.type)), (fI (v2.num)), (fS (v2.text)), (.fz ((eL 4 eVaR) (v2.items)))]))], [1]⟩ (by kernel_rfl) ?_
    refine l_nil ?_
    rcases cond_some h with ⟨hb, h⟩ | ⟨hb, h⟩
    ·refine awp_cond_t (b := (v2.type != a1)) (by kernel_rfl) hb ?_
     refine awp_seq ?_
     refine awp_region ?_
     refine l_rk 1 tt_ok ⟨27, [(4, (fI (3)))], [], []⟩ (by kernel_rfl) ?_
     refine l_nil ?_
     refine awp_ret ?_
     obtain rfl := Option.some.inj h
     exact And.intro (And.intro (fun h => nomatch h) (fun h => nomatch h)) (And.intro rfl (show retX _ _ _ _ = some _ from by kernel_rfl))
    ·refine awp_cond_f (b := (v2.type != a1)) (by kernel_rfl) hb ?_
     refine awp_skip ?_
     refine awp_seq ?_
     refine awp_region ?_
     refine l_rk 1 tt_ok ⟨27, [(1, (fI (a1))), (11, (.fz ((eL 4 eVaR) (a0)))), (12, (fI ((List.length a0 : Int)))), (13, (fI (v1))), (21, (.fz (eVa (v2))))], [], []⟩ (by kernel_rfl) ?_
     obtain ⟨v3, hv3, h⟩ := Option.bind_eq_some_iff.1 h
     refine l_step ((n_call (ys := [eVa (v2)]) (cs := [(.one .keep)]) rfl (by kernel_rfl) (ih128 (v2) _ hv3)).step) (by kernel_rfl) (dst_of (by kernel_rfl)) ?_
     refine l_rk 1 tt_ok ⟨27, [(1, (fI (a1))), (7, (fI (v3))), (11, (.fz ((eL 4 eVaR) (a0)))), (12, (fI ((List.length a0 : Int)))), (13, (fI (v1)))], [], []⟩ (by kernel_rfl) ?_
     refine l_nil ?_
     refine awp_seq ?_
     refine awp_region ?_
     refine l_rk 2 tt_ok ⟨27, [(1, (fI (a1))), (7, (fI (v3))), (11, (.fz ((eL 4 eVaR) (a0)))), (12, (fI ((List.length a0 : Int)))), (13, (fI (v1))), (24, (fB ((v3 != 0))))], [], []⟩ (by kernel_rfl) ?_
     refine l_nil ?_
     rcases cond_some h with ⟨hb, h⟩ | ⟨hb, h⟩
     ·refine awp_cond_t (b := (v3 != 0)) (by kernel_rfl) hb ?_
      refine awp_seq ?_
      refine awp_region ?_
      refine l_rk 2 tt_ok ⟨27, [(4, (fI (v3)))], [], []⟩ (by kernel_rfl) ?_
      refine l_nil ?_
      refine awp_ret ?_
      obtain rfl := Option.some.inj h
      exact And.intro (And.intro (fun h => nomatch h) (fun h => nomatch h)) (And.intro rfl (show retX _ _ _ _ = some _ from by kernel_rfl))
     ·refine awp_cond_f (b := (v3 != 0)) (by kernel_rfl) hb ?_
      refine awp_skip ?_
      refine awp_region ?_
      refine l_rk 2 tt_ok ⟨27, [(1, (fI (a1))), (11, (.fz ((eL 4 eVaR) (a0)))), (12, (fI ((List.length a0 : Int)))), (13, (fI ((w64 (v1 + 1)))))], [], []⟩ (by kernel_rfl) ?_
      refine l_nil ?_
      obtain rfl := Option.some.inj h
      exact And.intro rfl (le_ck (by kernel_rfl))
   ·refine awp_cond_f (b := (decide (v1 < (List.length a0 : Int)))) (by kernel_rfl) hb ?_
    refine awp_exit ?_
    obtain rfl := Option.some.inj h
    exact And.intro (And.intro (fun h => nomatch h) (fun h => nomatch h)) (And.intro rfl (le_ck (by kernel_rfl)))
  ·clear hj
   intro e st' hq
   rcases v4 with v5 | v6
   ·try simp only [Sum.elim_inl, Sum.elim_inr] at h
    obtain ⟨rfl, hle⟩ := hq
    refine ⟨_, hle, ?_⟩
    refine awp_seq ?_
    refine awp_region ?_
    refine l_rk 1 tt_ok ⟨27, [(4, (fI (0)))], [], []⟩ (by kernel_rfl) ?_
    refine l_nil ?_
    refine awp_ret ?_
    obtain rfl := Option.some.inj h
    exact (show retX _ _ _ _ = some _ from by kernel_rfl)
   ·try simp only [Sum.elim_inl, Sum.elim_inr] at h
    obtain ⟨rfl, hret⟩ := hq
    refine ⟨_, LeSt.refl, ?_⟩
    obtain rfl := Option.some.inj h
    exact hret
def value_rows_l1 (a0 : List Va) (r128 : (Va) → Option (Int)) (v1 : (Int)) : Option (((Int)) ⊕ (((Unit) ⊕ (Int)))) := (bif (decide (v1 < (List.length a0 : Int))) then (Option.bind (idx a0 v1) fun v2 => (bif (v2.type != 6) then (some (.inr (.inr 3))) else (Option.bind ((bif (decide ((List.length v2.items : Int) < 1)) then (some (true)) else (bif (decide (8 < (List.length v2.items : Int))) then (some (true)) else (Option.bind (idx a0 0) fun v3 => (some (((List.length v2.items : Int) != (List.length v3.items : Int))))))) : Option ((Bool))) fun (v5 : (Bool)) => (bif v5 then (some (.inr (.inr 2))) else (Option.bind (r128 (v2)) fun v6 => (bif (v6 != 0) then (some (.inr (.inr v6))) else (some (.inl ((w64 (v1 + 1))))))))))) else (some (.inr (.inl ()))))
def value_rows_b (r128 : (Va) → Option (Int)) (r166 : (List Va) → (Int) → Option (Int)) (r167 : (List Va) → Option (Int)) (a0 : List Va) : Option (Int) := (bif (decide (8 < (List.length a0 : Int))) then (some 2) else (Option.bind (loopN (value_rows_l1 a0 r128) fuel (0)) fun (v7 : ((Unit) ⊕ (Int))) => Sum.elim (fun v8 => (some 0)) (fun v9 => (some v9)) v7))
theorem value_rows_b_ok (r128 : (Va) → Option (Int)) (r166 : (List Va) → (Int) → Option (Int)) (r167 : (List Va) → Option (Int)) (ih128 : ∀ (x0 : Va) r, r128 x0 = some r → PCall Try.prog 128 [eVa x0] (eI (r))) (ih166 : ∀ (x0 : List Va) (x1 : Int) r, r166 x0 x1 = some r → PCall Try.prog 166 [(eL 4 eVaR) x0, eI x1] (eI (r))) (ih167 : ∀ (x0 : List Va) r, r167 x0 = some r → PCall Try.prog 167 [(eL 4 eVaR) x0] (eI (r))) (a0 : List Va) (r : Int) (h : value_rows_b r128 r166 r167 a0 = some r) : PCall Try.prog 167 [(eL 4 eVaR) a0] (eI (r)) := by
 unfold value_rows_b at h
 refine pcall_intro (T := TT) tt_ok [.one .keep] Try.func167 rfl (by kernel_rfl) (by kernel_rfl) ?_
 refine awp_le (st' := ⟨45, [(0, (.fz ((eL 4 eVaR) (a0))))], [], []⟩) (le_ck (by kernel_rfl)) ?_
 refine awp_seq ?_
 refine awp_region ?_
 refine l_rk 1 tt_ok ⟨45, [(0, (.fz ((eL 4 eVaR) (a0))))], [], []⟩ (by kernel_rfl) ?_
 refine l_nil ?_
 refine awp_seq ?_
 refine awp_seq ?_
 refine awp_region ?_
 refine l_rk 3 tt_ok ⟨45, [(0, (.fz ((eL 4 eVaR) (a0)))), (8, (fB ((decide (8 < (List.length a0 : Int))))))], [], []⟩ (by kernel_rfl) ?_
 refine l_nil ?_
 rcases cond_some h with ⟨hb, h⟩ | ⟨hb, h⟩
 ·refine awp_cond_t (b := (decide (8 < (List.length a0 : Int)))) (by kernel_rfl) hb ?_
  refine awp_seq ?_
  refine awp_region ?_
  refine l_rk 1 tt_ok ⟨45, [(2, (fI (2)))], [], []⟩ (by kernel_rfl) ?_
  refine l_nil ?_
  refine awp_ret ?_
  obtain rfl := Option.some.inj h
  exact (show retX _ _ _ _ = some _ from by kernel_rfl)
 ·refine awp_cond_f (b := (decide (8 < (List.length a0 : Int)))) (by kernel_rfl) hb ?_
  refine awp_skip ?_
  refine awp_seq ?_
  refine awp_seq ?_
  refine awp_region ?_
  refine l_rk 3 tt_ok ⟨45, [(0, (.fz ((eL 4 eVaR) (a0)))), (9, (.fz ((eL 4 eVaR) (a0)))), (10, (fI ((List.length a0 : Int)))), (11, (fI (0)))], [], []⟩ (by kernel_rfl) ?_
  refine l_nil ?_
  refine awp_block ?_
  obtain ⟨v7, hj, h⟩ := Option.bind_eq_some_iff.1 h
  refine awp_join (Qa := fun e st => Sum.elim (fun p => e = .exit 0 ∧ LeSt st ⟨45, [], [], []⟩) (fun p => e = .ret ∧ retX TT st Try.f167.results.toList [.one .keep] = some (eI (p))) v7) ?_ ?_
  ·refine awp_loopS (stOf := fun v1 => ⟨45, [(0, (.fz ((eL 4 eVaR) (a0)))), (9, (.fz ((eL 4 eVaR) (a0)))), (10, (fI ((List.length a0 : Int)))), (11, (fI (v1)))], [], []⟩) (Qb := fun j e st => Sum.elim (fun p => e = .exit 0 ∧ LeSt st ⟨45, [], [], []⟩) (fun p => e = .ret ∧ retX TT st Try.f167.results.toList [.one .keep] = some (eI (p))) j) hj (le_ck (by kernel_rfl)) ?_
   clear hj h
   intro v1 r h
   unfold value_rows_l1 at h
   refine awp_seq ?_
   refine awp_region ?_
   refine l_rk 1 tt_ok ⟨45, [(0, (.fz ((eL 4 eVaR) (a0)))), (9, (.fz ((eL 4 eVaR) (a0)))), (10, (fI ((List.length a0 : Int)))), (11, (fI (v1))), (12, (fB ((decide (v1 < (List.length a0 : Int))))))], [], []⟩ (by kernel_rfl) ?_
   refine l_nil ?_
   refine awp_seq ?_
   rcases cond_some h with ⟨hb, h⟩ | ⟨hb, h⟩
   ·refine awp_cond_t (b := (decide (v1 < (List.length a0 : Int)))) (by kernel_rfl) hb ?_
    refine awp_skip ?_
    refine awp_seq ?_
    refine awp_block ?_
    refine awp_seq ?_
    refine awp_region ?_
    obtain ⟨v2, hv2, h⟩ := Option.bind_eq_some_iff.1 h
    refine l_step ((s_index (k := .i64) (d := tt63) (e := 65) (de := tt65) (enc := eVaR) hv2 tt_ok rfl (by kernel_rfl) (by kernel_rfl) (by kernel_rfl) (by kernel_rfl) len_eVaR (by kernel_rfl) (cells_eVaR v2)).step) (by kernel_rfl) (dst_of (by kernel_rfl)) ?_
    refine l_rk 3 tt_ok ⟨45, [(0, (.fz ((eL 4 eVaR) (a0)))), (4, (.ref 1 0 0)), (9, (.fz ((eL 4 eVaR) (a0)))), (10, (fI ((List.length a0 : Int)))), (11, (fI (v1)))], [(1, (.box 65 [(fI (v2.type)), (fI (v2.num)), (fS (v2.text)), (.fz ((eL 4 eVaR) (v2.items)))]))], [1]⟩ (by kernel_rfl) ?_
    refine l_nil ?_
    refine awp_seq ?_
    refine awp_seq ?_
    refine awp_region ?_
    refine l_rk 3 tt_ok ⟨45, [(0, (.fz ((eL 4 eVaR) (a0)))), (4, (.ref 1 0 0)), (9, (.fz ((eL 4 eVaR) (a0)))), (10, (fI ((List.length a0 : Int)))), (11, (fI (v1))), (17, (fB ((v2.type != 6))))], [(1, (.box 65 [(fI (v2.type)), (fI (v2.num)), (fS (v2.text)), (.fz ((eL 4 eVaR) (v2.items)))]))], [1]⟩ (by kernel_rfl) ?_
    refine l_nil ?_
    rcases cond_some h with ⟨hb, h⟩ | ⟨hb, h⟩
    ·refine awp_cond_t (b := (v2.type != 6)) (by kernel_rfl) hb ?_
     refine awp_seq ?_
     refine awp_region ?_
     refine l_rk 1 tt_ok ⟨45, [(2, (fI (3)))], [], []⟩ (by kernel_rfl) ?_
     refine l_nil ?_
     refine awp_ret ?_
     obtain rfl := Option.some.inj h
     exact And.intro (And.intro (fun h => nomatch h) (fun h => nomatch h)) (And.intro rfl (show retX _ _ _ _ = some _ from by kernel_rfl))
    ·refine awp_cond_f (b := (v2.type != 6)) (by kernel_rfl) hb ?_
     refine awp_skip ?_
     refine awp_seq ?_
     refine awp_seq ?_
     obtain ⟨v5, hj, h⟩ := Option.bind_eq_some_iff.1 h
     refine awp_join (Qa := fun e st => e = .normal ∧ LeSt st ⟨45, [(0, (.fz ((eL 4 eVaR) (a0)))), (4, (.ref 1 0 0)), (9, (.fz ((eL 4 eVaR) (a0)))), (10, (fI ((List.length a0 : Int)))), (11, (fI (v1))), (38, (fB (v5)))], [(1, (.box 65 [(fI (v2.type)), (fI (v2.num)), (fS (v2.text)), (.fz ((eL 4 eVaR) (v2.items)))]))], [1]⟩) ?_ ?_
     ·replace h := hj
      clear hj
      rcases cond_some h with ⟨hb4, h⟩ | ⟨hb4, h⟩
      ·refine awp_drawn (by kernel_rfl) [(.ref 1 0 3), (.fz ((eL 4 eVaR) (v2.items))), (fI ((List.length v2.items : Int))), (fB ((decide ((List.length v2.items : Int) < 1)))), (fB (true)), (.fz (.tup [])), (.fz (.tup [])), (.fz (.tup [])), (.fz (.tup [])), (fB (true)), (fB (true)), (.fz (.tup [])), (.fz (.tup [])), (.fz (.tup [])), (.fz (.tup [])), (.fz (.tup [])), (.fz (.tup [])), (.fz (.tup [])), (.fz (.tup []))] (by kernel_rfl) ?_
       refine ⟨.inl ⟨by kernel_rfl, (nstep_ok tt_ok (by kernel_rfl))⟩, ?_⟩
       refine ⟨.inl ⟨by kernel_rfl, (nstep_ok tt_ok (by kernel_rfl))⟩, ?_⟩
       refine ⟨.inl ⟨by kernel_rfl, (nstep_ok tt_ok (by kernel_rfl))⟩, ?_⟩
       refine ⟨.inl ⟨by kernel_rfl, (nstep_ok tt_ok (by kernel_rfl))⟩, ?_⟩
       refine ⟨.inl ⟨by kernel_rfl, (NStep.eqv (nstep_ok tt_ok (by kernel_rfl)) (congrArg (fun b => AV.fz (eB b)) hb4))⟩, ?_⟩
       refine ⟨.inr ⟨by kernel_rfl, rfl⟩, ?_⟩
       refine ⟨.inr ⟨by kernel_rfl, rfl⟩, ?_⟩
       refine ⟨.inr ⟨by kernel_rfl, rfl⟩, ?_⟩
       refine ⟨.inr ⟨by kernel_rfl, rfl⟩, ?_⟩
       refine ⟨.inl ⟨by kernel_rfl, (nstep_ok tt_ok (by kernel_rfl))⟩, ?_⟩
       refine ⟨.inl ⟨by kernel_rfl, (nstep_ok tt_ok (by kernel_rfl))⟩, ?_⟩
       refine ⟨.inr ⟨by kernel_rfl, rfl⟩, ?_⟩
       refine ⟨.inr ⟨by kernel_rfl, rfl⟩, ?_⟩
       refine ⟨.inr ⟨by kernel_rfl, rfl⟩, ?_⟩
       refine ⟨.inr ⟨by kernel_rfl, rfl⟩, ?_⟩
       refine ⟨.inr ⟨by kernel_rfl, rfl⟩, ?_⟩
       refine ⟨.inr ⟨by kernel_rfl, rfl⟩, ?_⟩
       refine ⟨.inr ⟨by kernel_rfl, rfl⟩, ?_⟩
       refine ⟨.inr ⟨by kernel_rfl, rfl⟩, ?_⟩
       refine l_rk 2 tt_ok ⟨45, [(0, (.fz ((eL 4 eVaR) (a0)))), (4, (.ref 1 0 0)), (9, (.fz ((eL 4 eVaR) (a0)))), (10, (fI ((List.length a0 : Int)))), (11, (fI (v1))), (38, (fB (true)))], [(1, (.box 65 [(fI (v2.type)), (fI (v2.num)), (fS (v2.text)), (.fz ((eL 4 eVaR) (v2.items)))]))], [1]⟩ (by kernel_rfl) ?_
       refine l_nil ?_
       obtain rfl := Option.some.inj h
       exact And.intro rfl (le_ck (by kernel_rfl))
      ·rcases cond_some h with ⟨hb10, h⟩ | ⟨hb10, h⟩
       ·refine awp_drawn (by kernel_rfl) [(.ref 1 0 3), (.fz ((eL 4 eVaR) (v2.items))), (fI ((List.length v2.items : Int))), (fB ((decide ((List.length v2.items : Int) < 1)))), (fB (false)), (.ref 1 0 3), (.fz ((eL 4 eVaR) (v2.items))), (fI ((List.length v2.items : Int))), (fB ((decide (8 < (List.length v2.items : Int))))), (fB ((decide (8 < (List.length v2.items : Int))))), (fB (true)), (.fz (.tup [])), (.fz (.tup [])), (.fz (.tup [])), (.fz (.tup [])), (.fz (.tup [])), (.fz (.tup [])), (.fz (.tup [])), (.fz (.tup []))] (by kernel_rfl) ?_
        refine ⟨.inl ⟨by kernel_rfl, (nstep_ok tt_ok (by kernel_rfl))⟩, ?_⟩
        refine ⟨.inl ⟨by kernel_rfl, (nstep_ok tt_ok (by kernel_rfl))⟩, ?_⟩
        refine ⟨.inl ⟨by kernel_rfl, (nstep_ok tt_ok (by kernel_rfl))⟩, ?_⟩
        refine ⟨.inl ⟨by kernel_rfl, (nstep_ok tt_ok (by kernel_rfl))⟩, ?_⟩
        refine ⟨.inl ⟨by kernel_rfl, (NStep.eqv (nstep_ok tt_ok (by kernel_rfl)) (congrArg (fun b => AV.fz (eB b)) hb4))⟩, ?_⟩
        refine ⟨.inl ⟨by kernel_rfl, (nstep_ok tt_ok (by kernel_rfl))⟩, ?_⟩
        refine ⟨.inl ⟨by kernel_rfl, (nstep_ok tt_ok (by kernel_rfl))⟩, ?_⟩
        refine ⟨.inl ⟨by kernel_rfl, (nstep_ok tt_ok (by kernel_rfl))⟩, ?_⟩
        refine ⟨.inl ⟨by kernel_rfl, (nstep_ok tt_ok (by kernel_rfl))⟩, ?_⟩
        refine ⟨.inl ⟨by kernel_rfl, (nstep_ok tt_ok (by kernel_rfl))⟩, ?_⟩
        refine ⟨.inl ⟨by kernel_rfl, (NStep.eqv (nstep_ok tt_ok (by kernel_rfl)) (congrArg (fun b => AV.fz (eB b)) hb10))⟩, ?_⟩
        refine ⟨.inr ⟨by kernel_rfl, rfl⟩, ?_⟩
        refine ⟨.inr ⟨by kernel_rfl, rfl⟩, ?_⟩
        refine ⟨.inr ⟨by kernel_rfl, rfl⟩, ?_⟩
        refine ⟨.inr ⟨by kernel_rfl, rfl⟩, ?_⟩
        refine ⟨.inr ⟨by kernel_rfl, rfl⟩, ?_⟩
        refine ⟨.inr ⟨by kernel_rfl, rfl⟩, ?_⟩
        refine ⟨.inr ⟨by kernel_rfl, rfl⟩, ?_⟩
        refine ⟨.inr ⟨by kernel_rfl, rfl⟩, ?_⟩
        refine l_rk 2 tt_ok ⟨45, [(0, (.fz ((eL 4 eVaR) (a0)))), (4, (.ref 1 0 0)), (9, (.fz ((eL 4 eVaR) (a0)))), (10, (fI ((List.length a0 : Int)))), (11, (fI (v1))), (38, (fB (true)))], [(1, (.box 65 [(fI (v2.type)), (fI (v2.num)), (fS (v2.text)), (.fz ((eL 4 eVaR) (v2.items)))]))], [1]⟩ (by kernel_rfl) ?_
        refine l_nil ?_
        obtain rfl := Option.some.inj h
        exact And.intro rfl (le_ck (by kernel_rfl))
       ·obtain ⟨v3, hv3, h⟩ := Option.bind_eq_some_iff.1 h
        refine awp_drawn (by kernel_rfl) [(.ref 1 0 3), (.fz ((eL 4 eVaR) (v2.items))), (fI ((List.length v2.items : Int))), (fB ((decide ((List.length v2.items : Int) < 1)))), (fB (false)), (.ref 1 0 3), (.fz ((eL 4 eVaR) (v2.items))), (fI ((List.length v2.items : Int))), (fB ((decide (8 < (List.length v2.items : Int))))), (fB ((decide (8 < (List.length v2.items : Int))))), (fB (false)), (.ref 1 0 3), (.fz ((eL 4 eVaR) (v2.items))), (fI ((List.length v2.items : Int))), (.fz ((eL 4 eVaR) (a0))), (.fz (.fp [(eI (v3.type)), (eI (v3.num)), (eS (v3.text)), ((eL 4 eVaR) (v3.items))])), (.fz (.fp [((eL 4 eVaR) (v3.items))])), (.fz ((eL 4 eVaR) (v3.items))), (fI ((List.length v3.items : Int)))] (by kernel_rfl) ?_
        refine ⟨.inl ⟨by kernel_rfl, (nstep_ok tt_ok (by kernel_rfl))⟩, ?_⟩
        refine ⟨.inl ⟨by kernel_rfl, (nstep_ok tt_ok (by kernel_rfl))⟩, ?_⟩
        refine ⟨.inl ⟨by kernel_rfl, (nstep_ok tt_ok (by kernel_rfl))⟩, ?_⟩
        refine ⟨.inl ⟨by kernel_rfl, (nstep_ok tt_ok (by kernel_rfl))⟩, ?_⟩
        refine ⟨.inl ⟨by kernel_rfl, (NStep.eqv (nstep_ok tt_ok (by kernel_rfl)) (congrArg (fun b => AV.fz (eB b)) hb4))⟩, ?_⟩
        refine ⟨.inl ⟨by kernel_rfl, (nstep_ok tt_ok (by kernel_rfl))⟩, ?_⟩
        refine ⟨.inl ⟨by kernel_rfl, (nstep_ok tt_ok (by kernel_rfl))⟩, ?_⟩
        refine ⟨.inl ⟨by kernel_rfl, (nstep_ok tt_ok (by kernel_rfl))⟩, ?_⟩
        refine ⟨.inl ⟨by kernel_rfl, (nstep_ok tt_ok (by kernel_rfl))⟩, ?_⟩
        refine ⟨.inl ⟨by kernel_rfl, (nstep_ok tt_ok (by kernel_rfl))⟩, ?_⟩
        refine ⟨.inl ⟨by kernel_rfl, (NStep.eqv (nstep_ok tt_ok (by kernel_rfl)) (congrArg (fun b => AV.fz (eB b)) hb10))⟩, ?_⟩
        refine ⟨.inl ⟨by kernel_rfl, (nstep_ok tt_ok (by kernel_rfl))⟩, ?_⟩
        refine ⟨.inl ⟨by kernel_rfl, (nstep_ok tt_ok (by kernel_rfl))⟩, ?_⟩
        refine ⟨.inl ⟨by kernel_rfl, (nstep_ok tt_ok (by kernel_rfl))⟩, ?_⟩
        refine ⟨.inl ⟨by kernel_rfl, (nstep_ok tt_ok (by kernel_rfl))⟩, ?_⟩
        refine ⟨.inl ⟨by kernel_rfl, (s_index (k := .i64) (d := tt63) (e := 65) (de := tt65) (enc := eVaR) hv3 tt_ok rfl (by kernel_rfl) (by kernel_rfl) (by kernel_rfl) (by kernel_rfl) len_eVaR (by kernel_rfl) (cells_eVaR v3))⟩, ?_⟩
        refine ⟨.inl ⟨by kernel_rfl, (nstep_ok tt_ok (by kernel_rfl))⟩, ?_⟩
        refine ⟨.inl ⟨by kernel_rfl, (nstep_ok tt_ok (by kernel_rfl))⟩, ?_⟩
        refine ⟨.inl ⟨by kernel_rfl, (nstep_ok tt_ok (by kernel_rfl))⟩, ?_⟩
        refine l_rk 2 tt_ok ⟨45, [(0, (.fz ((eL 4 eVaR) (a0)))), (4, (.ref 1 0 0)), (9, (.fz ((eL 4 eVaR) (a0)))), (10, (fI ((List.length a0 : Int)))), (11, (fI (v1))), (38, (fB (((List.length v2.items : Int) != (List.length v3.items : Int)))))], [(1, (.box 65 [(fI (v2.type)), (fI (v2.num)), (fS (v2.text)), (.fz ((eL 4 eVaR) (v2.items)))]))], [1]⟩ (by kernel_rfl) ?_
        refine l_nil ?_
        obtain rfl := Option.some.inj h
        exact And.intro rfl (le_ck (by kernel_rfl))
     ·clear hj
      intro e st' hq
      obtain ⟨rfl, hle⟩ := hq
      refine ⟨_, hle, ?_⟩
      rcases cond_some h with ⟨hb, h⟩ | ⟨hb, h⟩
      ·refine awp_cond_t (b := v5) (by kernel_rfl) hb ?_
       refine awp_seq ?_
       refine awp_region ?_
       refine l_rk 1 tt_ok ⟨45, [(2, (fI (2)))], [], []⟩ (by kernel_rfl) ?_
       refine l_nil ?_
       refine awp_ret ?_
       obtain rfl := Option.some.inj h
       exact And.intro (And.intro (fun h => nomatch h) (fun h => nomatch h)) (And.intro rfl (show retX _ _ _ _ = some _ from by kernel_rfl))
      ·refine awp_cond_f (b := v5) (by kernel_rfl) hb ?_
       refine awp_skip ?_
       refine awp_seq ?_
       refine awp_region ?_
       refine l_rk 1 tt_ok ⟨45, [(0, (.fz ((eL 4 eVaR) (a0)))), (9, (.fz ((eL 4 eVaR) (a0)))), (10, (fI ((List.length a0 : Int)))), (11, (fI (v1))), (39, (.fz (eVa (v2))))], [], []⟩ (by kernel_rfl) ?_
       obtain ⟨v6, hv6, h⟩ := Option.bind_eq_some_iff.1 h
       refine l_step ((n_call (ys := [eVa (v2)]) (cs := [(.one .keep)]) rfl (by kernel_rfl) (ih128 (v2) _ hv6)).step) (by kernel_rfl) (dst_of (by kernel_rfl)) ?_
       refine l_rk 1 tt_ok ⟨45, [(0, (.fz ((eL 4 eVaR) (a0)))), (5, (fI (v6))), (9, (.fz ((eL 4 eVaR) (a0)))), (10, (fI ((List.length a0 : Int)))), (11, (fI (v1)))], [], []⟩ (by kernel_rfl) ?_
       refine l_nil ?_
       refine awp_seq ?_
       refine awp_region ?_
       refine l_rk 2 tt_ok ⟨45, [(0, (.fz ((eL 4 eVaR) (a0)))), (5, (fI (v6))), (9, (.fz ((eL 4 eVaR) (a0)))), (10, (fI ((List.length a0 : Int)))), (11, (fI (v1))), (42, (fB ((v6 != 0))))], [], []⟩ (by kernel_rfl) ?_
       refine l_nil ?_
       rcases cond_some h with ⟨hb, h⟩ | ⟨hb, h⟩
       ·refine awp_cond_t (b := (v6 != 0)) (by kernel_rfl) hb ?_
        refine awp_seq ?_
        refine awp_region ?_
        refine l_rk 2 tt_ok ⟨45, [(2, (fI (v6)))], [], []⟩ (by kernel_rfl) ?_
        refine l_nil ?_
        refine awp_ret ?_
        obtain rfl := Option.some.inj h
        exact And.intro (And.intro (fun h => nomatch h) (fun h => nomatch h)) (And.intro rfl (show retX _ _ _ _ = some _ from by kernel_rfl))
       ·refine awp_cond_f (b := (v6 != 0)) (by kernel_rfl) hb ?_
        refine awp_skip ?_
        refine awp_region ?_
        refine l_rk 2 tt_ok ⟨45, [(0, (.fz ((eL 4 eVaR) (a0)))), (9, (.fz ((eL 4 eVaR) (a0)))), (10, (fI ((List.length a0 : Int)))), (11, (fI ((w64 (v1 + 1)))))], [], []⟩ (by kernel_rfl) ?_
        refine l_nil ?_
        obtain rfl := Option.some.inj h
        exact And.intro rfl (le_ck (by kernel_rfl))
   ·refine awp_cond_f (b := (decide (v1 < (List.length a0 : Int)))) (by kernel_rfl) hb ?_
    refine awp_exit ?_
    obtain rfl := Option.some.inj h
    exact And.intro (And.intro (fun h => nomatch h) (fun h => nomatch h)) (And.intro rfl (le_ck (by kernel_rfl)))
  ·clear hj
   intro e st' hq
   rcases v7 with v8 | v9
   ·try simp only [Sum.elim_inl, Sum.elim_inr] at h
    obtain ⟨rfl, hle⟩ := hq
    refine ⟨_, hle, ?_⟩
    refine awp_seq ?_
    refine awp_region ?_
    refine l_rk 1 tt_ok ⟨45, [(2, (fI (0)))], [], []⟩ (by kernel_rfl) ?_
    refine l_nil ?_
    refine awp_ret ?_
    obtain rfl := Option.some.inj h
    exact (show retX _ _ _ _ = some _ from by kernel_rfl)
   ·try simp only [Sum.elim_inl, Sum.elim_inr] at h
    obtain ⟨rfl, hret⟩ := hq
    refine ⟨_, LeSt.refl, ?_⟩
    obtain rfl := Option.some.inj h
    exact hret
def value_Check_all : Nat → ((Va) → Option (Int)) × ((List Va) → (Int) → Option (Int)) × ((List Va) → Option (Int))
  | 0 => (fun _ => none, fun _ _ => none, fun _ => none)
  | n + 1 => (value_Check_b ((value_Check_all n).1) ((value_Check_all n).2.1) ((value_Check_all n).2.2), value_elements_b ((value_Check_all n).1) ((value_Check_all n).2.1) ((value_Check_all n).2.2), value_rows_b ((value_Check_all n).1) ((value_Check_all n).2.1) ((value_Check_all n).2.2))
def value_Check (n : Nat) : (Va) → Option (Int) := (value_Check_all n).1
def value_elements (n : Nat) : (List Va) → (Int) → Option (Int) := (value_Check_all n).2.1
def value_rows (n : Nat) : (List Va) → Option (Int) := (value_Check_all n).2.2
theorem value_Check_all_ok : ∀ n : Nat, (∀ (x0 : Va) r, value_Check n x0 = some r → PCall Try.prog 128 [eVa x0] (eI (r))) ∧ (∀ (x0 : List Va) (x1 : Int) r, value_elements n x0 x1 = some r → PCall Try.prog 166 [(eL 4 eVaR) x0, eI x1] (eI (r))) ∧ (∀ (x0 : List Va) r, value_rows n x0 = some r → PCall Try.prog 167 [(eL 4 eVaR) x0] (eI (r)))
  | 0 => ⟨(fun _ _ h => nomatch h), (fun _ _ _ h => nomatch h), (fun _ _ h => nomatch h)⟩
  | n + 1 => ⟨(value_Check_b_ok _ _ _ ((value_Check_all_ok n).1) ((value_Check_all_ok n).2.1) ((value_Check_all_ok n).2.2)), (value_elements_b_ok _ _ _ ((value_Check_all_ok n).1) ((value_Check_all_ok n).2.1) ((value_Check_all_ok n).2.2)), (value_rows_b_ok _ _ _ ((value_Check_all_ok n).1) ((value_Check_all_ok n).2.1) ((value_Check_all_ok n).2.2))⟩
theorem value_Check_ok (n : Nat) : ∀ (x0 : Va) r, value_Check n x0 = some r → PCall Try.prog 128 [eVa x0] (eI (r)) := (value_Check_all_ok n).1
theorem value_elements_ok (n : Nat) : ∀ (x0 : List Va) (x1 : Int) r, value_elements n x0 x1 = some r → PCall Try.prog 166 [(eL 4 eVaR) x0, eI x1] (eI (r)) := (value_Check_all_ok n).2.1
theorem value_rows_ok (n : Nat) : ∀ (x0 : List Va) r, value_rows n x0 = some r → PCall Try.prog 167 [(eL 4 eVaR) x0] (eI (r)) := (value_Check_all_ok n).2.2

def value_Compare_m0 (a0 : Va) (a1 : Va) : List (Nat × AObj) := [(1, (.box 65 [(fI (a0.type)), (fI (a0.num)), (fS (a0.text)), (.fz ((eL 4 eVaR) (a0.items)))])), (2, (.box 65 [(fI (a1.type)), (fI (a1.num)), (fS (a1.text)), (.fz ((eL 4 eVaR) (a1.items)))]))]
def value_Compare_l1 (a0 : Va) (a1 : Va) (r168 : (Va) → (Va) → Option (Int)) (v1 : (Int)) : Option (((Int)) ⊕ (((Unit) ⊕ (Int)))) := (bif (decide (v1 < (List.length a0.items : Int))) then (Option.bind (idx a0.items v1) fun v2 => (bif (v1 == (List.length a1.items : Int)) then (some (.inr (.inr 1))) else (Option.bind (idx a1.items v1) fun v3 => (Option.bind (r168 (v2) (v3)) fun v4 => (bif (v4 != 0) then (some (.inr (.inr v4))) else (some (.inl ((w64 (v1 + 1)))))))))) else (some (.inr (.inl ()))))
def value_Compare_b (r168 : (Va) → (Va) → Option (Int)) (a0 : Va) (a1 : Va) : Option (Int) := (bif (decide (a0.type < a1.type)) then (some (-1)) else (bif (decide (a1.type < a0.type)) then (some 1) else (bif (decide (a0.num < a1.num)) then (some (-1)) else (bif (decide (a1.num < a0.num)) then (some 1) else (bif (Op.bytesLess a0.text.toList a1.text.toList) then (some (-1)) else (bif (!((Op.bytesLess a0.text.toList a1.text.toList) || (a0.text.toList == a1.text.toList))) then (some 1) else (Option.bind (loopN (value_Compare_l1 a0 a1 r168) fuel (0)) fun (v5 : ((Unit) ⊕ (Int))) => Sum.elim (fun v6 => (bif (decide ((List.length a0.items : Int) < (List.length a1.items : Int))) then (some (-1)) else (some 0))) (fun v7 => (some v7)) v5)))))))
theorem value_Compare_b_ok (r168 : (Va) → (Va) → Option (Int)) (ih168 : ∀ (x0 : Va) (x1 : Va) r, r168 x0 x1 = some r → PCall Try.prog 168 [eVa x0, eVa x1] (eI (r))) (a0 : Va) (a1 : Va) (r : Int) (h : value_Compare_b r168 a0 a1 = some r) : PCall Try.prog 168 [eVa a0, eVa a1] (eI (r)) := by
 unfold value_Compare_b at h
 refine pcall_intro (T := TT) tt_ok [.one .keep] Try.func168 rfl (by kernel_rfl) (by kernel_rfl) ?_
 refine awp_le (st' := ⟨75, [(0, (.fz (eVa (a0)))), (1, (.fz (eVa (a1))))], [], []⟩) (le_ck (by kernel_rfl)) ?_
 refine awp_seq ?_
 refine awp_region ?_
 refine l_rk 3 tt_ok ⟨75, [(2, (.ref 1 0 0)), (3, (.ref 2 0 0))], (value_Compare_m0 a0 a1), [2, 1]⟩ (by kernel_rfl) ?_
 refine l_nil ?_
 refine awp_seq ?_
 refine awp_block ?_
 refine awp_seq ?_
 refine awp_region ?_
 refine l_rk 6 tt_ok ⟨75, [(2, (.ref 1 0 0)), (3, (.ref 2 0 0)), (8, (fB ((decide (a0.type < a1.type)))))], (value_Compare_m0 a0 a1), [2, 1]⟩ (by kernel_rfl) ?_
 refine l_nil ?_
 rcases cond_some h with ⟨hb, h⟩ | ⟨hb, h⟩
 ·refine awp_cond_t (b := (decide (a0.type < a1.type))) (by kernel_rfl) hb ?_
  refine awp_seq ?_
  refine awp_region ?_
  refine l_rk 1 tt_ok ⟨75, [(4, (fI ((-1))))], [], []⟩ (by kernel_rfl) ?_
  refine l_nil ?_
  refine awp_ret ?_
  obtain rfl := Option.some.inj h
  exact (show retX _ _ _ _ = some _ from by kernel_rfl)
 ·refine awp_cond_f (b := (decide (a0.type < a1.type))) (by kernel_rfl) hb ?_
  refine awp_seq ?_
  refine awp_region ?_
  refine l_rk 6 tt_ok ⟨75, [(2, (.ref 1 0 0)), (3, (.ref 2 0 0)), (14, (fB ((decide (a1.type < a0.type)))))], (value_Compare_m0 a0 a1), [2, 1]⟩ (by kernel_rfl) ?_
  refine l_nil ?_
  rcases cond_some h with ⟨hb, h⟩ | ⟨hb, h⟩
  ·refine awp_cond_t (b := (decide (a1.type < a0.type))) (by kernel_rfl) hb ?_
   refine awp_seq ?_
   refine awp_region ?_
   refine l_rk 1 tt_ok ⟨75, [(4, (fI (1)))], [], []⟩ (by kernel_rfl) ?_
   refine l_nil ?_
   refine awp_ret ?_
   obtain rfl := Option.some.inj h
   exact (show retX _ _ _ _ = some _ from by kernel_rfl)
  ·refine awp_cond_f (b := (decide (a1.type < a0.type))) (by kernel_rfl) hb ?_
   refine awp_seq ?_
   refine awp_region ?_
   refine l_rk 6 tt_ok ⟨75, [(2, (.ref 1 0 0)), (3, (.ref 2 0 0)), (20, (fB ((decide (a0.num < a1.num)))))], (value_Compare_m0 a0 a1), [2, 1]⟩ (by kernel_rfl) ?_
   refine l_nil ?_
   rcases cond_some h with ⟨hb, h⟩ | ⟨hb, h⟩
   ·refine awp_cond_t (b := (decide (a0.num < a1.num))) (by kernel_rfl) hb ?_
    refine awp_seq ?_
    refine awp_region ?_
    refine l_rk 1 tt_ok ⟨75, [(4, (fI ((-1))))], [], []⟩ (by kernel_rfl) ?_
    refine l_nil ?_
    refine awp_ret ?_
    obtain rfl := Option.some.inj h
    exact (show retX _ _ _ _ = some _ from by kernel_rfl)
   ·refine awp_cond_f (b := (decide (a0.num < a1.num))) (by kernel_rfl) hb ?_
    refine awp_seq ?_
    refine awp_region ?_
    refine l_rk 6 tt_ok ⟨75, [(2, (.ref 1 0 0)), (3, (.ref 2 0 0)), (26, (fB ((decide (a1.num < a0.num)))))], (value_Compare_m0 a0 a1), [2, 1]⟩ (by kernel_rfl) ?_
    refine l_nil ?_
    rcases cond_some h with ⟨hb, h⟩ | ⟨hb, h⟩
    ·refine awp_cond_t (b := (decide (a1.num < a0.num))) (by kernel_rfl) hb ?_
     refine awp_seq ?_
     refine awp_region ?_
     refine l_rk 1 tt_ok ⟨75, [(4, (fI (1)))], [], []⟩ (by kernel_rfl) ?_
     refine l_nil ?_
     refine awp_ret ?_
     obtain rfl := Option.some.inj h
     exact (show retX _ _ _ _ = some _ from by kernel_rfl)
    ·refine awp_cond_f (b := (decide (a1.num < a0.num))) (by kernel_rfl) hb ?_
     refine awp_seq ?_
     refine awp_region ?_
     refine l_rk 6 tt_ok ⟨75, [(2, (.ref 1 0 0)), (3, (.ref 2 0 0)), (32, (fB ((Op.bytesLess a0.text.toList a1.text.toList))))], (value_Compare_m0 a0 a1), [2, 1]⟩ (by kernel_rfl) ?_
     refine l_nil ?_
     rcases cond_some h with ⟨hb, h⟩ | ⟨hb, h⟩
     ·refine awp_cond_t (b := (Op.bytesLess a0.text.toList a1.text.toList)) (by kernel_rfl) hb ?_
      refine awp_seq ?_
      refine awp_region ?_
      refine l_rk 1 tt_ok ⟨75, [(4, (fI ((-1))))], [], []⟩ (by kernel_rfl) ?_
      refine l_nil ?_
      refine awp_ret ?_
      obtain rfl := Option.some.inj h
      exact (show retX _ _ _ _ = some _ from by kernel_rfl)
     ·refine awp_cond_f (b := (Op.bytesLess a0.text.toList a1.text.toList)) (by kernel_rfl) hb ?_
      refine awp_seq ?_
      refine awp_region ?_
      refine l_rk 6 tt_ok ⟨75, [(2, (.ref 1 0 0)), (3, (.ref 2 0 0)), (38, (fB ((!((Op.bytesLess a0.text.toList a1.text.toList) || (a0.text.toList == a1.text.toList))))))], (value_Compare_m0 a0 a1), [2, 1]⟩ (by kernel_rfl) ?_
      refine l_nil ?_
      rcases cond_some h with ⟨hb, h⟩ | ⟨hb, h⟩
      ·refine awp_cond_t (b := (!((Op.bytesLess a0.text.toList a1.text.toList) || (a0.text.toList == a1.text.toList)))) (by kernel_rfl) hb ?_
       refine awp_seq ?_
       refine awp_region ?_
       refine l_rk 1 tt_ok ⟨75, [(4, (fI (1)))], [], []⟩ (by kernel_rfl) ?_
       refine l_nil ?_
       refine awp_ret ?_
       obtain rfl := Option.some.inj h
       exact (show retX _ _ _ _ = some _ from by kernel_rfl)
      ·refine awp_cond_f (b := (!((Op.bytesLess a0.text.toList a1.text.toList) || (a0.text.toList == a1.text.toList)))) (by kernel_rfl) hb ?_
       refine awp_skip ?_
       refine awp_seq ?_
       refine awp_seq ?_
       refine awp_region ?_
       refine l_rk 4 tt_ok ⟨75, [(2, (.ref 1 0 0)), (3, (.ref 2 0 0)), (45, (.fz ((eL 4 eVaR) (a0.items)))), (46, (fI ((List.length a0.items : Int)))), (47, (fI (0)))], (value_Compare_m0 a0 a1), [2, 1]⟩ (by kernel_rfl) ?_
       refine l_nil ?_
       refine awp_block ?_
       obtain ⟨v5, hj, h⟩ := Option.bind_eq_some_iff.1 h
       refine awp_join (Qa := fun e st => Sum.elim (fun p => e = .exit 1 ∧ LeSt st ⟨75, [(2, (.ref 1 0 0)), (3, (.ref 2 0 0))], (value_Compare_m0 a0 a1), [2, 1]⟩) (fun p => e = .ret ∧ retX TT st Try.f168.results.toList [.one .keep] = some (eI (p))) v5) ?_ ?_
       ·refine awp_loopS (stOf := fun v1 => ⟨75, [(2, (.ref 1 0 0)), (3, (.ref 2 0 0)), (45, (.fz ((eL 4 eVaR) (a0.items)))), (46, (fI ((List.length a0.items : Int)))), (47, (fI (v1)))], (value_Compare_m0 a0 a1), [2, 1]⟩) (Qb := fun j e st => Sum.elim (fun p => e = .exit 1 ∧ LeSt st ⟨75, [(2, (.ref 1 0 0)), (3, (.ref 2 0 0))], (value_Compare_m0 a0 a1), [2, 1]⟩) (fun p => e = .ret ∧ retX TT st Try.f168.results.toList [.one .keep] = some (eI (p))) j) hj (le_ck (by kernel_rfl)) ?_
        clear hj h
        intro v1 r h
        unfold value_Compare_l1 at h
        refine awp_seq ?_
        refine awp_region ?_
        refine l_rk 1 tt_ok ⟨75, [(2, (.ref 1 0 0)), (3, (.ref 2 0 0)), (45, (.fz ((eL 4 eVaR) (a0.items)))), (46, (fI ((List.length a0.items : Int)))), (47, (fI (v1))), (48, (fB ((decide (v1 < (List.length a0.items : Int))))))], (value_Compare_m0 a0 a1), [2, 1]⟩ (by kernel_rfl) ?_
        refine l_nil ?_
        refine awp_seq ?_
        rcases cond_some h with ⟨hb, h⟩ | ⟨hb, h⟩
        ·refine awp_cond_t (b := (decide (v1 < (List.length a0.items : Int)))) (by kernel_rfl) hb ?_
         refine awp_skip ?_
         refine awp_seq ?_
         refine awp_block ?_
         refine awp_seq ?_
         refine awp_region ?_
         refine l_rk 1 tt_ok ⟨75, [(2, (.ref 1 0 0)), (3, (.ref 2 0 0)), (45, (.fz ((eL 4 eVaR) (a0.items)))), (46, (fI ((List.length a0.items : Int)))), (47, (fI (v1))), (49, (fI (v1)))], (value_Compare_m0 a0 a1), [2, 1]⟩ (by kernel_rfl) ?_
         obtain ⟨v2, hv2, h⟩ := Option.bind_eq_some_iff.1 h
         refine l_step ((s_index (k := .i64) (d := tt63) (e := 65) (de := tt65) (enc := eVaR) hv2 tt_ok rfl (by kernel_rfl) (by kernel_rfl) (by kernel_rfl) (by kernel_rfl) len_eVaR (by kernel_rfl) (cells_eVaR v2)).step) (by kernel_rfl) (dst_of (by kernel_rfl)) ?_
         refine l_rk 4 tt_ok ⟨75, [(2, (.ref 1 0 0)), (3, (.ref 2 0 0)), (5, (fI (v1))), (6, (.ref 3 0 0)), (45, (.fz ((eL 4 eVaR) (a0.items)))), (46, (fI ((List.length a0.items : Int)))), (47, (fI (v1)))], [(1, (.box 65 [(fI (a0.type)), (fI (a0.num)), (fS (a0.text)), (.fz ((eL 4 eVaR) (a0.items)))])), (2, (.box 65 [(fI (a1.type)), (fI (a1.num)), (fS (a1.text)), (.fz ((eL 4 eVaR) (a1.items)))])), (3, (.box 65 [(fI (v2.type)), (fI (v2.num)), (fS (v2.text)), (.fz ((eL 4 eVaR) (v2.items)))]))], [3, 2, 1]⟩ (by kernel_rfl) ?_
         refine l_nil ?_
         refine awp_seq ?_
         refine awp_seq ?_
         refine awp_region ?_
         refine l_rk 5 tt_ok ⟨75, [(2, (.ref 1 0 0)), (3, (.ref 2 0 0)), (5, (fI (v1))), (6, (.ref 3 0 0)), (45, (.fz ((eL 4 eVaR) (a0.items)))), (46, (fI ((List.length a0.items : Int)))), (47, (fI (v1))), (56, (fB ((v1 == (List.length a1.items : Int)))))], [(1, (.box 65 [(fI (a0.type)), (fI (a0.num)), (fS (a0.text)), (.fz ((eL 4 eVaR) (a0.items)))])), (2, (.box 65 [(fI (a1.type)), (fI (a1.num)), (fS (a1.text)), (.fz ((eL 4 eVaR) (a1.items)))])), (3, (.box 65 [(fI (v2.type)), (fI (v2.num)), (fS (v2.text)), (.fz ((eL 4 eVaR) (v2.items)))]))], [3, 2, 1]⟩ (by kernel_rfl) ?_
         refine l_nil ?_
         rcases cond_some h with ⟨hb, h⟩ | ⟨hb, h⟩
         ·refine awp_cond_t (b := (v1 == (List.length a1.items : Int))) (by kernel_rfl) hb ?_
          refine awp_seq ?_
          refine awp_region ?_
          refine l_rk 1 tt_ok ⟨75, [(4, (fI (1)))], [], []⟩ (by kernel_rfl) ?_
          refine l_nil ?_
          refine awp_ret ?_
          obtain rfl := Option.some.inj h
          exact And.intro (And.intro (fun h => nomatch h) (fun h => nomatch h)) (And.intro rfl (show retX _ _ _ _ = some _ from by kernel_rfl))
         ·refine awp_cond_f (b := (v1 == (List.length a1.items : Int))) (by kernel_rfl) hb ?_
          refine awp_skip ?_
          refine awp_seq ?_
          obtain ⟨v3, hv3, h⟩ := Option.bind_eq_some_iff.1 h
          refine awp_drawn (by kernel_rfl) [(.fz (eVa (v2))), (.ref 2 0 3), (.fz ((eL 4 eVaR) (a1.items))), (fI (v1)), (.fz (.fp [(eI (v3.type)), (eI (v3.num)), (eS (v3.text)), ((eL 4 eVaR) (v3.items))])), (.fz (eVa (v3)))] (by kernel_rfl) ?_
          refine ⟨.inl ⟨by kernel_rfl, (nstep_ok tt_ok (by kernel_rfl))⟩, ?_⟩
          refine ⟨.inl ⟨by kernel_rfl, (nstep_ok tt_ok (by kernel_rfl))⟩, ?_⟩
          refine ⟨.inl ⟨by kernel_rfl, (nstep_ok tt_ok (by kernel_rfl))⟩, ?_⟩
          refine ⟨.inl ⟨by kernel_rfl, (nstep_ok tt_ok (by kernel_rfl))⟩, ?_⟩
          refine ⟨.inl ⟨by kernel_rfl, (s_index (k := .i64) (d := tt63) (e := 65) (de := tt65) (enc := eVaR) hv3 tt_ok rfl (by kernel_rfl) (by kernel_rfl) (by kernel_rfl) (by kernel_rfl) len_eVaR (by kernel_rfl) (cells_eVaR v3))⟩, ?_⟩
          refine ⟨.inl ⟨by kernel_rfl, (nstep_ok tt_ok (by kernel_rfl))⟩, ?_⟩
          refine l_rk 0 tt_ok ⟨75, [(2, (.ref 1 0 0)), (3, (.ref 2 0 0)), (45, (.fz ((eL 4 eVaR) (a0.items)))), (46, (fI ((List.length a0.items : Int)))), (47, (fI (v1))), (57, (.fz (eVa (v2)))), (62, (.fz (eVa (v3))))], (value_Compare_m0 a0 a1), [2, 1]⟩ (by kernel_rfl) ?_
          obtain ⟨v4, hv4, h⟩ := Option.bind_eq_some_iff.1 h
          refine l_step ((n_call (ys := [eVa (v2), eVa (v3)]) (cs := [(.one .keep), (.one .keep)]) rfl (by kernel_rfl) (ih168 (v2) (v3) _ hv4)).step) (by kernel_rfl) (dst_of (by kernel_rfl)) ?_
          refine l_rk 1 tt_ok ⟨75, [(2, (.ref 1 0 0)), (3, (.ref 2 0 0)), (7, (fI (v4))), (45, (.fz ((eL 4 eVaR) (a0.items)))), (46, (fI ((List.length a0.items : Int)))), (47, (fI (v1)))], (value_Compare_m0 a0 a1), [2, 1]⟩ (by kernel_rfl) ?_
          refine l_nil ?_
          refine awp_seq ?_
          refine awp_region ?_
          refine l_rk 2 tt_ok ⟨75, [(2, (.ref 1 0 0)), (3, (.ref 2 0 0)), (7, (fI (v4))), (45, (.fz ((eL 4 eVaR) (a0.items)))), (46, (fI ((List.length a0.items : Int)))), (47, (fI (v1))), (65, (fB ((v4 != 0))))], (value_Compare_m0 a0 a1), [2, 1]⟩ (by kernel_rfl) ?_
          refine l_nil ?_
          rcases cond_some h with ⟨hb, h⟩ | ⟨hb, h⟩
          ·refine awp_cond_t (b := (v4 != 0)) (by kernel_rfl) hb ?_
           refine awp_seq ?_
           refine awp_region ?_
           refine l_rk 2 tt_ok ⟨75, [(4, (fI (v4)))], [], []⟩ (by kernel_rfl) ?_
           refine l_nil ?_
           refine awp_ret ?_
           obtain rfl := Option.some.inj h
           exact And.intro (And.intro (fun h => nomatch h) (fun h => nomatch h)) (And.intro rfl (show retX _ _ _ _ = some _ from by kernel_rfl))
          ·refine awp_cond_f (b := (v4 != 0)) (by kernel_rfl) hb ?_
           refine awp_skip ?_
           refine awp_region ?_
           refine l_rk 2 tt_ok ⟨75, [(2, (.ref 1 0 0)), (3, (.ref 2 0 0)), (45, (.fz ((eL 4 eVaR) (a0.items)))), (46, (fI ((List.length a0.items : Int)))), (47, (fI ((w64 (v1 + 1)))))], (value_Compare_m0 a0 a1), [2, 1]⟩ (by kernel_rfl) ?_
           refine l_nil ?_
           obtain rfl := Option.some.inj h
           exact And.intro rfl (le_ck (by kernel_rfl))
        ·refine awp_cond_f (b := (decide (v1 < (List.length a0.items : Int)))) (by kernel_rfl) hb ?_
         refine awp_exit ?_
         obtain rfl := Option.some.inj h
         exact And.intro (And.intro (fun h => nomatch h) (fun h => nomatch h)) (And.intro rfl (le_ck (by kernel_rfl)))
       ·clear hj
        intro e st' hq
        rcases v5 with v6 | v7
        ·try simp only [Sum.elim_inl, Sum.elim_inr] at h
         obtain ⟨rfl, hle⟩ := hq
         refine ⟨_, hle, ?_⟩
         refine awp_seq ?_
         refine awp_seq ?_
         refine awp_region ?_
         refine l_rk 7 tt_ok ⟨75, [(74, (fB ((decide ((List.length a0.items : Int) < (List.length a1.items : Int))))))], [], []⟩ (by kernel_rfl) ?_
         refine l_nil ?_
         rcases cond_some h with ⟨hb, h⟩ | ⟨hb, h⟩
         ·refine awp_cond_t (b := (decide ((List.length a0.items : Int) < (List.length a1.items : Int)))) (by kernel_rfl) hb ?_
          refine awp_seq ?_
          refine awp_region ?_
          refine l_rk 1 tt_ok ⟨75, [(4, (fI ((-1))))], [], []⟩ (by kernel_rfl) ?_
          refine l_nil ?_
          refine awp_ret ?_
          obtain rfl := Option.some.inj h
          exact (show retX _ _ _ _ = some _ from by kernel_rfl)
         ·refine awp_cond_f (b := (decide ((List.length a0.items : Int) < (List.length a1.items : Int)))) (by kernel_rfl) hb ?_
          refine awp_skip ?_
          refine awp_seq ?_
          refine awp_region ?_
          refine l_rk 1 tt_ok ⟨75, [(4, (fI (0)))], [], []⟩ (by kernel_rfl) ?_
          refine l_nil ?_
          refine awp_ret ?_
          obtain rfl := Option.some.inj h
          exact (show retX _ _ _ _ = some _ from by kernel_rfl)
        ·try simp only [Sum.elim_inl, Sum.elim_inr] at h
         obtain ⟨rfl, hret⟩ := hq
         refine ⟨_, LeSt.refl, ?_⟩
         obtain rfl := Option.some.inj h
         exact hret
def value_Compare : Nat → (Va) → (Va) → Option (Int)
  | 0 => fun _ _ => none
  | n + 1 => value_Compare_b (value_Compare n)
theorem value_Compare_ok : ∀ (n : Nat) (x0 : Va) (x1 : Va) r, value_Compare n x0 x1 = some r → PCall Try.prog 168 [eVa x0, eVa x1] (eI (r))
  | 0, _, _, _, h => by cases h
  | n + 1, x0, x1, r, h => value_Compare_b_ok (value_Compare n) (value_Compare_ok n) x0 x1 r h

def value_Equal (a0 : Va) (a1 : Va) : Option (Bool) := (Option.bind (value_Compare fuel (a0) (a1)) fun v1 => (some (v1 == 0)))
theorem value_Equal_ok (a0 : Va) (a1 : Va) (r : Bool) (h : value_Equal a0 a1 = some r) : PCall Try.prog 129 [eVa a0, eVa a1] (eB (r)) := by
 unfold value_Equal at h
 refine pcall_intro (T := TT) tt_ok [.one .keep] Try.func129 rfl (by kernel_rfl) (by kernel_rfl) ?_
 refine awp_le (st' := ⟨9, [(0, (.fz (eVa (a0)))), (1, (.fz (eVa (a1))))], [], []⟩) (le_ck (by kernel_rfl)) ?_
 refine awp_seq ?_
 refine awp_region ?_
 refine l_rk 3 tt_ok ⟨9, [(2, (.ref 1 0 0)), (3, (.ref 2 0 0))], [(1, (.box 65 [(fI (a0.type)), (fI (a0.num)), (fS (a0.text)), (.fz ((eL 4 eVaR) (a0.items)))])), (2, (.box 65 [(fI (a1.type)), (fI (a1.num)), (fS (a1.text)), (.fz ((eL 4 eVaR) (a1.items)))]))], [2, 1]⟩ (by kernel_rfl) ?_
 refine l_nil ?_
 refine awp_seq ?_
 refine awp_region ?_
 refine l_rk 2 tt_ok ⟨9, [(5, (.fz (eVa (a0)))), (6, (.fz (eVa (a1))))], [], []⟩ (by kernel_rfl) ?_
 obtain ⟨v1, hv1, h⟩ := Option.bind_eq_some_iff.1 h
 refine l_step ((n_call (ys := [eVa (a0), eVa (a1)]) (cs := [(.one .keep), (.one .keep)]) rfl (by kernel_rfl) (value_Compare_ok fuel (a0) (a1) _ hv1)).step) (by kernel_rfl) (dst_of (by kernel_rfl)) ?_
 refine l_rk 2 tt_ok ⟨9, [(4, (fB ((v1 == 0))))], [], []⟩ (by kernel_rfl) ?_
 refine l_nil ?_
 refine awp_ret ?_
 obtain rfl := Option.some.inj h
 exact (show retX _ _ _ _ = some _ from by kernel_rfl)

def internal_stringslite_IndexByte (a0 : ByteArray) (a1 : Int) : Option (Int) := (some (Lib.indexByte (ByteArray.data a0).toList (Int.toNat a1).toUInt8))
theorem internal_stringslite_IndexByte_ok (a0 : ByteArray) (a1 : Int) (r : Int) (h : internal_stringslite_IndexByte a0 a1 = some r) : PCall Try.prog 188 [eS a0, eU8 a1] (eI (r)) := by
 unfold internal_stringslite_IndexByte at h
 refine pcall_intro (T := TT) tt_ok [.one .keep] Try.func188 rfl (by kernel_rfl) (by kernel_rfl) ?_
 refine awp_le (st' := ⟨8, [(0, (fS (a0))), (1, (.fz (eU8 (a1))))], [], []⟩) (le_ck (by kernel_rfl)) ?_
 refine awp_seq ?_
 refine awp_region ?_
 refine l_rk 1 tt_ok ⟨8, [(0, (fS (a0))), (1, (.fz (eU8 (a1))))], [], []⟩ (by kernel_rfl) ?_
 refine l_nil ?_
 refine awp_seq ?_
 refine awp_region ?_
 refine l_rk 2 tt_ok ⟨8, [(5, (fS (a0))), (6, (.fz (eU8 (a1))))], [], []⟩ (by kernel_rfl) ?_
 refine l_step ((s_idxByte (fn := Try.f192) (s := a0) (c := a1) rfl Try.func192 (by kernel_rfl) (by kernel_rfl) (by kernel_rfl) (by kernel_rfl) (by kernel_rfl) (by kernel_rfl)).step) (by kernel_rfl) (dst_of (by kernel_rfl)) ?_
 refine l_rk 1 tt_ok ⟨8, [(4, (fI ((Lib.indexByte (ByteArray.data a0).toList (Int.toNat a1).toUInt8))))], [], []⟩ (by kernel_rfl) ?_
 refine l_nil ?_
 refine awp_ret ?_
 obtain rfl := Option.some.inj h
 exact (show retX _ _ _ _ = some _ from by kernel_rfl)

def synthesisref01_sign (a0 : Bool) : Option (Int) := (bif a0 then (some (-1)) else (some 1))
theorem synthesisref01_sign_ok (a0 : Bool) (r : Int) (h : synthesisref01_sign a0 = some r) : PCall Try.prog 185 [eB a0] (eI (r)) := by
 unfold synthesisref01_sign at h
 refine pcall_intro (T := TT) tt_ok [.one .keep] Try.func185 rfl (by kernel_rfl) (by kernel_rfl) ?_
 refine awp_le (st' := ⟨4, [(0, (fB (a0)))], [], []⟩) (le_ck (by kernel_rfl)) ?_
 refine awp_seq ?_
 refine awp_region ?_
 refine l_rk 1 tt_ok ⟨4, [(0, (fB (a0)))], [], []⟩ (by kernel_rfl) ?_
 refine l_nil ?_
 refine awp_seq ?_
 refine awp_seq ?_
 refine awp_region ?_
 refine l_rk 1 tt_ok ⟨4, [(3, (fB (a0)))], [], []⟩ (by kernel_rfl) ?_
 refine l_nil ?_
 rcases cond_some h with ⟨hb, h⟩ | ⟨hb, h⟩
 ·refine awp_cond_t (b := a0) (by kernel_rfl) hb ?_
  refine awp_seq ?_
  refine awp_region ?_
  refine l_rk 1 tt_ok ⟨4, [(2, (fI ((-1))))], [], []⟩ (by kernel_rfl) ?_
  refine l_nil ?_
  refine awp_ret ?_
  obtain rfl := Option.some.inj h
  exact (show retX _ _ _ _ = some _ from by kernel_rfl)
 ·refine awp_cond_f (b := a0) (by kernel_rfl) hb ?_
  refine awp_skip ?_
  refine awp_seq ?_
  refine awp_region ?_
  refine l_rk 1 tt_ok ⟨4, [(2, (fI (1)))], [], []⟩ (by kernel_rfl) ?_
  refine l_nil ?_
  refine awp_ret ?_
  obtain rfl := Option.some.inj h
  exact (show retX _ _ _ _ = some _ from by kernel_rfl)
end Go.Proofs.Ytaeicmnimjfbaaa
