/- Typed programs and what computes them. -/
import Derived.Test.YtaeicmnimjfbaaaZ3
set_option linter.unusedVariables false
set_option linter.unusedSimpArgs false
set_option maxRecDepth 100000
namespace Go.Proofs.Ytaeicmnimjfbaaa
open Go Go.RowKit Go.Proofs
def synthesisref01_Check_m0 (a0 : Va) : List (Nat × AObj) := [(1, (.box 65 [(fI (a0.type)), (fI (a0.num)), (fS (a0.text)), (.fz ((eL 4 eVaR) (a0.items)))]))]
def synthesisref01_Check_b (r131 : (Va) → Option (Int)) (r171 : (List Va) → (Int) → Option (Int)) (r172 : (List Va) → Option (Int)) (a0 : Va) : Option (Int) := (Option.bind ((bif (decide (a0.type < 1)) then (some (true)) else (some ((decide (8 < a0.type))))) : Option ((Bool))) fun (v2 : (Bool)) => (bif v2 then (some 3) else (Option.bind ((bif (a0.type == 1) then (some (true)) else (bif (a0.type == 2) then (some (true)) else (some ((a0.type == 4))))) : Option ((Bool))) fun (v4 : (Bool)) => (Option.bind ((bif (a0.type == 3) then (some (true)) else (some ((a0.type == 8)))) : Option ((Bool))) fun (v6 : (Bool)) => (Option.bind ((bif (!v4) then (bif (a0.num != 0) then (some (true)) else (bif (!v6) then (bif (!(a0.text.toList == (⟨#[]⟩ : ByteArray).toList)) then (some (true)) else (bif v4 then (some ((decide (0 < (List.length a0.items : Int))))) else (bif v6 then (some ((decide (0 < (List.length a0.items : Int))))) else (some (false))))) else (bif v4 then (some ((decide (0 < (List.length a0.items : Int))))) else (bif v6 then (some ((decide (0 < (List.length a0.items : Int))))) else (some (false)))))) else (bif (!v6) then (bif (!(a0.text.toList == (⟨#[]⟩ : ByteArray).toList)) then (some (true)) else (bif v4 then (some ((decide (0 < (List.length a0.items : Int))))) else (bif v6 then (some ((decide (0 < (List.length a0.items : Int))))) else (some (false))))) else (bif v4 then (some ((decide (0 < (List.length a0.items : Int))))) else (bif v6 then (some ((decide (0 < (List.length a0.items : Int))))) else (some (false)))))) : Option ((Bool))) fun (v8 : (Bool)) => (bif v8 then (some 4) else (bif (a0.type == 1) then (Option.bind (synthesisref01_within (a0.num) (0) (1)) fun v9 => (some v9)) else (bif (a0.type == 2) then (Option.bind (synthesisref01_within (a0.num) ((-1000000)) (1000000)) fun v10 => (some v10)) else (bif (a0.type == 4) then (Option.bind (synthesisref01_within (a0.num) (0) (255)) fun v11 => (some v11)) else (bif (a0.type == 3) then (Option.bind (synthesisref01_plain (a0.text) (0) (64)) fun v12 => (some v12)) else (bif (a0.type == 8) then (Option.bind (synthesisref01_plain (a0.text) (1) (40)) fun v13 => (some v13)) else (bif (a0.type == 5) then (Option.bind (r171 (a0.items) (2)) fun v14 => (some v14)) else (bif (a0.type == 6) then (Option.bind (r171 (a0.items) (3)) fun v15 => (some v15)) else (Option.bind (r172 (a0.items)) fun v16 => (some v16)))))))))))))))
theorem synthesisref01_Check_b_ok (r131 : (Va) → Option (Int)) (r171 : (List Va) → (Int) → Option (Int)) (r172 : (List Va) → Option (Int)) (ih131 : ∀ (x0 : Va) r, r131 x0 = some r → PCall Try.prog 131 [eVa x0] (eI (r))) (ih171 : ∀ (x0 : List Va) (x1 : Int) r, r171 x0 x1 = some r → PCall Try.prog 171 [(eL 4 eVaR) x0, eI x1] (eI (r))) (ih172 : ∀ (x0 : List Va) r, r172 x0 = some r → PCall Try.prog 172 [(eL 4 eVaR) x0] (eI (r))) (a0 : Va) (r : Int) (h : synthesisref01_Check_b r131 r171 r172 a0 = some r) : PCall Try.prog 131 [eVa a0] (eI (r)) := by
 unfold synthesisref01_Check_b at h
 refine pcall_intro (T := TT) tt_ok [.one .keep] Try.func131 rfl (by kernel_rfl) (by kernel_rfl) ?_
 refine awp_le (st' := ⟨102, [(0, (.fz (eVa (a0))))], [], []⟩) (le_ck (by kernel_rfl)) ?_
 refine awp_seq ?_
 refine awp_region ?_
 refine l_rk 2 tt_ok ⟨102, [(1, (.ref 1 0 0))], (synthesisref01_Check_m0 a0), [1]⟩ (by kernel_rfl) ?_
 refine l_nil ?_
 refine awp_seq ?_
 refine awp_seq ?_
 obtain ⟨v2, hj, h⟩ := Option.bind_eq_some_iff.1 h
 refine awp_join (Qa := fun e st => e = .normal ∧ LeSt st ⟨102, [(1, (.ref 1 0 0)), (12, (fB (v2)))], (synthesisref01_Check_m0 a0), [1]⟩) ?_ ?_
 ·replace h := hj
  clear hj
  refine awp_region ?_
  refine l_rk 4 tt_ok ⟨102, [(1, (.ref 1 0 0)), (8, (fB ((decide (a0.type < 1)))))], (synthesisref01_Check_m0 a0), [1]⟩ (by kernel_rfl) ?_
  rcases cond_some h with ⟨hb, h⟩ | ⟨hb, h⟩
  ·refine l_le (le_eq (t := 8) (x := .fz (eB (decide (a0.type < 1)))) (y := .fz (eB true)) (by kernel_rfl) (congrArg (fun b => AV.fz (eB b)) hb)) ?_
   refine l_rk 4 tt_ok ⟨102, [(1, (.ref 1 0 0)), (12, (fB (true)))], (synthesisref01_Check_m0 a0), [1]⟩ (by kernel_rfl) ?_
   refine l_nil ?_
   obtain rfl := Option.some.inj h
   exact And.intro rfl (le_ck (by kernel_rfl))
  ·refine l_le (le_eq (t := 8) (x := .fz (eB (decide (a0.type < 1)))) (y := .fz (eB false)) (by kernel_rfl) (congrArg (fun b => AV.fz (eB b)) hb)) ?_
   refine l_rk 4 tt_ok ⟨102, [(1, (.ref 1 0 0)), (12, (fB ((decide (8 < a0.type)))))], (synthesisref01_Check_m0 a0), [1]⟩ (by kernel_rfl) ?_
   refine l_nil ?_
   obtain rfl := Option.some.inj h
   exact And.intro rfl (le_ck (by kernel_rfl))
 ·clear hj
  intro e st' hq
  obtain ⟨rfl, hle⟩ := hq
  refine ⟨_, hle, ?_⟩
  rcases cond_some h with ⟨hb, h⟩ | ⟨hb, h⟩
  ·refine awp_cond_t (b := v2) (by kernel_rfl) hb ?_
   refine awp_seq ?_
   refine awp_region ?_
   refine l_rk 1 tt_ok ⟨102, [(2, (fI (3)))], [], []⟩ (by kernel_rfl) ?_
   refine l_nil ?_
   refine awp_ret ?_
   obtain rfl := Option.some.inj h
   exact (show retX _ _ _ _ = some _ from by kernel_rfl)
  ·refine awp_cond_f (b := v2) (by kernel_rfl) hb ?_
   refine awp_skip ?_
   refine awp_seq ?_
   obtain ⟨v4, hj, h⟩ := Option.bind_eq_some_iff.1 h
   refine awp_join (Qa := fun e st => e = .normal ∧ LeSt st ⟨102, [(1, (.ref 1 0 0)), (3, (fB (v4)))], (synthesisref01_Check_m0 a0), [1]⟩) ?_ ?_
   ·replace h := hj
    clear hj
    refine awp_region ?_
    refine l_rk 4 tt_ok ⟨102, [(1, (.ref 1 0 0)), (16, (fB ((a0.type == 1))))], (synthesisref01_Check_m0 a0), [1]⟩ (by kernel_rfl) ?_
    rcases cond_some h with ⟨hb, h⟩ | ⟨hb, h⟩
    ·refine l_le (le_eq (t := 16) (x := .fz (eB (a0.type == 1))) (y := .fz (eB true)) (by kernel_rfl) (congrArg (fun b => AV.fz (eB b)) hb)) ?_
     refine l_rk 10 tt_ok ⟨102, [(1, (.ref 1 0 0)), (3, (fB (true)))], (synthesisref01_Check_m0 a0), [1]⟩ (by kernel_rfl) ?_
     refine l_nil ?_
     obtain rfl := Option.some.inj h
     exact And.intro rfl (le_ck (by kernel_rfl))
    ·refine l_le (le_eq (t := 16) (x := .fz (eB (a0.type == 1))) (y := .fz (eB false)) (by kernel_rfl) (congrArg (fun b => AV.fz (eB b)) hb)) ?_
     refine l_rk 5 tt_ok ⟨102, [(1, (.ref 1 0 0)), (21, (fB ((a0.type == 2))))], (synthesisref01_Check_m0 a0), [1]⟩ (by kernel_rfl) ?_
     rcases cond_some h with ⟨hb, h⟩ | ⟨hb, h⟩
     ·refine l_le (le_eq (t := 21) (x := .fz (eB (a0.type == 2))) (y := .fz (eB true)) (by kernel_rfl) (congrArg (fun b => AV.fz (eB b)) hb)) ?_
      refine l_rk 5 tt_ok ⟨102, [(1, (.ref 1 0 0)), (3, (fB (true)))], (synthesisref01_Check_m0 a0), [1]⟩ (by kernel_rfl) ?_
      refine l_nil ?_
      obtain rfl := Option.some.inj h
      exact And.intro rfl (le_ck (by kernel_rfl))
     ·refine l_le (le_eq (t := 21) (x := .fz (eB (a0.type == 2))) (y := .fz (eB false)) (by kernel_rfl) (congrArg (fun b => AV.fz (eB b)) hb)) ?_
      refine l_rk 5 tt_ok ⟨102, [(1, (.ref 1 0 0)), (3, (fB ((a0.type == 4))))], (synthesisref01_Check_m0 a0), [1]⟩ (by kernel_rfl) ?_
      refine l_nil ?_
      obtain rfl := Option.some.inj h
      exact And.intro rfl (le_ck (by kernel_rfl))
   ·clear hj
    intro e st' hq
    obtain ⟨rfl, hle⟩ := hq
    refine ⟨_, hle, ?_⟩
    refine awp_seq ?_
    obtain ⟨v6, hj, h⟩ := Option.bind_eq_some_iff.1 h
    refine awp_join (Qa := fun e st => e = .normal ∧ LeSt st ⟨102, [(1, (.ref 1 0 0)), (3, (fB (v4))), (4, (fB (v6)))], (synthesisref01_Check_m0 a0), [1]⟩) ?_ ?_
    ·replace h := hj
     clear hj
     refine awp_region ?_
     refine l_rk 4 tt_ok ⟨102, [(1, (.ref 1 0 0)), (3, (fB (v4))), (29, (fB ((a0.type == 3))))], (synthesisref01_Check_m0 a0), [1]⟩ (by kernel_rfl) ?_
     rcases cond_some h with ⟨hb, h⟩ | ⟨hb, h⟩
     ·refine l_le (le_eq (t := 29) (x := .fz (eB (a0.type == 3))) (y := .fz (eB true)) (by kernel_rfl) (congrArg (fun b => AV.fz (eB b)) hb)) ?_
      refine l_rk 5 tt_ok ⟨102, [(1, (.ref 1 0 0)), (3, (fB (v4))), (4, (fB (true)))], (synthesisref01_Check_m0 a0), [1]⟩ (by kernel_rfl) ?_
      refine l_nil ?_
      obtain rfl := Option.some.inj h
      exact And.intro rfl (le_ck (by kernel_rfl))
     ·refine l_le (le_eq (t := 29) (x := .fz (eB (a0.type == 3))) (y := .fz (eB false)) (by kernel_rfl) (congrArg (fun b => AV.fz (eB b)) hb)) ?_
      refine l_rk 5 tt_ok ⟨102, [(1, (.ref 1 0 0)), (3, (fB (v4))), (4, (fB ((a0.type == 8))))], (synthesisref01_Check_m0 a0), [1]⟩ (by kernel_rfl) ?_
      refine l_nil ?_
      obtain rfl := Option.some.inj h
      exact And.intro rfl (le_ck (by kernel_rfl))
    ·clear hj
     intro e st' hq
     obtain ⟨rfl, hle⟩ := hq
     refine ⟨_, hle, ?_⟩
     refine awp_seq ?_
     refine awp_seq ?_
     obtain ⟨v8, hj, h⟩ := Option.bind_eq_some_iff.1 h
     refine awp_join (Qa := fun e st => e = .normal ∧ LeSt st ⟨102, [(1, (.ref 1 0 0)), (61, (fB (v8)))], (synthesisref01_Check_m0 a0), [1]⟩) ?_ ?_
     ·replace h := hj
      clear hj
      refine awp_region ?_
      refine l_rk 3 tt_ok ⟨102, [(1, (.ref 1 0 0)), (3, (fB (v4))), (4, (fB (v6))), (36, (fB ((!v4))))], (synthesisref01_Check_m0 a0), [1]⟩ (by kernel_rfl) ?_
      rcases cond_some h with ⟨hb, h⟩ | ⟨hb, h⟩
      ·refine l_le (le_eq (t := 36) (x := .fz (eB (!v4))) (y := .fz (eB true)) (by kernel_rfl) (congrArg (fun b => AV.fz (eB b)) hb)) ?_
       refine l_rk 5 tt_ok ⟨102, [(1, (.ref 1 0 0)), (3, (fB (v4))), (4, (fB (v6))), (41, (fB ((a0.num != 0))))], (synthesisref01_Check_m0 a0), [1]⟩ (by kernel_rfl) ?_
       rcases cond_some h with ⟨hb, h⟩ | ⟨hb, h⟩
       ·refine l_le (le_eq (t := 41) (x := .fz (eB (a0.num != 0))) (y := .fz (eB true)) (by kernel_rfl) (congrArg (fun b => AV.fz (eB b)) hb)) ?_
        refine l_rk 20 tt_ok ⟨102, [(1, (.ref 1 0 0)), (61, (fB (true)))], (synthesisref01_Check_m0 a0), [1]⟩ (by kernel_rfl) ?_
        refine l_nil ?_
        obtain rfl := Option.some.inj h
        exact And.intro rfl (le_ck (by kernel_rfl))
       ·refine l_le (le_eq (t := 41) (x := .fz (eB (a0.num != 0))) (y := .fz (eB false)) (by kernel_rfl) (congrArg (fun b => AV.fz (eB b)) hb)) ?_
        refine l_rk 3 tt_ok ⟨102, [(1, (.ref 1 0 0)), (3, (fB (v4))), (4, (fB (v6))), (41, (fB (false))), (44, (fB ((!v6))))], (synthesisref01_Check_m0 a0), [1]⟩ (by kernel_rfl) ?_
        rcases cond_some h with ⟨hb, h⟩ | ⟨hb, h⟩
        ·refine l_le (le_eq (t := 44) (x := .fz (eB (!v6))) (y := .fz (eB true)) (by kernel_rfl) (congrArg (fun b => AV.fz (eB b)) hb)) ?_
         refine l_rk 6 tt_ok ⟨102, [(1, (.ref 1 0 0)), (3, (fB (v4))), (4, (fB (v6))), (50, (fB ((!(a0.text.toList == (⟨#[]⟩ : ByteArray).toList)))))], (synthesisref01_Check_m0 a0), [1]⟩ (by kernel_rfl) ?_
         rcases cond_some h with ⟨hb, h⟩ | ⟨hb, h⟩
         ·refine l_le (le_eq (t := 50) (x := .fz (eB (!(a0.text.toList == (⟨#[]⟩ : ByteArray).toList)))) (y := .fz (eB true)) (by kernel_rfl) (congrArg (fun b => AV.fz (eB b)) hb)) ?_
          refine l_rk 11 tt_ok ⟨102, [(1, (.ref 1 0 0)), (61, (fB (true)))], (synthesisref01_Check_m0 a0), [1]⟩ (by kernel_rfl) ?_
          refine l_nil ?_
          obtain rfl := Option.some.inj h
          exact And.intro rfl (le_ck (by kernel_rfl))
         ·refine l_le (le_eq (t := 50) (x := .fz (eB (!(a0.text.toList == (⟨#[]⟩ : ByteArray).toList)))) (y := .fz (eB false)) (by kernel_rfl) (congrArg (fun b => AV.fz (eB b)) hb)) ?_
          refine l_rk 2 tt_ok ⟨102, [(1, (.ref 1 0 0)), (4, (fB (v6))), (50, (fB (false))), (52, (fB (v4)))], (synthesisref01_Check_m0 a0), [1]⟩ (by kernel_rfl) ?_
          rcases cond_some h with ⟨hb, h⟩ | ⟨hb, h⟩
          ·refine l_le (le_eq (t := 52) (x := .fz (eB v4)) (y := .fz (eB true)) (by kernel_rfl) (congrArg (fun b => AV.fz (eB b)) hb)) ?_
           refine l_rk 9 tt_ok ⟨102, [(1, (.ref 1 0 0)), (61, (fB ((decide (0 < (List.length a0.items : Int))))))], (synthesisref01_Check_m0 a0), [1]⟩ (by kernel_rfl) ?_
           refine l_nil ?_
           obtain rfl := Option.some.inj h
           exact And.intro rfl (le_ck (by kernel_rfl))
          ·refine l_le (le_eq (t := 52) (x := .fz (eB v4)) (y := .fz (eB false)) (by kernel_rfl) (congrArg (fun b => AV.fz (eB b)) hb)) ?_
           refine l_rk 3 tt_ok ⟨102, [(1, (.ref 1 0 0)), (50, (fB (false))), (55, (fB (v6)))], (synthesisref01_Check_m0 a0), [1]⟩ (by kernel_rfl) ?_
           rcases cond_some h with ⟨hb, h⟩ | ⟨hb, h⟩
           ·refine l_le (le_eq (t := 55) (x := .fz (eB v6)) (y := .fz (eB true)) (by kernel_rfl) (congrArg (fun b => AV.fz (eB b)) hb)) ?_
            refine l_rk 6 tt_ok ⟨102, [(1, (.ref 1 0 0)), (61, (fB ((decide (0 < (List.length a0.items : Int))))))], (synthesisref01_Check_m0 a0), [1]⟩ (by kernel_rfl) ?_
            refine l_nil ?_
            obtain rfl := Option.some.inj h
            exact And.intro rfl (le_ck (by kernel_rfl))
           ·refine l_le (le_eq (t := 55) (x := .fz (eB v6)) (y := .fz (eB false)) (by kernel_rfl) (congrArg (fun b => AV.fz (eB b)) hb)) ?_
            refine l_rk 6 tt_ok ⟨102, [(1, (.ref 1 0 0)), (61, (fB (false)))], (synthesisref01_Check_m0 a0), [1]⟩ (by kernel_rfl) ?_
            refine l_nil ?_
            obtain rfl := Option.some.inj h
            exact And.intro rfl (le_ck (by kernel_rfl))
        ·refine l_le (le_eq (t := 44) (x := .fz (eB (!v6))) (y := .fz (eB false)) (by kernel_rfl) (congrArg (fun b => AV.fz (eB b)) hb)) ?_
         refine l_rk 8 tt_ok ⟨102, [(1, (.ref 1 0 0)), (4, (fB (v6))), (50, (fB (false))), (52, (fB (v4)))], (synthesisref01_Check_m0 a0), [1]⟩ (by kernel_rfl) ?_
         rcases cond_some h with ⟨hb, h⟩ | ⟨hb, h⟩
         ·refine l_le (le_eq (t := 52) (x := .fz (eB v4)) (y := .fz (eB true)) (by kernel_rfl) (congrArg (fun b => AV.fz (eB b)) hb)) ?_
          refine l_rk 9 tt_ok ⟨102, [(1, (.ref 1 0 0)), (61, (fB ((decide (0 < (List.length a0.items : Int))))))], (synthesisref01_Check_m0 a0), [1]⟩ (by kernel_rfl) ?_
          refine l_nil ?_
          obtain rfl := Option.some.inj h
          exact And.intro rfl (le_ck (by kernel_rfl))
         ·refine l_le (le_eq (t := 52) (x := .fz (eB v4)) (y := .fz (eB false)) (by kernel_rfl) (congrArg (fun b => AV.fz (eB b)) hb)) ?_
          refine l_rk 3 tt_ok ⟨102, [(1, (.ref 1 0 0)), (50, (fB (false))), (55, (fB (v6)))], (synthesisref01_Check_m0 a0), [1]⟩ (by kernel_rfl) ?_
          rcases cond_some h with ⟨hb, h⟩ | ⟨hb, h⟩
          ·refine l_le (le_eq (t := 55) (x := .fz (eB v6)) (y := .fz (eB true)) (by kernel_rfl) (congrArg (fun b => AV.fz (eB b)) hb)) ?_
           refine l_rk 6 tt_ok ⟨102, [(1, (.ref 1 0 0)), (61, (fB ((decide (0 < (List.length a0.items : Int))))))], (synthesisref01_Check_m0 a0), [1]⟩ (by kernel_rfl) ?_
           refine l_nil ?_
           obtain rfl := Option.some.inj h
           exact And.intro rfl (le_ck (by kernel_rfl))
          ·refine l_le (le_eq (t := 55) (x := .fz (eB v6)) (y := .fz (eB false)) (by kernel_rfl) (congrArg (fun b => AV.fz (eB b)) hb)) ?_
           refine l_rk 6 tt_ok ⟨102, [(1, (.ref 1 0 0)), (61, (fB (false)))], (synthesisref01_Check_m0 a0), [1]⟩ (by kernel_rfl) ?_
           refine l_nil ?_
           obtain rfl := Option.some.inj h
           exact And.intro rfl (le_ck (by kernel_rfl))
      ·refine l_le (le_eq (t := 36) (x := .fz (eB (!v4))) (y := .fz (eB false)) (by kernel_rfl) (congrArg (fun b => AV.fz (eB b)) hb)) ?_
       refine l_rk 8 tt_ok ⟨102, [(1, (.ref 1 0 0)), (3, (fB (v4))), (4, (fB (v6))), (41, (fB (false))), (44, (fB ((!v6))))], (synthesisref01_Check_m0 a0), [1]⟩ (by kernel_rfl) ?_
       rcases cond_some h with ⟨hb, h⟩ | ⟨hb, h⟩
       ·refine l_le (le_eq (t := 44) (x := .fz (eB (!v6))) (y := .fz (eB true)) (by kernel_rfl) (congrArg (fun b => AV.fz (eB b)) hb)) ?_
        refine l_rk 6 tt_ok ⟨102, [(1, (.ref 1 0 0)), (3, (fB (v4))), (4, (fB (v6))), (50, (fB ((!(a0.text.toList == (⟨#[]⟩ : ByteArray).toList)))))], (synthesisref01_Check_m0 a0), [1]⟩ (by kernel_rfl) ?_
        rcases cond_some h with ⟨hb, h⟩ | ⟨hb, h⟩
        ·refine l_le (le_eq (t := 50) (x := .fz (eB (!(a0.text.toList == (⟨#[]⟩ : ByteArray).toList)))) (y := .fz (eB true)) (by kernel_rfl) (congrArg (fun b => AV.fz (eB b)) hb)) ?_
         refine l_rk 11 tt_ok ⟨102, [(1, (.ref 1 0 0)), (61, (fB (true)))], (synthesisref01_Check_m0 a0), [1]⟩ (by kernel_rfl) ?_
         refine l_nil ?_
         obtain rfl := Option.some.inj h
         exact And.intro rfl (le_ck (by kernel_rfl))
        ·refine l_le (le_eq (t := 50) (x := .fz (eB (!(a0.text.toList == (⟨#[]⟩ : ByteArray).toList)))) (y := .fz (eB false)) (by kernel_rfl) (congrArg (fun b => AV.fz (eB b)) hb)) ?_
         refine l_rk 2 tt_ok ⟨102, [(1, (.ref 1 0 0)), (4, (fB (v6))), (50, (fB (false))), (52, (fB (v4)))], (synthesisref01_Check_m0 a0), [1]⟩ (by kernel_rfl) ?_
         rcases cond_some h with ⟨hb, h⟩ | ⟨hb, h⟩
         ·refine l_le (le_eq (t := 52) (x := .fz (eB v4)) (y := .fz (eB true)) (by kernel_rfl) (congrArg (fun b => AV.fz (eB b)) hb)) ?_
          refine l_rk 9 tt_ok ⟨102, [(1, (.ref 1 0 0)), (61, (fB ((decide (0 < (List.length a0.items : Int))))))], (synthesisref01_Check_m0 a0), [1]⟩ (by kernel_rfl) ?_
          refine l_nil ?_
          obtain rfl := Option.some.inj h
          exact And.intro rfl (le_ck (by kernel_rfl))
         ·refine l_le (le_eq (t := 52) (x := .fz (eB v4)) (y := .fz (eB false)) (by kernel_rfl) (congrArg (fun b => AV.fz (eB b)) hb)) ?_
          refine l_rk 3 tt_ok ⟨102, [(1, (.ref 1 0 0)), (50, (fB (false))), (55, (fB (v6)))], (synthesisref01_Check_m0 a0), [1]⟩ (by kernel_rfl) ?_
          rcases cond_some h with ⟨hb, h⟩ | ⟨hb, h⟩
          ·refine l_le (le_eq (t := 55) (x := .fz (eB v6)) (y := .fz (eB true)) (by kernel_rfl) (congrArg (fun b => AV.fz (eB b)) hb)) ?_
           refine l_rk 6 tt_ok ⟨102, [(1, (.ref 1 0 0)), (61, (fB ((decide (0 < (List.length a0.items : Int))))))], (synthesisref01_Check_m0 a0), [1]⟩ (by kernel_rfl) ?_
           refine l_nil ?_
           obtain rfl := Option.some.inj h
           exact And.intro rfl (le_ck (by kernel_rfl))
          ·refine l_le (le_eq (t := 55) (x := .fz (eB v6)) (y := .fz (eB false)) (by kernel_rfl) (congrArg (fun b => AV.fz (eB b)) hb)) ?_
           refine l_rk 6 tt_ok ⟨102, [(1, (.ref 1 0 0)), (61, (fB (false)))], (synthesisref01_Check_m0 a0), [1]⟩ (by kernel_rfl) ?_
           refine l_nil ?_
           obtain rfl := Option.some.inj h
           exact And.intro rfl (le_ck (by kernel_rfl))
       ·refine l_le (le_eq (t := 44) (x := .fz (eB (!v6))) (y := .fz (eB false)) (by kernel_rfl) (congrArg (fun b => AV.fz (eB b)) hb)) ?_
        refine l_rk 8 tt_ok ⟨102, [(1, (.ref 1 0 0)), (4, (fB (v6))), (50, (fB (false))), (52, (fB (v4)))], (synthesisref01_Check_m0 a0), [1]⟩ (by kernel_rfl) ?_
        rcases cond_some h with ⟨hb, h⟩ | ⟨hb, h⟩
        ·refine l_le (le_eq (t := 52) (x := .fz (eB v4)) (y := .fz (eB true)) (by kernel_rfl) (congrArg (fun b => AV.fz (eB b)) hb)) ?_
         refine l_rk 9 tt_ok ⟨102, [(1, (.ref 1 0 0)), (61, (fB ((decide (0 < (List.length a0.items : Int))))))], (synthesisref01_Check_m0 a0), [1]⟩ (by kernel_rfl) ?_
         refine l_nil ?_
         obtain rfl := Option.some.inj h
         exact And.intro rfl (le_ck (by kernel_rfl))
        ·refine l_le (le_eq (t := 52) (x := .fz (eB v4)) (y := .fz (eB false)) (by kernel_rfl) (congrArg (fun b => AV.fz (eB b)) hb)) ?_
         refine l_rk 3 tt_ok ⟨102, [(1, (.ref 1 0 0)), (50, (fB (false))), (55, (fB (v6)))], (synthesisref01_Check_m0 a0), [1]⟩ (by kernel_rfl) ?_
         rcases cond_some h with ⟨hb, h⟩ | ⟨hb, h⟩
         ·refine l_le (le_eq (t := 55) (x := .fz (eB v6)) (y := .fz (eB true)) (by kernel_rfl) (congrArg (fun b => AV.fz (eB b)) hb)) ?_
          refine l_rk 6 tt_ok ⟨102, [(1, (.ref 1 0 0)), (61, (fB ((decide (0 < (List.length a0.items : Int))))))], (synthesisref01_Check_m0 a0), [1]⟩ (by kernel_rfl) ?_
          refine l_nil ?_
          obtain rfl := Option.some.inj h
          exact And.intro rfl (le_ck (by kernel_rfl))
         ·refine l_le (le_eq (t := 55) (x := .fz (eB v6)) (y := .fz (eB false)) (by kernel_rfl) (congrArg (fun b => AV.fz (eB b)) hb)) ?_
          refine l_rk 6 tt_ok ⟨102, [(1, (.ref 1 0 0)), (61, (fB (false)))], (synthesisref01_Check_m0 a0), [1]⟩ (by kernel_rfl) ?_
          refine l_nil ?_
          obtain rfl := Option.some.inj h
          exact And.intro rfl (le_ck (by kernel_rfl))
     ·clear hj
      intro e st' hq
      obtain ⟨rfl, hle⟩ := hq
      refine ⟨_, hle, ?_⟩
      rcases cond_some h with ⟨hb, h⟩ | ⟨hb, h⟩
      ·refine awp_cond_t (b := v8) (by kernel_rfl) hb ?_
       refine awp_seq ?_
       refine awp_region ?_
       refine l_rk 1 tt_ok ⟨102, [(2, (fI (4)))], [], []⟩ (by kernel_rfl) ?_
       refine l_nil ?_
       refine awp_ret ?_
       obtain rfl := Option.some.inj h
       exact (show retX _ _ _ _ = some _ from by kernel_rfl)
      ·refine awp_cond_f (b := v8) (by kernel_rfl) hb ?_
       refine awp_skip ?_
       refine awp_seq ?_
       refine awp_seq ?_
       refine awp_region ?_
       refine l_rk 2 tt_ok ⟨102, [(1, (.ref 1 0 0)), (63, (fI (a0.type)))], (synthesisref01_Check_m0 a0), [1]⟩ (by kernel_rfl) ?_
       refine l_nil ?_
       refine awp_block ?_
       refine awp_seq ?_
       refine awp_region ?_
       refine l_rk 2 tt_ok ⟨102, [(1, (.ref 1 0 0)), (63, (fI (a0.type))), (64, (fB ((a0.type == 1))))], (synthesisref01_Check_m0 a0), [1]⟩ (by kernel_rfl) ?_
       refine l_nil ?_
       rcases cond_some h with ⟨hb, h⟩ | ⟨hb, h⟩
       ·refine awp_cond_t (b := (a0.type == 1)) (by kernel_rfl) hb ?_
        refine awp_seq ?_
        refine awp_region ?_
        refine l_rk 2 tt_ok ⟨102, [(67, (fI (a0.num)))], [], []⟩ (by kernel_rfl) ?_
        obtain ⟨v9, hv9, h⟩ := Option.bind_eq_some_iff.1 h
        refine l_step ((n_call (ys := [eI (a0.num), eI (0), eI (1)]) (cs := [(.one (.keep)), (.one (.keep)), (.one (.keep))]) rfl (by kernel_rfl) (synthesisref01_within_ok (a0.num) (0) (1) _ hv9)).step) (by kernel_rfl) (dst_of (by kernel_rfl)) ?_
        refine l_rk 1 tt_ok ⟨102, [(2, (fI (v9)))], [], []⟩ (by kernel_rfl) ?_
        refine l_nil ?_
        refine awp_ret ?_
        obtain rfl := Option.some.inj h
        exact (show retX _ _ _ _ = some _ from by kernel_rfl)
       ·refine awp_cond_f (b := (a0.type == 1)) (by kernel_rfl) hb ?_
        refine awp_seq ?_
        refine awp_region ?_
        refine l_rk 2 tt_ok ⟨102, [(1, (.ref 1 0 0)), (63, (fI (a0.type))), (69, (fB ((a0.type == 2))))], (synthesisref01_Check_m0 a0), [1]⟩ (by kernel_rfl) ?_
        refine l_nil ?_
        rcases cond_some h with ⟨hb, h⟩ | ⟨hb, h⟩
        ·refine awp_cond_t (b := (a0.type == 2)) (by kernel_rfl) hb ?_
         refine awp_seq ?_
         refine awp_region ?_
         refine l_rk 2 tt_ok ⟨102, [(72, (fI (a0.num)))], [], []⟩ (by kernel_rfl) ?_
         obtain ⟨v10, hv10, h⟩ := Option.bind_eq_some_iff.1 h
         refine l_step ((n_call (ys := [eI (a0.num), eI ((-1000000)), eI (1000000)]) (cs := [(.one (.keep)), (.one (.keep)), (.one (.keep))]) rfl (by kernel_rfl) (synthesisref01_within_ok (a0.num) ((-1000000)) (1000000) _ hv10)).step) (by kernel_rfl) (dst_of (by kernel_rfl)) ?_
         refine l_rk 1 tt_ok ⟨102, [(2, (fI (v10)))], [], []⟩ (by kernel_rfl) ?_
         refine l_nil ?_
         refine awp_ret ?_
         obtain rfl := Option.some.inj h
         exact (show retX _ _ _ _ = some _ from by kernel_rfl)
        ·refine awp_cond_f (b := (a0.type == 2)) (by kernel_rfl) hb ?_
         refine awp_seq ?_
         refine awp_region ?_
         refine l_rk 2 tt_ok ⟨102, [(1, (.ref 1 0 0)), (63, (fI (a0.type))), (74, (fB ((a0.type == 4))))], (synthesisref01_Check_m0 a0), [1]⟩ (by kernel_rfl) ?_
         refine l_nil ?_
         rcases cond_some h with ⟨hb, h⟩ | ⟨hb, h⟩
         ·refine awp_cond_t (b := (a0.type == 4)) (by kernel_rfl) hb ?_
          refine awp_seq ?_
          refine awp_region ?_
          refine l_rk 2 tt_ok ⟨102, [(77, (fI (a0.num)))], [], []⟩ (by kernel_rfl) ?_
          obtain ⟨v11, hv11, h⟩ := Option.bind_eq_some_iff.1 h
          refine l_step ((n_call (ys := [eI (a0.num), eI (0), eI (255)]) (cs := [(.one (.keep)), (.one (.keep)), (.one (.keep))]) rfl (by kernel_rfl) (synthesisref01_within_ok (a0.num) (0) (255) _ hv11)).step) (by kernel_rfl) (dst_of (by kernel_rfl)) ?_
          refine l_rk 1 tt_ok ⟨102, [(2, (fI (v11)))], [], []⟩ (by kernel_rfl) ?_
          refine l_nil ?_
          refine awp_ret ?_
          obtain rfl := Option.some.inj h
          exact (show retX _ _ _ _ = some _ from by kernel_rfl)
         ·refine awp_cond_f (b := (a0.type == 4)) (by kernel_rfl) hb ?_
          refine awp_seq ?_
          refine awp_region ?_
          refine l_rk 2 tt_ok ⟨102, [(1, (.ref 1 0 0)), (63, (fI (a0.type))), (79, (fB ((a0.type == 3))))], (synthesisref01_Check_m0 a0), [1]⟩ (by kernel_rfl) ?_
          refine l_nil ?_
          rcases cond_some h with ⟨hb, h⟩ | ⟨hb, h⟩
          ·refine awp_cond_t (b := (a0.type == 3)) (by kernel_rfl) hb ?_
           refine awp_seq ?_
           refine awp_region ?_
           refine l_rk 2 tt_ok ⟨102, [(82, (fS (a0.text)))], [], []⟩ (by kernel_rfl) ?_
           obtain ⟨v12, hv12, h⟩ := Option.bind_eq_some_iff.1 h
           refine l_step ((n_call (ys := [eS (a0.text), eI (0), eI (64)]) (cs := [(.one (.keep)), (.one (.keep)), (.one (.keep))]) rfl (by kernel_rfl) (synthesisref01_plain_ok (a0.text) (0) (64) _ hv12)).step) (by kernel_rfl) (dst_of (by kernel_rfl)) ?_
           refine l_rk 1 tt_ok ⟨102, [(2, (fI (v12)))], [], []⟩ (by kernel_rfl) ?_
           refine l_nil ?_
           refine awp_ret ?_
           obtain rfl := Option.some.inj h
           exact (show retX _ _ _ _ = some _ from by kernel_rfl)
          ·refine awp_cond_f (b := (a0.type == 3)) (by kernel_rfl) hb ?_
           refine awp_seq ?_
           refine awp_region ?_
           refine l_rk 2 tt_ok ⟨102, [(1, (.ref 1 0 0)), (63, (fI (a0.type))), (84, (fB ((a0.type == 8))))], (synthesisref01_Check_m0 a0), [1]⟩ (by kernel_rfl) ?_
           refine l_nil ?_
           rcases cond_some h with ⟨hb, h⟩ | ⟨hb, h⟩
           ·refine awp_cond_t (b := (a0.type == 8)) (by kernel_rfl) hb ?_
            refine awp_seq ?_
            refine awp_region ?_
            refine l_rk 2 tt_ok ⟨102, [(87, (fS (a0.text)))], [], []⟩ (by kernel_rfl) ?_
            obtain ⟨v13, hv13, h⟩ := Option.bind_eq_some_iff.1 h
            refine l_step ((n_call (ys := [eS (a0.text), eI (1), eI (40)]) (cs := [(.one (.keep)), (.one (.keep)), (.one (.keep))]) rfl (by kernel_rfl) (synthesisref01_plain_ok (a0.text) (1) (40) _ hv13)).step) (by kernel_rfl) (dst_of (by kernel_rfl)) ?_
            refine l_rk 1 tt_ok ⟨102, [(2, (fI (v13)))], [], []⟩ (by kernel_rfl) ?_
            refine l_nil ?_
            refine awp_ret ?_
            obtain rfl := Option.some.inj h
            exact (show retX _ _ _ _ = some _ from by kernel_rfl)
           ·refine awp_cond_f (b := (a0.type == 8)) (by kernel_rfl) hb ?_
            refine awp_seq ?_
            refine awp_region ?_
            refine l_rk 2 tt_ok ⟨102, [(1, (.ref 1 0 0)), (63, (fI (a0.type))), (89, (fB ((a0.type == 5))))], (synthesisref01_Check_m0 a0), [1]⟩ (by kernel_rfl) ?_
            refine l_nil ?_
            rcases cond_some h with ⟨hb, h⟩ | ⟨hb, h⟩
            ·refine awp_cond_t (b := (a0.type == 5)) (by kernel_rfl) hb ?_
             refine awp_seq ?_
             refine awp_region ?_
             refine l_rk 2 tt_ok ⟨102, [(92, (.fz ((eL 4 eVaR) (a0.items))))], [], []⟩ (by kernel_rfl) ?_
             obtain ⟨v14, hv14, h⟩ := Option.bind_eq_some_iff.1 h
             refine l_step ((n_call (ys := [(eL 4 eVaR) (a0.items), eI (2)]) (cs := [(.one (.sl 4)), (.one (.keep))]) rfl (by kernel_rfl) (ih171 (a0.items) (2) _ hv14)).step) (by kernel_rfl) (dst_of (by kernel_rfl)) ?_
             refine l_rk 1 tt_ok ⟨102, [(2, (fI (v14)))], [], []⟩ (by kernel_rfl) ?_
             refine l_nil ?_
             refine awp_ret ?_
             obtain rfl := Option.some.inj h
             exact (show retX _ _ _ _ = some _ from by kernel_rfl)
            ·refine awp_cond_f (b := (a0.type == 5)) (by kernel_rfl) hb ?_
             refine awp_seq ?_
             refine awp_region ?_
             refine l_rk 2 tt_ok ⟨102, [(1, (.ref 1 0 0)), (94, (fB ((a0.type == 6))))], (synthesisref01_Check_m0 a0), [1]⟩ (by kernel_rfl) ?_
             refine l_nil ?_
             rcases cond_some h with ⟨hb, h⟩ | ⟨hb, h⟩
             ·refine awp_cond_t (b := (a0.type == 6)) (by kernel_rfl) hb ?_
              refine awp_seq ?_
              refine awp_region ?_
              refine l_rk 2 tt_ok ⟨102, [(97, (.fz ((eL 4 eVaR) (a0.items))))], [], []⟩ (by kernel_rfl) ?_
              obtain ⟨v15, hv15, h⟩ := Option.bind_eq_some_iff.1 h
              refine l_step ((n_call (ys := [(eL 4 eVaR) (a0.items), eI (3)]) (cs := [(.one (.sl 4)), (.one (.keep))]) rfl (by kernel_rfl) (ih171 (a0.items) (3) _ hv15)).step) (by kernel_rfl) (dst_of (by kernel_rfl)) ?_
              refine l_rk 1 tt_ok ⟨102, [(2, (fI (v15)))], [], []⟩ (by kernel_rfl) ?_
              refine l_nil ?_
              refine awp_ret ?_
              obtain rfl := Option.some.inj h
              exact (show retX _ _ _ _ = some _ from by kernel_rfl)
             ·refine awp_cond_f (b := (a0.type == 6)) (by kernel_rfl) hb ?_
              refine awp_skip ?_
              refine awp_seq ?_
              refine awp_region ?_
              refine l_rk 2 tt_ok ⟨102, [(100, (.fz ((eL 4 eVaR) (a0.items))))], [], []⟩ (by kernel_rfl) ?_
              obtain ⟨v16, hv16, h⟩ := Option.bind_eq_some_iff.1 h
              refine l_step ((n_call (ys := [(eL 4 eVaR) (a0.items)]) (cs := [(.one (.sl 4))]) rfl (by kernel_rfl) (ih172 (a0.items) _ hv16)).step) (by kernel_rfl) (dst_of (by kernel_rfl)) ?_
              refine l_rk 1 tt_ok ⟨102, [(2, (fI (v16)))], [], []⟩ (by kernel_rfl) ?_
              refine l_nil ?_
              refine awp_ret ?_
              obtain rfl := Option.some.inj h
              exact (show retX _ _ _ _ = some _ from by kernel_rfl)
def synthesisref01_elements_l1 (a0 : List Va) (a1 : Int) (r131 : (Va) → Option (Int)) (v1 : (Int)) : Option (((Int)) ⊕ (((Unit) ⊕ (Int)))) := (bif (decide (v1 < (List.length a0 : Int))) then (Option.bind (idx a0 v1) fun v2 => (bif (v2.type != a1) then (some (.inr (.inr 3))) else (Option.bind (idx a0 v1) fun v3 => (Option.bind (r131 (v3)) fun v4 => (bif (v4 != 0) then (some (.inr (.inr v4))) else (some (.inl ((w64 (v1 + 1)))))))))) else (some (.inr (.inl ()))))
def synthesisref01_elements_b (r131 : (Va) → Option (Int)) (r171 : (List Va) → (Int) → Option (Int)) (r172 : (List Va) → Option (Int)) (a0 : List Va) (a1 : Int) : Option (Int) := (bif (decide (16 < (List.length a0 : Int))) then (some 2) else (Option.bind (loopN (synthesisref01_elements_l1 a0 a1 r131) fuel (0)) fun (v5 : ((Unit) ⊕ (Int))) => Sum.elim (fun v6 => (some 0)) (fun v7 => (some v7)) v5))
theorem synthesisref01_elements_b_ok (r131 : (Va) → Option (Int)) (r171 : (List Va) → (Int) → Option (Int)) (r172 : (List Va) → Option (Int)) (ih131 : ∀ (x0 : Va) r, r131 x0 = some r → PCall Try.prog 131 [eVa x0] (eI (r))) (ih171 : ∀ (x0 : List Va) (x1 : Int) r, r171 x0 x1 = some r → PCall Try.prog 171 [(eL 4 eVaR) x0, eI x1] (eI (r))) (ih172 : ∀ (x0 : List Va) r, r172 x0 = some r → PCall Try.prog 172 [(eL 4 eVaR) x0] (eI (r))) (a0 : List Va) (a1 : Int) (r : Int) (h : synthesisref01_elements_b r131 r171 r172 a0 a1 = some r) : PCall Try.prog 171 [(eL 4 eVaR) a0, eI a1] (eI (r)) := by
 unfold synthesisref01_elements_b at h
 refine pcall_intro (T := TT) tt_ok [.one .keep] Try.func171 rfl (by kernel_rfl) (by kernel_rfl) ?_
 refine awp_le (st' := ⟨31, [(0, (.fz ((eL 4 eVaR) (a0)))), (1, (fI (a1)))], [], []⟩) (le_ck (by kernel_rfl)) ?_
 refine awp_seq ?_
 refine awp_region ?_
 refine l_rk 1 tt_ok ⟨31, [(0, (.fz ((eL 4 eVaR) (a0)))), (1, (fI (a1)))], [], []⟩ (by kernel_rfl) ?_
 refine l_nil ?_
 refine awp_seq ?_
 refine awp_seq ?_
 refine awp_region ?_
 refine l_rk 3 tt_ok ⟨31, [(0, (.fz ((eL 4 eVaR) (a0)))), (1, (fI (a1))), (9, (fB ((decide (16 < (List.length a0 : Int))))))], [], []⟩ (by kernel_rfl) ?_
 refine l_nil ?_
 rcases cond_some h with ⟨hb, h⟩ | ⟨hb, h⟩
 ·refine awp_cond_t (b := (decide (16 < (List.length a0 : Int)))) (by kernel_rfl) hb ?_
  refine awp_seq ?_
  refine awp_region ?_
  refine l_rk 1 tt_ok ⟨31, [(4, (fI (2)))], [], []⟩ (by kernel_rfl) ?_
  refine l_nil ?_
  refine awp_ret ?_
  obtain rfl := Option.some.inj h
  exact (show retX _ _ _ _ = some _ from by kernel_rfl)
 ·refine awp_cond_f (b := (decide (16 < (List.length a0 : Int)))) (by kernel_rfl) hb ?_
  refine awp_skip ?_
  refine awp_seq ?_
  refine awp_seq ?_
  refine awp_region ?_
  refine l_rk 1 tt_ok ⟨31, [(0, (.fz ((eL 4 eVaR) (a0)))), (1, (fI (a1))), (5, (fI (0)))], [], []⟩ (by kernel_rfl) ?_
  refine l_nil ?_
  refine awp_block ?_
  obtain ⟨v5, hj, h⟩ := Option.bind_eq_some_iff.1 h
  refine awp_join (Qa := fun e st => Sum.elim (fun p => e = .exit 0 ∧ LeSt st ⟨31, [], [], []⟩) (fun p => e = .ret ∧ retX TT st Try.f171.results.toList [.one .keep] = some (eI (p))) v5) ?_ ?_
  ·refine awp_loopS (stOf := fun v1 => ⟨31, [(0, (.fz ((eL 4 eVaR) (a0)))), (1, (fI (a1))), (5, (fI (v1)))], [], []⟩) (Qb := fun j e st => Sum.elim (fun p => e = .exit 0 ∧ LeSt st ⟨31, [], [], []⟩) (fun p => e = .ret ∧ retX TT st Try.f171.results.toList [.one .keep] = some (eI (p))) j) hj (le_ck (by kernel_rfl)) ?_
   clear hj h
   intro v1 r h
   unfold synthesisref01_elements_l1 at h
   refine awp_seq ?_
   refine awp_seq ?_
   refine awp_region ?_
   refine l_rk 4 tt_ok ⟨31, [(0, (.fz ((eL 4 eVaR) (a0)))), (1, (fI (a1))), (5, (fI (v1))), (13, (fB ((decide (v1 < (List.length a0 : Int))))))], [], []⟩ (by kernel_rfl) ?_
   refine l_nil ?_
   rcases cond_some h with ⟨hb, h⟩ | ⟨hb, h⟩
   ·refine awp_cond_t (b := (decide (v1 < (List.length a0 : Int)))) (by kernel_rfl) hb ?_
    refine awp_skip ?_
    refine awp_seq ?_
    refine awp_block ?_
    refine awp_seq ?_
    refine awp_seq ?_
    refine awp_region ?_
    refine l_rk 2 tt_ok ⟨31, [(0, (.fz ((eL 4 eVaR) (a0)))), (1, (fI (a1))), (5, (fI (v1))), (16, (.fz ((eL 4 eVaR) (a0)))), (17, (fI (v1)))], [], []⟩ (by kernel_rfl) ?_
    obtain ⟨v2, hv2, h⟩ := Option.bind_eq_some_iff.1 h
    refine l_step ((s_index (k := .i64) (d := tt63) (e := 65) (de := tt65) (enc := eVaR) hv2 tt_ok rfl (by kernel_rfl) (by kernel_rfl) (by kernel_rfl) (by kernel_rfl) len_eVaR (by kernel_rfl) (cells_eVaR v2)).step) (by kernel_rfl) (dst_of (by kernel_rfl)) ?_
    refine l_rk 4 tt_ok ⟨31, [(0, (.fz ((eL 4 eVaR) (a0)))), (1, (fI (a1))), (5, (fI (v1))), (22, (fB ((v2.type != a1))))], [], []⟩ (by kernel_rfl) ?_
    refine l_nil ?_
    rcases cond_some h with ⟨hb, h⟩ | ⟨hb, h⟩
    ·refine awp_cond_t (b := (v2.type != a1)) (by kernel_rfl) hb ?_
     refine awp_seq ?_
     refine awp_region ?_
     refine l_rk 1 tt_ok ⟨31, [(4, (fI (3)))], [], []⟩ (by kernel_rfl) ?_
     refine l_nil ?_
     refine awp_ret ?_
     obtain rfl := Option.some.inj h
     exact And.intro (And.intro (fun h => nomatch h) (fun h => nomatch h)) (And.intro rfl (show retX _ _ _ _ = some _ from by kernel_rfl))
    ·refine awp_cond_f (b := (v2.type != a1)) (by kernel_rfl) hb ?_
     refine awp_skip ?_
     refine awp_seq ?_
     refine awp_region ?_
     refine l_rk 2 tt_ok ⟨31, [(0, (.fz ((eL 4 eVaR) (a0)))), (1, (fI (a1))), (5, (fI (v1))), (23, (.fz ((eL 4 eVaR) (a0)))), (24, (fI (v1)))], [], []⟩ (by kernel_rfl) ?_
     obtain ⟨v3, hv3, h⟩ := Option.bind_eq_some_iff.1 h
     refine l_step ((s_index (k := .i64) (d := tt63) (e := 65) (de := tt65) (enc := eVaR) hv3 tt_ok rfl (by kernel_rfl) (by kernel_rfl) (by kernel_rfl) (by kernel_rfl) len_eVaR (by kernel_rfl) (cells_eVaR v3)).step) (by kernel_rfl) (dst_of (by kernel_rfl)) ?_
     refine l_rk 1 tt_ok ⟨31, [(0, (.fz ((eL 4 eVaR) (a0)))), (1, (fI (a1))), (5, (fI (v1))), (26, (.fz (eVa (v3))))], [], []⟩ (by kernel_rfl) ?_
     obtain ⟨v4, hv4, h⟩ := Option.bind_eq_some_iff.1 h
     refine l_step ((n_call (ys := [eVa (v3)]) (cs := [(.one .keep)]) rfl (by kernel_rfl) (ih131 (v3) _ hv4)).step) (by kernel_rfl) (dst_of (by kernel_rfl)) ?_
     refine l_rk 1 tt_ok ⟨31, [(0, (.fz ((eL 4 eVaR) (a0)))), (1, (fI (a1))), (5, (fI (v1))), (6, (fI (v4)))], [], []⟩ (by kernel_rfl) ?_
     refine l_nil ?_
     refine awp_seq ?_
     refine awp_region ?_
     refine l_rk 2 tt_ok ⟨31, [(0, (.fz ((eL 4 eVaR) (a0)))), (1, (fI (a1))), (5, (fI (v1))), (6, (fI (v4))), (29, (fB ((v4 != 0))))], [], []⟩ (by kernel_rfl) ?_
     refine l_nil ?_
     rcases cond_some h with ⟨hb, h⟩ | ⟨hb, h⟩
     ·refine awp_cond_t (b := (v4 != 0)) (by kernel_rfl) hb ?_
      refine awp_seq ?_
      refine awp_region ?_
      refine l_rk 2 tt_ok ⟨31, [(4, (fI (v4)))], [], []⟩ (by kernel_rfl) ?_
      refine l_nil ?_
      refine awp_ret ?_
      obtain rfl := Option.some.inj h
      exact And.intro (And.intro (fun h => nomatch h) (fun h => nomatch h)) (And.intro rfl (show retX _ _ _ _ = some _ from by kernel_rfl))
     ·refine awp_cond_f (b := (v4 != 0)) (by kernel_rfl) hb ?_
      refine awp_skip ?_
      refine awp_region ?_
      refine l_rk 3 tt_ok ⟨31, [(0, (.fz ((eL 4 eVaR) (a0)))), (1, (fI (a1))), (5, (fI ((w64 (v1 + 1)))))], [], []⟩ (by kernel_rfl) ?_
      refine l_nil ?_
      obtain rfl := Option.some.inj h
      exact And.intro rfl (le_ck (by kernel_rfl))
   ·refine awp_cond_f (b := (decide (v1 < (List.length a0 : Int)))) (by kernel_rfl) hb ?_
    refine awp_exit ?_
    obtain rfl := Option.some.inj h
    exact And.intro (And.intro (fun h => nomatch h) (fun h => nomatch h)) (And.intro rfl (le_ck (by kernel_rfl)))
  ·clear hj
   intro e st' hq
   rcases v5 with v6 | v7
   ·try simp only [Sum.elim_inl, Sum.elim_inr] at h
    obtain ⟨rfl, hle⟩ := hq
    refine ⟨_, hle, ?_⟩
    refine awp_seq ?_
    refine awp_region ?_
    refine l_rk 1 tt_ok ⟨31, [(4, (fI (0)))], [], []⟩ (by kernel_rfl) ?_
    refine l_nil ?_
    refine awp_ret ?_
    obtain rfl := Option.some.inj h
    exact (show retX _ _ _ _ = some _ from by kernel_rfl)
   ·try simp only [Sum.elim_inl, Sum.elim_inr] at h
    obtain ⟨rfl, hret⟩ := hq
    refine ⟨_, LeSt.refl, ?_⟩
    obtain rfl := Option.some.inj h
    exact hret
def synthesisref01_rows_l1 (a0 : List Va) (r131 : (Va) → Option (Int)) (v1 : (Int)) : Option (((Int)) ⊕ (((Unit) ⊕ (Int)))) := (bif (decide (v1 < (List.length a0 : Int))) then (Option.bind (idx a0 v1) fun v2 => (bif (v2.type != 6) then (some (.inr (.inr 3))) else (Option.bind (idx a0 v1) fun v3 => (Option.bind ((bif (decide ((List.length v3.items : Int) < 1)) then (some (true)) else (bif (decide (8 < (List.length v3.items : Int))) then (some (true)) else (Option.bind (idx a0 0) fun v4 => (some (((List.length v3.items : Int) != (List.length v4.items : Int))))))) : Option ((Bool))) fun (v6 : (Bool)) => (bif v6 then (some (.inr (.inr 2))) else (Option.bind (idx a0 v1) fun v7 => (Option.bind (r131 (v7)) fun v8 => (bif (v8 != 0) then (some (.inr (.inr v8))) else (some (.inl ((w64 (v1 + 1))))))))))))) else (some (.inr (.inl ()))))
def synthesisref01_rows_b (r131 : (Va) → Option (Int)) (r171 : (List Va) → (Int) → Option (Int)) (r172 : (List Va) → Option (Int)) (a0 : List Va) : Option (Int) := (bif (decide (8 < (List.length a0 : Int))) then (some 2) else (Option.bind (loopN (synthesisref01_rows_l1 a0 r131) fuel (0)) fun (v9 : ((Unit) ⊕ (Int))) => Sum.elim (fun v10 => (some 0)) (fun v11 => (some v11)) v9))
theorem synthesisref01_rows_b_ok (r131 : (Va) → Option (Int)) (r171 : (List Va) → (Int) → Option (Int)) (r172 : (List Va) → Option (Int)) (ih131 : ∀ (x0 : Va) r, r131 x0 = some r → PCall Try.prog 131 [eVa x0] (eI (r))) (ih171 : ∀ (x0 : List Va) (x1 : Int) r, r171 x0 x1 = some r → PCall Try.prog 171 [(eL 4 eVaR) x0, eI x1] (eI (r))) (ih172 : ∀ (x0 : List Va) r, r172 x0 = some r → PCall Try.prog 172 [(eL 4 eVaR) x0] (eI (r))) (a0 : List Va) (r : Int) (h : synthesisref01_rows_b r131 r171 r172 a0 = some r) : PCall Try.prog 172 [(eL 4 eVaR) a0] (eI (r)) := by
 unfold synthesisref01_rows_b at h
 refine pcall_intro (T := TT) tt_ok [.one .keep] Try.func172 rfl (by kernel_rfl) (by kernel_rfl) ?_
 refine awp_le (st' := ⟨50, [(0, (.fz ((eL 4 eVaR) (a0))))], [], []⟩) (le_ck (by kernel_rfl)) ?_
 refine awp_seq ?_
 refine awp_region ?_
 refine l_rk 1 tt_ok ⟨50, [(0, (.fz ((eL 4 eVaR) (a0))))], [], []⟩ (by kernel_rfl) ?_
 refine l_nil ?_
 refine awp_seq ?_
 refine awp_seq ?_
 refine awp_region ?_
 refine l_rk 3 tt_ok ⟨50, [(0, (.fz ((eL 4 eVaR) (a0)))), (8, (fB ((decide (8 < (List.length a0 : Int))))))], [], []⟩ (by kernel_rfl) ?_
 refine l_nil ?_
 rcases cond_some h with ⟨hb, h⟩ | ⟨hb, h⟩
 ·refine awp_cond_t (b := (decide (8 < (List.length a0 : Int)))) (by kernel_rfl) hb ?_
  refine awp_seq ?_
  refine awp_region ?_
  refine l_rk 1 tt_ok ⟨50, [(2, (fI (2)))], [], []⟩ (by kernel_rfl) ?_
  refine l_nil ?_
  refine awp_ret ?_
  obtain rfl := Option.some.inj h
  exact (show retX _ _ _ _ = some _ from by kernel_rfl)
 ·refine awp_cond_f (b := (decide (8 < (List.length a0 : Int)))) (by kernel_rfl) hb ?_
  refine awp_skip ?_
  refine awp_seq ?_
  refine awp_seq ?_
  refine awp_region ?_
  refine l_rk 1 tt_ok ⟨50, [(0, (.fz ((eL 4 eVaR) (a0)))), (3, (fI (0)))], [], []⟩ (by kernel_rfl) ?_
  refine l_nil ?_
  refine awp_block ?_
  obtain ⟨v9, hj, h⟩ := Option.bind_eq_some_iff.1 h
  refine awp_join (Qa := fun e st => Sum.elim (fun p => e = .exit 0 ∧ LeSt st ⟨50, [], [], []⟩) (fun p => e = .ret ∧ retX TT st Try.f172.results.toList [.one .keep] = some (eI (p))) v9) ?_ ?_
  ·refine awp_loopS (stOf := fun v1 => ⟨50, [(0, (.fz ((eL 4 eVaR) (a0)))), (3, (fI (v1)))], [], []⟩) (Qb := fun j e st => Sum.elim (fun p => e = .exit 0 ∧ LeSt st ⟨50, [], [], []⟩) (fun p => e = .ret ∧ retX TT st Try.f172.results.toList [.one .keep] = some (eI (p))) j) hj (le_ck (by kernel_rfl)) ?_
   clear hj h
   intro v1 r h
   unfold synthesisref01_rows_l1 at h
   refine awp_seq ?_
   refine awp_seq ?_
   refine awp_region ?_
   refine l_rk 4 tt_ok ⟨50, [(0, (.fz ((eL 4 eVaR) (a0)))), (3, (fI (v1))), (12, (fB ((decide (v1 < (List.length a0 : Int))))))], [], []⟩ (by kernel_rfl) ?_
   refine l_nil ?_
   rcases cond_some h with ⟨hb, h⟩ | ⟨hb, h⟩
   ·refine awp_cond_t (b := (decide (v1 < (List.length a0 : Int)))) (by kernel_rfl) hb ?_
    refine awp_skip ?_
    refine awp_seq ?_
    refine awp_block ?_
    refine awp_seq ?_
    refine awp_seq ?_
    refine awp_region ?_
    refine l_rk 2 tt_ok ⟨50, [(0, (.fz ((eL 4 eVaR) (a0)))), (3, (fI (v1))), (15, (.fz ((eL 4 eVaR) (a0)))), (16, (fI (v1)))], [], []⟩ (by kernel_rfl) ?_
    obtain ⟨v2, hv2, h⟩ := Option.bind_eq_some_iff.1 h
    refine l_step ((s_index (k := .i64) (d := tt63) (e := 65) (de := tt65) (enc := eVaR) hv2 tt_ok rfl (by kernel_rfl) (by kernel_rfl) (by kernel_rfl) (by kernel_rfl) len_eVaR (by kernel_rfl) (cells_eVaR v2)).step) (by kernel_rfl) (dst_of (by kernel_rfl)) ?_
    refine l_rk 3 tt_ok ⟨50, [(0, (.fz ((eL 4 eVaR) (a0)))), (3, (fI (v1))), (20, (fB ((v2.type != 6))))], [], []⟩ (by kernel_rfl) ?_
    refine l_nil ?_
    rcases cond_some h with ⟨hb, h⟩ | ⟨hb, h⟩
    ·refine awp_cond_t (b := (v2.type != 6)) (by kernel_rfl) hb ?_
     refine awp_seq ?_
     refine awp_region ?_
     refine l_rk 1 tt_ok ⟨50, [(2, (fI (3)))], [], []⟩ (by kernel_rfl) ?_
     refine l_nil ?_
     refine awp_ret ?_
     obtain rfl := Option.some.inj h
     exact And.intro (And.intro (fun h => nomatch h) (fun h => nomatch h)) (And.intro rfl (show retX _ _ _ _ = some _ from by kernel_rfl))
    ·refine awp_cond_f (b := (v2.type != 6)) (by kernel_rfl) hb ?_
     refine awp_skip ?_
     refine awp_seq ?_
     refine awp_seq ?_
     refine awp_region ?_
     refine l_rk 2 tt_ok ⟨50, [(0, (.fz ((eL 4 eVaR) (a0)))), (3, (fI (v1))), (21, (.fz ((eL 4 eVaR) (a0)))), (22, (fI (v1)))], [], []⟩ (by kernel_rfl) ?_
     obtain ⟨v3, hv3, h⟩ := Option.bind_eq_some_iff.1 h
     refine l_step ((s_index (k := .i64) (d := tt63) (e := 65) (de := tt65) (enc := eVaR) hv3 tt_ok rfl (by kernel_rfl) (by kernel_rfl) (by kernel_rfl) (by kernel_rfl) len_eVaR (by kernel_rfl) (cells_eVaR v3)).step) (by kernel_rfl) (dst_of (by kernel_rfl)) ?_
     refine l_rk 4 tt_ok ⟨50, [(0, (.fz ((eL 4 eVaR) (a0)))), (3, (fI (v1))), (4, (fI ((List.length v3.items : Int))))], [], []⟩ (by kernel_rfl) ?_
     refine l_nil ?_
     refine awp_seq ?_
     obtain ⟨v6, hj, h⟩ := Option.bind_eq_some_iff.1 h
     refine awp_join (Qa := fun e st => e = .normal ∧ LeSt st ⟨50, [(0, (.fz ((eL 4 eVaR) (a0)))), (3, (fI (v1))), (41, (fB (v6)))], [], []⟩) ?_ ?_
     ·replace h := hj
      clear hj
      refine awp_region ?_
      refine l_rk 3 tt_ok ⟨50, [(0, (.fz ((eL 4 eVaR) (a0)))), (3, (fI (v1))), (4, (fI ((List.length v3.items : Int)))), (29, (fB ((decide ((List.length v3.items : Int) < 1)))))], [], []⟩ (by kernel_rfl) ?_
      rcases cond_some h with ⟨hb, h⟩ | ⟨hb, h⟩
      ·refine l_le (le_eq (t := 29) (x := .fz (eB (decide ((List.length v3.items : Int) < 1)))) (y := .fz (eB true)) (by kernel_rfl) (congrArg (fun b => AV.fz (eB b)) hb)) ?_
       refine l_rk 12 tt_ok ⟨50, [(0, (.fz ((eL 4 eVaR) (a0)))), (3, (fI (v1))), (41, (fB (true)))], [], []⟩ (by kernel_rfl) ?_
       refine l_nil ?_
       obtain rfl := Option.some.inj h
       exact And.intro rfl (le_ck (by kernel_rfl))
      ·refine l_le (le_eq (t := 29) (x := .fz (eB (decide ((List.length v3.items : Int) < 1)))) (y := .fz (eB false)) (by kernel_rfl) (congrArg (fun b => AV.fz (eB b)) hb)) ?_
       refine l_rk 4 tt_ok ⟨50, [(0, (.fz ((eL 4 eVaR) (a0)))), (3, (fI (v1))), (4, (fI ((List.length v3.items : Int)))), (33, (fB ((decide (8 < (List.length v3.items : Int))))))], [], []⟩ (by kernel_rfl) ?_
       rcases cond_some h with ⟨hb, h⟩ | ⟨hb, h⟩
       ·refine l_le (le_eq (t := 33) (x := .fz (eB (decide (8 < (List.length v3.items : Int))))) (y := .fz (eB true)) (by kernel_rfl) (congrArg (fun b => AV.fz (eB b)) hb)) ?_
        refine l_rk 8 tt_ok ⟨50, [(0, (.fz ((eL 4 eVaR) (a0)))), (3, (fI (v1))), (41, (fB (true)))], [], []⟩ (by kernel_rfl) ?_
        refine l_nil ?_
        obtain rfl := Option.some.inj h
        exact And.intro rfl (le_ck (by kernel_rfl))
       ·refine l_le (le_eq (t := 33) (x := .fz (eB (decide (8 < (List.length v3.items : Int))))) (y := .fz (eB false)) (by kernel_rfl) (congrArg (fun b => AV.fz (eB b)) hb)) ?_
        refine l_rk 2 tt_ok ⟨50, [(0, (.fz ((eL 4 eVaR) (a0)))), (3, (fI (v1))), (33, (fB (false))), (34, (fI ((List.length v3.items : Int)))), (35, (.fz ((eL 4 eVaR) (a0))))], [], []⟩ (by kernel_rfl) ?_
        obtain ⟨v4, hv4, h⟩ := Option.bind_eq_some_iff.1 h
        refine l_step ((s_index (k := .i64) (d := tt63) (e := 65) (de := tt65) (enc := eVaR) hv4 tt_ok rfl (by kernel_rfl) (by kernel_rfl) (by kernel_rfl) (by kernel_rfl) len_eVaR (by kernel_rfl) (cells_eVaR v4)).step) (by kernel_rfl) (dst_of (by kernel_rfl)) ?_
        refine l_rk 5 tt_ok ⟨50, [(0, (.fz ((eL 4 eVaR) (a0)))), (3, (fI (v1))), (41, (fB (((List.length v3.items : Int) != (List.length v4.items : Int)))))], [], []⟩ (by kernel_rfl) ?_
        refine l_nil ?_
        obtain rfl := Option.some.inj h
        exact And.intro rfl (le_ck (by kernel_rfl))
     ·clear hj
      intro e st' hq
      obtain ⟨rfl, hle⟩ := hq
      refine ⟨_, hle, ?_⟩
      rcases cond_some h with ⟨hb, h⟩ | ⟨hb, h⟩
      ·refine awp_cond_t (b := v6) (by kernel_rfl) hb ?_
       refine awp_seq ?_
       refine awp_region ?_
       refine l_rk 1 tt_ok ⟨50, [(2, (fI (2)))], [], []⟩ (by kernel_rfl) ?_
       refine l_nil ?_
       refine awp_ret ?_
       obtain rfl := Option.some.inj h
       exact And.intro (And.intro (fun h => nomatch h) (fun h => nomatch h)) (And.intro rfl (show retX _ _ _ _ = some _ from by kernel_rfl))
      ·refine awp_cond_f (b := v6) (by kernel_rfl) hb ?_
       refine awp_skip ?_
       refine awp_seq ?_
       refine awp_region ?_
       refine l_rk 2 tt_ok ⟨50, [(0, (.fz ((eL 4 eVaR) (a0)))), (3, (fI (v1))), (42, (.fz ((eL 4 eVaR) (a0)))), (43, (fI (v1)))], [], []⟩ (by kernel_rfl) ?_
       obtain ⟨v7, hv7, h⟩ := Option.bind_eq_some_iff.1 h
       refine l_step ((s_index (k := .i64) (d := tt63) (e := 65) (de := tt65) (enc := eVaR) hv7 tt_ok rfl (by kernel_rfl) (by kernel_rfl) (by kernel_rfl) (by kernel_rfl) len_eVaR (by kernel_rfl) (cells_eVaR v7)).step) (by kernel_rfl) (dst_of (by kernel_rfl)) ?_
       refine l_rk 1 tt_ok ⟨50, [(0, (.fz ((eL 4 eVaR) (a0)))), (3, (fI (v1))), (45, (.fz (eVa (v7))))], [], []⟩ (by kernel_rfl) ?_
       obtain ⟨v8, hv8, h⟩ := Option.bind_eq_some_iff.1 h
       refine l_step ((n_call (ys := [eVa (v7)]) (cs := [(.one .keep)]) rfl (by kernel_rfl) (ih131 (v7) _ hv8)).step) (by kernel_rfl) (dst_of (by kernel_rfl)) ?_
       refine l_rk 1 tt_ok ⟨50, [(0, (.fz ((eL 4 eVaR) (a0)))), (3, (fI (v1))), (5, (fI (v8)))], [], []⟩ (by kernel_rfl) ?_
       refine l_nil ?_
       refine awp_seq ?_
       refine awp_region ?_
       refine l_rk 2 tt_ok ⟨50, [(0, (.fz ((eL 4 eVaR) (a0)))), (3, (fI (v1))), (5, (fI (v8))), (48, (fB ((v8 != 0))))], [], []⟩ (by kernel_rfl) ?_
       refine l_nil ?_
       rcases cond_some h with ⟨hb, h⟩ | ⟨hb, h⟩
       ·refine awp_cond_t (b := (v8 != 0)) (by kernel_rfl) hb ?_
        refine awp_seq ?_
        refine awp_region ?_
        refine l_rk 2 tt_ok ⟨50, [(2, (fI (v8)))], [], []⟩ (by kernel_rfl) ?_
        refine l_nil ?_
        refine awp_ret ?_
        obtain rfl := Option.some.inj h
        exact And.intro (And.intro (fun h => nomatch h) (fun h => nomatch h)) (And.intro rfl (show retX _ _ _ _ = some _ from by kernel_rfl))
       ·refine awp_cond_f (b := (v8 != 0)) (by kernel_rfl) hb ?_
        refine awp_skip ?_
        refine awp_region ?_
        refine l_rk 3 tt_ok ⟨50, [(0, (.fz ((eL 4 eVaR) (a0)))), (3, (fI ((w64 (v1 + 1)))))], [], []⟩ (by kernel_rfl) ?_
        refine l_nil ?_
        obtain rfl := Option.some.inj h
        exact And.intro rfl (le_ck (by kernel_rfl))
   ·refine awp_cond_f (b := (decide (v1 < (List.length a0 : Int)))) (by kernel_rfl) hb ?_
    refine awp_exit ?_
    obtain rfl := Option.some.inj h
    exact And.intro (And.intro (fun h => nomatch h) (fun h => nomatch h)) (And.intro rfl (le_ck (by kernel_rfl)))
  ·clear hj
   intro e st' hq
   rcases v9 with v10 | v11
   ·try simp only [Sum.elim_inl, Sum.elim_inr] at h
    obtain ⟨rfl, hle⟩ := hq
    refine ⟨_, hle, ?_⟩
    refine awp_seq ?_
    refine awp_region ?_
    refine l_rk 1 tt_ok ⟨50, [(2, (fI (0)))], [], []⟩ (by kernel_rfl) ?_
    refine l_nil ?_
    refine awp_ret ?_
    obtain rfl := Option.some.inj h
    exact (show retX _ _ _ _ = some _ from by kernel_rfl)
   ·try simp only [Sum.elim_inl, Sum.elim_inr] at h
    obtain ⟨rfl, hret⟩ := hq
    refine ⟨_, LeSt.refl, ?_⟩
    obtain rfl := Option.some.inj h
    exact hret
def synthesisref01_Check_all : Nat → ((Va) → Option (Int)) × ((List Va) → (Int) → Option (Int)) × ((List Va) → Option (Int))
  | 0 => (fun _ => none, fun _ _ => none, fun _ => none)
  | n + 1 => (synthesisref01_Check_b ((synthesisref01_Check_all n).1) ((synthesisref01_Check_all n).2.1) ((synthesisref01_Check_all n).2.2), synthesisref01_elements_b ((synthesisref01_Check_all n).1) ((synthesisref01_Check_all n).2.1) ((synthesisref01_Check_all n).2.2), synthesisref01_rows_b ((synthesisref01_Check_all n).1) ((synthesisref01_Check_all n).2.1) ((synthesisref01_Check_all n).2.2))
def synthesisref01_Check (n : Nat) : (Va) → Option (Int) := (synthesisref01_Check_all n).1
def synthesisref01_elements (n : Nat) : (List Va) → (Int) → Option (Int) := (synthesisref01_Check_all n).2.1
def synthesisref01_rows (n : Nat) : (List Va) → Option (Int) := (synthesisref01_Check_all n).2.2
theorem synthesisref01_Check_all_ok : ∀ n : Nat, (∀ (x0 : Va) r, synthesisref01_Check n x0 = some r → PCall Try.prog 131 [eVa x0] (eI (r))) ∧ (∀ (x0 : List Va) (x1 : Int) r, synthesisref01_elements n x0 x1 = some r → PCall Try.prog 171 [(eL 4 eVaR) x0, eI x1] (eI (r))) ∧ (∀ (x0 : List Va) r, synthesisref01_rows n x0 = some r → PCall Try.prog 172 [(eL 4 eVaR) x0] (eI (r)))
  | 0 => ⟨(fun _ _ h => nomatch h), (fun _ _ _ h => nomatch h), (fun _ _ h => nomatch h)⟩
  | n + 1 => ⟨(synthesisref01_Check_b_ok _ _ _ ((synthesisref01_Check_all_ok n).1) ((synthesisref01_Check_all_ok n).2.1) ((synthesisref01_Check_all_ok n).2.2)), (synthesisref01_elements_b_ok _ _ _ ((synthesisref01_Check_all_ok n).1) ((synthesisref01_Check_all_ok n).2.1) ((synthesisref01_Check_all_ok n).2.2)), (synthesisref01_rows_b_ok _ _ _ ((synthesisref01_Check_all_ok n).1) ((synthesisref01_Check_all_ok n).2.1) ((synthesisref01_Check_all_ok n).2.2))⟩
theorem synthesisref01_Check_ok (n : Nat) : ∀ (x0 : Va) r, synthesisref01_Check n x0 = some r → PCall Try.prog 131 [eVa x0] (eI (r)) := (synthesisref01_Check_all_ok n).1
theorem synthesisref01_elements_ok (n : Nat) : ∀ (x0 : List Va) (x1 : Int) r, synthesisref01_elements n x0 x1 = some r → PCall Try.prog 171 [(eL 4 eVaR) x0, eI x1] (eI (r)) := (synthesisref01_Check_all_ok n).2.1
theorem synthesisref01_rows_ok (n : Nat) : ∀ (x0 : List Va) r, synthesisref01_rows n x0 = some r → PCall Try.prog 172 [(eL 4 eVaR) x0] (eI (r)) := (synthesisref01_Check_all_ok n).2.2

def synthesisref16_check_l1 (a0 : List Va) (v1 : (Int)) (v4 : (Int)) : Option (((Int)) ⊕ (((Unit) ⊕ (Int)))) := (bif (decide (v4 < v1)) then (Option.bind (idx a0 v4) fun v5 => (Option.bind (idx a0 v1) fun v6 => (Option.bind (synthesisref01_Equal (v5) (v6)) fun v7 => (bif v7 then (some (.inr (.inr 6))) else (some (.inl ((w64 (v4 + 1))))))))) else (some (.inr (.inl ()))))
def synthesisref16_check_l2 (a0 : List Va) (v1 : (Int)) : Option (((Int)) ⊕ (((Unit) ⊕ (Int)))) := (bif (decide (v1 < (List.length a0 : Int))) then (Option.bind (idx a0 v1) fun v2 => (Option.bind (synthesisref01_Check fuel (v2)) fun v3 => (bif (v3 != 0) then (some (.inr (.inr v3))) else (Option.bind (loopN (synthesisref16_check_l1 a0 v1) fuel (0)) fun (v8 : ((Unit) ⊕ (Int))) => Sum.elim (fun v9 => (some (.inl ((w64 (v1 + 1)))))) (fun v10 => (some (.inr (.inr v10)))) v8)))) else (some (.inr (.inl ()))))
def synthesisref16_check (a0 : List Va) : Option (Int) := (bif (decide (16 < (List.length a0 : Int))) then (some 2) else (Option.bind (loopN (synthesisref16_check_l2 a0) fuel (0)) fun (v11 : ((Unit) ⊕ (Int))) => Sum.elim (fun v12 => (some 0)) (fun v13 => (some v13)) v11))
theorem synthesisref16_check_ok (a0 : List Va) (r : Int) (h : synthesisref16_check a0 = some r) : PCall Try.prog 70 [(eL 4 eVaR) a0] (eI (r)) := by
 unfold synthesisref16_check at h
 refine pcall_intro (T := TT) tt_ok [.one .keep] Try.func70 rfl (by kernel_rfl) (by kernel_rfl) ?_
 refine awp_le (st' := ⟨37, [(0, (.fz ((eL 4 eVaR) (a0))))], [], []⟩) (le_ck (by kernel_rfl)) ?_
 refine awp_seq ?_
 refine awp_region ?_
 refine l_rk 1 tt_ok ⟨37, [(0, (.fz ((eL 4 eVaR) (a0))))], [], []⟩ (by kernel_rfl) ?_
 refine l_nil ?_
 refine awp_seq ?_
 refine awp_seq ?_
 refine awp_region ?_
 refine l_rk 3 tt_ok ⟨37, [(0, (.fz ((eL 4 eVaR) (a0)))), (8, (fB ((decide (16 < (List.length a0 : Int))))))], [], []⟩ (by kernel_rfl) ?_
 refine l_nil ?_
 rcases cond_some h with ⟨hb, h⟩ | ⟨hb, h⟩
 ·refine awp_cond_t (b := (decide (16 < (List.length a0 : Int)))) (by kernel_rfl) hb ?_
  refine awp_seq ?_
  refine awp_region ?_
  refine l_rk 1 tt_ok ⟨37, [(2, (fI (2)))], [], []⟩ (by kernel_rfl) ?_
  refine l_nil ?_
  refine awp_ret ?_
  obtain rfl := Option.some.inj h
  exact (show retX _ _ _ _ = some _ from by kernel_rfl)
 ·refine awp_cond_f (b := (decide (16 < (List.length a0 : Int)))) (by kernel_rfl) hb ?_
  refine awp_skip ?_
  refine awp_seq ?_
  refine awp_seq ?_
  refine awp_region ?_
  refine l_rk 1 tt_ok ⟨37, [(0, (.fz ((eL 4 eVaR) (a0)))), (3, (fI (0)))], [], []⟩ (by kernel_rfl) ?_
  refine l_nil ?_
  refine awp_block ?_
  obtain ⟨v11, hj, h⟩ := Option.bind_eq_some_iff.1 h
  refine awp_join (Qa := fun e st => Sum.elim (fun p => e = .exit 0 ∧ LeSt st ⟨37, [], [], []⟩) (fun p => e = .ret ∧ retX TT st Try.f70.results.toList [.one .keep] = some (eI (p))) v11) ?_ ?_
  ·refine awp_loopS (stOf := fun v1 => ⟨37, [(0, (.fz ((eL 4 eVaR) (a0)))), (3, (fI (v1)))], [], []⟩) (Qb := fun j e st => Sum.elim (fun p => e = .exit 0 ∧ LeSt st ⟨37, [], [], []⟩) (fun p => e = .ret ∧ retX TT st Try.f70.results.toList [.one .keep] = some (eI (p))) j) hj (le_ck (by kernel_rfl)) ?_
   clear hj h
   intro v1 r h
   unfold synthesisref16_check_l2 at h
   refine awp_seq ?_
   refine awp_seq ?_
   refine awp_region ?_
   refine l_rk 4 tt_ok ⟨37, [(0, (.fz ((eL 4 eVaR) (a0)))), (3, (fI (v1))), (12, (fB ((decide (v1 < (List.length a0 : Int))))))], [], []⟩ (by kernel_rfl) ?_
   refine l_nil ?_
   rcases cond_some h with ⟨hb, h⟩ | ⟨hb, h⟩
   ·refine awp_cond_t (b := (decide (v1 < (List.length a0 : Int)))) (by kernel_rfl) hb ?_
    refine awp_skip ?_
    refine awp_seq ?_
    refine awp_block ?_
    refine awp_seq ?_
    refine awp_seq ?_
    refine awp_region ?_
    refine l_rk 2 tt_ok ⟨37, [(0, (.fz ((eL 4 eVaR) (a0)))), (3, (fI (v1))), (15, (.fz ((eL 4 eVaR) (a0)))), (16, (fI (v1)))], [], []⟩ (by kernel_rfl) ?_
    obtain ⟨v2, hv2, h⟩ := Option.bind_eq_some_iff.1 h
    refine l_step ((s_index (k := .i64) (d := tt63) (e := 65) (de := tt65) (enc := eVaR) hv2 tt_ok rfl (by kernel_rfl) (by kernel_rfl) (by kernel_rfl) (by kernel_rfl) len_eVaR (by kernel_rfl) (cells_eVaR v2)).step) (by kernel_rfl) (dst_of (by kernel_rfl)) ?_
    refine l_rk 1 tt_ok ⟨37, [(0, (.fz ((eL 4 eVaR) (a0)))), (3, (fI (v1))), (18, (.fz (eVa (v2))))], [], []⟩ (by kernel_rfl) ?_
    obtain ⟨v3, hv3, h⟩ := Option.bind_eq_some_iff.1 h
    refine l_step ((n_call (ys := [eVa (v2)]) (cs := [(.one .keep)]) rfl (by kernel_rfl) (synthesisref01_Check_ok fuel (v2) _ hv3)).step) (by kernel_rfl) (dst_of (by kernel_rfl)) ?_
    refine l_rk 1 tt_ok ⟨37, [(0, (.fz ((eL 4 eVaR) (a0)))), (3, (fI (v1))), (4, (fI (v3)))], [], []⟩ (by kernel_rfl) ?_
    refine l_nil ?_
    refine awp_seq ?_
    refine awp_region ?_
    refine l_rk 2 tt_ok ⟨37, [(0, (.fz ((eL 4 eVaR) (a0)))), (3, (fI (v1))), (4, (fI (v3))), (21, (fB ((v3 != 0))))], [], []⟩ (by kernel_rfl) ?_
    refine l_nil ?_
    rcases cond_some h with ⟨hb, h⟩ | ⟨hb, h⟩
    ·refine awp_cond_t (b := (v3 != 0)) (by kernel_rfl) hb ?_
     refine awp_seq ?_
     refine awp_region ?_
     refine l_rk 2 tt_ok ⟨37, [(2, (fI (v3)))], [], []⟩ (by kernel_rfl) ?_
     refine l_nil ?_
     refine awp_ret ?_
     obtain rfl := Option.some.inj h
     exact And.intro (And.intro (fun h => nomatch h) (fun h => nomatch h)) (And.intro rfl (show retX _ _ _ _ = some _ from by kernel_rfl))
    ·refine awp_cond_f (b := (v3 != 0)) (by kernel_rfl) hb ?_
     refine awp_skip ?_
     refine awp_seq ?_
     refine awp_region ?_
     refine l_rk 1 tt_ok ⟨37, [(0, (.fz ((eL 4 eVaR) (a0)))), (3, (fI (v1))), (5, (fI (0)))], [], []⟩ (by kernel_rfl) ?_
     refine l_nil ?_
     refine awp_block ?_
     obtain ⟨v8, hj, h⟩ := Option.bind_eq_some_iff.1 h
     refine awp_join (Qa := fun e st => Sum.elim (fun p => e = .exit 2 ∧ LeSt st ⟨37, [(0, (.fz ((eL 4 eVaR) (a0)))), (3, (fI (v1)))], [], []⟩) (fun p => e = .ret ∧ retX TT st Try.f70.results.toList [.one .keep] = some (eI (p))) v8) ?_ ?_
     ·refine awp_loopS (stOf := fun v4 => ⟨37, [(0, (.fz ((eL 4 eVaR) (a0)))), (3, (fI (v1))), (5, (fI (v4)))], [], []⟩) (Qb := fun j e st => Sum.elim (fun p => e = .exit 2 ∧ LeSt st ⟨37, [(0, (.fz ((eL 4 eVaR) (a0)))), (3, (fI (v1)))], [], []⟩) (fun p => e = .ret ∧ retX TT st Try.f70.results.toList [.one .keep] = some (eI (p))) j) hj (le_ck (by kernel_rfl)) ?_
      clear hj h
      intro v4 r h
      unfold synthesisref16_check_l1 at h
      refine awp_seq ?_
      refine awp_seq ?_
      refine awp_region ?_
      refine l_rk 3 tt_ok ⟨37, [(0, (.fz ((eL 4 eVaR) (a0)))), (3, (fI (v1))), (5, (fI (v4))), (25, (fB ((decide (v4 < v1)))))], [], []⟩ (by kernel_rfl) ?_
      refine l_nil ?_
      rcases cond_some h with ⟨hb, h⟩ | ⟨hb, h⟩
      ·refine awp_cond_t (b := (decide (v4 < v1))) (by kernel_rfl) hb ?_
       refine awp_skip ?_
       refine awp_seq ?_
       refine awp_block ?_
       refine awp_seq ?_
       obtain ⟨v5, hv5, h⟩ := Option.bind_eq_some_iff.1 h
       obtain ⟨v6, hv6, h⟩ := Option.bind_eq_some_iff.1 h
       refine awp_drawn (by kernel_rfl) [(.fz ((eL 4 eVaR) (a0))), (fI (v4)), (.fz (.fp [(eI (v5.type)), (eI (v5.num)), (eS (v5.text)), ((eL 4 eVaR) (v5.items))])), (.fz (eVa (v5))), (.fz ((eL 4 eVaR) (a0))), (fI (v1)), (.fz (.fp [(eI (v6.type)), (eI (v6.num)), (eS (v6.text)), ((eL 4 eVaR) (v6.items))])), (.fz (eVa (v6)))] (by kernel_rfl) ?_
       refine ⟨.inl ⟨by kernel_rfl, (nstep_ok tt_ok (by kernel_rfl))⟩, ?_⟩
       refine ⟨.inl ⟨by kernel_rfl, (nstep_ok tt_ok (by kernel_rfl))⟩, ?_⟩
       refine ⟨.inl ⟨by kernel_rfl, (s_index (k := .i64) (d := tt63) (e := 65) (de := tt65) (enc := eVaR) hv5 tt_ok rfl (by kernel_rfl) (by kernel_rfl) (by kernel_rfl) (by kernel_rfl) len_eVaR (by kernel_rfl) (cells_eVaR v5))⟩, ?_⟩
       refine ⟨.inl ⟨by kernel_rfl, (nstep_ok tt_ok (by kernel_rfl))⟩, ?_⟩
       refine ⟨.inl ⟨by kernel_rfl, (nstep_ok tt_ok (by kernel_rfl))⟩, ?_⟩
       refine ⟨.inl ⟨by kernel_rfl, (nstep_ok tt_ok (by kernel_rfl))⟩, ?_⟩
       refine ⟨.inl ⟨by kernel_rfl, (s_index (k := .i64) (d := tt63) (e := 65) (de := tt65) (enc := eVaR) hv6 tt_ok rfl (by kernel_rfl) (by kernel_rfl) (by kernel_rfl) (by kernel_rfl) len_eVaR (by kernel_rfl) (cells_eVaR v6))⟩, ?_⟩
       refine ⟨.inl ⟨by kernel_rfl, (nstep_ok tt_ok (by kernel_rfl))⟩, ?_⟩
       refine l_rk 0 tt_ok ⟨37, [(0, (.fz ((eL 4 eVaR) (a0)))), (3, (fI (v1))), (5, (fI (v4))), (31, (.fz (eVa (v5)))), (35, (.fz (eVa (v6))))], [], []⟩ (by kernel_rfl) ?_
       obtain ⟨v7, hv7, h⟩ := Option.bind_eq_some_iff.1 h
       refine l_step ((n_call (ys := [eVa (v5), eVa (v6)]) (cs := [(.one .keep), (.one .keep)]) rfl (by kernel_rfl) (synthesisref01_Equal_ok (v5) (v6) _ hv7)).step) (by kernel_rfl) (dst_of (by kernel_rfl)) ?_
       refine l_nil ?_
       rcases cond_some h with ⟨hb, h⟩ | ⟨hb, h⟩
       ·refine awp_cond_t (b := v7) (by kernel_rfl) hb ?_
        refine awp_seq ?_
        refine awp_region ?_
        refine l_rk 1 tt_ok ⟨37, [(2, (fI (6)))], [], []⟩ (by kernel_rfl) ?_
        refine l_nil ?_
        refine awp_ret ?_
        obtain rfl := Option.some.inj h
        exact And.intro (And.intro (fun h => nomatch h) (fun h => nomatch h)) (And.intro rfl (show retX _ _ _ _ = some _ from by kernel_rfl))
       ·refine awp_cond_f (b := v7) (by kernel_rfl) hb ?_
        refine awp_skip ?_
        refine awp_region ?_
        refine l_rk 3 tt_ok ⟨37, [(0, (.fz ((eL 4 eVaR) (a0)))), (3, (fI (v1))), (5, (fI ((w64 (v4 + 1)))))], [], []⟩ (by kernel_rfl) ?_
        refine l_nil ?_
        obtain rfl := Option.some.inj h
        exact And.intro rfl (le_ck (by kernel_rfl))
      ·refine awp_cond_f (b := (decide (v4 < v1))) (by kernel_rfl) hb ?_
       refine awp_exit ?_
       obtain rfl := Option.some.inj h
       exact And.intro (And.intro (fun h => nomatch h) (fun h => nomatch h)) (And.intro rfl (le_ck (by kernel_rfl)))
     ·clear hj
      intro e st' hq
      rcases v8 with v9 | v10
      ·try simp only [Sum.elim_inl, Sum.elim_inr] at h
       obtain ⟨rfl, hle⟩ := hq
       refine ⟨_, hle, ?_⟩
       refine awp_region ?_
       refine l_rk 3 tt_ok ⟨37, [(0, (.fz ((eL 4 eVaR) (a0)))), (3, (fI ((w64 (v1 + 1)))))], [], []⟩ (by kernel_rfl) ?_
       refine l_nil ?_
       obtain rfl := Option.some.inj h
       exact And.intro rfl (le_ck (by kernel_rfl))
      ·try simp only [Sum.elim_inl, Sum.elim_inr] at h
       obtain ⟨rfl, hret⟩ := hq
       refine ⟨_, LeSt.refl, ?_⟩
       obtain rfl := Option.some.inj h
       exact And.intro (And.intro (fun h => nomatch h) (fun h => nomatch h)) (And.intro rfl hret)
   ·refine awp_cond_f (b := (decide (v1 < (List.length a0 : Int)))) (by kernel_rfl) hb ?_
    refine awp_exit ?_
    obtain rfl := Option.some.inj h
    exact And.intro (And.intro (fun h => nomatch h) (fun h => nomatch h)) (And.intro rfl (le_ck (by kernel_rfl)))
  ·clear hj
   intro e st' hq
   rcases v11 with v12 | v13
   ·try simp only [Sum.elim_inl, Sum.elim_inr] at h
    obtain ⟨rfl, hle⟩ := hq
    refine ⟨_, hle, ?_⟩
    refine awp_seq ?_
    refine awp_region ?_
    refine l_rk 1 tt_ok ⟨37, [(2, (fI (0)))], [], []⟩ (by kernel_rfl) ?_
    refine l_nil ?_
    refine awp_ret ?_
    obtain rfl := Option.some.inj h
    exact (show retX _ _ _ _ = some _ from by kernel_rfl)
   ·try simp only [Sum.elim_inl, Sum.elim_inr] at h
    obtain ⟨rfl, hret⟩ := hq
    refine ⟨_, LeSt.refl, ?_⟩
    obtain rfl := Option.some.inj h
    exact hret

def synthesisref16_values_l1 (a0 : List Int) (a1 : Int) (v1 : (Int) × (List Va)) : Option (((Int) × (List Va)) ⊕ ((List Va))) := (Option.bind ((bif (decide (v1.1 < (List.length a0 : Int))) then (some ((decide (v1.1 < 17)))) else (some (false))) : Option ((Bool))) fun (v3 : (Bool)) => (bif v3 then (Option.bind (idx a0 v1.1) fun v4 => (Option.bind (app 56 v1.2 ([(Va.mk (a1) (v4) ((⟨#[]⟩ : ByteArray)) (([] : List Va)))] : List (Va))) fun v5 => (some (.inl ((w64 (v1.1 + 1)), v5))))) else (some (.inr (v1.2)))))
def synthesisref16_values (a0 : List Int) (a1 : Int) : Option (List Va) := (Option.bind (loopN (synthesisref16_values_l1 a0 a1) fuel (0, ([] : List (Va)))) fun (v7 : (List Va)) => (some v7))
theorem synthesisref16_values_ok (a0 : List Int) (a1 : Int) (r : List Va) (h : synthesisref16_values a0 a1 = some r) : PCall Try.prog 71 [(eL 1 eI) a0, eI a1] ((eL 4 eVaR) (r)) := by
 unfold synthesisref16_values at h
 refine pcall_intro (T := TT) tt_ok [.one (.sl 4)] Try.func71 rfl (by kernel_rfl) (by kernel_rfl) ?_
 refine awp_le (st' := ⟨27, [(0, (.fz ((eL 1 eI) (a0)))), (1, (fI (a1)))], [], []⟩) (le_ck (by kernel_rfl)) ?_
 refine awp_seq ?_
 refine awp_region ?_
 refine l_rk 1 tt_ok ⟨27, [(0, (.fz ((eL 1 eI) (a0)))), (1, (fI (a1)))], [], []⟩ (by kernel_rfl) ?_
 refine l_nil ?_
 refine awp_seq ?_
 refine awp_region ?_
 refine l_rk 1 tt_ok ⟨27, [(0, (.fz ((eL 1 eI) (a0)))), (1, (fI (a1))), (5, (.fz (.atom (.slice none 0 0))))], [], []⟩ (by kernel_rfl) ?_
 refine l_nil ?_
 refine awp_seq ?_
 refine awp_seq ?_
 refine awp_region ?_
 refine l_rk 1 tt_ok ⟨27, [(0, (.fz ((eL 1 eI) (a0)))), (1, (fI (a1))), (5, (.fz (.atom (.slice none 0 0)))), (6, (fI (0)))], [], []⟩ (by kernel_rfl) ?_
 refine l_nil ?_
 refine awp_block ?_
 refine awp_le (le_nilrow (e := 65) (size := 4) (t := 5) (id := 1) (by decide) (by kernel_rfl) (by kernel_rfl)) ?_
 obtain ⟨v7, hj, h⟩ := Option.bind_eq_some_iff.1 h
 refine awp_join (Qa := fun e st => e = .exit 0 ∧ LeSt st ⟨27, [(5, (.row 1 (List.length (v7))))], [(1, (.frow 65 4 (List.map eVaR (v7))))], [1]⟩) ?_ ?_
 ·refine awp_loopS (stOf := fun v1 => ⟨27, [(0, (.fz ((eL 1 eI) (a0)))), (1, (fI (a1))), (5, (.row 1 (List.length (v1.2)))), (6, (fI (v1.1)))], [(1, (.frow 65 4 (List.map eVaR (v1.2))))], [1]⟩) (Qb := fun j e st => e = .exit 0 ∧ LeSt st ⟨27, [(5, (.row 1 (List.length (j))))], [(1, (.frow 65 4 (List.map eVaR (j))))], [1]⟩) hj (le_ck (by kernel_rfl)) ?_
  clear hj h
  intro v1 r h
  unfold synthesisref16_values_l1 at h
  refine awp_seq ?_
  refine awp_seq ?_
  obtain ⟨v3, hj, h⟩ := Option.bind_eq_some_iff.1 h
  refine awp_join (Qa := fun e st => e = .normal ∧ LeSt st ⟨27, [(0, (.fz ((eL 1 eI) (a0)))), (1, (fI (a1))), (5, (.row 1 (List.length (v1.2)))), (6, (fI (v1.1))), (14, (fB (v3)))], [(1, (.frow 65 4 (List.map eVaR (v1.2))))], [1]⟩) ?_ ?_
  ·replace h := hj
   clear hj
   refine awp_region ?_
   refine l_rk 5 tt_ok ⟨27, [(0, (.fz ((eL 1 eI) (a0)))), (1, (fI (a1))), (5, (.row 1 (List.length (v1.2)))), (6, (fI (v1.1))), (11, (fB ((decide (v1.1 < (List.length a0 : Int))))))], [(1, (.frow 65 4 (List.map eVaR (v1.2))))], [1]⟩ (by kernel_rfl) ?_
   rcases cond_some h with ⟨hb, h⟩ | ⟨hb, h⟩
   ·refine l_le (le_eq (t := 11) (x := .fz (eB (decide (v1.1 < (List.length a0 : Int))))) (y := .fz (eB true)) (by kernel_rfl) (congrArg (fun b => AV.fz (eB b)) hb)) ?_
    refine l_rk 3 tt_ok ⟨27, [(0, (.fz ((eL 1 eI) (a0)))), (1, (fI (a1))), (5, (.row 1 (List.length (v1.2)))), (6, (fI (v1.1))), (14, (fB ((decide (v1.1 < 17)))))], [(1, (.frow 65 4 (List.map eVaR (v1.2))))], [1]⟩ (by kernel_rfl) ?_
    refine l_nil ?_
    obtain rfl := Option.some.inj h
    exact And.intro rfl (le_ck (by kernel_rfl))
   ·refine l_le (le_eq (t := 11) (x := .fz (eB (decide (v1.1 < (List.length a0 : Int))))) (y := .fz (eB false)) (by kernel_rfl) (congrArg (fun b => AV.fz (eB b)) hb)) ?_
    refine l_rk 3 tt_ok ⟨27, [(0, (.fz ((eL 1 eI) (a0)))), (1, (fI (a1))), (5, (.row 1 (List.length (v1.2)))), (6, (fI (v1.1))), (14, (fB (false)))], [(1, (.frow 65 4 (List.map eVaR (v1.2))))], [1]⟩ (by kernel_rfl) ?_
    refine l_nil ?_
    obtain rfl := Option.some.inj h
    exact And.intro rfl (le_ck (by kernel_rfl))
  ·clear hj
   intro e st' hq
   obtain ⟨rfl, hle⟩ := hq
   refine ⟨_, hle, ?_⟩
   rcases cond_some h with ⟨hb, h⟩ | ⟨hb, h⟩
   ·refine awp_cond_t (b := v3) (by kernel_rfl) hb ?_
    refine awp_skip ?_
    refine awp_seq ?_
    refine awp_block ?_
    refine awp_region ?_
    refine l_rk 4 tt_ok ⟨27, [(0, (.fz ((eL 1 eI) (a0)))), (1, (fI (a1))), (6, (fI (v1.1))), (17, (.row 1 (List.length (v1.2)))), (18, (fI (a1))), (19, (.fz ((eL 1 eI) (a0)))), (20, (fI (v1.1)))], [(1, (.frow 65 4 (List.map eVaR (v1.2))))], [1]⟩ (by kernel_rfl) ?_
    obtain ⟨v4, hv4, h⟩ := Option.bind_eq_some_iff.1 h
    refine l_step ((s_index (k := .i64) (d := tt35) (e := 2) (de := tt2) (enc := eI) hv4 tt_ok rfl (by kernel_rfl) (by kernel_rfl) (by kernel_rfl) (by kernel_rfl) len_eI (by kernel_rfl) rfl).step) (by kernel_rfl) (dst_of (by kernel_rfl)) ?_
    refine l_rk 2 tt_ok ⟨27, [(0, (.fz ((eL 1 eI) (a0)))), (1, (fI (a1))), (6, (fI (v1.1))), (17, (.row 1 (List.length (v1.2)))), (23, (.fz (.agg [(eI (a1)), (eI (v4)), (eS ((⟨#[]⟩ : ByteArray))), (.atom (.slice none 0 0))])))], [(1, (.frow 65 4 (List.map eVaR (v1.2))))], [1]⟩ (by kernel_rfl) ?_
    refine l_le (le_co (ids := [1]) (ts := [(0, .one .keep), (1, .one .keep), (6, .one .keep), (17, .one .keep), (23, (.ag [.keep, .keep, .keep, .sl 4]))]) (os := [(1, [])]) (by kernel_rfl) : LeSt _ ⟨27, [(0, (.fz ((eL 1 eI) (a0)))), (1, (fI (a1))), (6, (fI (v1.1))), (17, (.row 1 (List.length (v1.2)))), (23, (.fz (eVa ((Va.mk (a1) (v4) ((⟨#[]⟩ : ByteArray)) (([] : List Va)))))))], [(1, (.frow 65 4 (List.map eVaR (v1.2))))], [1]⟩) ?_
    refine l_step (xstep_ok (c := .lim 4 1 [eVa ((Va.mk (a1) (v4) ((⟨#[]⟩ : ByteArray)) (([] : List Va))))]) (h := [(1, (.frow 65 4 (List.map eVaR (v1.2))))]) (i := [1]) tt_ok (by kernel_rfl)) (by kernel_rfl) (dst_of (by kernel_rfl)) ?_
    refine l_le (le_eq (t := 24) (x := .lim 4 1 [eVa ((Va.mk (a1) (v4) ((⟨#[]⟩ : ByteArray)) (([] : List Va))))]) (y := .lim 4 1 (List.map eVaR ([(Va.mk (a1) (v4) ((⟨#[]⟩ : ByteArray)) (([] : List Va)))] : List (Va)))) (by kernel_rfl) (by simp only [List.map, eVaR_eq])) ?_
    obtain ⟨v5, hv5, h⟩ := Option.bind_eq_some_iff.1 h
    refine l_step (s_append (d := tt63) (e := 65) (de := tt65) (enc := eVaR) (xs := v1.2) (ys := ([(Va.mk (a1) (v4) ((⟨#[]⟩ : ByteArray)) (([] : List Va)))] : List (Va))) (m := List.length ([(Va.mk (a1) (v4) ((⟨#[]⟩ : ByteArray)) (([] : List Va)))] : List (Va))) (id := 1) (n := List.length (v1.2)) hv5 tt_ok rfl (by kernel_rfl) (by kernel_rfl) (by kernel_rfl) (by kernel_rfl) (by kernel_rfl) (by kernel_rfl) (by kernel_rfl) (by kernel_rfl) rfl (.inr (by kernel_rfl))) (by kernel_rfl) (dst_of (by kernel_rfl)) ?_
    refine l_rk 1 tt_ok ⟨27, [(0, (.fz ((eL 1 eI) (a0)))), (1, (fI (a1))), (5, (.row 1 (List.length (v5)))), (6, (fI (v1.1)))], [(1, (.frow 65 4 (List.map eVaR (v5))))], [1]⟩ (by kernel_rfl) ?_
    refine l_nil ?_
    refine awp_region ?_
    refine l_rk 3 tt_ok ⟨27, [(0, (.fz ((eL 1 eI) (a0)))), (1, (fI (a1))), (5, (.row 1 (List.length (v5)))), (6, (fI ((w64 (v1.1 + 1)))))], [(1, (.frow 65 4 (List.map eVaR (v5))))], [1]⟩ (by kernel_rfl) ?_
    refine l_nil ?_
    obtain rfl := Option.some.inj h
    exact And.intro rfl (le_ck (by kernel_rfl))
   ·refine awp_cond_f (b := v3) (by kernel_rfl) hb ?_
    refine awp_exit ?_
    obtain rfl := Option.some.inj h
    exact And.intro (And.intro (fun h => nomatch h) (fun h => nomatch h)) (And.intro rfl (le_ck (by kernel_rfl)))
 ·clear hj
  intro e st' hq
  obtain ⟨rfl, hle⟩ := hq
  refine ⟨_, hle, ?_⟩
  refine awp_seq ?_
  refine awp_region ?_
  refine l_rk 2 tt_ok ⟨27, [(4, (.row 1 (List.length (v7))))], [(1, (.frow 65 4 (List.map eVaR (v7))))], [1]⟩ (by kernel_rfl) ?_
  refine l_nil ?_
  refine awp_le (le_freeze (t := 4) (id := 1) (n := List.length (v7)) (e := 65) (size := 4) (xs := List.map eVaR (v7)) (by kernel_rfl) (by kernel_rfl) (by simp)) ?_
  refine awp_ret ?_
  obtain rfl := Option.some.inj h
  exact (show retX _ _ _ _ = some _ from by kernel_rfl)

structure S_synthesisref16_writer where
  f_l : La
def eS_synthesisref16_writer (x : S_synthesisref16_writer) : FV := .agg [eS (x.f_l.name), (eL 1 eI) (x.f_l.inputs), (eL 2 eSy) (x.f_l.symbols), (eL 9 eRu) (x.f_l.rules)]
theorem len_eS_synthesisref16_writer (x : S_synthesisref16_writer) : (eS_synthesisref16_writer x).cells.length = 4 := rfl
def synthesisref01_OfInt (a0 : Int) : Option (Va) := (some (Va.mk (2) (a0) ((⟨#[]⟩ : ByteArray)) (([] : List Va))))
theorem synthesisref01_OfInt_ok (a0 : Int) (r : Va) (h : synthesisref01_OfInt a0 = some r) : PCall Try.prog 76 [eI a0] (eVa (r)) := by
 unfold synthesisref01_OfInt at h
 refine pcall_intro (T := TT) tt_ok [.ag [.keep, .keep, .keep, .sl 4]] Try.func76 rfl (by kernel_rfl) (by kernel_rfl) ?_
 refine awp_le (st' := ⟨5, [(0, (fI (a0)))], [], []⟩) (le_ck (by kernel_rfl)) ?_
 refine awp_seq ?_
 refine awp_region ?_
 refine l_rk 1 tt_ok ⟨5, [(0, (fI (a0))), (2, (.ref 1 0 0))], [(1, (.box 65 [(fI (0)), (fI (0)), (fS ((⟨#[]⟩ : ByteArray))), (.fz (.atom (.slice none 0 0)))]))], [1]⟩ (by kernel_rfl) ?_
 refine l_nil ?_
 refine awp_seq ?_
 refine awp_region ?_
 refine l_rk 3 tt_ok ⟨5, [(2, (.ref 1 0 0))], [(1, (.box 65 [(fI (2)), (fI (a0)), (fS ((⟨#[]⟩ : ByteArray))), (.fz (.atom (.slice none 0 0)))]))], [1]⟩ (by kernel_rfl) ?_
 refine l_nil ?_
 refine awp_ret ?_
 obtain rfl := Option.some.inj h
 exact (show retX _ _ _ _ = some _ from by kernel_rfl)
end Go.Proofs.Ytaeicmnimjfbaaa
