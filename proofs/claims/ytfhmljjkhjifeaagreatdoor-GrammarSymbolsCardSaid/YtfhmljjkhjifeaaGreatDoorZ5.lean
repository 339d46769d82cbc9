/- Typed programs and what computes them. -/
import Derived.Test.YtfhmljjkhjifeaaGreatDoorZ4
set_option linter.unusedVariables false
set_option linter.unusedSimpArgs false
set_option maxRecDepth 100000
namespace Go.Proofs.YtfhmljjkhjifeaaGreatDoor
open Go Go.RowKit Go.Proofs
set_option maxHeartbeats 2000000
attribute [local irreducible] NStep StepA EStep LeSt
def synthesislaw11_bools_l1 (a0 : List Bool) (a1 : List Bool) (v1 : (Int)) : Option (((Int)) ⊕ (((Unit) ⊕ (Bool)))) := (bif (decide (v1 < (List.length a0 : Int))) then (Option.bind (idx a0 v1) fun v2 => (Option.bind (idx a1 v1) fun v3 => (bif (!(v2 == v3)) then (some (.inr (.inr false))) else (some (.inl ((w64 (v1 + 1)))))))) else (some (.inr (.inl ()))))
def synthesislaw11_bools (a0 : List Bool) (a1 : List Bool) : Option (Bool) := (bif ((List.length a0 : Int) != (List.length a1 : Int)) then (some false) else (Option.bind (loopN (synthesislaw11_bools_l1 a0 a1) fuel (0)) fun (v4 : ((Unit) ⊕ (Bool))) => Sum.elim (fun v5 => (some true)) (fun v6 => (some v6)) v4))
theorem synthesislaw11_bools_ok (a0 : List Bool) (a1 : List Bool) (r : Bool) (h : synthesislaw11_bools a0 a1 = some r) : PCall Tryz.prog 17 [(eL 1 eB) a0, (eL 1 eB) a1] (eB (r)) := by
 unfold synthesislaw11_bools at h
 refine pcl [.one .keep] Tryz.func17 (by kernel_rfl) (by kernel_rfl) (by kernel_rfl) ?_
 refine cd 13 h (by kernel_rfl) (fun h => ?_) fun h => ?_
 ·cases h; exact lq 5 (by kernel_rfl)
 refine lpx 7 (fun v1 => ⟨26, [(0, (.fz ((eL 1 eB) (a0)))), (1, (.fz ((eL 1 eB) (a1)))), (5, (fI (v1)))], [], [], []⟩) (fun v4 e st => Sum.elim (fun p => e = .exit 0 ∧ LeSt st ⟨26, [], [], [], []⟩) (fun p => e = .ret ∧ retX TT st Tryz.f17.results.toList [.one .keep] = some (eB (p))) v4) h (by kernel_rfl) (le_a (by kernel_rfl)) (fun v1 r h => ?_) fun v4 h e st' hq => ?_
 ·unfold synthesislaw11_bools_l1 at h
  refine cd 8 h (by kernel_rfl) (fun h => ?_) fun h => ?_
  ·refine dw 4 8 (by kernel_rfl) ?_
   refine ix nB 2 h (by kernel_rfl) fun v2 h => ?_
   refine ix nB 3 h (by kernel_rfl) fun v3 h => ?_
   refine cd 4 h (by kernel_rfl) (fun h => ?_) fun h => ?_
   ·cases h; exact lor 5 (by kernel_rfl)
   cases h; exact lj 6 (by kernel_rfl)
  cases h; exact lo 1 (by kernel_rfl)
 rcases v4 with v5 | v6
 ·try simp only [Sum.elim_inl, Sum.elim_inr] at h
  obtain ⟨rfl, hle⟩ := hq
  refine ⟨_, hle, ?_⟩
  cases h; exact lq 5 (by kernel_rfl)
 ·try simp only [Sum.elim_inl, Sum.elim_inr] at h
  obtain ⟨rfl, hret⟩ := hq
  refine ⟨_, LeSt.refl, ?_⟩
  cases h; exact lv hret

def synthesisref11_all_l1 (a0 : Ru) (a1 : List Bool) (v1 : (Int)) : Option (((Int)) ⊕ (((Unit) ⊕ (Bool)))) := (bif (decide (v1 < (List.length a0.args : Int))) then (Option.bind (idx a0.args v1) fun v2 => (Option.bind (idx a1 v2) fun v3 => (bif (!v3) then (some (.inr (.inr false))) else (some (.inl ((w64 (v1 + 1)))))))) else (some (.inr (.inl ()))))
def synthesisref11_all (a0 : Ru) (a1 : List Bool) : Option (Bool) := (Option.bind (loopN (synthesisref11_all_l1 a0 a1) fuel (0)) fun (v4 : ((Unit) ⊕ (Bool))) => Sum.elim (fun v5 => (some true)) (fun v6 => (some v6)) v4)
theorem synthesisref11_all_ok (a0 : Ru) (a1 : List Bool) (r : Bool) (h : synthesisref11_all a0 a1 = some r) : PCall Tryz.prog 50 [eRu a0, (eL 1 eB) a1] (eB (r)) := by
 unfold synthesisref11_all at h
 refine pcl [.one .keep] Tryz.func50 (by kernel_rfl) (by kernel_rfl) (by kernel_rfl) ?_
 refine lpx 11 (fun v1 => ⟨22, [(1, (.fz ((eL 1 eB) (a1)))), (2, (.ref 1 0 0)), (5, (fI (v1)))], [(1, (.box 47 [(fI (a0.symbol)), (fI (a0.kind)), (fI (a0.input)), (fI (a0.const.type)), (fI (a0.const.num)), (fS (a0.const.text)), (.fz ((eL 4 eVaR) (a0.const.items))), (fS (a0.op)), (.fz ((eL 1 eI) (a0.args)))]))], [1], []⟩) (fun v4 e st => Sum.elim (fun p => e = .exit 0 ∧ LeSt st ⟨22, [], [], [], []⟩) (fun p => e = .ret ∧ retX TT st Tryz.f50.results.toList [.one .keep] = some (eB (p))) v4) h (by kernel_rfl) (le_a (by kernel_rfl)) (fun v1 r h => ?_) fun v4 h e st' hq => ?_
 ·unfold synthesisref11_all_l1 at h
  refine cd 9 h (by kernel_rfl) (fun h => ?_) fun h => ?_
  ·refine ix nI 9 h (by kernel_rfl) fun v2 h => ?_
   refine ix nB 1 h (by kernel_rfl) fun v3 h => ?_
   refine cd 3 h (by kernel_rfl) (fun h => ?_) fun h => ?_
   ·cases h; exact lor 5 (by kernel_rfl)
   cases h; exact lj 6 (by kernel_rfl)
  cases h; exact lo 1 (by kernel_rfl)
 rcases v4 with v5 | v6
 ·try simp only [Sum.elim_inl, Sum.elim_inr] at h
  obtain ⟨rfl, hle⟩ := hq
  refine ⟨_, hle, ?_⟩
  cases h; exact lq 5 (by kernel_rfl)
 ·try simp only [Sum.elim_inl, Sum.elim_inr] at h
  obtain ⟨rfl, hret⟩ := hq
  refine ⟨_, LeSt.refl, ?_⟩
  cases h; exact lv hret

def synthesisref11_productive_l1 (a0 : La) (v3 : (Int) × (List Bool)) : Option (((Int) × (List Bool)) ⊕ ((List Bool))) := (bif (decide (v3.1 < (List.length a0.rules : Int))) then (Option.bind ((Option.bind (idx a0.rules v3.1) fun v4 => (Option.bind (synthesisref11_all (v4) (v3.2)) fun v5 => (bif v5 then (Option.bind (idx a0.rules v3.1) fun v6 => (Option.bind (idx v3.2 v6.symbol) fun v7 => (some ((List.set v3.2 (Int.toNat v6.symbol) true))))) else (some (v3.2))))) : Option ((List Bool))) fun (v9 : (List Bool)) => (some (.inl ((w64 (v3.1 + 1)), v9)))) else (some (.inr (v3.2))))
def synthesisref11_productive_l2 (a0 : La) (v2 : (Int) × (List Bool)) : Option (((Int) × (List Bool)) ⊕ ((List Bool))) := (bif (decide (v2.1 < (List.length a0.symbols : Int))) then (Option.bind (loopN (synthesisref11_productive_l1 a0) fuel (0, v2.2)) fun (v11 : (List Bool)) => (some (.inl ((w64 (v2.1 + 1)), v11)))) else (some (.inr (v2.2))))
def synthesisref11_productive (a0 : La) : Option (List Bool) := (Option.bind (mkL 1 false (List.length a0.symbols : Int)) fun v1 => (Option.bind (loopN (synthesisref11_productive_l2 a0) fuel (0, v1)) fun (v13 : (List Bool)) => (some v13)))
theorem synthesisref11_productive_ok (a0 : La) (r : List Bool) (h : synthesisref11_productive a0 = some r) : PCall Tryz.prog 44 [eLa a0] ((eL 1 eB) (r)) := by
 unfold synthesisref11_productive at h
 refine pcl [.one (.sl 1)] Tryz.func44 (by kernel_rfl) (by kernel_rfl) (by kernel_rfl) ?_
 obtain ⟨v1, hv1, h⟩ := Option.bind_eq_some_iff.1 h
 refine sst 10 (s_make (t := 35) (X := (.tmp 8)) (Y := (.tmp 8)) (id := 2) (k := .i64) (k' := .i64) (d := tt35) (e := 4) (de := tt4) (enc := eB) (zv := .bool false) hv1 (by kernel_rfl) tt_ok (by kernel_rfl) (by kernel_rfl) (by kernel_rfl) rfl rfl rfl rfl rfl (by kernel_rfl) (by kernel_rfl) (by kernel_rfl)) (by kernel_rfl) ?_
 refine lp1 8 (fun v2 => ⟨40, [(1, (.ref 1 0 0)), (3, (.row 2 (List.length (v2.2)))), (4, (fI (v2.1)))], [(1, (.box 26 [(fS (a0.name)), (.fz ((eL 1 eI) (a0.inputs))), (.fz ((eL 2 eSy) (a0.symbols))), (.fz ((eL 9 eRu) (a0.rules)))])), (2, (.frow 4 1 (List.map eB (v2.2))))], [2, 1], []⟩) (.exit 0) (fun v13 => ⟨40, [(3, (.row 2 (List.length (v13))))], [(2, (.frow 4 1 (List.map eB (v13))))], [2], []⟩) h (by kernel_rfl) (by kernel_rfl) (fun v2 r h => ?_) fun v13 h => ?_
 ·unfold synthesisref11_productive_l2 at h
  refine cd 9 h (by kernel_rfl) (fun h => ?_) fun h => ?_
  ·refine lp1 8 (fun v3 => ⟨40, [(1, (.ref 1 0 0)), (3, (.row 2 (List.length (v3.2)))), (4, (fI (v2.1))), (5, (fI (v3.1)))], [(1, (.box 26 [(fS (a0.name)), (.fz ((eL 1 eI) (a0.inputs))), (.fz ((eL 2 eSy) (a0.symbols))), (.fz ((eL 9 eRu) (a0.rules)))])), (2, (.frow 4 1 (List.map eB (v3.2))))], [2, 1], []⟩) (.exit 2) (fun v11 => ⟨40, [(1, (.ref 1 0 0)), (3, (.row 2 (List.length (v11)))), (4, (fI (v2.1)))], [(1, (.box 26 [(fS (a0.name)), (.fz ((eL 1 eI) (a0.inputs))), (.fz ((eL 2 eSy) (a0.symbols))), (.fz ((eL 9 eRu) (a0.rules)))])), (2, (.frow 4 1 (List.map eB (v11))))], [2, 1], []⟩) h (by kernel_rfl) (by kernel_rfl) (fun v3 r h => ?_) fun v11 h => ?_
   ·unfold synthesisref11_productive_l1 at h
    refine cd 9 h (by kernel_rfl) (fun h => ?_) fun h => ?_
    ·refine jn1 3 .normal (fun v9 => ⟨40, [(1, (.ref 1 0 0)), (3, (.row 2 (List.length (v9)))), (4, (fI (v2.1))), (5, (fI (v3.1)))], [(1, (.box 26 [(fS (a0.name)), (.fz ((eL 1 eI) (a0.inputs))), (.fz ((eL 2 eSy) (a0.symbols))), (.fz ((eL 9 eRu) (a0.rules)))])), (2, (.frow 4 1 (List.map eB (v9))))], [2, 1], []⟩) h (by kernel_rfl) (fun v9 h => ?_) fun v9 h => ?_
     ·refine ix nRu 5 h (by kernel_rfl) fun v4 h => ?_
      refine clL 2 [(.row 29 2 (List.length (v3.2)) 4 1 (List.map eB (v3.2)))] h (synthesisref11_all_ok _ _) (lend_cons (lend_row (by kernel_rfl) (by kernel_rfl) (by simp)) (lend_nil)) (by kernel_rfl) (fun _ => by kernel_rfl) fun v5 h => ?_
      refine cd 1 h (by kernel_rfl) (fun h => ?_) fun h => ?_
      ·refine ix nRu 5 h (by kernel_rfl) fun v6 h => ?_
       obtain ⟨v7, hv7, h⟩ := Option.bind_eq_some_iff.1 h
       refine nst 2 (n_rowAddr (t := 35) (X := (.tmp 31)) (Y := (.tmp 37)) (id := 2) (k := .i64) (d := tt35) (e := 4) (de := tt4) (enc := eB) (xs := v3.2) (n := List.length (v3.2)) hv7 tt_ok (by kernel_rfl) (by kernel_rfl) (by kernel_rfl) (by kernel_rfl) (by kernel_rfl) (by kernel_rfl) (by kernel_rfl) rfl (by kernel_rfl)) (by kernel_rfl) ?_
       refine sst 0 (e_rowStore (t := 4) (X := (.tmp 38)) (Y := (.const (.bool true))) (id := 2) (d := tt4) (enc := eB) (xs := v3.2) (x := v7) (i := v6.symbol) (y := true) (n := List.length (v3.2)) hv7 tt_ok (by kernel_rfl) (by kernel_rfl) (by kernel_rfl) (by kernel_rfl) (by kernel_rfl) rfl (by kernel_rfl) (fun _ => ⟨_, rfl, rfl⟩)) (by kernel_rfl) ?_
       refine wle 0 (LeSt.trans (show LeSt _ ⟨40, [(1, (.ref 1 0 0)), (3, (.row 2 (List.length (v3.2)))), (4, (fI (v2.1))), (5, (fI (v3.1))), (31, (.row 2 (List.length (v3.2)))), (37, (fI (v6.symbol)))], [(1, (.box 26 [(fS (a0.name)), (.fz ((eL 1 eI) (a0.inputs))), (.fz ((eL 2 eSy) (a0.symbols))), (.fz ((eL 9 eRu) (a0.rules)))])), (2, (.frow 4 1 (List.map eB ((List.set v3.2 (Int.toNat v6.symbol) true)))))], [2, 1], []⟩ from le_a (by kernel_rfl)) (LeSt.trans (le_relen 2 (k := 2) (m := List.length (v3.2)) (n := List.length ((List.set v3.2 (Int.toNat v6.symbol) true))) (by kernel_rfl) (by simp)) (show LeSt _ ⟨40, [(1, (.ref 1 0 0)), (3, (.row 2 (List.length ((List.set v3.2 (Int.toNat v6.symbol) true))))), (4, (fI (v2.1))), (5, (fI (v3.1))), (31, (.row 2 (List.length ((List.set v3.2 (Int.toNat v6.symbol) true))))), (37, (fI (v6.symbol)))], [(1, (.box 26 [(fS (a0.name)), (.fz ((eL 1 eI) (a0.inputs))), (.fz ((eL 2 eSy) (a0.symbols))), (.fz ((eL 9 eRu) (a0.rules)))])), (2, (.frow 4 1 (List.map eB ((List.set v3.2 (Int.toNat v6.symbol) true)))))], [2, 1], []⟩ from le_a (by kernel_rfl)))) (by kernel_rfl) ?_
       cases h; exact lj 1 (by kernel_rfl)
      cases h; exact lj 1 (by kernel_rfl)
     cases h; exact lj 5 (by kernel_rfl)
    cases h; exact lo 1 (by kernel_rfl)
   cases h; exact lj 5 (by kernel_rfl)
  cases h; exact lo 1 (by kernel_rfl)
 refine wle 5 (le_freeze (t := 2) (id := 2) (n := List.length (v13)) (e := 4) (size := 1) (xs := List.map eB (v13)) (by kernel_rfl) (by kernel_rfl) (by simp)) (by kernel_rfl) ?_
 cases h; exact lq 1 (by kernel_rfl)

def synthesisref11_Productive (a0 : La) : Option (List Bool) := (Option.bind (synthesisref11_Check (a0)) fun v1 => (bif (v1 != 0) then (some ([] : List Bool)) else (Option.bind (synthesisref11_productive (a0)) fun v2 => (some v2))))
theorem synthesisref11_Productive_ok (a0 : La) (r : List Bool) (h : synthesisref11_Productive a0 = some r) : PCall Tryz.prog 19 [eLa a0] ((eL 1 eB) (r)) := by
 unfold synthesisref11_Productive at h
 refine pcl [.one (.sl 1)] Tryz.func19 (by kernel_rfl) (by kernel_rfl) (by kernel_rfl) ?_
 refine cl 9 h (synthesisref11_Check_ok _) (by kernel_rfl) fun v1 h => ?_
 refine cd 2 h (by kernel_rfl) (fun h => ?_) fun h => ?_
 ·cases h; exact lq 5 (by kernel_rfl)
 refine cl 4 h (synthesisref11_productive_ok _) (by kernel_rfl) fun v2 h => ?_
 cases h; exact lq 3 (by kernel_rfl)

def synthesisref11_reach_h_l1 (v4 : Ru) (v8 : (Int) × (List Bool)) : Option (((Int) × (List Bool)) ⊕ ((List Bool))) := (bif (decide (v8.1 < (List.length v4.args : Int))) then (Option.bind (idx v4.args v8.1) fun v9 => (Option.bind (idx v8.2 v9) fun v10 => (some (.inl ((w64 (v8.1 + 1)), (List.set v8.2 (Int.toNat v9) true)))))) else (some (.inr (v8.2))))
def synthesisref11_reach_h_l2 (a0 : La) (a1 : Int) (v3 : (Int) × (List Bool)) : Option (((Int) × (List Bool)) ⊕ ((List Bool))) := (bif (decide (v3.1 < (List.length a0.rules : Int))) then (Option.bind ((Option.bind ((Option.bind (idx a0.rules v3.1) fun v4 => (Option.bind ((bif (v4.symbol != a1) then (Option.bind (idx v3.2 v4.symbol) fun v5 => (bif (!v5) then (some (true)) else (some (false)))) else (some (false))) : Option ((Bool))) fun (v7 : (Bool)) => (bif v7 then (some (.inr ())) else (Option.bind (loopN (synthesisref11_reach_h_l1 v4) fuel (0, v3.2)) fun (v12 : (List Bool)) => (some (.inl (v12))))))) : Option ((((List Bool)) ⊕ (Unit)))) fun (v13 : (((List Bool)) ⊕ (Unit))) => Sum.elim (fun v14 => (some (v14))) (fun v15 => (some (v3.2))) v13) : Option ((List Bool))) fun (v17 : (List Bool)) => (some (.inl ((w64 (v3.1 + 1)), v17)))) else (some (.inr (v3.2))))
def synthesisref11_reach_h_l3 (a0 : La) (a1 : Int) (v2 : (Int) × (List Bool)) : Option (((Int) × (List Bool)) ⊕ ((List Bool))) := (bif (decide (v2.1 ≤ (List.length a0.symbols : Int))) then (Option.bind (loopN (synthesisref11_reach_h_l2 a0 a1) fuel (0, v2.2)) fun (v19 : (List Bool)) => (some (.inl ((w64 (v2.1 + 1)), v19)))) else (some (.inr (v2.2))))
def synthesisref11_reach_h (a0 : La) (a1 : Int) : Option ((List Bool)) := (Option.bind (mkL 1 false (List.length a0.symbols : Int)) fun v1 => (Option.bind (loopN (synthesisref11_reach_h_l3 a0 a1) fuel (0, v1)) fun (v21 : (List Bool)) => (some (v21))))
theorem synthesisref11_reach_h_ok (a0 : La) (a1 : Int) (r : (List Bool)) (h : synthesisref11_reach_h a0 a1 = some r) : HCall Tryz.prog 47 ([(.fz (eLa (a0))), (fI (a1)), (.fz (.atom (.slice none 0 0)))] ++ []) [] [] (.ret (.row 2 (List.length (r)))) [(2, (.frow 4 1 (List.map eB (r))))] [2] := by
 unfold synthesisref11_reach_h at h
 refine hcx (gi := 0) Tryz.func47 (by kernel_rfl) (by kernel_rfl) (by kernel_rfl) (by kernel_rfl) (by kernel_rfl) (by kernel_rfl) (by kernel_rfl) (by kernel_rfl) ?_
 intro p0 q0 w0
 obtain ⟨v1, hv1, h⟩ := Option.bind_eq_some_iff.1 h
 refine sst 10 (s_make (t := 35) (X := (.tmp 14)) (Y := (.tmp 14)) (id := 2) (k := .i64) (k' := .i64) (d := tt35) (e := 4) (de := tt4) (enc := eB) (zv := .bool false) hv1 (by kernel_rfl) tt_ok (by kernel_rfl) (by kernel_rfl) (by kernel_rfl) rfl rfl rfl rfl rfl (by kernel_rfl) (by kernel_rfl) (by kernel_rfl)) (by kernel_rfl) ?_
 refine lp1 8 (fun v2 => ⟨72, [(1, (fI (a1))), (2, (.fz (.atom (.slice none 0 0)))), (3, (.ref 1 0 0)), (7, (.row 2 (List.length (v2.2)))), (8, (fI (v2.1)))], [(0, (.was p0 [] q0 w0)), (1, (.box 26 [(fS (a0.name)), (.fz ((eL 1 eI) (a0.inputs))), (.fz ((eL 2 eSy) (a0.symbols))), (.fz ((eL 9 eRu) (a0.rules)))])), (2, (.frow 4 1 (List.map eB (v2.2))))], [2, 1, 0], []⟩) (.exit 0) (fun v21 => ⟨72, [(7, (.row 2 (List.length (v21))))], [(0, (.was p0 [] q0 w0)), (2, (.frow 4 1 (List.map eB (v21))))], [2, 0], []⟩) h (by kernel_rfl) (by kernel_rfl) (fun v2 r h => ?_) fun v21 h => ?_
 ·unfold synthesisref11_reach_h_l3 at h
  refine cd 9 h (by kernel_rfl) (fun h => ?_) fun h => ?_
  ·refine lp1 8 (fun v3 => ⟨72, [(1, (fI (a1))), (2, (.fz (.atom (.slice none 0 0)))), (3, (.ref 1 0 0)), (7, (.row 2 (List.length (v3.2)))), (8, (fI (v2.1))), (9, (fI (v3.1)))], [(0, (.was p0 [] q0 w0)), (1, (.box 26 [(fS (a0.name)), (.fz ((eL 1 eI) (a0.inputs))), (.fz ((eL 2 eSy) (a0.symbols))), (.fz ((eL 9 eRu) (a0.rules)))])), (2, (.frow 4 1 (List.map eB (v3.2))))], [2, 1, 0], []⟩) (.exit 2) (fun v19 => ⟨72, [(1, (fI (a1))), (2, (.fz (.atom (.slice none 0 0)))), (3, (.ref 1 0 0)), (7, (.row 2 (List.length (v19)))), (8, (fI (v2.1)))], [(0, (.was p0 [] q0 w0)), (1, (.box 26 [(fS (a0.name)), (.fz ((eL 1 eI) (a0.inputs))), (.fz ((eL 2 eSy) (a0.symbols))), (.fz ((eL 9 eRu) (a0.rules)))])), (2, (.frow 4 1 (List.map eB (v19))))], [2, 1, 0], []⟩) h (by kernel_rfl) (by kernel_rfl) (fun v3 r h => ?_) fun v19 h => ?_
   ·unfold synthesisref11_reach_h_l2 at h
    refine cd 9 h (by kernel_rfl) (fun h => ?_) fun h => ?_
    ·refine jn1 2 .normal (fun v17 => ⟨72, [(1, (fI (a1))), (2, (.fz (.atom (.slice none 0 0)))), (3, (.ref 1 0 0)), (7, (.row 2 (List.length (v17)))), (8, (fI (v2.1))), (9, (fI (v3.1)))], [(0, (.was p0 [] q0 w0)), (1, (.box 26 [(fS (a0.name)), (.fz ((eL 1 eI) (a0.inputs))), (.fz ((eL 2 eSy) (a0.symbols))), (.fz ((eL 9 eRu) (a0.rules)))])), (2, (.frow 4 1 (List.map eB (v17))))], [2, 1, 0], []⟩) h (by kernel_rfl) (fun v17 h => ?_) fun v17 h => ?_
     ·refine jnQ 1 (fun v13 e st => Sum.elim (fun p => e = .normal ∧ LeSt st ⟨72, [(1, (fI (a1))), (2, (.fz (.atom (.slice none 0 0)))), (3, (.ref 1 0 0)), (7, (.row 2 (List.length (p)))), (8, (fI (v2.1))), (9, (fI (v3.1)))], [(0, (.was p0 [] q0 w0)), (1, (.box 26 [(fS (a0.name)), (.fz ((eL 1 eI) (a0.inputs))), (.fz ((eL 2 eSy) (a0.symbols))), (.fz ((eL 9 eRu) (a0.rules)))])), (2, (.frow 4 1 (List.map eB (p))))], [2, 1, 0], []⟩) (fun p => e = .exit 3 ∧ LeSt st ⟨72, [(1, (fI (a1))), (2, (.fz (.atom (.slice none 0 0)))), (3, (.ref 1 0 0)), (7, (.row 2 (List.length (v3.2)))), (8, (fI (v2.1))), (9, (fI (v3.1)))], [(0, (.was p0 [] q0 w0)), (1, (.box 26 [(fS (a0.name)), (.fz ((eL 1 eI) (a0.inputs))), (.fz ((eL 2 eSy) (a0.symbols))), (.fz ((eL 9 eRu) (a0.rules)))])), (2, (.frow 4 1 (List.map eB (v3.2))))], [2, 1, 0], []⟩) v13) h (by kernel_rfl) (fun v13 h => ?_) fun v13 h e st' hq => ?_
      ·refine ix nRu 5 h (by kernel_rfl) fun v4 h => ?_
       refine jn1 6 .normal (fun v7 => ⟨72, [(1, (fI (a1))), (2, (.fz (.atom (.slice none 0 0)))), (3, (.ref 1 0 0)), (7, (.row 2 (List.length (v3.2)))), (8, (fI (v2.1))), (9, (fI (v3.1))), (10, (.ref 3 0 0)), (56, (fB (v7)))], [(0, (.was p0 [] q0 w0)), (1, (.box 26 [(fS (a0.name)), (.fz ((eL 1 eI) (a0.inputs))), (.fz ((eL 2 eSy) (a0.symbols))), (.fz ((eL 9 eRu) (a0.rules)))])), (2, (.frow 4 1 (List.map eB (v3.2)))), (3, (.box 47 [(fI (v4.symbol)), (fI (v4.kind)), (fI (v4.input)), (fI (v4.const.type)), (fI (v4.const.num)), (fS (v4.const.text)), (.fz ((eL 4 eVaR) (v4.const.items))), (fS (v4.op)), (.fz ((eL 1 eI) (v4.args)))]))], [3, 2, 1, 0], []⟩) h (by kernel_rfl) (fun v7 h => ?_) fun v7 h => ?_
       ·refine gd 6 h (by kernel_rfl) (fun h => ?_) fun h => ?_
        ·obtain ⟨v5, hv5, h⟩ := Option.bind_eq_some_iff.1 h
         refine nst 3 (n_rowAddr (t := 35) (X := (.tmp 40)) (Y := (.tmp 42)) (id := 2) (k := .i64) (d := tt35) (e := 4) (de := tt4) (enc := eB) (xs := v3.2) (n := List.length (v3.2)) hv5 tt_ok (by kernel_rfl) (by kernel_rfl) (by kernel_rfl) (by kernel_rfl) (by kernel_rfl) (by kernel_rfl) (by kernel_rfl) rfl (by kernel_rfl)) (by kernel_rfl) ?_
         refine nst 0 (n_rowLoad (t := 4) (X := (.tmp 43)) (id := 2) (d := tt4) (enc := eB) (xs := v3.2) (x := v5) (i := v4.symbol) (n := List.length (v3.2)) hv5 tt_ok (by kernel_rfl) (by kernel_rfl) (by kernel_rfl) (by kernel_rfl) (by kernel_rfl) rfl (fun _ => rfl)) (by kernel_rfl) ?_
         refine gd 3 h (by kernel_rfl) (fun h => ?_) fun h => ?_
         ·cases h; exact lj 10 (by kernel_rfl)
         refine nst 1 (n_slnil (t := 35) (x := (.tmp 48)) (y := (.const (.slice none 0 0))) (yt := 35) (te := 4) true (by kernel_rfl) (by kernel_rfl) (by kernel_rfl) (by kernel_rfl)) (by kernel_rfl) ?_
         cases h; exact lj 8 (by kernel_rfl)
        refine nst 9 (n_slnil (t := 35) (x := (.tmp 48)) (y := (.const (.slice none 0 0))) (yt := 35) (te := 4) true (by kernel_rfl) (by kernel_rfl) (by kernel_rfl) (by kernel_rfl)) (by kernel_rfl) ?_
        cases h; exact lj 8 (by kernel_rfl)
       refine cd 0 h (by kernel_rfl) (fun h => ?_) fun h => ?_
       ·cases h; exact lj 1 (by kernel_rfl)
       refine lp1 6 (fun v8 => ⟨72, [(1, (fI (a1))), (2, (.fz (.atom (.slice none 0 0)))), (3, (.ref 1 0 0)), (7, (.row 2 (List.length (v8.2)))), (8, (fI (v2.1))), (9, (fI (v3.1))), (10, (.ref 3 0 0)), (11, (fI (v8.1)))], [(0, (.was p0 [] q0 w0)), (1, (.box 26 [(fS (a0.name)), (.fz ((eL 1 eI) (a0.inputs))), (.fz ((eL 2 eSy) (a0.symbols))), (.fz ((eL 9 eRu) (a0.rules)))])), (2, (.frow 4 1 (List.map eB (v8.2)))), (3, (.box 47 [(fI (v4.symbol)), (fI (v4.kind)), (fI (v4.input)), (fI (v4.const.type)), (fI (v4.const.num)), (fS (v4.const.text)), (.fz ((eL 4 eVaR) (v4.const.items))), (fS (v4.op)), (.fz ((eL 1 eI) (v4.args)))]))], [3, 2, 1, 0], []⟩) (.exit 4) (fun v12 => ⟨72, [(1, (fI (a1))), (2, (.fz (.atom (.slice none 0 0)))), (3, (.ref 1 0 0)), (7, (.row 2 (List.length (v12)))), (8, (fI (v2.1))), (9, (fI (v3.1)))], [(0, (.was p0 [] q0 w0)), (1, (.box 26 [(fS (a0.name)), (.fz ((eL 1 eI) (a0.inputs))), (.fz ((eL 2 eSy) (a0.symbols))), (.fz ((eL 9 eRu) (a0.rules)))])), (2, (.frow 4 1 (List.map eB (v12))))], [2, 1, 0], []⟩) h (by kernel_rfl) (by kernel_rfl) (fun v8 r h => ?_) fun v12 h => ?_
       ·unfold synthesisref11_reach_h_l1 at h
        refine cd 9 h (by kernel_rfl) (fun h => ?_) fun h => ?_
        ·refine ix nI 8 h (by kernel_rfl) fun v9 h => ?_
         obtain ⟨v10, hv10, h⟩ := Option.bind_eq_some_iff.1 h
         refine nst 1 (n_rowAddr (t := 35) (X := (.tmp 64)) (Y := (.tmp 69)) (id := 2) (k := .i64) (d := tt35) (e := 4) (de := tt4) (enc := eB) (xs := v8.2) (n := List.length (v8.2)) hv10 tt_ok (by kernel_rfl) (by kernel_rfl) (by kernel_rfl) (by kernel_rfl) (by kernel_rfl) (by kernel_rfl) (by kernel_rfl) rfl (by kernel_rfl)) (by kernel_rfl) ?_
         refine sst 0 (e_rowStore (t := 4) (X := (.tmp 70)) (Y := (.const (.bool true))) (id := 2) (d := tt4) (enc := eB) (xs := v8.2) (x := v10) (i := v9) (y := true) (n := List.length (v8.2)) hv10 tt_ok (by kernel_rfl) (by kernel_rfl) (by kernel_rfl) (by kernel_rfl) (by kernel_rfl) rfl (by kernel_rfl) (fun _ => ⟨_, rfl, rfl⟩)) (by kernel_rfl) ?_
         refine wle 0 (LeSt.trans (show LeSt _ ⟨72, [(1, (fI (a1))), (2, (.fz (.atom (.slice none 0 0)))), (3, (.ref 1 0 0)), (7, (.row 2 (List.length (v8.2)))), (8, (fI (v2.1))), (9, (fI (v3.1))), (10, (.ref 3 0 0)), (11, (fI (v8.1))), (64, (.row 2 (List.length (v8.2)))), (69, (fI (v9)))], [(0, (.was p0 [] q0 w0)), (1, (.box 26 [(fS (a0.name)), (.fz ((eL 1 eI) (a0.inputs))), (.fz ((eL 2 eSy) (a0.symbols))), (.fz ((eL 9 eRu) (a0.rules)))])), (2, (.frow 4 1 (List.map eB ((List.set v8.2 (Int.toNat v9) true))))), (3, (.box 47 [(fI (v4.symbol)), (fI (v4.kind)), (fI (v4.input)), (fI (v4.const.type)), (fI (v4.const.num)), (fS (v4.const.text)), (.fz ((eL 4 eVaR) (v4.const.items))), (fS (v4.op)), (.fz ((eL 1 eI) (v4.args)))]))], [3, 2, 1, 0], []⟩ from le_a (by kernel_rfl)) (LeSt.trans (le_relen 2 (k := 2) (m := List.length (v8.2)) (n := List.length ((List.set v8.2 (Int.toNat v9) true))) (by kernel_rfl) (by simp)) (show LeSt _ ⟨72, [(1, (fI (a1))), (2, (.fz (.atom (.slice none 0 0)))), (3, (.ref 1 0 0)), (7, (.row 2 (List.length ((List.set v8.2 (Int.toNat v9) true))))), (8, (fI (v2.1))), (9, (fI (v3.1))), (10, (.ref 3 0 0)), (11, (fI (v8.1))), (64, (.row 2 (List.length ((List.set v8.2 (Int.toNat v9) true))))), (69, (fI (v9)))], [(0, (.was p0 [] q0 w0)), (1, (.box 26 [(fS (a0.name)), (.fz ((eL 1 eI) (a0.inputs))), (.fz ((eL 2 eSy) (a0.symbols))), (.fz ((eL 9 eRu) (a0.rules)))])), (2, (.frow 4 1 (List.map eB ((List.set v8.2 (Int.toNat v9) true))))), (3, (.box 47 [(fI (v4.symbol)), (fI (v4.kind)), (fI (v4.input)), (fI (v4.const.type)), (fI (v4.const.num)), (fS (v4.const.text)), (.fz ((eL 4 eVaR) (v4.const.items))), (fS (v4.op)), (.fz ((eL 1 eI) (v4.args)))]))], [3, 2, 1, 0], []⟩ from le_a (by kernel_rfl)))) (by kernel_rfl) ?_
         cases h; exact lj 6 (by kernel_rfl)
        cases h; exact lo 1 (by kernel_rfl)
       cases h; exact lj 0 (by kernel_rfl)
      rcases v13 with v14 | v15
      ·try simp only [Sum.elim_inl, Sum.elim_inr] at h
       obtain ⟨rfl, hle⟩ := hq
       refine ⟨_, hle, ?_⟩
       cases h; exact lj 0 (by kernel_rfl)
      ·try simp only [Sum.elim_inl, Sum.elim_inr] at h
       obtain ⟨rfl, hle⟩ := hq
       refine ⟨_, hle, ?_⟩
       cases h; exact lj 0 (by kernel_rfl)
     cases h; exact lj 5 (by kernel_rfl)
    cases h; exact lo 1 (by kernel_rfl)
   cases h; exact lj 5 (by kernel_rfl)
  cases h; exact lo 1 (by kernel_rfl)
 obtain rfl := Option.some.inj h; exact lh 6 ⟨72, [(6, (.row 2 (List.length (v21))))], [(0, (.was p0 [] q0 w0)), (2, (.frow 4 1 (List.map eB (v21))))], [0, 2], []⟩ (le_a (by kernel_rfl)) rfl rfl (by kernel_rfl) (by kernel_rfl)

def synthesisref11_Reachable (a0 : La) : Option (List Bool) := (Option.bind (synthesisref11_Check (a0)) fun v1 => (bif (v1 != 0) then (some ([] : List Bool)) else (Option.bind (synthesisref11_reach_h (a0) (0)) fun v2 => (Option.bind (idx v2 0) fun v3 => (some (List.set v2 (Int.toNat 0) true))))))
theorem synthesisref11_Reachable_ok (a0 : La) (r : List Bool) (h : synthesisref11_Reachable a0 = some r) : PCall Tryz.prog 21 [eLa a0] ((eL 1 eB) (r)) := by
 unfold synthesisref11_Reachable at h
 refine pcl [.one (.sl 1)] Tryz.func21 (by kernel_rfl) (by kernel_rfl) (by kernel_rfl) ?_
 refine cl 9 h (synthesisref11_Check_ok _) (by kernel_rfl) fun v1 h => ?_
 refine cd 2 h (by kernel_rfl) (fun h => ?_) fun h => ?_
 ·cases h; exact lq 5 (by kernel_rfl)
 refine hcl 4 [.one .keep, .one .keep, .one .keep] [] [(2, 2)] [] h (synthesisref11_reach_h_ok _ _) (fun _ => by kernel_rfl) fun v2 h => ?_
 obtain ⟨v3, hv3, h⟩ := Option.bind_eq_some_iff.1 h
 refine nst 5 (n_rowAddr (t := 35) (X := (.tmp 9)) (Y := (.const (.int .i64 0))) (id := 2) (k := .i64) (d := tt35) (e := 4) (de := tt4) (enc := eB) (xs := v2) (n := List.length (v2)) hv3 tt_ok (by kernel_rfl) (by kernel_rfl) (by kernel_rfl) (by kernel_rfl) (by kernel_rfl) (by kernel_rfl) (by kernel_rfl) rfl (by kernel_rfl)) (by kernel_rfl) ?_
 refine sst 0 (e_rowStore (t := 4) (X := (.tmp 10)) (Y := (.const (.bool true))) (id := 2) (d := tt4) (enc := eB) (xs := v2) (x := v3) (i := 0) (y := true) (n := List.length (v2)) hv3 tt_ok (by kernel_rfl) (by kernel_rfl) (by kernel_rfl) (by kernel_rfl) (by kernel_rfl) rfl (by kernel_rfl) (fun _ => ⟨_, rfl, rfl⟩)) (by kernel_rfl) ?_
 refine wle 0 (LeSt.trans (show LeSt _ ⟨12, [(3, (.row 2 (List.length (v2)))), (9, (.row 2 (List.length (v2))))], [(2, (.frow 4 1 (List.map eB ((List.set v2 (Int.toNat 0) true)))))], [2], []⟩ from le_a (by kernel_rfl)) (LeSt.trans (le_relen 2 (k := 2) (m := List.length (v2)) (n := List.length ((List.set v2 (Int.toNat 0) true))) (by kernel_rfl) (by simp)) (show LeSt _ ⟨12, [(3, (.row 2 (List.length ((List.set v2 (Int.toNat 0) true))))), (9, (.row 2 (List.length ((List.set v2 (Int.toNat 0) true)))))], [(2, (.frow 4 1 (List.map eB ((List.set v2 (Int.toNat 0) true)))))], [2], []⟩ from le_a (by kernel_rfl)))) (by kernel_rfl) ?_
 refine wle 6 (le_freeze (t := 2) (id := 2) (n := List.length ((List.set v2 (Int.toNat 0) true))) (e := 4) (size := 1) (xs := List.map eB ((List.set v2 (Int.toNat 0) true))) (by kernel_rfl) (by kernel_rfl) (by simp)) (by kernel_rfl) ?_
 cases h; exact lq 1 (by kernel_rfl)

def synthesisref11_reach_h2_l1 (v4 : Ru) (v12 : (Int) × (List Bool)) : Option (((Int) × (List Bool)) ⊕ ((List Bool))) := (bif (decide (v12.1 < (List.length v4.args : Int))) then (Option.bind (idx v4.args v12.1) fun v13 => (Option.bind (idx v12.2 v13) fun v14 => (some (.inl ((w64 (v12.1 + 1)), (List.set v12.2 (Int.toNat v13) true)))))) else (some (.inr (v12.2))))
def synthesisref11_reach_h2_l2 (a0 : La) (a1 : Int) (a2 : List Bool) (v3 : (Int) × (List Bool)) : Option (((Int) × (List Bool)) ⊕ ((List Bool))) := (bif (decide (v3.1 < (List.length a0.rules : Int))) then (Option.bind ((Option.bind ((Option.bind (idx a0.rules v3.1) fun v4 => (Option.bind ((bif (v4.symbol != a1) then (Option.bind (idx v3.2 v4.symbol) fun v5 => (bif (!v5) then (some (true)) else (Option.bind (nonE a2) fun v6 => (Option.bind (synthesisref11_all (v4) (a2)) fun v7 => (some ((!v7))))))) else (Option.bind (nonE a2) fun v8 => (Option.bind (synthesisref11_all (v4) (a2)) fun v9 => (some ((!v9)))))) : Option ((Bool))) fun (v11 : (Bool)) => (bif v11 then (some (.inr ())) else (Option.bind (loopN (synthesisref11_reach_h2_l1 v4) fuel (0, v3.2)) fun (v16 : (List Bool)) => (some (.inl (v16))))))) : Option ((((List Bool)) ⊕ (Unit)))) fun (v17 : (((List Bool)) ⊕ (Unit))) => Sum.elim (fun v18 => (some (v18))) (fun v19 => (some (v3.2))) v17) : Option ((List Bool))) fun (v21 : (List Bool)) => (some (.inl ((w64 (v3.1 + 1)), v21)))) else (some (.inr (v3.2))))
def synthesisref11_reach_h2_l3 (a0 : La) (a1 : Int) (a2 : List Bool) (v2 : (Int) × (List Bool)) : Option (((Int) × (List Bool)) ⊕ ((List Bool))) := (bif (decide (v2.1 ≤ (List.length a0.symbols : Int))) then (Option.bind (loopN (synthesisref11_reach_h2_l2 a0 a1 a2) fuel (0, v2.2)) fun (v23 : (List Bool)) => (some (.inl ((w64 (v2.1 + 1)), v23)))) else (some (.inr (v2.2))))
def synthesisref11_reach_h2 (a0 : La) (a1 : Int) (a2 : List Bool) : Option ((List Bool)) := (Option.bind (mkL 1 false (List.length a0.symbols : Int)) fun v1 => (Option.bind (loopN (synthesisref11_reach_h2_l3 a0 a1 a2) fuel (0, v1)) fun (v25 : (List Bool)) => (some (v25))))
theorem synthesisref11_reach_h2_ok (a0 : La) (a1 : Int) (a2 : List Bool) (r : (List Bool)) (h : synthesisref11_reach_h2 a0 a1 a2 = some r) : HCall Tryz.prog 47 ([(.fz (eLa (a0))), (fI (a1)), (.fz ((eL 1 eB) (a2)))] ++ []) [] [] (.ret (.row 2 (List.length (r)))) [(2, (.frow 4 1 (List.map eB (r))))] [2] := by
 unfold synthesisref11_reach_h2 at h
 refine hcx (gi := 0) Tryz.func47 (by kernel_rfl) (by kernel_rfl) (by kernel_rfl) (by kernel_rfl) (by kernel_rfl) (by kernel_rfl) (by kernel_rfl) (by kernel_rfl) ?_
 intro p0 q0 w0
 obtain ⟨v1, hv1, h⟩ := Option.bind_eq_some_iff.1 h
 refine sst 10 (s_make (t := 35) (X := (.tmp 14)) (Y := (.tmp 14)) (id := 2) (k := .i64) (k' := .i64) (d := tt35) (e := 4) (de := tt4) (enc := eB) (zv := .bool false) hv1 (by kernel_rfl) tt_ok (by kernel_rfl) (by kernel_rfl) (by kernel_rfl) rfl rfl rfl rfl rfl (by kernel_rfl) (by kernel_rfl) (by kernel_rfl)) (by kernel_rfl) ?_
 refine lp1 8 (fun v2 => ⟨72, [(1, (fI (a1))), (2, (.fz ((eL 1 eB) (a2)))), (3, (.ref 1 0 0)), (7, (.row 2 (List.length (v2.2)))), (8, (fI (v2.1)))], [(0, (.was p0 [] q0 w0)), (1, (.box 26 [(fS (a0.name)), (.fz ((eL 1 eI) (a0.inputs))), (.fz ((eL 2 eSy) (a0.symbols))), (.fz ((eL 9 eRu) (a0.rules)))])), (2, (.frow 4 1 (List.map eB (v2.2))))], [2, 1, 0], []⟩) (.exit 0) (fun v25 => ⟨72, [(7, (.row 2 (List.length (v25))))], [(0, (.was p0 [] q0 w0)), (2, (.frow 4 1 (List.map eB (v25))))], [2, 0], []⟩) h (by kernel_rfl) (by kernel_rfl) (fun v2 r h => ?_) fun v25 h => ?_
 ·unfold synthesisref11_reach_h2_l3 at h
  refine cd 9 h (by kernel_rfl) (fun h => ?_) fun h => ?_
  ·refine lp1 8 (fun v3 => ⟨72, [(1, (fI (a1))), (2, (.fz ((eL 1 eB) (a2)))), (3, (.ref 1 0 0)), (7, (.row 2 (List.length (v3.2)))), (8, (fI (v2.1))), (9, (fI (v3.1)))], [(0, (.was p0 [] q0 w0)), (1, (.box 26 [(fS (a0.name)), (.fz ((eL 1 eI) (a0.inputs))), (.fz ((eL 2 eSy) (a0.symbols))), (.fz ((eL 9 eRu) (a0.rules)))])), (2, (.frow 4 1 (List.map eB (v3.2))))], [2, 1, 0], []⟩) (.exit 2) (fun v23 => ⟨72, [(1, (fI (a1))), (2, (.fz ((eL 1 eB) (a2)))), (3, (.ref 1 0 0)), (7, (.row 2 (List.length (v23)))), (8, (fI (v2.1)))], [(0, (.was p0 [] q0 w0)), (1, (.box 26 [(fS (a0.name)), (.fz ((eL 1 eI) (a0.inputs))), (.fz ((eL 2 eSy) (a0.symbols))), (.fz ((eL 9 eRu) (a0.rules)))])), (2, (.frow 4 1 (List.map eB (v23))))], [2, 1, 0], []⟩) h (by kernel_rfl) (by kernel_rfl) (fun v3 r h => ?_) fun v23 h => ?_
   ·unfold synthesisref11_reach_h2_l2 at h
    refine cd 9 h (by kernel_rfl) (fun h => ?_) fun h => ?_
    ·refine jn1 2 .normal (fun v21 => ⟨72, [(1, (fI (a1))), (2, (.fz ((eL 1 eB) (a2)))), (3, (.ref 1 0 0)), (7, (.row 2 (List.length (v21)))), (8, (fI (v2.1))), (9, (fI (v3.1)))], [(0, (.was p0 [] q0 w0)), (1, (.box 26 [(fS (a0.name)), (.fz ((eL 1 eI) (a0.inputs))), (.fz ((eL 2 eSy) (a0.symbols))), (.fz ((eL 9 eRu) (a0.rules)))])), (2, (.frow 4 1 (List.map eB (v21))))], [2, 1, 0], []⟩) h (by kernel_rfl) (fun v21 h => ?_) fun v21 h => ?_
     ·refine jnQ 1 (fun v17 e st => Sum.elim (fun p => e = .normal ∧ LeSt st ⟨72, [(1, (fI (a1))), (2, (.fz ((eL 1 eB) (a2)))), (3, (.ref 1 0 0)), (7, (.row 2 (List.length (p)))), (8, (fI (v2.1))), (9, (fI (v3.1)))], [(0, (.was p0 [] q0 w0)), (1, (.box 26 [(fS (a0.name)), (.fz ((eL 1 eI) (a0.inputs))), (.fz ((eL 2 eSy) (a0.symbols))), (.fz ((eL 9 eRu) (a0.rules)))])), (2, (.frow 4 1 (List.map eB (p))))], [2, 1, 0], []⟩) (fun p => e = .exit 3 ∧ LeSt st ⟨72, [(1, (fI (a1))), (2, (.fz ((eL 1 eB) (a2)))), (3, (.ref 1 0 0)), (7, (.row 2 (List.length (v3.2)))), (8, (fI (v2.1))), (9, (fI (v3.1)))], [(0, (.was p0 [] q0 w0)), (1, (.box 26 [(fS (a0.name)), (.fz ((eL 1 eI) (a0.inputs))), (.fz ((eL 2 eSy) (a0.symbols))), (.fz ((eL 9 eRu) (a0.rules)))])), (2, (.frow 4 1 (List.map eB (v3.2))))], [2, 1, 0], []⟩) v17) h (by kernel_rfl) (fun v17 h => ?_) fun v17 h e st' hq => ?_
      ·refine ix nRu 5 h (by kernel_rfl) fun v4 h => ?_
       refine jn1 6 .normal (fun v11 => ⟨72, [(1, (fI (a1))), (2, (.fz ((eL 1 eB) (a2)))), (3, (.ref 1 0 0)), (7, (.row 2 (List.length (v3.2)))), (8, (fI (v2.1))), (9, (fI (v3.1))), (10, (.ref 3 0 0)), (56, (fB (v11)))], [(0, (.was p0 [] q0 w0)), (1, (.box 26 [(fS (a0.name)), (.fz ((eL 1 eI) (a0.inputs))), (.fz ((eL 2 eSy) (a0.symbols))), (.fz ((eL 9 eRu) (a0.rules)))])), (2, (.frow 4 1 (List.map eB (v3.2)))), (3, (.box 47 [(fI (v4.symbol)), (fI (v4.kind)), (fI (v4.input)), (fI (v4.const.type)), (fI (v4.const.num)), (fS (v4.const.text)), (.fz ((eL 4 eVaR) (v4.const.items))), (fS (v4.op)), (.fz ((eL 1 eI) (v4.args)))]))], [3, 2, 1, 0], []⟩) h (by kernel_rfl) (fun v11 h => ?_) fun v11 h => ?_
       ·refine gd 6 h (by kernel_rfl) (fun h => ?_) fun h => ?_
        ·obtain ⟨v5, hv5, h⟩ := Option.bind_eq_some_iff.1 h
         refine nst 3 (n_rowAddr (t := 35) (X := (.tmp 40)) (Y := (.tmp 42)) (id := 2) (k := .i64) (d := tt35) (e := 4) (de := tt4) (enc := eB) (xs := v3.2) (n := List.length (v3.2)) hv5 tt_ok (by kernel_rfl) (by kernel_rfl) (by kernel_rfl) (by kernel_rfl) (by kernel_rfl) (by kernel_rfl) (by kernel_rfl) rfl (by kernel_rfl)) (by kernel_rfl) ?_
         refine nst 0 (n_rowLoad (t := 4) (X := (.tmp 43)) (id := 2) (d := tt4) (enc := eB) (xs := v3.2) (x := v5) (i := v4.symbol) (n := List.length (v3.2)) hv5 tt_ok (by kernel_rfl) (by kernel_rfl) (by kernel_rfl) (by kernel_rfl) (by kernel_rfl) rfl (fun _ => rfl)) (by kernel_rfl) ?_
         refine gd 3 h (by kernel_rfl) (fun h => ?_) fun h => ?_
         ·cases h; exact lj 10 (by kernel_rfl)
         obtain ⟨v6, hv6, h⟩ := Option.bind_eq_some_iff.1 h
         refine nst 1 (n_slsome (t := 35) (x := (.tmp 48)) (y := (.const (.slice none 0 0))) (yt := 35) (te := 4) (size := 1) (enc := eB) (xs := a2) true hv6 (by kernel_rfl) (by kernel_rfl) (by kernel_rfl) (by kernel_rfl)) (by kernel_rfl) ?_
         refine cl 3 h (synthesisref11_all_ok _ _) (by kernel_rfl) fun v7 h => ?_
         cases h; exact lj 4 (by kernel_rfl)
        obtain ⟨v8, hv8, h⟩ := Option.bind_eq_some_iff.1 h
        refine nst 9 (n_slsome (t := 35) (x := (.tmp 48)) (y := (.const (.slice none 0 0))) (yt := 35) (te := 4) (size := 1) (enc := eB) (xs := a2) true hv8 (by kernel_rfl) (by kernel_rfl) (by kernel_rfl) (by kernel_rfl)) (by kernel_rfl) ?_
        refine cl 3 h (synthesisref11_all_ok _ _) (by kernel_rfl) fun v9 h => ?_
        cases h; exact lj 4 (by kernel_rfl)
       refine cd 0 h (by kernel_rfl) (fun h => ?_) fun h => ?_
       ·cases h; exact lj 1 (by kernel_rfl)
       refine lp1 6 (fun v12 => ⟨72, [(1, (fI (a1))), (2, (.fz ((eL 1 eB) (a2)))), (3, (.ref 1 0 0)), (7, (.row 2 (List.length (v12.2)))), (8, (fI (v2.1))), (9, (fI (v3.1))), (10, (.ref 3 0 0)), (11, (fI (v12.1)))], [(0, (.was p0 [] q0 w0)), (1, (.box 26 [(fS (a0.name)), (.fz ((eL 1 eI) (a0.inputs))), (.fz ((eL 2 eSy) (a0.symbols))), (.fz ((eL 9 eRu) (a0.rules)))])), (2, (.frow 4 1 (List.map eB (v12.2)))), (3, (.box 47 [(fI (v4.symbol)), (fI (v4.kind)), (fI (v4.input)), (fI (v4.const.type)), (fI (v4.const.num)), (fS (v4.const.text)), (.fz ((eL 4 eVaR) (v4.const.items))), (fS (v4.op)), (.fz ((eL 1 eI) (v4.args)))]))], [3, 2, 1, 0], []⟩) (.exit 4) (fun v16 => ⟨72, [(1, (fI (a1))), (2, (.fz ((eL 1 eB) (a2)))), (3, (.ref 1 0 0)), (7, (.row 2 (List.length (v16)))), (8, (fI (v2.1))), (9, (fI (v3.1)))], [(0, (.was p0 [] q0 w0)), (1, (.box 26 [(fS (a0.name)), (.fz ((eL 1 eI) (a0.inputs))), (.fz ((eL 2 eSy) (a0.symbols))), (.fz ((eL 9 eRu) (a0.rules)))])), (2, (.frow 4 1 (List.map eB (v16))))], [2, 1, 0], []⟩) h (by kernel_rfl) (by kernel_rfl) (fun v12 r h => ?_) fun v16 h => ?_
       ·unfold synthesisref11_reach_h2_l1 at h
        refine cd 9 h (by kernel_rfl) (fun h => ?_) fun h => ?_
        ·refine ix nI 8 h (by kernel_rfl) fun v13 h => ?_
         obtain ⟨v14, hv14, h⟩ := Option.bind_eq_some_iff.1 h
         refine nst 1 (n_rowAddr (t := 35) (X := (.tmp 64)) (Y := (.tmp 69)) (id := 2) (k := .i64) (d := tt35) (e := 4) (de := tt4) (enc := eB) (xs := v12.2) (n := List.length (v12.2)) hv14 tt_ok (by kernel_rfl) (by kernel_rfl) (by kernel_rfl) (by kernel_rfl) (by kernel_rfl) (by kernel_rfl) (by kernel_rfl) rfl (by kernel_rfl)) (by kernel_rfl) ?_
         refine sst 0 (e_rowStore (t := 4) (X := (.tmp 70)) (Y := (.const (.bool true))) (id := 2) (d := tt4) (enc := eB) (xs := v12.2) (x := v14) (i := v13) (y := true) (n := List.length (v12.2)) hv14 tt_ok (by kernel_rfl) (by kernel_rfl) (by kernel_rfl) (by kernel_rfl) (by kernel_rfl) rfl (by kernel_rfl) (fun _ => ⟨_, rfl, rfl⟩)) (by kernel_rfl) ?_
         refine wle 0 (LeSt.trans (show LeSt _ ⟨72, [(1, (fI (a1))), (2, (.fz ((eL 1 eB) (a2)))), (3, (.ref 1 0 0)), (7, (.row 2 (List.length (v12.2)))), (8, (fI (v2.1))), (9, (fI (v3.1))), (10, (.ref 3 0 0)), (11, (fI (v12.1))), (64, (.row 2 (List.length (v12.2)))), (69, (fI (v13)))], [(0, (.was p0 [] q0 w0)), (1, (.box 26 [(fS (a0.name)), (.fz ((eL 1 eI) (a0.inputs))), (.fz ((eL 2 eSy) (a0.symbols))), (.fz ((eL 9 eRu) (a0.rules)))])), (2, (.frow 4 1 (List.map eB ((List.set v12.2 (Int.toNat v13) true))))), (3, (.box 47 [(fI (v4.symbol)), (fI (v4.kind)), (fI (v4.input)), (fI (v4.const.type)), (fI (v4.const.num)), (fS (v4.const.text)), (.fz ((eL 4 eVaR) (v4.const.items))), (fS (v4.op)), (.fz ((eL 1 eI) (v4.args)))]))], [3, 2, 1, 0], []⟩ from le_a (by kernel_rfl)) (LeSt.trans (le_relen 2 (k := 2) (m := List.length (v12.2)) (n := List.length ((List.set v12.2 (Int.toNat v13) true))) (by kernel_rfl) (by simp)) (show LeSt _ ⟨72, [(1, (fI (a1))), (2, (.fz ((eL 1 eB) (a2)))), (3, (.ref 1 0 0)), (7, (.row 2 (List.length ((List.set v12.2 (Int.toNat v13) true))))), (8, (fI (v2.1))), (9, (fI (v3.1))), (10, (.ref 3 0 0)), (11, (fI (v12.1))), (64, (.row 2 (List.length ((List.set v12.2 (Int.toNat v13) true))))), (69, (fI (v13)))], [(0, (.was p0 [] q0 w0)), (1, (.box 26 [(fS (a0.name)), (.fz ((eL 1 eI) (a0.inputs))), (.fz ((eL 2 eSy) (a0.symbols))), (.fz ((eL 9 eRu) (a0.rules)))])), (2, (.frow 4 1 (List.map eB ((List.set v12.2 (Int.toNat v13) true))))), (3, (.box 47 [(fI (v4.symbol)), (fI (v4.kind)), (fI (v4.input)), (fI (v4.const.type)), (fI (v4.const.num)), (fS (v4.const.text)), (.fz ((eL 4 eVaR) (v4.const.items))), (fS (v4.op)), (.fz ((eL 1 eI) (v4.args)))]))], [3, 2, 1, 0], []⟩ from le_a (by kernel_rfl)))) (by kernel_rfl) ?_
         cases h; exact lj 6 (by kernel_rfl)
        cases h; exact lo 1 (by kernel_rfl)
       cases h; exact lj 0 (by kernel_rfl)
      rcases v17 with v18 | v19
      ·try simp only [Sum.elim_inl, Sum.elim_inr] at h
       obtain ⟨rfl, hle⟩ := hq
       refine ⟨_, hle, ?_⟩
       cases h; exact lj 0 (by kernel_rfl)
      ·try simp only [Sum.elim_inl, Sum.elim_inr] at h
       obtain ⟨rfl, hle⟩ := hq
       refine ⟨_, hle, ?_⟩
       cases h; exact lj 0 (by kernel_rfl)
     cases h; exact lj 5 (by kernel_rfl)
    cases h; exact lo 1 (by kernel_rfl)
   cases h; exact lj 5 (by kernel_rfl)
  cases h; exact lo 1 (by kernel_rfl)
 obtain rfl := Option.some.inj h; exact lh 6 ⟨72, [(6, (.row 2 (List.length (v25))))], [(0, (.was p0 [] q0 w0)), (2, (.frow 4 1 (List.map eB (v25))))], [0, 2], []⟩ (le_a (by kernel_rfl)) rfl rfl (by kernel_rfl) (by kernel_rfl)

def synthesisref11_Recursive_l1 (a0 : La) (v2 : (Int) × (List Bool)) : Option (((Int) × (List Bool)) ⊕ ((List Bool))) := (bif (decide (v2.1 < (List.length a0.symbols : Int))) then (Option.bind (synthesisref11_productive (a0)) fun v3 => (Option.bind (synthesisref11_reach_h2 (a0) (v2.1) (v3)) fun v4 => (Option.bind (idx v4 v2.1) fun v5 => (Option.bind (app 1 v2.2 ([v5] : List (Bool))) fun v6 => (some (.inl ((w64 (v2.1 + 1)), v6))))))) else (some (.inr (v2.2))))
def synthesisref11_Recursive (a0 : La) : Option (List Bool) := (Option.bind (synthesisref11_Check (a0)) fun v1 => (bif (v1 != 0) then (some ([] : List Bool)) else (Option.bind (loopN (synthesisref11_Recursive_l1 a0) fuel (0, ([] : List (Bool)))) fun (v8 : (List Bool)) => (some v8))))
theorem synthesisref11_Recursive_ok (a0 : La) (r : List Bool) (h : synthesisref11_Recursive a0 = some r) : PCall Tryz.prog 23 [eLa a0] ((eL 1 eB) (r)) := by
 unfold synthesisref11_Recursive at h
 refine pcl [.one (.sl 1)] Tryz.func23 (by kernel_rfl) (by kernel_rfl) (by kernel_rfl) ?_
 refine cl 9 h (synthesisref11_Check_ok _) (by kernel_rfl) fun v1 h => ?_
 refine cd 2 h (by kernel_rfl) (fun h => ?_) fun h => ?_
 ·cases h; exact lq 5 (by kernel_rfl)
 refine wle 11 (le_nilrow (e := 4) (size := 1) (t := 3) (id := 2) (by decide) (by kernel_rfl) (by kernel_rfl)) (by kernel_rfl) ?_
 refine lp1 0 (fun v2 => ⟨27, [(1, (.ref 1 0 0)), (3, (.row 2 (List.length (v2.2)))), (4, (fI (v2.1)))], [(1, (.box 26 [(fS (a0.name)), (.fz ((eL 1 eI) (a0.inputs))), (.fz ((eL 2 eSy) (a0.symbols))), (.fz ((eL 9 eRu) (a0.rules)))])), (2, (.frow 4 1 (List.map eB (v2.2))))], [2, 1], []⟩) (.exit 0) (fun v8 => ⟨27, [(3, (.row 2 (List.length (v8))))], [(2, (.frow 4 1 (List.map eB (v8))))], [2], []⟩) h (by kernel_rfl) (by kernel_rfl) (fun v2 r h => ?_) fun v8 h => ?_
 ·unfold synthesisref11_Recursive_l1 at h
  refine cd 9 h (by kernel_rfl) (fun h => ?_) fun h => ?_
  ·refine dz 3 10 [5] [3] (List.range 4) (by kernel_rfl) ?_
   refine cl 4 h (synthesisref11_productive_ok _) (by kernel_rfl) fun v3 h => ?_
   refine hclZ 0 [.one .keep, .one .keep, .one .keep] [] [(2, 3)] [] h (synthesisref11_reach_h2_ok _ _ _) (fun _ => by kernel_rfl) (by kernel_rfl) (fun _ => by kernel_rfl) fun v4 h => ?_
   obtain ⟨v5, hv5, h⟩ := Option.bind_eq_some_iff.1 h
   refine nst 1 (n_rowAddr (t := 35) (X := (.tmp 20)) (Y := (.tmp 21)) (id := 3) (k := .i64) (d := tt35) (e := 4) (de := tt4) (enc := eB) (xs := v4) (n := List.length (v4)) hv5 tt_ok (by kernel_rfl) (by kernel_rfl) (by kernel_rfl) (by kernel_rfl) (by kernel_rfl) (by kernel_rfl) (by kernel_rfl) rfl (by kernel_rfl)) (by kernel_rfl) ?_
   refine nst 0 (n_rowLoad (t := 4) (X := (.tmp 22)) (id := 3) (d := tt4) (enc := eB) (xs := v4) (x := v5) (i := v2.1) (n := List.length (v4)) hv5 tt_ok (by kernel_rfl) (by kernel_rfl) (by kernel_rfl) (by kernel_rfl) (by kernel_rfl) rfl (fun _ => rfl)) (by kernel_rfl) ?_
   refine ap nB 2 h (by kernel_rfl) fun v6 h => ?_
   cases h; exact lj 7 (by kernel_rfl)
  cases h; exact lo 1 (by kernel_rfl)
 refine wle 5 (le_freeze (t := 2) (id := 2) (n := List.length (v8)) (e := 4) (size := 1) (xs := List.map eB (v8)) (by kernel_rfl) (by kernel_rfl) (by simp)) (by kernel_rfl) ?_
 cases h; exact lq 1 (by kernel_rfl)

def synthesislaw11_GrammarSymbols_h (a0 : La) : Option ((Bool)) := (Option.bind (synthesislaw11_small (a0)) fun v1 => (bif (!v1) then (Option.bind (synthesislaw11_awake_h3 ) fun v2 => (some (v2))) else (Option.bind ((Option.bind (grammar_Productive (a0)) fun v3 => (Option.bind (synthesisref11_Productive (a0)) fun v4 => (Option.bind (synthesislaw11_bools (v3) (v4)) fun v5 => (bif v5 then (Option.bind (grammar_Reachable (a0)) fun v6 => (Option.bind (synthesisref11_Reachable (a0)) fun v7 => (Option.bind (synthesislaw11_bools (v6) (v7)) fun v8 => (bif v8 then (Option.bind (grammar_Recursive (a0)) fun v9 => (Option.bind (synthesisref11_Recursive (a0)) fun v10 => (Option.bind (synthesislaw11_bools (v9) (v10)) fun v11 => (bif v11 then (Option.bind (synthesislaw11_awake_h3 ) fun v12 => (some (v12))) else (some (false)))))) else (some (false)))))) else (some (false)))))) : Option ((Bool))) fun (v14 : (Bool)) => (some (v14)))))
theorem synthesislaw11_GrammarSymbols_h_ok (a0 : La) (r : (Bool)) (h : synthesislaw11_GrammarSymbols_h a0 = some r) : HCall Tryz.prog 4 ([(.fz (eLa (a0)))] ++ []) [(1, (.glb GV))] [1] (.ret (fB (r))) [(1, (.glb GV))] [1] := by
 unfold synthesislaw11_GrammarSymbols_h at h
 refine hcx (gi := 0) Tryz.func4 (by kernel_rfl) (by kernel_rfl) (by kernel_rfl) (by kernel_rfl) (by kernel_rfl) (by kernel_rfl) (by kernel_rfl) (by kernel_rfl) ?_
 intro p0 q0 w0
 refine cl 9 h (synthesislaw11_small_ok _) (by kernel_rfl) fun v1 h => ?_
 refine cd 2 h (by kernel_rfl) (fun h => ?_) fun h => ?_
 ·refine hcl 2 [] [(1, 1)] [(1, 1)] [1] h (synthesislaw11_awake_h3_ok) (fun _ => by kernel_rfl) fun v2 h => ?_
  obtain rfl := Option.some.inj h; exact lh 3 ⟨29, [(2, (fB (v2)))], [(0, (.was p0 [1] q0 w0)), (1, (.glb GV))], [0, 1], []⟩ (le_a (by kernel_rfl)) rfl rfl (by kernel_rfl) (by kernel_rfl)
 refine jn1 2 .normal (fun v14 => ⟨29, [(2, (fB (v14)))], [(0, (.was p0 [1] q0 w0)), (1, (.glb GV))], [0, 1], []⟩) h (by kernel_rfl) (fun v14 h => ?_) fun v14 h => ?_
 ·refine dw 0 16 (by kernel_rfl) ?_
  refine cl 1 h (grammar_Productive_ok _) (by kernel_rfl) fun v3 h => ?_
  refine cl 1 h (synthesisref11_Productive_ok _) (by kernel_rfl) fun v4 h => ?_
  refine cl 0 h (synthesislaw11_bools_ok _ _) (by kernel_rfl) fun v5 h => ?_
  refine gd 1 h (by kernel_rfl) (fun h => ?_) fun h => ?_
  ·refine cl 1 h (grammar_Reachable_ok _) (by kernel_rfl) fun v6 h => ?_
   refine cl 1 h (synthesisref11_Reachable_ok _) (by kernel_rfl) fun v7 h => ?_
   refine cl 0 h (synthesislaw11_bools_ok _ _) (by kernel_rfl) fun v8 h => ?_
   refine gd 2 h (by kernel_rfl) (fun h => ?_) fun h => ?_
   ·refine cl 1 h (grammar_Recursive_ok _) (by kernel_rfl) fun v9 h => ?_
    refine cl 2 h (synthesisref11_Recursive_ok _) (by kernel_rfl) fun v10 h => ?_
    refine cl 0 h (synthesislaw11_bools_ok _ _) (by kernel_rfl) fun v11 h => ?_
    refine gd 2 h (by kernel_rfl) (fun h => ?_) fun h => ?_
    ·refine hcl 0 [] [(1, 1)] [(1, 1)] [1] h (synthesislaw11_awake_h3_ok) (fun _ => by kernel_rfl) fun v12 h => ?_
     cases h; exact lj 3 (by kernel_rfl)
    cases h; exact lj 4 (by kernel_rfl)
   cases h; exact lj 12 (by kernel_rfl)
  cases h; exact lj 19 (by kernel_rfl)
 obtain rfl := Option.some.inj h; exact lh 1 ⟨29, [(2, (fB (v14)))], [(0, (.was p0 [1] q0 w0)), (1, (.glb GV))], [0, 1], []⟩ (le_a (by kernel_rfl)) rfl rfl (by kernel_rfl) (by kernel_rfl)

end Go.Proofs.YtfhmljjkhjifeaaGreatDoor
