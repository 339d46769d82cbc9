/- Typed programs and what computes them. -/
import Derived.Test.YtaeicmnimjfbaaaZ1
set_option linter.unusedVariables false
set_option linter.unusedSimpArgs false
set_option maxRecDepth 100000
namespace Go.Proofs.Ytaeicmnimjfbaaa
open Go Go.RowKit Go.Proofs
attribute [local irreducible] NStep StepA EStep LeSt
def synthesisref11_Check_m0 (a0 : La) : List (Nat × AObj) := [(1, (.box 27 [(fS (a0.name)), (.fz ((eL 1 eI) (a0.inputs))), (.fz ((eL 2 eSy) (a0.symbols))), (.fz ((eL 9 eRu) (a0.rules)))]))]
def synthesisref11_Check_l1 (a0 : La) (v9 : (Int)) (v12 : (Int)) : Option (((Int)) ⊕ (((Unit) ⊕ (Int)))) := (bif (decide (v12 < v9)) then (Option.bind (idx a0.symbols v12) fun v13 => (Option.bind (idx a0.symbols v9) fun v14 => (bif (v13.name.toList == v14.name.toList) then (some (.inr (.inr 6))) else (some (.inl ((w64 (v12 + 1)))))))) else (some (.inr (.inl ()))))
def synthesisref11_Check_l2 (a0 : La) (v22 : (Int)) (v25 : (Int)) : Option (((Int)) ⊕ (((Unit) ⊕ (Int)))) := (bif (decide (v25 < v22)) then (Option.bind (idx a0.rules v25) fun v26 => (Option.bind (idx a0.rules v22) fun v27 => (Option.bind (synthesisref11_SameRule (v26) (v27)) fun v28 => (bif v28 then (some (.inr (.inr 6))) else (some (.inl ((w64 (v25 + 1))))))))) else (some (.inr (.inl ()))))
def synthesisref11_Check_l3 (a0 : La) (v22 : (Int)) : Option (((Int)) ⊕ (((Unit) ⊕ (Int)))) := (bif (decide (v22 < (List.length a0.rules : Int))) then (Option.bind (idx a0.rules v22) fun v23 => (Option.bind (synthesisref11_rule (a0) (v23)) fun v24 => (bif (v24 != 0) then (some (.inr (.inr v24))) else (Option.bind (loopN (synthesisref11_Check_l2 a0 v22) fuel (0)) fun (v29 : ((Unit) ⊕ (Int))) => Sum.elim (fun v30 => (some (.inl ((w64 (v22 + 1)))))) (fun v31 => (some (.inr (.inr v31)))) v29)))) else (some (.inr (.inl ()))))
def synthesisref11_Check_l4 (a0 : La) (v9 : (Int)) : Option (((Int)) ⊕ (((Unit) ⊕ (Int)))) := (bif (decide (v9 < (List.length a0.symbols : Int))) then (Option.bind (idx a0.symbols v9) fun v10 => (Option.bind (synthesisref11_Name (v10.name)) fun v11 => (bif (!v11) then (some (.inr (.inr 5))) else (Option.bind (loopN (synthesisref11_Check_l1 a0 v9) fuel (0)) fun (v15 : ((Unit) ⊕ (Int))) => Sum.elim (fun v16 => (Option.bind (idx a0.symbols v9) fun v17 => (Option.bind (synthesisref11_typed (v17.type)) fun v18 => (bif (!v18) then (some (.inr (.inr 3))) else (some (.inl ((w64 (v9 + 1))))))))) (fun v19 => (some (.inr (.inr v19)))) v15)))) else (some (.inr (.inl ()))))
def synthesisref11_Check_l5 (a0 : La) (v2 : (Int)) : Option (((Int)) ⊕ (((Unit) ⊕ (Int)))) := (bif (decide (v2 < (List.length a0.inputs : Int))) then (Option.bind (idx a0.inputs v2) fun v3 => (Option.bind (synthesisref11_typed (v3)) fun v4 => (bif (!v4) then (some (.inr (.inr 3))) else (some (.inl ((w64 (v2 + 1)))))))) else (some (.inr (.inl ()))))
def synthesisref11_Check (a0 : La) : Option (Int) := (Option.bind (synthesisref11_Name (a0.name)) fun v1 => (bif (!v1) then (some 5) else (bif (decide (4 < (List.length a0.inputs : Int))) then (some 2) else (Option.bind (loopN (synthesisref11_Check_l5 a0) fuel (0)) fun (v5 : ((Unit) ⊕ (Int))) => Sum.elim (fun v6 => (Option.bind ((bif (decide ((List.length a0.symbols : Int) < 1)) then (some (true)) else (some ((decide (16 < (List.length a0.symbols : Int)))))) : Option ((Bool))) fun (v8 : (Bool)) => (bif v8 then (some 2) else (Option.bind (loopN (synthesisref11_Check_l4 a0) fuel (0)) fun (v20 : ((Unit) ⊕ (Int))) => Sum.elim (fun v21 => (bif (decide (96 < (List.length a0.rules : Int))) then (some 2) else (Option.bind (loopN (synthesisref11_Check_l3 a0) fuel (0)) fun (v32 : ((Unit) ⊕ (Int))) => Sum.elim (fun v33 => (some 0)) (fun v34 => (some v34)) v32))) (fun v35 => (some v35)) v20)))) (fun v36 => (some v36)) v5))))
theorem synthesisref11_Check_ok (a0 : La) (r : Int) (h : synthesisref11_Check a0 = some r) : PCall Try.prog 89 [eLa a0] (eI (r)) := by
 unfold synthesisref11_Check at h
 refine pcl [.one .keep] Try.func89 (by kernel_rfl) (by kernel_rfl) (by kernel_rfl) ?_
 refine cl 10 h (synthesisref11_Name_ok _) (by kernel_rfl) fun v1 h => ?_
 refine cd 2 h (by kernel_rfl) (fun h => ?_) fun h => ?_
 ·cases h; exact lq 5 (by kernel_rfl)
 refine cd 9 h (by kernel_rfl) (fun h => ?_) fun h => ?_
 ·cases h; exact lq 5 (by kernel_rfl)
 refine lpx 7 (fun v2 => ⟨119, [(1, (.ref 1 0 0)), (3, (fI (v2)))], (synthesisref11_Check_m0 a0), [1], []⟩) (fun v5 e st => Sum.elim (fun p => e = .exit 0 ∧ LeSt st ⟨119, [(1, (.ref 1 0 0))], (synthesisref11_Check_m0 a0), [1], []⟩) (fun p => e = .ret ∧ retX TT st Try.f89.results.toList [.one .keep] = some (eI (p))) v5) h (by kernel_rfl) (le_a (by kernel_rfl)) (fun v2 r h => ?_) fun v5 h e st' hq => ?_
 ·unfold synthesisref11_Check_l5 at h
  refine cd 9 h (by kernel_rfl) (fun h => ?_) fun h => ?_
  ·refine ix nI 8 h (by kernel_rfl) fun v3 h => ?_
   refine cl 1 h (synthesisref11_typed_ok _) (by kernel_rfl) fun v4 h => ?_
   refine cd 2 h (by kernel_rfl) (fun h => ?_) fun h => ?_
   ·cases h; exact lor 5 (by kernel_rfl)
   cases h; exact lj 6 (by kernel_rfl)
  cases h; exact lo 1 (by kernel_rfl)
 rcases v5 with v6 | v36
 ·try simp only [Sum.elim_inl, Sum.elim_inr] at h
  obtain ⟨rfl, hle⟩ := hq
  refine ⟨_, hle, ?_⟩
  refine jn1 2 .normal (fun v8 => ⟨119, [(1, (.ref 1 0 0)), (40, (fB (v8)))], (synthesisref11_Check_m0 a0), [1], []⟩) h (by kernel_rfl) (fun v8 h => ?_) fun v8 h => ?_
  ·refine gd 6 h (by kernel_rfl) (fun h => ?_) fun h => ?_
   ·cases h; exact lj 6 (by kernel_rfl)
   cases h; exact lj 6 (by kernel_rfl)
  refine cd 0 h (by kernel_rfl) (fun h => ?_) fun h => ?_
  ·cases h; exact lq 5 (by kernel_rfl)
  refine lpx 7 (fun v9 => ⟨119, [(1, (.ref 1 0 0)), (4, (fI (v9)))], (synthesisref11_Check_m0 a0), [1], []⟩) (fun v20 e st => Sum.elim (fun p => e = .exit 2 ∧ LeSt st ⟨119, [(1, (.ref 1 0 0))], (synthesisref11_Check_m0 a0), [1], []⟩) (fun p => e = .ret ∧ retX TT st Try.f89.results.toList [.one .keep] = some (eI (p))) v20) h (by kernel_rfl) (le_a (by kernel_rfl)) (fun v9 r h => ?_) fun v20 h e st' hq => ?_
  ·unfold synthesisref11_Check_l4 at h
   refine cd 9 h (by kernel_rfl) (fun h => ?_) fun h => ?_
   ·refine ix nSy 9 h (by kernel_rfl) fun v10 h => ?_
    refine cl 2 h (synthesisref11_Name_ok _) (by kernel_rfl) fun v11 h => ?_
    refine cd 2 h (by kernel_rfl) (fun h => ?_) fun h => ?_
    ·cases h; exact lor 5 (by kernel_rfl)
    refine lpx 7 (fun v12 => ⟨119, [(1, (.ref 1 0 0)), (4, (fI (v9))), (5, (fI (v12)))], (synthesisref11_Check_m0 a0), [1], []⟩) (fun v15 e st => Sum.elim (fun p => e = .exit 4 ∧ LeSt st ⟨119, [(1, (.ref 1 0 0)), (4, (fI (v9)))], (synthesisref11_Check_m0 a0), [1], []⟩) (fun p => e = .ret ∧ retX TT st Try.f89.results.toList [.one .keep] = some (eI (p))) v15) h (by kernel_rfl) (le_a (by kernel_rfl)) (fun v12 r h => ?_) fun v15 h e st' hq => ?_
    ·unfold synthesisref11_Check_l1 at h
     refine cd 7 h (by kernel_rfl) (fun h => ?_) fun h => ?_
     ·refine dw 4 12 (by kernel_rfl) ?_
      refine ix nSy 3 h (by kernel_rfl) fun v13 h => ?_
      refine ix nSy 5 h (by kernel_rfl) fun v14 h => ?_
      refine cd 5 h (by kernel_rfl) (fun h => ?_) fun h => ?_
      ·cases h; exact lor 5 (by kernel_rfl)
      cases h; exact lj 6 (by kernel_rfl)
     cases h; exact lo 1 (by kernel_rfl)
    rcases v15 with v16 | v19
    ·try simp only [Sum.elim_inl, Sum.elim_inr] at h
     obtain ⟨rfl, hle⟩ := hq
     refine ⟨_, hle, ?_⟩
     refine ix nSy 5 h (by kernel_rfl) fun v17 h => ?_
     refine cl 2 h (synthesisref11_typed_ok _) (by kernel_rfl) fun v18 h => ?_
     refine cd 2 h (by kernel_rfl) (fun h => ?_) fun h => ?_
     ·cases h; exact lor 5 (by kernel_rfl)
     cases h; exact lj 6 (by kernel_rfl)
    ·try simp only [Sum.elim_inl, Sum.elim_inr] at h
     obtain ⟨rfl, hret⟩ := hq
     refine ⟨_, LeSt.refl, ?_⟩
     cases h; exact lvo hret
   cases h; exact lo 1 (by kernel_rfl)
  rcases v20 with v21 | v35
  ·try simp only [Sum.elim_inl, Sum.elim_inr] at h
   obtain ⟨rfl, hle⟩ := hq
   refine ⟨_, hle, ?_⟩
   refine cd 8 h (by kernel_rfl) (fun h => ?_) fun h => ?_
   ·cases h; exact lq 5 (by kernel_rfl)
   refine lpx 7 (fun v22 => ⟨119, [(1, (.ref 1 0 0)), (6, (fI (v22)))], (synthesisref11_Check_m0 a0), [1], []⟩) (fun v32 e st => Sum.elim (fun p => e = .exit 6 ∧ LeSt st ⟨119, [], [], [], []⟩) (fun p => e = .ret ∧ retX TT st Try.f89.results.toList [.one .keep] = some (eI (p))) v32) h (by kernel_rfl) (le_a (by kernel_rfl)) (fun v22 r h => ?_) fun v32 h e st' hq => ?_
   ·unfold synthesisref11_Check_l3 at h
    refine cd 9 h (by kernel_rfl) (fun h => ?_) fun h => ?_
    ·refine dw 5 6 (by kernel_rfl) ?_
     refine ix nRu 4 h (by kernel_rfl) fun v23 h => ?_
     refine cl 2 h (synthesisref11_rule_ok _ _) (by kernel_rfl) fun v24 h => ?_
     refine cd 7 h (by kernel_rfl) (fun h => ?_) fun h => ?_
     ·cases h; exact lor 6 (by kernel_rfl)
     refine lpx 6 (fun v25 => ⟨119, [(1, (.ref 1 0 0)), (6, (fI (v22))), (8, (fI (v25)))], (synthesisref11_Check_m0 a0), [1], []⟩) (fun v29 e st => Sum.elim (fun p => e = .exit 8 ∧ LeSt st ⟨119, [(1, (.ref 1 0 0)), (6, (fI (v22)))], (synthesisref11_Check_m0 a0), [1], []⟩) (fun p => e = .ret ∧ retX TT st Try.f89.results.toList [.one .keep] = some (eI (p))) v29) h (by kernel_rfl) (le_a (by kernel_rfl)) (fun v25 r h => ?_) fun v29 h e st' hq => ?_
     ·unfold synthesisref11_Check_l2 at h
      refine cd 7 h (by kernel_rfl) (fun h => ?_) fun h => ?_
      ·refine dw 4 10 (by kernel_rfl) ?_
       refine ix nRu 3 h (by kernel_rfl) fun v26 h => ?_
       refine ix nRu 4 h (by kernel_rfl) fun v27 h => ?_
       refine cl 2 h (synthesisref11_SameRule_ok _ _) (by kernel_rfl) fun v28 h => ?_
       refine cd 1 h (by kernel_rfl) (fun h => ?_) fun h => ?_
       ·cases h; exact lor 5 (by kernel_rfl)
       cases h; exact lj 6 (by kernel_rfl)
      cases h; exact lo 1 (by kernel_rfl)
     rcases v29 with v30 | v31
     ·try simp only [Sum.elim_inl, Sum.elim_inr] at h
      obtain ⟨rfl, hle⟩ := hq
      refine ⟨_, hle, ?_⟩
      cases h; exact lj 5 (by kernel_rfl)
     ·try simp only [Sum.elim_inl, Sum.elim_inr] at h
      obtain ⟨rfl, hret⟩ := hq
      refine ⟨_, LeSt.refl, ?_⟩
      cases h; exact lvo hret
    cases h; exact lo 1 (by kernel_rfl)
   rcases v32 with v33 | v34
   ·try simp only [Sum.elim_inl, Sum.elim_inr] at h
    obtain ⟨rfl, hle⟩ := hq
    refine ⟨_, hle, ?_⟩
    cases h; exact lq 5 (by kernel_rfl)
   ·try simp only [Sum.elim_inl, Sum.elim_inr] at h
    obtain ⟨rfl, hret⟩ := hq
    refine ⟨_, LeSt.refl, ?_⟩
    cases h; exact lv hret
  ·try simp only [Sum.elim_inl, Sum.elim_inr] at h
   obtain ⟨rfl, hret⟩ := hq
   refine ⟨_, LeSt.refl, ?_⟩
   cases h; exact lv hret
 ·try simp only [Sum.elim_inl, Sum.elim_inr] at h
  obtain ⟨rfl, hret⟩ := hq
  refine ⟨_, LeSt.refl, ?_⟩
  cases h; exact lv hret

def synthesisref13_Depth_l1 (a0 : Tm) (r90 : (Tm) → Option (Int)) (v1 : (Int) × (Int)) : Option (((Int) × (Int)) ⊕ ((Int))) := (bif (decide (v1.2 < (List.length a0.args : Int))) then (Option.bind (idx a0.args v1.2) fun v2 => (Option.bind (r90 (v2)) fun v3 => (some (.inl ((imax v1.1 v3), (w64 (v1.2 + 1))))))) else (some (.inr (v1.1))))
def synthesisref13_Depth_b (r90 : (Tm) → Option (Int)) (a0 : Tm) : Option (Int) := (Option.bind (loopN (synthesisref13_Depth_l1 a0 r90) fuel (0, 0)) fun (v5 : (Int)) => (some (w64 (v5 + 1))))
theorem synthesisref13_Depth_b_ok (r90 : (Tm) → Option (Int)) (ih90 : ∀ (x0 : Tm) r, r90 x0 = some r → PCall Try.prog 90 [eTm x0] (eI (r))) (a0 : Tm) (r : Int) (h : synthesisref13_Depth_b r90 a0 = some r) : PCall Try.prog 90 [eTm a0] (eI (r)) := by
 unfold synthesisref13_Depth_b at h
 refine pcl [.one .keep] Try.func90 (by kernel_rfl) (by kernel_rfl) (by kernel_rfl) ?_
 refine lp1 15 (fun v1 => ⟨22, [(1, (.ref 1 0 0)), (3, (fI (v1.1))), (4, (fI (v1.2)))], [(1, (.box 42 [(fI (a0.rule)), (.fz ((eL 2 eTmR) (a0.args)))]))], [1], []⟩) (.exit 0) (fun v5 => ⟨22, [(3, (fI (v5)))], [], [], []⟩) h (by kernel_rfl) (by kernel_rfl) (fun v1 r h => ?_) fun v5 h => ?_
 ·unfold synthesisref13_Depth_l1 at h
  refine cd 9 h (by kernel_rfl) (fun h => ?_) fun h => ?_
  ·refine ix nTmR 8 h (by kernel_rfl) fun v2 h => ?_
   refine cl 1 h (ih90 _) (by kernel_rfl) fun v3 h => ?_
   cases h; exact lj 8 (by kernel_rfl)
  cases h; exact lo 1 (by kernel_rfl)
 cases h; exact lq 7 (by kernel_rfl)
def synthesisref13_Depth : Nat → (Tm) → Option (Int)
  | 0 => fun _ => none
  | n + 1 => synthesisref13_Depth_b (synthesisref13_Depth n)
theorem synthesisref13_Depth_ok : ∀ (n : Nat) (x0 : Tm) r, synthesisref13_Depth n x0 = some r → PCall Try.prog 90 [eTm x0] (eI (r))
  | 0, _, _, h => by cases h
  | n + 1, x0, r, h => synthesisref13_Depth_b_ok (synthesisref13_Depth n) (synthesisref13_Depth_ok n) x0 r h

def synthesisref13_Arity (a0 : Ru) : Option (Int) := (bif (a0.kind != 3) then (some 0) else (some (List.length a0.args : Int)))
theorem synthesisref13_Arity_ok (a0 : Ru) (r : Int) (h : synthesisref13_Arity a0 = some r) : PCall Try.prog 152 [eRu a0] (eI (r)) := by
 unfold synthesisref13_Arity at h
 refine pcl [.one .keep] Try.func152 (by kernel_rfl) (by kernel_rfl) (by kernel_rfl) ?_
 refine cd 12 h (by kernel_rfl) (fun h => ?_) fun h => ?_
 ·cases h; exact lq 5 (by kernel_rfl)
 cases h; exact lq 9 (by kernel_rfl)

def synthesisref13_fits_l1 (a0 : La) (a2 : Tm) (r91 : (La) → (Int) → (Tm) → Option (Int)) (v3 : Ru) (v5 : (Int)) : Option (((Int)) ⊕ (((Unit) ⊕ (Int)))) := (bif (decide (v5 < (List.length a2.args : Int))) then (Option.bind (idx v3.args v5) fun v6 => (Option.bind (idx a2.args v5) fun v7 => (Option.bind (r91 (a0) (v6) (v7)) fun v8 => (bif (v8 != 0) then (some (.inr (.inr v8))) else (some (.inl ((w64 (v5 + 1))))))))) else (some (.inr (.inl ()))))
def synthesisref13_fits_b (r91 : (La) → (Int) → (Tm) → Option (Int)) (a0 : La) (a1 : Int) (a2 : Tm) : Option (Int) := (Option.bind ((bif (decide (a2.rule < 0)) then (some (true)) else (some ((decide ((List.length a0.rules : Int) ≤ a2.rule))))) : Option ((Bool))) fun (v2 : (Bool)) => (bif v2 then (some 1) else (Option.bind (idx a0.rules a2.rule) fun v3 => (bif (v3.symbol != a1) then (some 3) else (Option.bind (synthesisref13_Arity (v3)) fun v4 => (bif ((List.length a2.args : Int) != v4) then (some 4) else (Option.bind (loopN (synthesisref13_fits_l1 a0 a2 r91 v3) fuel (0)) fun (v9 : ((Unit) ⊕ (Int))) => Sum.elim (fun v10 => (some 0)) (fun v11 => (some v11)) v9)))))))
theorem synthesisref13_fits_b_ok (r91 : (La) → (Int) → (Tm) → Option (Int)) (ih91 : ∀ (x0 : La) (x1 : Int) (x2 : Tm) r, r91 x0 x1 x2 = some r → PCall Try.prog 91 [eLa x0, eI x1, eTm x2] (eI (r))) (a0 : La) (a1 : Int) (a2 : Tm) (r : Int) (h : synthesisref13_fits_b r91 a0 a1 a2 = some r) : PCall Try.prog 91 [eLa a0, eI a1, eTm a2] (eI (r)) := by
 unfold synthesisref13_fits_b at h
 refine pcl [.one .keep] Try.func91 (by kernel_rfl) (by kernel_rfl) (by kernel_rfl) ?_
 refine jn1 8 .normal (fun v2 => ⟨59, [(1, (fI (a1))), (3, (.ref 1 0 0)), (5, (.ref 2 0 0)), (20, (fB (v2)))], [(1, (.box 27 [(fS (a0.name)), (.fz ((eL 1 eI) (a0.inputs))), (.fz ((eL 2 eSy) (a0.symbols))), (.fz ((eL 9 eRu) (a0.rules)))])), (2, (.box 42 [(fI (a2.rule)), (.fz ((eL 2 eTmR) (a2.args)))]))], [2, 1], []⟩) h (by kernel_rfl) (fun v2 h => ?_) fun v2 h => ?_
 ·refine gd 5 h (by kernel_rfl) (fun h => ?_) fun h => ?_
  ·cases h; exact lj 8 (by kernel_rfl)
  cases h; exact lj 8 (by kernel_rfl)
 refine cd 0 h (by kernel_rfl) (fun h => ?_) fun h => ?_
 ·cases h; exact lq 5 (by kernel_rfl)
 refine ix nRu 7 h (by kernel_rfl) fun v3 h => ?_
 refine cd 12 h (by kernel_rfl) (fun h => ?_) fun h => ?_
 ·cases h; exact lq 5 (by kernel_rfl)
 refine dw 3 5 (by kernel_rfl) ?_
 refine cl 4 h (synthesisref13_Arity_ok _) (by kernel_rfl) fun v4 h => ?_
 refine cd 3 h (by kernel_rfl) (fun h => ?_) fun h => ?_
 ·cases h; exact lq 5 (by kernel_rfl)
 refine lpx 7 (fun v5 => ⟨59, [(3, (.ref 1 0 0)), (5, (.ref 2 0 0)), (7, (.ref 3 0 0)), (8, (fI (v5)))], [(1, (.box 27 [(fS (a0.name)), (.fz ((eL 1 eI) (a0.inputs))), (.fz ((eL 2 eSy) (a0.symbols))), (.fz ((eL 9 eRu) (a0.rules)))])), (2, (.box 42 [(fI (a2.rule)), (.fz ((eL 2 eTmR) (a2.args)))])), (3, (.box 67 [(fI (v3.symbol)), (fI (v3.kind)), (fI (v3.input)), (fI (v3.const.type)), (fI (v3.const.num)), (fS (v3.const.text)), (.fz ((eL 4 eVaR) (v3.const.items))), (fS (v3.op)), (.fz ((eL 1 eI) (v3.args)))]))], [3, 2, 1], []⟩) (fun v9 e st => Sum.elim (fun p => e = .exit 0 ∧ LeSt st ⟨59, [], [], [], []⟩) (fun p => e = .ret ∧ retX TT st Try.f91.results.toList [.one .keep] = some (eI (p))) v9) h (by kernel_rfl) (le_a (by kernel_rfl)) (fun v5 r h => ?_) fun v9 h e st' hq => ?_
 ·unfold synthesisref13_fits_l1 at h
  refine cd 9 h (by kernel_rfl) (fun h => ?_) fun h => ?_
  ·refine dw 4 11 (by kernel_rfl) ?_
   refine ix nI 4 h (by kernel_rfl) fun v6 h => ?_
   refine ix nTmR 4 h (by kernel_rfl) fun v7 h => ?_
   refine cl 2 h (ih91 _ _ _) (by kernel_rfl) fun v8 h => ?_
   refine cd 7 h (by kernel_rfl) (fun h => ?_) fun h => ?_
   ·cases h; exact lor 6 (by kernel_rfl)
   cases h; exact lj 6 (by kernel_rfl)
  cases h; exact lo 1 (by kernel_rfl)
 rcases v9 with v10 | v11
 ·try simp only [Sum.elim_inl, Sum.elim_inr] at h
  obtain ⟨rfl, hle⟩ := hq
  refine ⟨_, hle, ?_⟩
  cases h; exact lq 5 (by kernel_rfl)
 ·try simp only [Sum.elim_inl, Sum.elim_inr] at h
  obtain ⟨rfl, hret⟩ := hq
  refine ⟨_, LeSt.refl, ?_⟩
  cases h; exact lv hret
def synthesisref13_fits : Nat → (La) → (Int) → (Tm) → Option (Int)
  | 0 => fun _ _ _ => none
  | n + 1 => synthesisref13_fits_b (synthesisref13_fits n)
theorem synthesisref13_fits_ok : ∀ (n : Nat) (x0 : La) (x1 : Int) (x2 : Tm) r, synthesisref13_fits n x0 x1 x2 = some r → PCall Try.prog 91 [eLa x0, eI x1, eTm x2] (eI (r))
  | 0, _, _, _, _, h => by cases h
  | n + 1, x0, x1, x2, r, h => synthesisref13_fits_b_ok (synthesisref13_fits n) (synthesisref13_fits_ok n) x0 x1 x2 r h

def synthesisref13_Check_m0 (a0 : La) (a2 : Tm) : List (Nat × AObj) := [(1, (.box 27 [(fS (a0.name)), (.fz ((eL 1 eI) (a0.inputs))), (.fz ((eL 2 eSy) (a0.symbols))), (.fz ((eL 9 eRu) (a0.rules)))])), (2, (.box 42 [(fI (a2.rule)), (.fz ((eL 2 eTmR) (a2.args)))]))]
def synthesisref13_Check (a0 : La) (a1 : Int) (a2 : Tm) : Option (Int) := (Option.bind (synthesisref11_Check (a0)) fun v1 => (bif (v1 != 0) then (some v1) else (Option.bind ((bif (decide (a1 < 0)) then (some (true)) else (some ((decide ((List.length a0.symbols : Int) ≤ a1))))) : Option ((Bool))) fun (v3 : (Bool)) => (bif v3 then (some 1) else (Option.bind ((Option.bind (synthesisref13_Within (a2) (4096)) fun v4 => (bif (!v4) then (some (true)) else (Option.bind (synthesisref13_Depth fuel (a2)) fun v5 => (some ((decide (32 < v5))))))) : Option ((Bool))) fun (v7 : (Bool)) => (bif v7 then (some 2) else (Option.bind (synthesisref13_fits fuel (a0) (a1) (a2)) fun v8 => (some v8))))))))
theorem synthesisref13_Check_ok (a0 : La) (a1 : Int) (a2 : Tm) (r : Int) (h : synthesisref13_Check a0 a1 a2 = some r) : PCall Try.prog 37 [eLa a0, eI a1, eTm a2] (eI (r)) := by
 unfold synthesisref13_Check at h
 refine pcl [.one .keep] Try.func37 (by kernel_rfl) (by kernel_rfl) (by kernel_rfl) ?_
 refine cl 10 h (synthesisref11_Check_ok _) (by kernel_rfl) fun v1 h => ?_
 refine cd 7 h (by kernel_rfl) (fun h => ?_) fun h => ?_
 ·cases h; exact lq 6 (by kernel_rfl)
 refine jn1 3 .normal (fun v3 => ⟨34, [(1, (fI (a1))), (3, (.ref 1 0 0)), (5, (.ref 2 0 0)), (21, (fB (v3)))], (synthesisref13_Check_m0 a0 a2), [2, 1], []⟩) h (by kernel_rfl) (fun v3 h => ?_) fun v3 h => ?_
 ·refine gd 4 h (by kernel_rfl) (fun h => ?_) fun h => ?_
  ·cases h; exact lj 7 (by kernel_rfl)
  cases h; exact lj 7 (by kernel_rfl)
 refine cd 0 h (by kernel_rfl) (fun h => ?_) fun h => ?_
 ·cases h; exact lq 5 (by kernel_rfl)
 refine jn1 3 .normal (fun v7 => ⟨34, [(1, (fI (a1))), (3, (.ref 1 0 0)), (5, (.ref 2 0 0)), (29, (fB (v7)))], (synthesisref13_Check_m0 a0 a2), [2, 1], []⟩) h (by kernel_rfl) (fun v7 h => ?_) fun v7 h => ?_
 ·refine cl 2 h (synthesisref13_Within_ok _ _) (by kernel_rfl) fun v4 h => ?_
  refine gd 2 h (by kernel_rfl) (fun h => ?_) fun h => ?_
  ·cases h; exact lj 5 (by kernel_rfl)
  refine cl 1 h (synthesisref13_Depth_ok _ _) (by kernel_rfl) fun v5 h => ?_
  cases h; exact lj 3 (by kernel_rfl)
 refine cd 0 h (by kernel_rfl) (fun h => ?_) fun h => ?_
 ·cases h; exact lq 5 (by kernel_rfl)
 refine cl 6 h (synthesisref13_fits_ok _ _ _ _) (by kernel_rfl) fun v8 h => ?_
 cases h; exact lq 3 (by kernel_rfl)

def term_Rules_1_h (a0 : Tm) : Option (Unit) := (some ())
theorem term_Rules_1_h_ok (a0 : Tm) (r : Unit) (h : term_Rules_1_h a0 = some r) : HCall Try.prog 103 ([(.fz (eTm (a0)))] ++ []) [] [] (.ret (fI (a0.rule))) [] [] := by
 unfold term_Rules_1_h at h
 refine hcx (gi := 0) Try.func103 (by kernel_rfl) (by kernel_rfl) (by kernel_rfl) (by kernel_rfl) (by kernel_rfl) (by kernel_rfl) (by kernel_rfl) (by kernel_rfl) ?_
 intro p0 q0 w0
 obtain rfl := Option.some.inj h; exact lh 12 ⟨5, [(2, (fI (a0.rule)))], [(0, (.was p0 [] q0 w0))], [0], []⟩ (le_a (by kernel_rfl)) rfl rfl (by kernel_rfl) (by kernel_rfl)

def term_collect_h2_l1 (a1 : Tm) (r6 : (List Int) → (Tm) → Option ((List Int))) (v3 : (Int) × (List Int)) : Option (((Int) × (List Int)) ⊕ ((List Int))) := (bif (decide (v3.1 < (List.length a1.args : Int))) then (Option.bind (idx a1.args v3.1) fun v4 => (Option.bind (r6 (v3.2) (v4)) fun v5 => (some (.inl ((w64 (v3.1 + 1)), v5))))) else (some (.inr (v3.2))))
def term_collect_h2_b (r6 : (List Int) → (Tm) → Option ((List Int))) (a0 : List Int) (a1 : Tm) : Option ((List Int)) := (Option.bind (term_Rules_1_h (a1)) fun v1 => (Option.bind (app 8 a0 ([a1.rule] : List (Int))) fun v2 => (Option.bind (loopN (term_collect_h2_l1 a1 r6) fuel (0, v2)) fun (v7 : (List Int)) => (some (v7)))))
theorem term_collect_h2_b_ok (r6 : (List Int) → (Tm) → Option ((List Int))) (ih6 : ∀ (x0 : List Int) (x1 : Tm) r, r6 x0 x1 = some r → HCall Try.prog 102 ([(.row 1 (List.length (x0))), (.fz (eTm (x1))), (.fn 103 [])] ++ []) [(1, (.frow 3 1 (List.map eI (x0))))] [1] (.ret (.row 1 (List.length (r)))) [(1, (.frow 3 1 (List.map eI (r))))] [1]) (a0 : List Int) (a1 : Tm) (r : (List Int)) (h : term_collect_h2_b r6 a0 a1 = some r) : HCall Try.prog 102 ([(.row 1 (List.length (a0))), (.fz (eTm (a1))), (.fn 103 [])] ++ []) [(1, (.frow 3 1 (List.map eI (a0))))] [1] (.ret (.row 1 (List.length (r)))) [(1, (.frow 3 1 (List.map eI (r))))] [1] := by
 unfold term_collect_h2_b at h
 refine hcx (gi := 0) Try.func102 (by kernel_rfl) (by kernel_rfl) (by kernel_rfl) (by kernel_rfl) (by kernel_rfl) (by kernel_rfl) (by kernel_rfl) (by kernel_rfl) ?_
 intro p0 q0 w0
 refine hcl 10 [.one .keep] [] [] [] h (term_Rules_1_h_ok _) (fun _ => by kernel_rfl) fun v1 h => ?_
 refine ap nI 1 h (by kernel_rfl) fun v2 h => ?_
 refine lp1 11 (fun v3 => ⟨28, [(0, (.row 1 (List.length (v3.2)))), (2, (.fn 103 [])), (16, (.fz ((eL 2 eTmR) (a1.args)))), (17, (fI ((List.length a1.args : Int)))), (18, (fI (v3.1)))], [(0, (.was p0 [1] q0 w0)), (1, (.frow 3 1 (List.map eI (v3.2))))], [0, 1], []⟩) (.exit 0) (fun v7 => ⟨28, [(0, (.row 1 (List.length (v7))))], [(0, (.was p0 [1] q0 w0)), (1, (.frow 3 1 (List.map eI (v7))))], [0, 1], []⟩) h (by kernel_rfl) (by kernel_rfl) (fun v3 r h => ?_) fun v7 h => ?_
 ·unfold term_collect_h2_l1 at h
  refine cd 5 h (by kernel_rfl) (fun h => ?_) fun h => ?_
  ·refine ix nTmR 5 h (by kernel_rfl) fun v4 h => ?_
   refine hcl 8 [.one .keep, .one .keep, .one .keep] [(1, 1)] [(1, 1)] [1] h (ih6 _ _) (fun _ => by kernel_rfl) fun v5 h => ?_
   cases h; exact lj 6 (by kernel_rfl)
  cases h; exact lo 1 (by kernel_rfl)
 obtain rfl := Option.some.inj h; exact lh 6 ⟨28, [(6, (.row 1 (List.length (v7))))], [(0, (.was p0 [1] q0 w0)), (1, (.frow 3 1 (List.map eI (v7))))], [0, 1], []⟩ (le_a (by kernel_rfl)) rfl rfl (by kernel_rfl) (by kernel_rfl)
def term_collect_h2 : Nat → (List Int) → (Tm) → Option ((List Int))
  | 0 => fun _ _ => none
  | n + 1 => term_collect_h2_b (term_collect_h2 n)
theorem term_collect_h2_ok : ∀ n : Nat, ∀ (x0 : List Int) (x1 : Tm) r, term_collect_h2 n x0 x1 = some r → HCall Try.prog 102 ([(.row 1 (List.length (x0))), (.fz (eTm (x1))), (.fn 103 [])] ++ []) [(1, (.frow 3 1 (List.map eI (x0))))] [1] (.ret (.row 1 (List.length (r)))) [(1, (.frow 3 1 (List.map eI (r))))] [1]
  | 0 => fun _ _ _ h => by cases h
  | n + 1 => fun a0 a1 r h => term_collect_h2_b_ok (term_collect_h2 n) (term_collect_h2_ok n) a0 a1 r h

def term_Rules_l1 (a0 : Tm) (v3 : (Int) × (List Int)) : Option (((Int) × (List Int)) ⊕ ((List Int))) := (bif (decide (v3.1 < (List.length a0.args : Int))) then (Option.bind (idx a0.args v3.1) fun v4 => (Option.bind (term_collect_h2 fuel (v3.2) (v4)) fun v5 => (some (.inl ((w64 (v3.1 + 1)), v5))))) else (some (.inr (v3.2))))
def term_Rules (a0 : Tm) : Option (List Int) := (Option.bind (term_Rules_1_h (a0)) fun v1 => (Option.bind (app 8 ([] : List (Int)) ([a0.rule] : List (Int))) fun v2 => (Option.bind (loopN (term_Rules_l1 a0) fuel (0, v2)) fun (v7 : (List Int)) => (some v7))))
theorem term_Rules_ok (a0 : Tm) (r : List Int) (h : term_Rules a0 = some r) : PCall Try.prog 42 [eTm a0] ((eL 1 eI) (r)) := by
 unfold term_Rules at h
 refine pcl [.one (.sl 1)] Try.func42 (by kernel_rfl) (by kernel_rfl) (by kernel_rfl) ?_
 refine wle 8 ((le_a (by kernel_rfl) : LeSt _ ⟨5, [(3, (.fz (eTm (a0))))], [], [], []⟩)) (by kernel_rfl) ?_
 refine inl 0 (f := 102) (fn := Try.f102) (n := 28) (gi := 1) (ys := [(.fz (.atom (.slice none 0 0))), (.fz (eTm (a0))), (.fn 103 [])]) Try.func102 (by kernel_rfl) (by kernel_rfl) (by kernel_rfl) (by kernel_rfl) (by kernel_rfl) (by kernel_rfl) ?_
 intro gs1
 refine wle 0 ((le_a (by kernel_rfl) : LeSt _ ⟨28, [(0, (.fz (.atom (.slice none 0 0)))), (1, (.fz (eTm (a0)))), (2, (.fn 103 []))], [(1, (.gho gs1 [(.fz (eTm (a0)))]))], [1], []⟩)) (by kernel_rfl) ?_
 refine hcl 10 [.one .keep] [] [] [] h (term_Rules_1_h_ok _) (fun _ => by kernel_rfl) fun v1 h => ?_
 refine wle 1 (le_nilrow (e := 3) (size := 1) (t := 9) (id := 3) (by decide) (by kernel_rfl) (by kernel_rfl)) (by kernel_rfl) ?_
 refine ap nI 0 h (by kernel_rfl) fun v2 h => ?_
 refine lp1 11 (fun v3 => ⟨28, [(0, (.row 3 (List.length (v3.2)))), (2, (.fn 103 [])), (16, (.fz ((eL 2 eTmR) (a0.args)))), (17, (fI ((List.length a0.args : Int)))), (18, (fI (v3.1)))], [(1, (.gho gs1 [(.fz (eTm (a0)))])), (3, (.frow 3 1 (List.map eI (v3.2))))], [3, 1], []⟩) (.exit 0) (fun v7 => ⟨28, [(0, (.row 3 (List.length (v7))))], [(1, (.gho gs1 [(.fz (eTm (a0)))])), (3, (.frow 3 1 (List.map eI (v7))))], [3, 1], []⟩) h (by kernel_rfl) (by kernel_rfl) (fun v3 r h => ?_) fun v7 h => ?_
 ·unfold term_Rules_l1 at h
  refine cd 5 h (by kernel_rfl) (fun h => ?_) fun h => ?_
  ·refine ix nTmR 5 h (by kernel_rfl) fun v4 h => ?_
   refine hcl 8 [.one .keep, .one .keep, .one .keep] [(3, 1)] [(1, 3)] [1] h (term_collect_h2_ok fuel _ _) (fun _ => by kernel_rfl) fun v5 h => ?_
   cases h; exact lj 6 (by kernel_rfl)
  cases h; exact lo 1 (by kernel_rfl)
 refine li 6 (vs := [(.fz (eTm (a0)))]) (rv := (.row 3 (List.length (v7)))) (by kernel_rfl) (by kernel_rfl) (.inr ⟨6, by kernel_rfl, by kernel_rfl⟩) ?_
 refine wle 2 (le_freeze (t := 2) (id := 3) (n := List.length (v7)) (e := 3) (size := 1) (xs := List.map eI (v7)) (by kernel_rfl) (by kernel_rfl) (by simp)) (by kernel_rfl) ?_
 cases h; exact lq 1 (by kernel_rfl)

def term_Size_l1 (a0 : Tm) (r92 : (Tm) → Option (Int)) (v1 : (Int) × (Int)) : Option (((Int) × (Int)) ⊕ ((Int))) := (bif (decide (v1.2 < (List.length a0.args : Int))) then (Option.bind (idx a0.args v1.2) fun v2 => (Option.bind (r92 (v2)) fun v3 => (some (.inl ((w64 (v1.1 + v3)), (w64 (v1.2 + 1))))))) else (some (.inr (v1.1))))
def term_Size_b (r92 : (Tm) → Option (Int)) (a0 : Tm) : Option (Int) := (Option.bind (loopN (term_Size_l1 a0 r92) fuel (1, 0)) fun (v5 : (Int)) => (some v5))
theorem term_Size_b_ok (r92 : (Tm) → Option (Int)) (ih92 : ∀ (x0 : Tm) r, r92 x0 = some r → PCall Try.prog 92 [eTm x0] (eI (r))) (a0 : Tm) (r : Int) (h : term_Size_b r92 a0 = some r) : PCall Try.prog 92 [eTm a0] (eI (r)) := by
 unfold term_Size_b at h
 refine pcl [.one .keep] Try.func92 (by kernel_rfl) (by kernel_rfl) (by kernel_rfl) ?_
 refine lp1 18 (fun v1 => ⟨19, [(3, (fI (v1.1))), (7, (.fz ((eL 2 eTmR) (a0.args)))), (8, (fI ((List.length a0.args : Int)))), (9, (fI (v1.2)))], [], [], []⟩) (.exit 0) (fun v5 => ⟨19, [(3, (fI (v5)))], [], [], []⟩) h (by kernel_rfl) (by kernel_rfl) (fun v1 r h => ?_) fun v5 h => ?_
 ·unfold term_Size_l1 at h
  refine cd 5 h (by kernel_rfl) (fun h => ?_) fun h => ?_
  ·refine ix nTmR 5 h (by kernel_rfl) fun v2 h => ?_
   refine cl 7 h (ih92 _) (by kernel_rfl) fun v3 h => ?_
   cases h; exact lj 7 (by kernel_rfl)
  cases h; exact lo 1 (by kernel_rfl)
 cases h; exact lq 6 (by kernel_rfl)
def term_Size : Nat → (Tm) → Option (Int)
  | 0 => fun _ => none
  | n + 1 => term_Size_b (term_Size n)
theorem term_Size_ok : ∀ (n : Nat) (x0 : Tm) r, term_Size n x0 = some r → PCall Try.prog 92 [eTm x0] (eI (r))
  | 0, _, _, h => by cases h
  | n + 1, x0, r, h => term_Size_b_ok (term_Size n) (term_Size_ok n) x0 r h

def term_lexical_l1 (a0 : List Int) (a1 : List Int) (v1 : (Int)) : Option (((Int)) ⊕ (((Unit) ⊕ (Int)))) := (bif (decide (v1 < (List.length a0 : Int))) then (Option.bind (idx a0 v1) fun v2 => (Option.bind (idx a1 v1) fun v3 => (bif (decide (v2 < v3)) then (some (.inr (.inr (-1)))) else (Option.bind (idx a0 v1) fun v4 => (Option.bind (idx a1 v1) fun v5 => (bif (decide (v5 < v4)) then (some (.inr (.inr 1))) else (some (.inl ((w64 (v1 + 1))))))))))) else (some (.inr (.inl ()))))
def term_lexical (a0 : List Int) (a1 : List Int) : Option (Int) := (Option.bind (loopN (term_lexical_l1 a0 a1) fuel (0)) fun (v6 : ((Unit) ⊕ (Int))) => Sum.elim (fun v7 => (some 0)) (fun v8 => (some v8)) v6)
theorem term_lexical_ok (a0 : List Int) (a1 : List Int) (r : Int) (h : term_lexical a0 a1 = some r) : PCall Try.prog 104 [(eL 1 eI) a0, (eL 1 eI) a1] (eI (r)) := by
 unfold term_lexical at h
 refine pcl [.one .keep] Try.func104 (by kernel_rfl) (by kernel_rfl) (by kernel_rfl) ?_
 refine lpx 12 (fun v1 => ⟨32, [(0, (.fz ((eL 1 eI) (a0)))), (1, (.fz ((eL 1 eI) (a1)))), (7, (fI ((List.length a0 : Int)))), (8, (fI (v1)))], [], [], []⟩) (fun v6 e st => Sum.elim (fun p => e = .exit 0 ∧ LeSt st ⟨32, [], [], [], []⟩) (fun p => e = .ret ∧ retX TT st Try.f104.results.toList [.one .keep] = some (eI (p))) v6) h (by kernel_rfl) (le_a (by kernel_rfl)) (fun v1 r h => ?_) fun v6 h e st' hq => ?_
 ·unfold term_lexical_l1 at h
  refine cd 5 h (by kernel_rfl) (fun h => ?_) fun h => ?_
  ·refine dw 10 8 (by kernel_rfl) ?_
   refine ix nI 2 h (by kernel_rfl) fun v2 h => ?_
   refine ix nI 3 h (by kernel_rfl) fun v3 h => ?_
   refine cd 5 h (by kernel_rfl) (fun h => ?_) fun h => ?_
   ·cases h; exact lor 5 (by kernel_rfl)
   refine dw 1 8 (by kernel_rfl) ?_
   refine ix nI 2 h (by kernel_rfl) fun v4 h => ?_
   refine ix nI 3 h (by kernel_rfl) fun v5 h => ?_
   refine cd 5 h (by kernel_rfl) (fun h => ?_) fun h => ?_
   ·cases h; exact lor 5 (by kernel_rfl)
   cases h; exact lj 5 (by kernel_rfl)
  cases h; exact lo 1 (by kernel_rfl)
 rcases v6 with v7 | v8
 ·try simp only [Sum.elim_inl, Sum.elim_inr] at h
  obtain ⟨rfl, hle⟩ := hq
  refine ⟨_, hle, ?_⟩
  cases h; exact lq 5 (by kernel_rfl)
 ·try simp only [Sum.elim_inl, Sum.elim_inr] at h
  obtain ⟨rfl, hret⟩ := hq
  refine ⟨_, LeSt.refl, ?_⟩
  cases h; exact lv hret

def term_Compare_1_h (a0 : Tm) : Option (Unit) := (some ())
theorem term_Compare_1_h_ok (a0 : Tm) (r : Unit) (h : term_Compare_1_h a0 = some r) : HCall Try.prog 105 ([(.fz (eTm (a0)))] ++ []) [] [] (.ret (fI ((List.length a0.args : Int)))) [] [] := by
 unfold term_Compare_1_h at h
 refine hcx (gi := 0) Try.func105 (by kernel_rfl) (by kernel_rfl) (by kernel_rfl) (by kernel_rfl) (by kernel_rfl) (by kernel_rfl) (by kernel_rfl) (by kernel_rfl) ?_
 intro p0 q0 w0
 obtain rfl := Option.some.inj h; exact lh 13 ⟨6, [(2, (fI ((List.length a0.args : Int))))], [(0, (.was p0 [] q0 w0))], [0], []⟩ (le_a (by kernel_rfl)) rfl rfl (by kernel_rfl) (by kernel_rfl)

def term_collect_h4_l1 (a1 : Tm) (r9 : (List Int) → (Tm) → Option ((List Int))) (v3 : (Int) × (List Int)) : Option (((Int) × (List Int)) ⊕ ((List Int))) := (bif (decide (v3.1 < (List.length a1.args : Int))) then (Option.bind (idx a1.args v3.1) fun v4 => (Option.bind (r9 (v3.2) (v4)) fun v5 => (some (.inl ((w64 (v3.1 + 1)), v5))))) else (some (.inr (v3.2))))
def term_collect_h4_b (r9 : (List Int) → (Tm) → Option ((List Int))) (a0 : List Int) (a1 : Tm) : Option ((List Int)) := (Option.bind (term_Compare_1_h (a1)) fun v1 => (Option.bind (app 8 a0 ([(List.length a1.args : Int)] : List (Int))) fun v2 => (Option.bind (loopN (term_collect_h4_l1 a1 r9) fuel (0, v2)) fun (v7 : (List Int)) => (some (v7)))))
theorem term_collect_h4_b_ok (r9 : (List Int) → (Tm) → Option ((List Int))) (ih9 : ∀ (x0 : List Int) (x1 : Tm) r, r9 x0 x1 = some r → HCall Try.prog 102 ([(.row 1 (List.length (x0))), (.fz (eTm (x1))), (.fn 105 [])] ++ []) [(1, (.frow 3 1 (List.map eI (x0))))] [1] (.ret (.row 1 (List.length (r)))) [(1, (.frow 3 1 (List.map eI (r))))] [1]) (a0 : List Int) (a1 : Tm) (r : (List Int)) (h : term_collect_h4_b r9 a0 a1 = some r) : HCall Try.prog 102 ([(.row 1 (List.length (a0))), (.fz (eTm (a1))), (.fn 105 [])] ++ []) [(1, (.frow 3 1 (List.map eI (a0))))] [1] (.ret (.row 1 (List.length (r)))) [(1, (.frow 3 1 (List.map eI (r))))] [1] := by
 unfold term_collect_h4_b at h
 refine hcx (gi := 0) Try.func102 (by kernel_rfl) (by kernel_rfl) (by kernel_rfl) (by kernel_rfl) (by kernel_rfl) (by kernel_rfl) (by kernel_rfl) (by kernel_rfl) ?_
 intro p0 q0 w0
 refine hcl 10 [.one .keep] [] [] [] h (term_Compare_1_h_ok _) (fun _ => by kernel_rfl) fun v1 h => ?_
 refine ap nI 1 h (by kernel_rfl) fun v2 h => ?_
 refine lp1 11 (fun v3 => ⟨28, [(0, (.row 1 (List.length (v3.2)))), (2, (.fn 105 [])), (16, (.fz ((eL 2 eTmR) (a1.args)))), (17, (fI ((List.length a1.args : Int)))), (18, (fI (v3.1)))], [(0, (.was p0 [1] q0 w0)), (1, (.frow 3 1 (List.map eI (v3.2))))], [0, 1], []⟩) (.exit 0) (fun v7 => ⟨28, [(0, (.row 1 (List.length (v7))))], [(0, (.was p0 [1] q0 w0)), (1, (.frow 3 1 (List.map eI (v7))))], [0, 1], []⟩) h (by kernel_rfl) (by kernel_rfl) (fun v3 r h => ?_) fun v7 h => ?_
 ·unfold term_collect_h4_l1 at h
  refine cd 5 h (by kernel_rfl) (fun h => ?_) fun h => ?_
  ·refine ix nTmR 5 h (by kernel_rfl) fun v4 h => ?_
   refine hcl 8 [.one .keep, .one .keep, .one .keep] [(1, 1)] [(1, 1)] [1] h (ih9 _ _) (fun _ => by kernel_rfl) fun v5 h => ?_
   cases h; exact lj 6 (by kernel_rfl)
  cases h; exact lo 1 (by kernel_rfl)
 obtain rfl := Option.some.inj h; exact lh 6 ⟨28, [(6, (.row 1 (List.length (v7))))], [(0, (.was p0 [1] q0 w0)), (1, (.frow 3 1 (List.map eI (v7))))], [0, 1], []⟩ (le_a (by kernel_rfl)) rfl rfl (by kernel_rfl) (by kernel_rfl)
def term_collect_h4 : Nat → (List Int) → (Tm) → Option ((List Int))
  | 0 => fun _ _ => none
  | n + 1 => term_collect_h4_b (term_collect_h4 n)
theorem term_collect_h4_ok : ∀ n : Nat, ∀ (x0 : List Int) (x1 : Tm) r, term_collect_h4 n x0 x1 = some r → HCall Try.prog 102 ([(.row 1 (List.length (x0))), (.fz (eTm (x1))), (.fn 105 [])] ++ []) [(1, (.frow 3 1 (List.map eI (x0))))] [1] (.ret (.row 1 (List.length (r)))) [(1, (.frow 3 1 (List.map eI (r))))] [1]
  | 0 => fun _ _ _ h => by cases h
  | n + 1 => fun a0 a1 r h => term_collect_h4_b_ok (term_collect_h4 n) (term_collect_h4_ok n) a0 a1 r h

def term_collect_h3_l1 (a0 : Tm) (v3 : (Int) × (List Int)) : Option (((Int) × (List Int)) ⊕ ((List Int))) := (bif (decide (v3.1 < (List.length a0.args : Int))) then (Option.bind (idx a0.args v3.1) fun v4 => (Option.bind (term_collect_h4 fuel (v3.2) (v4)) fun v5 => (some (.inl ((w64 (v3.1 + 1)), v5))))) else (some (.inr (v3.2))))
def term_collect_h3 (a0 : Tm) : Option ((List Int)) := (Option.bind (term_Compare_1_h (a0)) fun v1 => (Option.bind (app 8 ([] : List (Int)) ([(List.length a0.args : Int)] : List (Int))) fun v2 => (Option.bind (loopN (term_collect_h3_l1 a0) fuel (0, v2)) fun (v7 : (List Int)) => (some (v7)))))
theorem term_collect_h3_ok (a0 : Tm) (r : (List Int)) (h : term_collect_h3 a0 = some r) : HCall Try.prog 102 ([(.fz (.atom (.slice none 0 0))), (.fz (eTm (a0))), (.fn 105 [])] ++ []) [] [] (.ret (.row 2 (List.length (r)))) [(2, (.frow 3 1 (List.map eI (r))))] [2] := by
 unfold term_collect_h3 at h
 refine hcx (gi := 0) Try.func102 (by kernel_rfl) (by kernel_rfl) (by kernel_rfl) (by kernel_rfl) (by kernel_rfl) (by kernel_rfl) (by kernel_rfl) (by kernel_rfl) ?_
 intro p0 q0 w0
 refine hcl 10 [.one .keep] [] [] [] h (term_Compare_1_h_ok _) (fun _ => by kernel_rfl) fun v1 h => ?_
 refine wle 1 (le_nilrow (e := 3) (size := 1) (t := 9) (id := 2) (by decide) (by kernel_rfl) (by kernel_rfl)) (by kernel_rfl) ?_
 refine ap nI 0 h (by kernel_rfl) fun v2 h => ?_
 refine lp1 11 (fun v3 => ⟨28, [(0, (.row 2 (List.length (v3.2)))), (2, (.fn 105 [])), (16, (.fz ((eL 2 eTmR) (a0.args)))), (17, (fI ((List.length a0.args : Int)))), (18, (fI (v3.1)))], [(0, (.was p0 [] q0 w0)), (2, (.frow 3 1 (List.map eI (v3.2))))], [2, 0], []⟩) (.exit 0) (fun v7 => ⟨28, [(0, (.row 2 (List.length (v7))))], [(0, (.was p0 [] q0 w0)), (2, (.frow 3 1 (List.map eI (v7))))], [2, 0], []⟩) h (by kernel_rfl) (by kernel_rfl) (fun v3 r h => ?_) fun v7 h => ?_
 ·unfold term_collect_h3_l1 at h
  refine cd 5 h (by kernel_rfl) (fun h => ?_) fun h => ?_
  ·refine ix nTmR 5 h (by kernel_rfl) fun v4 h => ?_
   refine hcl 8 [.one .keep, .one .keep, .one .keep] [(2, 1)] [(1, 2)] [1] h (term_collect_h4_ok fuel _ _) (fun _ => by kernel_rfl) fun v5 h => ?_
   cases h; exact lj 6 (by kernel_rfl)
  cases h; exact lo 1 (by kernel_rfl)
 obtain rfl := Option.some.inj h; exact lh 6 ⟨28, [(6, (.row 2 (List.length (v7))))], [(0, (.was p0 [] q0 w0)), (2, (.frow 3 1 (List.map eI (v7))))], [0, 2], []⟩ (le_a (by kernel_rfl)) rfl rfl (by kernel_rfl) (by kernel_rfl)

def term_Compare_l1 (a1 : Tm) (v9 : (Int) × (List Int)) : Option (((Int) × (List Int)) ⊕ ((List Int))) := (bif (decide (v9.1 < (List.length a1.args : Int))) then (Option.bind (idx a1.args v9.1) fun v10 => (Option.bind (term_collect_h4 fuel (v9.2) (v10)) fun v11 => (some (.inl ((w64 (v9.1 + 1)), v11))))) else (some (.inr (v9.2))))
def term_Compare (a0 : Tm) (a1 : Tm) : Option (Int) := (Option.bind (term_Size fuel (a0)) fun v1 => (Option.bind (term_Size fuel (a1)) fun v2 => (bif (decide (v1 < v2)) then (some (-1)) else (bif (decide (v2 < v1)) then (some 1) else (Option.bind (term_Rules (a0)) fun v3 => (Option.bind (term_Rules (a1)) fun v4 => (Option.bind (term_lexical (v3) (v4)) fun v5 => (bif (v5 != 0) then (some v5) else (Option.bind (term_collect_h3 (a0)) fun v6 => (Option.bind (term_Compare_1_h (a1)) fun v7 => (Option.bind (app 8 ([] : List (Int)) ([(List.length a1.args : Int)] : List (Int))) fun v8 => (Option.bind (loopN (term_Compare_l1 a1) fuel (0, v8)) fun (v13 : (List Int)) => (Option.bind (term_lexical (v6) (v13)) fun v14 => (some v14))))))))))))))
theorem term_Compare_ok (a0 : Tm) (a1 : Tm) (r : Int) (h : term_Compare a0 a1 = some r) : PCall Try.prog 43 [eTm a0, eTm a1] (eI (r)) := by
 unfold term_Compare at h
 refine pcl [.one .keep] Try.func43 (by kernel_rfl) (by kernel_rfl) (by kernel_rfl) ?_
 refine dw 7 3 (by kernel_rfl) ?_
 refine cl 1 h (term_Size_ok _ _) (by kernel_rfl) fun v1 h => ?_
 refine cl 2 h (term_Size_ok _ _) (by kernel_rfl) fun v2 h => ?_
 refine cd 12 h (by kernel_rfl) (fun h => ?_) fun h => ?_
 ·cases h; exact lq 5 (by kernel_rfl)
 refine cd 7 h (by kernel_rfl) (fun h => ?_) fun h => ?_
 ·cases h; exact lq 5 (by kernel_rfl)
 refine dw 3 3 (by kernel_rfl) ?_
 refine cl 1 h (term_Rules_ok _) (by kernel_rfl) fun v3 h => ?_
 refine cl 2 h (term_Rules_ok _) (by kernel_rfl) fun v4 h => ?_
 refine cl 0 h (term_lexical_ok _ _) (by kernel_rfl) fun v5 h => ?_
 refine cd 7 h (by kernel_rfl) (fun h => ?_) fun h => ?_
 ·cases h; exact lq 6 (by kernel_rfl)
 refine dw 6 5 (by kernel_rfl) ?_
 obtain ⟨v6, hv6, h⟩ := Option.bind_eq_some_iff.1 h
 refine nst 2 (n_hcall (f := 102) (args := #[(.const (.slice none 0 0)), (.tmp 29), (.tmp 30)]) (ts := #[23, 42, 97]) (cs := [.one .keep, .one .keep, .one .keep]) (by kernel_rfl) (by kernel_rfl) (term_collect_h3_ok (a0) _ hv6) (.inr ⟨2, _, 3, 1, List.map eI (v6), rfl, by kernel_rfl, by simp, rfl⟩)) (by kernel_rfl) ?_
 refine wle 3 ((le_a (by kernel_rfl) : LeSt _ ⟨36, [(31, (.fz ((eL 1 eI) (v6)))), (32, (.fz (eTm (a1)))), (33, (.fn 105 []))], [], [], []⟩)) (by kernel_rfl) ?_
 refine inl 0 (f := 102) (fn := Try.f102) (n := 28) (gi := 1) (ys := [(.fz (.atom (.slice none 0 0))), (.fz (eTm (a1))), (.fn 105 [])]) Try.func102 (by kernel_rfl) (by kernel_rfl) (by kernel_rfl) (by kernel_rfl) (by kernel_rfl) (by kernel_rfl) ?_
 intro gs1
 refine wle 0 ((le_a (by kernel_rfl) : LeSt _ ⟨28, [(0, (.fz (.atom (.slice none 0 0)))), (1, (.fz (eTm (a1)))), (2, (.fn 105 []))], [(1, (.gho gs1 [(.fz ((eL 1 eI) (v6))), (.fz (eTm (a1))), (.fn 105 [])]))], [1], []⟩)) (by kernel_rfl) ?_
 refine hcl 10 [.one .keep] [] [] [] h (term_Compare_1_h_ok _) (fun _ => by kernel_rfl) fun v7 h => ?_
 refine wle 1 (le_nilrow (e := 3) (size := 1) (t := 9) (id := 3) (by decide) (by kernel_rfl) (by kernel_rfl)) (by kernel_rfl) ?_
 refine ap nI 0 h (by kernel_rfl) fun v8 h => ?_
 refine lp1 11 (fun v9 => ⟨28, [(0, (.row 3 (List.length (v9.2)))), (2, (.fn 105 [])), (16, (.fz ((eL 2 eTmR) (a1.args)))), (17, (fI ((List.length a1.args : Int)))), (18, (fI (v9.1)))], [(1, (.gho gs1 [(.fz ((eL 1 eI) (v6))), (.fz (eTm (a1))), (.fn 105 [])])), (3, (.frow 3 1 (List.map eI (v9.2))))], [3, 1], []⟩) (.exit 0) (fun v13 => ⟨28, [(0, (.row 3 (List.length (v13))))], [(1, (.gho gs1 [(.fz ((eL 1 eI) (v6))), (.fz (eTm (a1))), (.fn 105 [])])), (3, (.frow 3 1 (List.map eI (v13))))], [3, 1], []⟩) h (by kernel_rfl) (by kernel_rfl) (fun v9 r h => ?_) fun v13 h => ?_
 ·unfold term_Compare_l1 at h
  refine cd 5 h (by kernel_rfl) (fun h => ?_) fun h => ?_
  ·refine ix nTmR 5 h (by kernel_rfl) fun v10 h => ?_
   refine hcl 8 [.one .keep, .one .keep, .one .keep] [(3, 1)] [(1, 3)] [1] h (term_collect_h4_ok fuel _ _) (fun _ => by kernel_rfl) fun v11 h => ?_
   cases h; exact lj 6 (by kernel_rfl)
  cases h; exact lo 1 (by kernel_rfl)
 refine li 6 (vs := [(.fz ((eL 1 eI) (v6))), (.fz (eTm (a1))), (.fn 105 [])]) (rv := (.row 3 (List.length (v13)))) (by kernel_rfl) (by kernel_rfl) (.inr ⟨6, by kernel_rfl, by kernel_rfl⟩) ?_
 refine wle 0 (le_freezeTs (id := 3) (n := List.length (v13)) (e := 3) (size := 1) (xs := List.map eI (v13)) [34] ⟨by kernel_rfl, trivial⟩ (by kernel_rfl) (by simp)) (by kernel_rfl) ?_
 refine cl 0 h (term_lexical_ok _ _) (by kernel_rfl) fun v14 h => ?_
 cases h; exact lq 3 (by kernel_rfl)

def term_Depth_l1 (a0 : Tm) (r93 : (Tm) → Option (Int)) (v1 : (Int) × (Int)) : Option (((Int) × (Int)) ⊕ ((Int))) := (bif (decide (v1.2 < (List.length a0.args : Int))) then (Option.bind (idx a0.args v1.2) fun v2 => (Option.bind (r93 (v2)) fun v3 => (some (.inl ((imax v1.1 v3), (w64 (v1.2 + 1))))))) else (some (.inr (v1.1))))
def term_Depth_b (r93 : (Tm) → Option (Int)) (a0 : Tm) : Option (Int) := (Option.bind (loopN (term_Depth_l1 a0 r93) fuel (0, 0)) fun (v5 : (Int)) => (some (w64 (v5 + 1))))
theorem term_Depth_b_ok (r93 : (Tm) → Option (Int)) (ih93 : ∀ (x0 : Tm) r, r93 x0 = some r → PCall Try.prog 93 [eTm x0] (eI (r))) (a0 : Tm) (r : Int) (h : term_Depth_b r93 a0 = some r) : PCall Try.prog 93 [eTm a0] (eI (r)) := by
 unfold term_Depth_b at h
 refine pcl [.one .keep] Try.func93 (by kernel_rfl) (by kernel_rfl) (by kernel_rfl) ?_
 refine lp1 18 (fun v1 => ⟨20, [(3, (fI (v1.1))), (7, (.fz ((eL 2 eTmR) (a0.args)))), (8, (fI ((List.length a0.args : Int)))), (9, (fI (v1.2)))], [], [], []⟩) (.exit 0) (fun v5 => ⟨20, [(3, (fI (v5)))], [], [], []⟩) h (by kernel_rfl) (by kernel_rfl) (fun v1 r h => ?_) fun v5 h => ?_
 ·unfold term_Depth_l1 at h
  refine cd 5 h (by kernel_rfl) (fun h => ?_) fun h => ?_
  ·refine ix nTmR 5 h (by kernel_rfl) fun v2 h => ?_
   refine cl 7 h (ih93 _) (by kernel_rfl) fun v3 h => ?_
   cases h; exact lj 7 (by kernel_rfl)
  cases h; exact lo 1 (by kernel_rfl)
 cases h; exact lq 7 (by kernel_rfl)
def term_Depth : Nat → (Tm) → Option (Int)
  | 0 => fun _ => none
  | n + 1 => term_Depth_b (term_Depth n)
theorem term_Depth_ok : ∀ (n : Nat) (x0 : Tm) r, term_Depth n x0 = some r → PCall Try.prog 93 [eTm x0] (eI (r))
  | 0, _, _, h => by cases h
  | n + 1, x0, r, h => term_Depth_b_ok (term_Depth n) (term_Depth_ok n) x0 r h

def synthesislaw13_alive  : Option (Bool) := (Option.bind ((Option.bind (term_Size fuel ((Tm.mk (1) (([(Tm.mk (0) (([] : List Tm))), (Tm.mk (0) (([] : List Tm)))] : List (Tm)))))) fun v1 => (bif (v1 == 3) then (Option.bind (term_Depth fuel ((Tm.mk (1) (([(Tm.mk (0) (([] : List Tm))), (Tm.mk (0) (([] : List Tm)))] : List (Tm)))))) fun v2 => (bif (v2 == 2) then (Option.bind (idx ([(Tm.mk (0) (([] : List Tm))), (Tm.mk (0) (([] : List Tm)))] : List (Tm)) 0) fun v3 => (Option.bind (term_Compare ((Tm.mk (1) (([(Tm.mk (0) (([] : List Tm))), (Tm.mk (0) (([] : List Tm)))] : List (Tm))))) (v3)) fun v4 => (some ((v4 == 1))))) else (some (false)))) else (some (false)))) : Option ((Bool))) fun (v6 : (Bool)) => (some v6))
theorem synthesislaw13_alive_ok  (r : Bool) (h : synthesislaw13_alive  = some r) : PCall Try.prog 38 [] (eB (r)) := by
 unfold synthesislaw13_alive at h
 refine pcl [.one .keep] Try.func38 (by kernel_rfl) (by kernel_rfl) (by kernel_rfl) ?_
 refine wle 8 ((le_a (by kernel_rfl) : LeSt _ ⟨23, [(2, (.fz (eTm ((Tm.mk (0) (([] : List Tm))))))), (3, (.fz (.agg [(eI (0)), (.atom (.slice none 0 0))])))], [], [], []⟩)) (by kernel_rfl) ?_
 refine wle 0 ((le_a (by kernel_rfl) : LeSt _ ⟨23, [(2, (.fz (eTm ((Tm.mk (0) (([] : List Tm))))))), (3, (.fz (eTm ((Tm.mk (0) (([] : List Tm)))))))], [], [], []⟩)) (by kernel_rfl) ?_
 refine wle 1 (le_eq (t := 4) (x := .lim 2 2 [eTm ((Tm.mk (0) (([] : List Tm)))), eTm ((Tm.mk (0) (([] : List Tm))))]) (y := .lim 2 2 (List.map eTmR ([(Tm.mk (0) (([] : List Tm))), (Tm.mk (0) (([] : List Tm)))] : List (Tm)))) (by kernel_rfl) (by simp only [List.map, eTmR_eq])) (by kernel_rfl) ?_
 refine jn1 5 .normal (fun v6 => ⟨23, [(0, (fB (v6)))], [], [], []⟩) h (by kernel_rfl) (fun v6 h => ?_) fun v6 h => ?_
 ·refine dw 0 14 (by kernel_rfl) ?_
  refine cl 1 h (term_Size_ok _ _) (by kernel_rfl) fun v1 h => ?_
  refine gd 2 h (by kernel_rfl) (fun h => ?_) fun h => ?_
  ·refine cl 1 h (term_Depth_ok _ _) (by kernel_rfl) fun v2 h => ?_
   refine gd 3 h (by kernel_rfl) (fun h => ?_) fun h => ?_
   ·refine ix nTmR 3 h (by kernel_rfl) fun v3 h => ?_
    refine cl 2 h (term_Compare_ok _ _) (by kernel_rfl) fun v4 h => ?_
    cases h; exact lj 4 (by kernel_rfl)
   cases h; exact lj 11 (by kernel_rfl)
  cases h; exact lj 16 (by kernel_rfl)
 cases h; exact lq 1 (by kernel_rfl)

def synthesislaw13_TermChecks (a0 : La) (a1 : Int) (a2 : Tm) : Option (Bool) := (Option.bind ((Option.bind (synthesisref13_Few (a0)) fun v1 => (bif (!v1) then (Option.bind (synthesislaw13_alive ) fun v2 => (some (v2))) else (Option.bind (synthesislaw13_small (([a2] : List (Tm)))) fun v3 => (bif (!v3) then (Option.bind (synthesislaw13_alive ) fun v4 => (some (v4))) else (Option.bind (term_Check (a0) (a1) (a2)) fun v5 => (Option.bind (synthesisref13_Check (a0) (a1) (a2)) fun v6 => (bif (v5 == v6) then (Option.bind (synthesislaw13_alive ) fun v7 => (some (v7))) else (some (false))))))))) : Option ((Bool))) fun (v9 : (Bool)) => (some v9))
theorem synthesislaw13_TermChecks_ok (a0 : La) (a1 : Int) (a2 : Tm) (r : Bool) (h : synthesislaw13_TermChecks a0 a1 a2 = some r) : PCall Try.prog 7 [eLa a0, eI a1, eTm a2] (eB (r)) := by
 unfold synthesislaw13_TermChecks at h
 refine pcl [.one .keep] Try.func7 (by kernel_rfl) (by kernel_rfl) (by kernel_rfl) ?_
 refine jn1 7 .normal (fun v9 => ⟨30, [(6, (fB (v9)))], [], [], []⟩) h (by kernel_rfl) (fun v9 h => ?_) fun v9 h => ?_
 ·refine dw 0 17 (by kernel_rfl) ?_
  refine cl 1 h (synthesisref13_Few_ok _) (by kernel_rfl) fun v1 h => ?_
  refine gd 2 h (by kernel_rfl) (fun h => ?_) fun h => ?_
  ·refine cl 18 h (synthesislaw13_alive_ok) (by kernel_rfl) fun v2 h => ?_
   cases h; exact lj 3 (by kernel_rfl)
  refine nst 1 ((nstep_co (st' := ⟨30, [(11, (.fz (eTm (a2))))], [], [], []⟩) (ids := []) (ts := [(11, (.one .keep))]) (by kernel_rfl) (nstep_ok (c := .lim 2 1 [eTm (a2)]) tt_ok (by kernel_rfl))).eqv (show AV.lim 2 1 [eTm (a2)] = .lim 2 1 (List.map eTmR ([a2] : List (Tm))) by simp only [List.map, eTmR_eq])) (by kernel_rfl) ?_
  refine cl 0 h (synthesislaw13_small_ok _) (by kernel_rfl) fun v3 h => ?_
  refine gd 3 h (by kernel_rfl) (fun h => ?_) fun h => ?_
  ·refine cl 12 h (synthesislaw13_alive_ok) (by kernel_rfl) fun v4 h => ?_
   cases h; exact lj 3 (by kernel_rfl)
  refine cl 3 h (term_Check_ok _ _ _) (by kernel_rfl) fun v5 h => ?_
  refine cl 4 h (synthesisref13_Check_ok _ _ _) (by kernel_rfl) fun v6 h => ?_
  refine gd 3 h (by kernel_rfl) (fun h => ?_) fun h => ?_
  ·refine cl 0 h (synthesislaw13_alive_ok) (by kernel_rfl) fun v7 h => ?_
   cases h; exact lj 3 (by kernel_rfl)
  cases h; exact lj 4 (by kernel_rfl)
 cases h; exact lq 1 (by kernel_rfl)

structure S_term_builder where
  f_l : La
  f_rules : List Int
def eS_term_builder (x : S_term_builder) : FV := .agg [eS (x.f_l.name), (eL 1 eI) (x.f_l.inputs), (eL 2 eSy) (x.f_l.symbols), (eL 9 eRu) (x.f_l.rules), (eL 1 eI) (x.f_rules)]
def nS_term_builder : En S_term_builder := ⟨eS_term_builder, 5, fun x => (eS_term_builder x).cells, fun _ => rfl, fun _ => rfl⟩
structure S_term_failure where
  f_e : Int
def eS_term_failure (x : S_term_failure) : FV := .agg [eI (x.f_e)]
def nS_term_failure : En S_term_failure := ⟨eS_term_failure, 1, fun x => (eS_term_failure x).cells, fun _ => rfl, fun _ => rfl⟩
def term_builder_next_h_l1 (a0 : S_term_builder) (r11 : (S_term_builder) → (Int) → Option (((List Int) × (Int) × (List Tm)) ⊕ ((S_term_failure) × (List Int)))) (v5 : Ru) (v8 : (Int) × (List Int) × (List Tm)) : Option (((Int) × (List Int) × (List Tm)) ⊕ ((((List Int) × (List Tm)) ⊕ ((S_term_failure) × (List Int))))) := (bif (decide (v8.1 < (List.length v5.args : Int))) then (Option.bind (idx v5.args v8.1) fun v9 => (Option.bind (r11 ((S_term_builder.mk (a0.f_l) (v8.2.1))) (v9)) fun v11 => Sum.elim (fun v10 => (Option.bind (app 32 v8.2.2 ([(Tm.mk (v10.2.1) (v10.2.2))] : List (Tm))) fun v13 => (some (.inl ((w64 (v8.1 + 1)), v10.1, v13))))) (fun v12 => (some (.inr (.inr (v12.1, v12.2))))) v11)) else (some (.inr (.inl (v8.2.1, v8.2.2)))))
def term_builder_next_h_b (r11 : (S_term_builder) → (Int) → Option (((List Int) × (Int) × (List Tm)) ⊕ ((S_term_failure) × (List Int)))) (a0 : S_term_builder) (a1 : Int) : Option (((List Int) × (Int) × (List Tm)) ⊕ ((S_term_failure) × (List Int))) := (bif ((List.length a0.f_rules : Int) == 0) then (some (.inr ((S_term_failure.mk (2)), a0.f_rules))) else (Option.bind (idx a0.f_rules 0) fun v1 => (Option.bind (cutL a0.f_rules 1 (List.length a0.f_rules)) fun v2 => (Option.bind ((bif (decide (v1 < 0)) then (some (true)) else (some ((decide ((List.length a0.f_l.rules : Int) ≤ v1))))) : Option ((Bool))) fun (v4 : (Bool)) => (bif v4 then (some (.inr ((S_term_failure.mk (1)), v2))) else (Option.bind (idx a0.f_l.rules v1) fun v5 => (Option.bind ((bif (decide (0 ≤ a1)) then (some ((v5.symbol != a1))) else (some (false))) : Option ((Bool))) fun (v7 : (Bool)) => (bif v7 then (some (.inr ((S_term_failure.mk (3)), v2))) else (Option.bind (loopN (term_builder_next_h_l1 a0 r11 v5) fuel (0, v2, ([] : List (Tm)))) fun (v14 : (((List Int) × (List Tm)) ⊕ ((S_term_failure) × (List Int)))) => Sum.elim (fun v15 => (some (.inl (v15.1, v1, v15.2)))) (fun v16 => (some (.inr (v16.1, v16.2)))) v14)))))))))
theorem term_builder_next_h_b_ok (r11 : (S_term_builder) → (Int) → Option (((List Int) × (Int) × (List Tm)) ⊕ ((S_term_failure) × (List Int)))) (ih11 : ∀ (x0 : S_term_builder) (x1 : Int) r, r11 x0 x1 = some r → Sum.elim (fun v => HCall Try.prog 95 ([(.ref 1 0 0), (fI (x1))] ++ []) [(1, (.box 103 [(fS (x0.f_l.name)), (.fz ((eL 1 eI) (x0.f_l.inputs))), (.fz ((eL 2 eSy) (x0.f_l.symbols))), (.fz ((eL 9 eRu) (x0.f_l.rules))), (.fz ((eL 1 eI) (x0.f_rules)))]))] [1] (.ret (.fz (.agg [(eI (v.2.1)), ((eL 2 eTmR) (v.2.2))]))) [(1, (.box 103 [(fS (x0.f_l.name)), (.fz ((eL 1 eI) (x0.f_l.inputs))), (.fz ((eL 2 eSy) (x0.f_l.symbols))), (.fz ((eL 9 eRu) (x0.f_l.rules))), (.fz ((eL 1 eI) (v.1)))])), (2, (.box 42 [(fI (v.2.1)), (.fz ((eL 2 eTmR) (v.2.2)))]))] [1, 2]) (fun v => HCall Try.prog 95 ([(.ref 1 0 0), (fI (x1))] ++ []) [(1, (.box 103 [(fS (x0.f_l.name)), (.fz ((eL 1 eI) (x0.f_l.inputs))), (.fz ((eL 2 eSy) (x0.f_l.symbols))), (.fz ((eL 9 eRu) (x0.f_l.rules))), (.fz ((eL 1 eI) (x0.f_rules)))]))] [1] (.pan (.iface 99 (.agg #[(.int .i64 (v.1.f_e))]))) [(1, (.box 103 [(fS (x0.f_l.name)), (.fz ((eL 1 eI) (x0.f_l.inputs))), (.fz ((eL 2 eSy) (x0.f_l.symbols))), (.fz ((eL 9 eRu) (x0.f_l.rules))), (.fz ((eL 1 eI) (v.2)))]))] [1]) r) (a0 : S_term_builder) (a1 : Int) (r : ((List Int) × (Int) × (List Tm)) ⊕ ((S_term_failure) × (List Int))) (h : term_builder_next_h_b r11 a0 a1 = some r) : Sum.elim (fun v => HCall Try.prog 95 ([(.ref 1 0 0), (fI (a1))] ++ []) [(1, (.box 103 [(fS (a0.f_l.name)), (.fz ((eL 1 eI) (a0.f_l.inputs))), (.fz ((eL 2 eSy) (a0.f_l.symbols))), (.fz ((eL 9 eRu) (a0.f_l.rules))), (.fz ((eL 1 eI) (a0.f_rules)))]))] [1] (.ret (.fz (.agg [(eI (v.2.1)), ((eL 2 eTmR) (v.2.2))]))) [(1, (.box 103 [(fS (a0.f_l.name)), (.fz ((eL 1 eI) (a0.f_l.inputs))), (.fz ((eL 2 eSy) (a0.f_l.symbols))), (.fz ((eL 9 eRu) (a0.f_l.rules))), (.fz ((eL 1 eI) (v.1)))])), (2, (.box 42 [(fI (v.2.1)), (.fz ((eL 2 eTmR) (v.2.2)))]))] [1, 2]) (fun v => HCall Try.prog 95 ([(.ref 1 0 0), (fI (a1))] ++ []) [(1, (.box 103 [(fS (a0.f_l.name)), (.fz ((eL 1 eI) (a0.f_l.inputs))), (.fz ((eL 2 eSy) (a0.f_l.symbols))), (.fz ((eL 9 eRu) (a0.f_l.rules))), (.fz ((eL 1 eI) (a0.f_rules)))]))] [1] (.pan (.iface 99 (.agg #[(.int .i64 (v.1.f_e))]))) [(1, (.box 103 [(fS (a0.f_l.name)), (.fz ((eL 1 eI) (a0.f_l.inputs))), (.fz ((eL 2 eSy) (a0.f_l.symbols))), (.fz ((eL 9 eRu) (a0.f_l.rules))), (.fz ((eL 1 eI) (v.2)))]))] [1]) r := by
 unfold term_builder_next_h_b at h
 refine hcx2 (gi := 0) Try.func95 (by kernel_rfl) (by kernel_rfl) (by kernel_rfl) (by kernel_rfl) (by kernel_rfl) (fun _ => by kernel_rfl) (fun _ => by kernel_rfl) (fun _ => by kernel_rfl) (by kernel_rfl) (fun _ => by kernel_rfl) (fun _ => by kernel_rfl) (fun _ => by kernel_rfl) ?_
 intro p0 q0 w0
 refine cd 14 h (by kernel_rfl) (fun h => ?_) fun h => ?_
 ·refine pnc 3 (v := .iface 99 (.agg #[(.int .i64 (2))])) (by kernel_rfl) ?_
  obtain rfl := Option.some.inj h; exact lhp 0 ⟨83, [], [(0, (.was p0 [1] q0 w0)), (1, (.box 103 [(fS (a0.f_l.name)), (.fz ((eL 1 eI) (a0.f_l.inputs))), (.fz ((eL 2 eSy) (a0.f_l.symbols))), (.fz ((eL 9 eRu) (a0.f_l.rules))), (.fz ((eL 1 eI) (a0.f_rules)))]))], [0, 1], []⟩ (le_a (by kernel_rfl)) rfl rfl (by kernel_rfl) rfl
 refine ix nI 7 h (by kernel_rfl) fun v1 h => ?_
 obtain ⟨v2, hv2, h⟩ := Option.bind_eq_some_iff.1 h
 refine nst 10 (s_cutL (t := 23) (x := (.tmp 28)) (lo := (some (.const (.int .i64 1)))) (hi := none) (d := tt23) (e := 3) (de := tt3) (size := 1) (enc := eI) (xs := a0.f_rules) (l := (some 1)) (h := none) hv2 tt_ok (by kernel_rfl) (by kernel_rfl) (by kernel_rfl) (by kernel_rfl) (by kernel_rfl) (by kernel_rfl) (by kernel_rfl) (by kernel_rfl)) (by kernel_rfl) ?_
 refine jn1 6 .normal (fun v4 => ⟨83, [(0, (.ref 1 0 0)), (1, (fI (a1))), (4, (.ref 2 0 0)), (5, (fI (v1))), (43, (fB (v4)))], [(0, (.was p0 [1] q0 w0)), (1, (.box 103 [(fS (a0.f_l.name)), (.fz ((eL 1 eI) (a0.f_l.inputs))), (.fz ((eL 2 eSy) (a0.f_l.symbols))), (.fz ((eL 9 eRu) (a0.f_l.rules))), (.fz ((eL 1 eI) (v2)))])), (2, (.box 42 [(fI (0)), (.fz (.atom (.slice none 0 0)))]))], [2, 0, 1], []⟩) h (by kernel_rfl) (fun v4 h => ?_) fun v4 h => ?_
 ·refine gd 4 h (by kernel_rfl) (fun h => ?_) fun h => ?_
  ·cases h; exact lj 10 (by kernel_rfl)
  cases h; exact lj 10 (by kernel_rfl)
 refine cd 0 h (by kernel_rfl) (fun h => ?_) fun h => ?_
 ·refine pnc 3 (v := .iface 99 (.agg #[(.int .i64 (1))])) (by kernel_rfl) ?_
  obtain rfl := Option.some.inj h; exact lhp 0 ⟨83, [], [(0, (.was p0 [1] q0 w0)), (1, (.box 103 [(fS (a0.f_l.name)), (.fz ((eL 1 eI) (a0.f_l.inputs))), (.fz ((eL 2 eSy) (a0.f_l.symbols))), (.fz ((eL 9 eRu) (a0.f_l.rules))), (.fz ((eL 1 eI) (v2)))]))], [0, 1], []⟩ (le_a (by kernel_rfl)) rfl rfl (by kernel_rfl) rfl
 refine ix nRu 9 h (by kernel_rfl) fun v5 h => ?_
 refine jn1 6 .normal (fun v7 => ⟨83, [(0, (.ref 1 0 0)), (4, (.ref 2 0 0)), (5, (fI (v1))), (6, (.ref 3 0 0)), (61, (fB (v7)))], [(0, (.was p0 [1] q0 w0)), (1, (.box 103 [(fS (a0.f_l.name)), (.fz ((eL 1 eI) (a0.f_l.inputs))), (.fz ((eL 2 eSy) (a0.f_l.symbols))), (.fz ((eL 9 eRu) (a0.f_l.rules))), (.fz ((eL 1 eI) (v2)))])), (2, (.box 42 [(fI (0)), (.fz (.atom (.slice none 0 0)))])), (3, (.box 67 [(fI (v5.symbol)), (fI (v5.kind)), (fI (v5.input)), (fI (v5.const.type)), (fI (v5.const.num)), (fS (v5.const.text)), (.fz ((eL 4 eVaR) (v5.const.items))), (fS (v5.op)), (.fz ((eL 1 eI) (v5.args)))]))], [3, 2, 0, 1], []⟩) h (by kernel_rfl) (fun v7 h => ?_) fun v7 h => ?_
 ·refine gd 4 h (by kernel_rfl) (fun h => ?_) fun h => ?_
  ·cases h; exact lj 6 (by kernel_rfl)
  cases h; exact lj 6 (by kernel_rfl)
 refine cd 0 h (by kernel_rfl) (fun h => ?_) fun h => ?_
 ·refine pnc 3 (v := .iface 99 (.agg #[(.int .i64 (3))])) (by kernel_rfl) ?_
  obtain rfl := Option.some.inj h; exact lhp 0 ⟨83, [], [(0, (.was p0 [1] q0 w0)), (1, (.box 103 [(fS (a0.f_l.name)), (.fz ((eL 1 eI) (a0.f_l.inputs))), (.fz ((eL 2 eSy) (a0.f_l.symbols))), (.fz ((eL 9 eRu) (a0.f_l.rules))), (.fz ((eL 1 eI) (v2)))]))], [0, 1], []⟩ (le_a (by kernel_rfl)) rfl rfl (by kernel_rfl) rfl
 refine wle 17 (le_nilcell (e2 := 42) (e := 42) (size := 2) (id2 := 4) (j := 1) (id := 5) (cells := [(fI (v1)), (.fz (.atom (.slice none 0 0)))]) (by kernel_rfl) (by kernel_rfl) (by kernel_rfl) (by kernel_rfl)) (by kernel_rfl) ?_
 refine lpx 0 (fun v8 => ⟨83, [(0, (.ref 1 0 0)), (4, (.ref 2 0 0)), (7, (.ref 4 0 0)), (67, (.fz ((eL 1 eI) (v5.args)))), (68, (fI ((List.length v5.args : Int)))), (69, (fI (v8.1)))], [(0, (.was p0 [1] q0 w0)), (1, (.box 103 [(fS (a0.f_l.name)), (.fz ((eL 1 eI) (a0.f_l.inputs))), (.fz ((eL 2 eSy) (a0.f_l.symbols))), (.fz ((eL 9 eRu) (a0.f_l.rules))), (.fz ((eL 1 eI) (v8.2.1)))])), (2, (.box 42 [(fI (0)), (.fz (.atom (.slice none 0 0)))])), (4, (.box 42 [(fI (v1)), (.row 5 (List.length (v8.2.2)))])), (5, (.frow 42 2 (List.map eTmR (v8.2.2))))], [5, 4, 2, 0, 1], []⟩) (fun v14 e st => Sum.elim (fun p => e = .exit 0 ∧ LeSt st ⟨83, [(4, (.ref 2 0 0)), (7, (.ref 4 0 0))], [(0, (.was p0 [1] q0 w0)), (1, (.box 103 [(fS (a0.f_l.name)), (.fz ((eL 1 eI) (a0.f_l.inputs))), (.fz ((eL 2 eSy) (a0.f_l.symbols))), (.fz ((eL 9 eRu) (a0.f_l.rules))), (.fz ((eL 1 eI) (p.1)))])), (2, (.box 42 [(fI (0)), (.fz (.atom (.slice none 0 0)))])), (4, (.box 42 [(fI (v1)), (.row 5 (List.length (p.2)))])), (5, (.frow 42 2 (List.map eTmR (p.2))))], [5, 4, 2, 0, 1], []⟩) (fun p => e = .panic [pnE (.iface 99 (.agg #[(.int .i64 (p.1.f_e))]))] ∧ LeSt st ⟨83, [], [(0, (.was p0 [1] q0 w0)), (1, (.box 103 [(fS (a0.f_l.name)), (.fz ((eL 1 eI) (a0.f_l.inputs))), (.fz ((eL 2 eSy) (a0.f_l.symbols))), (.fz ((eL 9 eRu) (a0.f_l.rules))), (.fz ((eL 1 eI) (p.2)))]))], [0, 1], []⟩) v14) h (by kernel_rfl) (le_a (by kernel_rfl)) (fun v8 r h => ?_) fun v14 h e st' hq => ?_
 ·unfold term_builder_next_h_l1 at h
  refine cd 5 h (by kernel_rfl) (fun h => ?_) fun h => ?_
  ·refine ix nI 5 h (by kernel_rfl) fun v9 h => ?_
   refine dz 3 6 [4] [1, 6] (List.range 7) (by kernel_rfl) ?_
   refine hclSZ 4 [.one .keep, .one .keep] [(1, 1)] [(1, 1), (2, 6)] [1] h (ih11 _ _) (fun _ => by kernel_rfl) (fun _ => by kernel_rfl) (by kernel_rfl) (fun _ => by kernel_rfl) (fun v12 h => ?_) (fun _ _ => ?_) fun v10 h => ?_
   ·cases h; exact lop 0 (le_a (by kernel_rfl)) (by kernel_rfl)
   ·exact zdd 1 (by kernel_rfl)
   refine nst 0 ((nstep_co (st' := ⟨83, [(77, (.fz (eTm ((Tm.mk (v10.2.1) (v10.2.2))))))], [], [], []⟩) (ids := []) (ts := [(77, (.ag [.keep, .sl 2]))]) (by kernel_rfl) (nstep_ok (c := .lim 2 1 [eTm ((Tm.mk (v10.2.1) (v10.2.2)))]) tt_ok (by kernel_rfl))).eqv (show AV.lim 2 1 [eTm ((Tm.mk (v10.2.1) (v10.2.2)))] = .lim 2 1 (List.map eTmR ([(Tm.mk (v10.2.1) (v10.2.2))] : List (Tm))) by simp only [List.map, eTmR_eq])) (by kernel_rfl) ?_
   refine ap nTmR 1 h (by kernel_rfl) fun v13 h => ?_
   cases h; exact lj 7 (by kernel_rfl)
  cases h; exact lo 1 (by kernel_rfl)
 rcases v14 with v15 | v16
 ·try simp only [Sum.elim_inl, Sum.elim_inr] at h
  obtain ⟨rfl, hle⟩ := hq
  refine ⟨_, hle, ?_⟩
  refine wle 5 (le_freezeCell (e2 := 42) (id2 := 2) (j := 1) (id := 5) (n := List.length (v15.2)) (e := 42) (size := 2) (xs := List.map eTmR (v15.2)) (cells := [(fI (v1)), (.row 5 (List.length (v15.2)))]) (by kernel_rfl) (by kernel_rfl) (by kernel_rfl) (by simp)) (by kernel_rfl) ?_
  obtain rfl := Option.some.inj h; exact lh 1 ⟨83, [(4, (.ref 2 0 0))], [(0, (.was p0 [1] q0 w0)), (1, (.box 103 [(fS (a0.f_l.name)), (.fz ((eL 1 eI) (a0.f_l.inputs))), (.fz ((eL 2 eSy) (a0.f_l.symbols))), (.fz ((eL 9 eRu) (a0.f_l.rules))), (.fz ((eL 1 eI) (v15.1)))])), (2, (.box 42 [(fI (v1)), (.fz ((eL 2 eTmR) (v15.2)))]))], [0, 1, 2], []⟩ (le_a (by kernel_rfl)) rfl rfl (by kernel_rfl) (by kernel_rfl)
 ·try simp only [Sum.elim_inl, Sum.elim_inr] at h
  obtain ⟨rfl, hle⟩ := hq
  refine ⟨_, hle, ?_⟩
  obtain rfl := Option.some.inj h; exact lhp 0 ⟨83, [], [(0, (.was p0 [1] q0 w0)), (1, (.box 103 [(fS (a0.f_l.name)), (.fz ((eL 1 eI) (a0.f_l.inputs))), (.fz ((eL 2 eSy) (a0.f_l.symbols))), (.fz ((eL 9 eRu) (a0.f_l.rules))), (.fz ((eL 1 eI) (v16.2)))]))], [0, 1], []⟩ (le_a (by kernel_rfl)) rfl rfl (by kernel_rfl) rfl
def term_builder_next_h : Nat → (S_term_builder) → (Int) → Option (((List Int) × (Int) × (List Tm)) ⊕ ((S_term_failure) × (List Int)))
  | 0 => fun _ _ => none
  | n + 1 => term_builder_next_h_b (term_builder_next_h n)
theorem term_builder_next_h_ok : ∀ n : Nat, ∀ (x0 : S_term_builder) (x1 : Int) r, term_builder_next_h n x0 x1 = some r → Sum.elim (fun v => HCall Try.prog 95 ([(.ref 1 0 0), (fI (x1))] ++ []) [(1, (.box 103 [(fS (x0.f_l.name)), (.fz ((eL 1 eI) (x0.f_l.inputs))), (.fz ((eL 2 eSy) (x0.f_l.symbols))), (.fz ((eL 9 eRu) (x0.f_l.rules))), (.fz ((eL 1 eI) (x0.f_rules)))]))] [1] (.ret (.fz (.agg [(eI (v.2.1)), ((eL 2 eTmR) (v.2.2))]))) [(1, (.box 103 [(fS (x0.f_l.name)), (.fz ((eL 1 eI) (x0.f_l.inputs))), (.fz ((eL 2 eSy) (x0.f_l.symbols))), (.fz ((eL 9 eRu) (x0.f_l.rules))), (.fz ((eL 1 eI) (v.1)))])), (2, (.box 42 [(fI (v.2.1)), (.fz ((eL 2 eTmR) (v.2.2)))]))] [1, 2]) (fun v => HCall Try.prog 95 ([(.ref 1 0 0), (fI (x1))] ++ []) [(1, (.box 103 [(fS (x0.f_l.name)), (.fz ((eL 1 eI) (x0.f_l.inputs))), (.fz ((eL 2 eSy) (x0.f_l.symbols))), (.fz ((eL 9 eRu) (x0.f_l.rules))), (.fz ((eL 1 eI) (x0.f_rules)))]))] [1] (.pan (.iface 99 (.agg #[(.int .i64 (v.1.f_e))]))) [(1, (.box 103 [(fS (x0.f_l.name)), (.fz ((eL 1 eI) (x0.f_l.inputs))), (.fz ((eL 2 eSy) (x0.f_l.symbols))), (.fz ((eL 9 eRu) (x0.f_l.rules))), (.fz ((eL 1 eI) (v.2)))]))] [1]) r
  | 0 => fun _ _ _ h => by cases h
  | n + 1 => fun a0 a1 r h => term_builder_next_h_b_ok (term_builder_next_h n) (term_builder_next_h_ok n) a0 a1 r h

def synthesisref13_read_l1 (a0 : La) (a2 : List Int) (r96 : (La) → (Int) → (List Int) → Option ((Tm) × (Int) × (Int))) (v6 : Ru) (v10 : (Int) × (Int) × (List Tm)) : Option (((Int) × (Int) × (List Tm)) ⊕ ((((Int) × (List Tm)) ⊕ ((Tm) × (Int) × (Int))))) := (Option.bind (synthesisref13_Arity (v6)) fun v11 => (bif (decide (v10.2.1 < v11)) then (Option.bind (idx v6.args v10.2.1) fun v12 => (Option.bind (cutL a2 v10.1 (List.length a2)) fun v13 => (Option.bind (r96 (a0) (v12) (v13)) fun v14 => (bif (v14.2.2 != 0) then (some (.inr (.inr ((Tm.mk (0) (([] : List Tm))), 0, v14.2.2)))) else (Option.bind (app 32 v10.2.2 ([v14.1] : List (Tm))) fun v15 => (some (.inl ((w64 (v10.1 + v14.2.1)), (w64 (v10.2.1 + 1)), v15)))))))) else (some (.inr (.inl (v10.1, v10.2.2))))))
def synthesisref13_read_b (r96 : (La) → (Int) → (List Int) → Option ((Tm) × (Int) × (Int))) (a0 : La) (a1 : Int) (a2 : List Int) : Option ((Tm) × (Int) × (Int)) := (bif ((List.length a2 : Int) == 0) then (some ((Tm.mk (0) (([] : List Tm))), 0, 2)) else (Option.bind ((Option.bind (idx a2 0) fun v1 => (bif (decide (v1 < 0)) then (some (true)) else (Option.bind (idx a2 0) fun v2 => (some ((decide ((List.length a0.rules : Int) ≤ v2))))))) : Option ((Bool))) fun (v4 : (Bool)) => (bif v4 then (some ((Tm.mk (0) (([] : List Tm))), 0, 1)) else (Option.bind (idx a2 0) fun v5 => (Option.bind (idx a0.rules v5) fun v6 => (Option.bind ((bif (decide (0 ≤ a1)) then (some ((v6.symbol != a1))) else (some (false))) : Option ((Bool))) fun (v8 : (Bool)) => (bif v8 then (some ((Tm.mk (0) (([] : List Tm))), 0, 3)) else (Option.bind (idx a2 0) fun v9 => (Option.bind (loopN (synthesisref13_read_l1 a0 a2 r96 v6) fuel (1, 0, ([] : List (Tm)))) fun (v16 : (((Int) × (List Tm)) ⊕ ((Tm) × (Int) × (Int)))) => Sum.elim (fun v17 => (some ((Tm.mk (v9) (v17.2)), v17.1, 0))) (fun v18 => (some v18)) v16)))))))))
theorem synthesisref13_read_b_ok (r96 : (La) → (Int) → (List Int) → Option ((Tm) × (Int) × (Int))) (ih96 : ∀ (x0 : La) (x1 : Int) (x2 : List Int) r, r96 x0 x1 x2 = some r → PCall Try.prog 96 [eLa x0, eI x1, (eL 1 eI) x2] (.tup [eTm (r.1), eI (r.2.1), eI (r.2.2)])) (a0 : La) (a1 : Int) (a2 : List Int) (r : (Tm) × (Int) × (Int)) (h : synthesisref13_read_b r96 a0 a1 a2 = some r) : PCall Try.prog 96 [eLa a0, eI a1, (eL 1 eI) a2] (.tup [eTm (r.1), eI (r.2.1), eI (r.2.2)]) := by
 unfold synthesisref13_read_b at h
 refine pcl [.ag [.keep, .sl 2], .one .keep, .one .keep] Try.func96 (by kernel_rfl) (by kernel_rfl) (by kernel_rfl) ?_
 refine cd 14 h (by kernel_rfl) (fun h => ?_) fun h => ?_
 ·cases h; exact lq 8 (by kernel_rfl)
 refine jn1 3 .normal (fun v4 => ⟨89, [(1, (fI (a1))), (2, (.fz ((eL 1 eI) (a2)))), (3, (.ref 1 0 0)), (6, (.ref 2 0 0)), (32, (fB (v4)))], [(1, (.box 27 [(fS (a0.name)), (.fz ((eL 1 eI) (a0.inputs))), (.fz ((eL 2 eSy) (a0.symbols))), (.fz ((eL 9 eRu) (a0.rules)))])), (2, (.box 42 [(fI (0)), (.fz (.atom (.slice none 0 0)))]))], [2, 1], []⟩) h (by kernel_rfl) (fun v4 h => ?_) fun v4 h => ?_
 ·refine dw 0 11 (by kernel_rfl) ?_
  refine ix nI 1 h (by kernel_rfl) fun v1 h => ?_
  refine gd 3 h (by kernel_rfl) (fun h => ?_) fun h => ?_
  ·cases h; exact lj 10 (by kernel_rfl)
  refine ix nI 1 h (by kernel_rfl) fun v2 h => ?_
  cases h; exact lj 8 (by kernel_rfl)
 refine cd 0 h (by kernel_rfl) (fun h => ?_) fun h => ?_
 ·cases h; exact lq 8 (by kernel_rfl)
 refine dz 2 8 [7] [3] (List.range 4) (by kernel_rfl) ?_
 refine ix nI 3 h (by kernel_rfl) fun v5 h => ?_
 refine ix nRu 1 h (by kernel_rfl) fun v6 h => ?_
 refine jn1 7 .normal (fun v8 => ⟨89, [(2, (.fz ((eL 1 eI) (a2)))), (3, (.ref 1 0 0)), (6, (.ref 2 0 0)), (9, (.ref 3 0 0)), (48, (fB (v8)))], [(1, (.box 27 [(fS (a0.name)), (.fz ((eL 1 eI) (a0.inputs))), (.fz ((eL 2 eSy) (a0.symbols))), (.fz ((eL 9 eRu) (a0.rules)))])), (2, (.box 42 [(fI (0)), (.fz (.atom (.slice none 0 0)))])), (3, (.box 67 [(fI (v6.symbol)), (fI (v6.kind)), (fI (v6.input)), (fI (v6.const.type)), (fI (v6.const.num)), (fS (v6.const.text)), (.fz ((eL 4 eVaR) (v6.const.items))), (fS (v6.op)), (.fz ((eL 1 eI) (v6.args)))]))], [3, 2, 1], []⟩) h (by kernel_rfl) (fun v8 h => ?_) fun v8 h => ?_
 ·refine gd 4 h (by kernel_rfl) (fun h => ?_) fun h => ?_
  ·cases h; exact lj 6 (by kernel_rfl)
  cases h; exact lj 6 (by kernel_rfl)
 refine cd 0 h (by kernel_rfl) (fun h => ?_) fun h => ?_
 ·cases h; exact lq 8 (by kernel_rfl)
 refine ix nI 4 h (by kernel_rfl) fun v9 h => ?_
 refine wle 15 (le_nilcell (e2 := 42) (e := 42) (size := 2) (id2 := 4) (j := 1) (id := 5) (cells := [(fI (v9)), (.fz (.atom (.slice none 0 0)))]) (by kernel_rfl) (by kernel_rfl) (by kernel_rfl) (by kernel_rfl)) (by kernel_rfl) ?_
 refine lpx 0 (fun v10 => ⟨89, [(2, (.fz ((eL 1 eI) (a2)))), (3, (.ref 1 0 0)), (6, (.ref 2 0 0)), (9, (.ref 3 0 0)), (10, (.ref 4 0 0)), (11, (fI (v10.1))), (12, (fI (v10.2.1)))], [(1, (.box 27 [(fS (a0.name)), (.fz ((eL 1 eI) (a0.inputs))), (.fz ((eL 2 eSy) (a0.symbols))), (.fz ((eL 9 eRu) (a0.rules)))])), (2, (.box 42 [(fI (0)), (.fz (.atom (.slice none 0 0)))])), (3, (.box 67 [(fI (v6.symbol)), (fI (v6.kind)), (fI (v6.input)), (fI (v6.const.type)), (fI (v6.const.num)), (fS (v6.const.text)), (.fz ((eL 4 eVaR) (v6.const.items))), (fS (v6.op)), (.fz ((eL 1 eI) (v6.args)))])), (4, (.box 42 [(fI (v9)), (.row 5 (List.length (v10.2.2)))])), (5, (.frow 42 2 (List.map eTmR (v10.2.2))))], [5, 4, 3, 2, 1], []⟩) (fun v16 e st => Sum.elim (fun p => e = .exit 0 ∧ LeSt st ⟨89, [(6, (.ref 2 0 0)), (10, (.ref 4 0 0)), (11, (fI (p.1)))], [(2, (.box 42 [(fI (0)), (.fz (.atom (.slice none 0 0)))])), (4, (.box 42 [(fI (v9)), (.row 5 (List.length (p.2)))])), (5, (.frow 42 2 (List.map eTmR (p.2))))], [5, 4, 2], []⟩) (fun p => e = .ret ∧ retX TT st Try.f96.results.toList [.ag [.keep, .sl 2], .one .keep, .one .keep] = some (.tup [eTm (p.1), eI (p.2.1), eI (p.2.2)])) v16) h (by kernel_rfl) (le_a (by kernel_rfl)) (fun v10 r h => ?_) fun v16 h e st' hq => ?_
 ·unfold synthesisref13_read_l1 at h
  refine cl 5 h (synthesisref13_Arity_ok _) (by kernel_rfl) fun v11 h => ?_
  refine cd 2 h (by kernel_rfl) (fun h => ?_) fun h => ?_
  ·refine dz 4 17 [14, 15] [6] (List.range 7) (by kernel_rfl) ?_
   refine ix nI 4 h (by kernel_rfl) fun v12 h => ?_
   obtain ⟨v13, hv13, h⟩ := Option.bind_eq_some_iff.1 h
   refine nst 3 (s_cutL (t := 23) (x := (.tmp 67)) (lo := (some (.tmp 68))) (hi := none) (d := tt23) (e := 3) (de := tt3) (size := 1) (enc := eI) (xs := a2) (l := (some v10.1)) (h := none) hv13 tt_ok (by kernel_rfl) (by kernel_rfl) (by kernel_rfl) (by kernel_rfl) (by kernel_rfl) (by kernel_rfl) (by kernel_rfl) (by kernel_rfl)) (by kernel_rfl) ?_
   refine cl 0 h (ih96 _ _ _) (by kernel_rfl) fun v14 h => ?_
   refine cd 16 h (by kernel_rfl) (fun h => ?_) fun h => ?_
   ·cases h; exact lor 9 (by kernel_rfl)
   refine wle 7 (le_eq (t := 81) (x := .lim 2 1 [eTm (v14.1)]) (y := .lim 2 1 (List.map eTmR ([v14.1] : List (Tm)))) (by kernel_rfl) (by simp only [List.map, eTmR_eq])) (by kernel_rfl) ?_
   refine ap nTmR 0 h (by kernel_rfl) fun v15 h => ?_
   cases h; exact lj 14 (by kernel_rfl)
  cases h; exact lo 1 (by kernel_rfl)
 rcases v16 with v17 | v18
 ·try simp only [Sum.elim_inl, Sum.elim_inr] at h
  obtain ⟨rfl, hle⟩ := hq
  refine ⟨_, hle, ?_⟩
  refine wle 8 (le_freezeCell (e2 := 42) (id2 := 2) (j := 1) (id := 5) (n := List.length (v17.2)) (e := 42) (size := 2) (xs := List.map eTmR (v17.2)) (cells := [(fI (v9)), (.row 5 (List.length (v17.2)))]) (by kernel_rfl) (by kernel_rfl) (by kernel_rfl) (by simp)) (by kernel_rfl) ?_
  cases h; exact lq 1 (by kernel_rfl)
 ·try simp only [Sum.elim_inl, Sum.elim_inr] at h
  obtain ⟨rfl, hret⟩ := hq
  refine ⟨_, LeSt.refl, ?_⟩
  cases h; exact lv hret
def synthesisref13_read : Nat → (La) → (Int) → (List Int) → Option ((Tm) × (Int) × (Int))
  | 0 => fun _ _ _ => none
  | n + 1 => synthesisref13_read_b (synthesisref13_read n)
theorem synthesisref13_read_ok : ∀ (n : Nat) (x0 : La) (x1 : Int) (x2 : List Int) r, synthesisref13_read n x0 x1 x2 = some r → PCall Try.prog 96 [eLa x0, eI x1, (eL 1 eI) x2] (.tup [eTm (r.1), eI (r.2.1), eI (r.2.2)])
  | 0, _, _, _, _, h => by cases h
  | n + 1, x0, x1, x2, r, h => synthesisref13_read_b_ok (synthesisref13_read n) (synthesisref13_read_ok n) x0 x1 x2 r h

def synthesisref13_Build (a0 : La) (a1 : List Int) : Option ((Tm) × (Int)) := (Option.bind (synthesisref11_Check (a0)) fun v1 => (bif (v1 != 0) then (some ((Tm.mk (0) (([] : List Tm))), v1)) else (bif (decide (4096 < (List.length a1 : Int))) then (some ((Tm.mk (0) (([] : List Tm))), 2)) else (Option.bind (synthesisref13_read fuel (a0) ((-1)) (a1)) fun v2 => (bif (v2.2.2 != 0) then (some ((Tm.mk (0) (([] : List Tm))), v2.2.2)) else (Option.bind ((bif (decide (v2.2.1 < (List.length a1 : Int))) then (some (true)) else (Option.bind (synthesisref13_Depth fuel (v2.1)) fun v3 => (some ((decide (32 < v3)))))) : Option ((Bool))) fun (v5 : (Bool)) => (bif v5 then (some ((Tm.mk (0) (([] : List Tm))), 2)) else (some (v2.1, 0)))))))))
theorem synthesisref13_Build_ok (a0 : La) (a1 : List Int) (r : (Tm) × (Int)) (h : synthesisref13_Build a0 a1 = some r) : PCall Try.prog 40 [eLa a0, (eL 1 eI) a1] (.tup [eTm (r.1), eI (r.2)]) := by
 unfold synthesisref13_Build at h
 refine pcl [.ag [.keep, .sl 2], .one .keep] Try.func40 (by kernel_rfl) (by kernel_rfl) (by kernel_rfl) ?_
 refine cl 10 h (synthesisref11_Check_ok _) (by kernel_rfl) fun v1 h => ?_
 refine cd 7 h (by kernel_rfl) (fun h => ?_) fun h => ?_
 ·cases h; exact lq 8 (by kernel_rfl)
 refine cd 8 h (by kernel_rfl) (fun h => ?_) fun h => ?_
 ·cases h; exact lq 7 (by kernel_rfl)
 refine cl 5 h (synthesisref13_read_ok _ _ _ _) (by kernel_rfl) fun v2 h => ?_
 refine cd 15 h (by kernel_rfl) (fun h => ?_) fun h => ?_
 ·cases h; exact lq 8 (by kernel_rfl)
 refine jn1 3 .normal (fun v5 => ⟨42, [(4, (.ref 2 0 0)), (7, (.ref 3 0 0)), (39, (fB (v5)))], [(2, (.box 42 [(fI (0)), (.fz (.atom (.slice none 0 0)))])), (3, (.box 42 [(fI (v2.1.rule)), (.fz ((eL 2 eTmR) (v2.1.args)))]))], [3, 2], []⟩) h (by kernel_rfl) (fun v5 h => ?_) fun v5 h => ?_
 ·refine gd 6 h (by kernel_rfl) (fun h => ?_) fun h => ?_
  ·cases h; exact lj 5 (by kernel_rfl)
  refine cl 1 h (synthesisref13_Depth_ok _ _) (by kernel_rfl) fun v3 h => ?_
  cases h; exact lj 3 (by kernel_rfl)
 refine cd 0 h (by kernel_rfl) (fun h => ?_) fun h => ?_
 ·cases h; exact lq 7 (by kernel_rfl)
 cases h; exact lq 8 (by kernel_rfl)

def synthesisref13_order (a0 : Int) (a1 : Int) : Option (Int) := (bif (decide (a0 < a1)) then (some (-1)) else (bif (decide (a1 < a0)) then (some 1) else (some 0)))
theorem synthesisref13_order_ok (a0 : Int) (a1 : Int) (r : Int) (h : synthesisref13_order a0 a1 = some r) : PCall Try.prog 97 [eI a0, eI a1] (eI (r)) := by
 unfold synthesisref13_order at h
 refine pcl [.one .keep] Try.func97 (by kernel_rfl) (by kernel_rfl) (by kernel_rfl) ?_
 refine cd 11 h (by kernel_rfl) (fun h => ?_) fun h => ?_
 ·cases h; exact lq 5 (by kernel_rfl)
 refine cd 8 h (by kernel_rfl) (fun h => ?_) fun h => ?_
 ·cases h; exact lq 5 (by kernel_rfl)
 cases h; exact lq 6 (by kernel_rfl)

def synthesisref13_Size_l1 (a0 : Tm) (r98 : (Tm) → Option (Int)) (v1 : (Int) × (Int)) : Option (((Int) × (Int)) ⊕ ((Int))) := (bif (decide (v1.2 < (List.length a0.args : Int))) then (Option.bind (idx a0.args v1.2) fun v2 => (Option.bind (r98 (v2)) fun v3 => (some (.inl ((w64 (v1.1 + v3)), (w64 (v1.2 + 1))))))) else (some (.inr (v1.1))))
def synthesisref13_Size_b (r98 : (Tm) → Option (Int)) (a0 : Tm) : Option (Int) := (Option.bind (loopN (synthesisref13_Size_l1 a0 r98) fuel (1, 0)) fun (v5 : (Int)) => (some v5))
theorem synthesisref13_Size_b_ok (r98 : (Tm) → Option (Int)) (ih98 : ∀ (x0 : Tm) r, r98 x0 = some r → PCall Try.prog 98 [eTm x0] (eI (r))) (a0 : Tm) (r : Int) (h : synthesisref13_Size_b r98 a0 = some r) : PCall Try.prog 98 [eTm a0] (eI (r)) := by
 unfold synthesisref13_Size_b at h
 refine pcl [.one .keep] Try.func98 (by kernel_rfl) (by kernel_rfl) (by kernel_rfl) ?_
 refine lp1 15 (fun v1 => ⟨21, [(1, (.ref 1 0 0)), (3, (fI (v1.1))), (4, (fI (v1.2)))], [(1, (.box 42 [(fI (a0.rule)), (.fz ((eL 2 eTmR) (a0.args)))]))], [1], []⟩) (.exit 0) (fun v5 => ⟨21, [(3, (fI (v5)))], [], [], []⟩) h (by kernel_rfl) (by kernel_rfl) (fun v1 r h => ?_) fun v5 h => ?_
 ·unfold synthesisref13_Size_l1 at h
  refine cd 9 h (by kernel_rfl) (fun h => ?_) fun h => ?_
  ·refine ix nTmR 8 h (by kernel_rfl) fun v2 h => ?_
   refine cl 1 h (ih98 _) (by kernel_rfl) fun v3 h => ?_
   cases h; exact lj 8 (by kernel_rfl)
  cases h; exact lo 1 (by kernel_rfl)
 cases h; exact lq 6 (by kernel_rfl)
def synthesisref13_Size : Nat → (Tm) → Option (Int)
  | 0 => fun _ => none
  | n + 1 => synthesisref13_Size_b (synthesisref13_Size n)
theorem synthesisref13_Size_ok : ∀ (n : Nat) (x0 : Tm) r, synthesisref13_Size n x0 = some r → PCall Try.prog 98 [eTm x0] (eI (r))
  | 0, _, _, h => by cases h
  | n + 1, x0, r, h => synthesisref13_Size_b_ok (synthesisref13_Size n) (synthesisref13_Size_ok n) x0 r h

def synthesisref13_CompareInts_l1 (a0 : List Int) (a1 : List Int) (v1 : (Int)) : Option (((Int)) ⊕ (((Unit) ⊕ (Int)))) := (Option.bind ((bif (decide (v1 < (List.length a0 : Int))) then (some ((decide (v1 < (List.length a1 : Int))))) else (some (false))) : Option ((Bool))) fun (v3 : (Bool)) => (bif v3 then (Option.bind (idx a0 v1) fun v4 => (Option.bind (idx a1 v1) fun v5 => (bif (decide (v4 < v5)) then (some (.inr (.inr (-1)))) else (Option.bind (idx a0 v1) fun v6 => (Option.bind (idx a1 v1) fun v7 => (bif (decide (v7 < v6)) then (some (.inr (.inr 1))) else (some (.inl ((w64 (v1 + 1))))))))))) else (some (.inr (.inl ())))))
def synthesisref13_CompareInts (a0 : List Int) (a1 : List Int) : Option (Int) := (Option.bind (loopN (synthesisref13_CompareInts_l1 a0 a1) fuel (0)) fun (v8 : ((Unit) ⊕ (Int))) => Sum.elim (fun v9 => (Option.bind (synthesisref13_order ((List.length a0 : Int)) ((List.length a1 : Int))) fun v10 => (some v10))) (fun v11 => (some v11)) v8)
theorem synthesisref13_CompareInts_ok (a0 : List Int) (a1 : List Int) (r : Int) (h : synthesisref13_CompareInts a0 a1 = some r) : PCall Try.prog 99 [(eL 1 eI) a0, (eL 1 eI) a1] (eI (r)) := by
 unfold synthesisref13_CompareInts at h
 refine pcl [.one .keep] Try.func99 (by kernel_rfl) (by kernel_rfl) (by kernel_rfl) ?_
 refine lpx 10 (fun v1 => ⟨41, [(0, (.fz ((eL 1 eI) (a0)))), (1, (.fz ((eL 1 eI) (a1)))), (5, (fI (v1)))], [], [], []⟩) (fun v8 e st => Sum.elim (fun p => e = .exit 0 ∧ LeSt st ⟨41, [(0, (.fz ((eL 1 eI) (a0)))), (1, (.fz ((eL 1 eI) (a1))))], [], [], []⟩) (fun p => e = .ret ∧ retX TT st Try.f99.results.toList [.one .keep] = some (eI (p))) v8) h (by kernel_rfl) (le_a (by kernel_rfl)) (fun v1 r h => ?_) fun v8 h e st' hq => ?_
 ·unfold synthesisref13_CompareInts_l1 at h
  refine jn1 2 .normal (fun v3 => ⟨41, [(0, (.fz ((eL 1 eI) (a0)))), (1, (.fz ((eL 1 eI) (a1)))), (5, (fI (v1))), (15, (fB (v3)))], [], [], []⟩) h (by kernel_rfl) (fun v3 h => ?_) fun v3 h => ?_
  ·refine gd 6 h (by kernel_rfl) (fun h => ?_) fun h => ?_
   ·cases h; exact lj 6 (by kernel_rfl)
   cases h; exact lj 6 (by kernel_rfl)
  refine cd 0 h (by kernel_rfl) (fun h => ?_) fun h => ?_
  ·refine dw 5 8 (by kernel_rfl) ?_
   refine ix nI 2 h (by kernel_rfl) fun v4 h => ?_
   refine ix nI 3 h (by kernel_rfl) fun v5 h => ?_
   refine cd 4 h (by kernel_rfl) (fun h => ?_) fun h => ?_
   ·cases h; exact lor 5 (by kernel_rfl)
   refine dw 2 8 (by kernel_rfl) ?_
   refine ix nI 2 h (by kernel_rfl) fun v6 h => ?_
   refine ix nI 3 h (by kernel_rfl) fun v7 h => ?_
   refine cd 4 h (by kernel_rfl) (fun h => ?_) fun h => ?_
   ·cases h; exact lor 5 (by kernel_rfl)
   cases h; exact lj 6 (by kernel_rfl)
  cases h; exact lo 1 (by kernel_rfl)
 rcases v8 with v9 | v11
 ·try simp only [Sum.elim_inl, Sum.elim_inr] at h
  obtain ⟨rfl, hle⟩ := hq
  refine ⟨_, hle, ?_⟩
  refine cl 6 h (synthesisref13_order_ok _ _) (by kernel_rfl) fun v10 h => ?_
  cases h; exact lq 3 (by kernel_rfl)
 ·try simp only [Sum.elim_inl, Sum.elim_inr] at h
  obtain ⟨rfl, hret⟩ := hq
  refine ⟨_, LeSt.refl, ?_⟩
  cases h; exact lv hret

def synthesisref13_Rules_l1 (a0 : Tm) (r100 : (Tm) → Option (List Int)) (v1 : (Int) × (List Int)) : Option (((Int) × (List Int)) ⊕ ((List Int))) := (bif (decide (v1.1 < (List.length a0.args : Int))) then (Option.bind (idx a0.args v1.1) fun v2 => (Option.bind (r100 (v2)) fun v3 => (Option.bind (app 8 v1.2 v3) fun v4 => (some (.inl ((w64 (v1.1 + 1)), v4)))))) else (some (.inr (v1.2))))
def synthesisref13_Rules_b (r100 : (Tm) → Option (List Int)) (a0 : Tm) : Option (List Int) := (Option.bind (loopN (synthesisref13_Rules_l1 a0 r100) fuel (0, ([a0.rule] : List (Int)))) fun (v6 : (List Int)) => (some v6))
theorem synthesisref13_Rules_b_ok (r100 : (Tm) → Option (List Int)) (ih100 : ∀ (x0 : Tm) r, r100 x0 = some r → PCall Try.prog 100 [eTm x0] ((eL 1 eI) (r))) (a0 : Tm) (r : List Int) (h : synthesisref13_Rules_b r100 a0 = some r) : PCall Try.prog 100 [eTm a0] ((eL 1 eI) (r)) := by
 unfold synthesisref13_Rules_b at h
 refine pcl [.one (.sl 1)] Try.func100 (by kernel_rfl) (by kernel_rfl) (by kernel_rfl) ?_
 refine sst 9 (s_litrow (t := 23) (n := 1) (parts := #[(0, (.tmp 6))]) (d := tt23) (e := 3) (de := tt3) (enc := eI) (xs := ([a0.rule] : List (Int))) (id := 2) tt_ok (by kernel_rfl) (by kernel_rfl) (by kernel_rfl) (by kernel_rfl) (by kernel_rfl) rfl (by kernel_rfl) (by kernel_rfl) (by kernel_rfl)) (by kernel_rfl) ?_
 refine lp1 8 (fun v1 => ⟨24, [(1, (.ref 1 0 0)), (3, (.row 2 (List.length (v1.2)))), (4, (fI (v1.1)))], [(1, (.box 42 [(fI (a0.rule)), (.fz ((eL 2 eTmR) (a0.args)))])), (2, (.frow 3 1 (List.map eI (v1.2))))], [2, 1], []⟩) (.exit 0) (fun v6 => ⟨24, [(3, (.row 2 (List.length (v6))))], [(2, (.frow 3 1 (List.map eI (v6))))], [2], []⟩) h (by kernel_rfl) (by kernel_rfl) (fun v1 r h => ?_) fun v6 h => ?_
 ·unfold synthesisref13_Rules_l1 at h
  refine cd 9 h (by kernel_rfl) (fun h => ?_) fun h => ?_
  ·refine ix nTmR 8 h (by kernel_rfl) fun v2 h => ?_
   refine cl 1 h (ih100 _) (by kernel_rfl) fun v3 h => ?_
   refine ap nI 0 h (by kernel_rfl) fun v4 h => ?_
   cases h; exact lj 7 (by kernel_rfl)
  cases h; exact lo 1 (by kernel_rfl)
 refine wle 5 (le_freeze (t := 2) (id := 2) (n := List.length (v6)) (e := 3) (size := 1) (xs := List.map eI (v6)) (by kernel_rfl) (by kernel_rfl) (by simp)) (by kernel_rfl) ?_
 cases h; exact lq 1 (by kernel_rfl)
def synthesisref13_Rules : Nat → (Tm) → Option (List Int)
  | 0 => fun _ => none
  | n + 1 => synthesisref13_Rules_b (synthesisref13_Rules n)
theorem synthesisref13_Rules_ok : ∀ (n : Nat) (x0 : Tm) r, synthesisref13_Rules n x0 = some r → PCall Try.prog 100 [eTm x0] ((eL 1 eI) (r))
  | 0, _, _, h => by cases h
  | n + 1, x0, r, h => synthesisref13_Rules_b_ok (synthesisref13_Rules n) (synthesisref13_Rules_ok n) x0 r h

def synthesisref13_arities_l1 (a0 : Tm) (r101 : (Tm) → Option (List Int)) (v1 : (Int) × (List Int)) : Option (((Int) × (List Int)) ⊕ ((List Int))) := (bif (decide (v1.1 < (List.length a0.args : Int))) then (Option.bind (idx a0.args v1.1) fun v2 => (Option.bind (r101 (v2)) fun v3 => (Option.bind (app 8 v1.2 v3) fun v4 => (some (.inl ((w64 (v1.1 + 1)), v4)))))) else (some (.inr (v1.2))))
def synthesisref13_arities_b (r101 : (Tm) → Option (List Int)) (a0 : Tm) : Option (List Int) := (Option.bind (loopN (synthesisref13_arities_l1 a0 r101) fuel (0, ([(List.length a0.args : Int)] : List (Int)))) fun (v6 : (List Int)) => (some v6))
theorem synthesisref13_arities_b_ok (r101 : (Tm) → Option (List Int)) (ih101 : ∀ (x0 : Tm) r, r101 x0 = some r → PCall Try.prog 101 [eTm x0] ((eL 1 eI) (r))) (a0 : Tm) (r : List Int) (h : synthesisref13_arities_b r101 a0 = some r) : PCall Try.prog 101 [eTm a0] ((eL 1 eI) (r)) := by
 unfold synthesisref13_arities_b at h
 refine pcl [.one (.sl 1)] Try.func101 (by kernel_rfl) (by kernel_rfl) (by kernel_rfl) ?_
 refine sst 10 (s_litrow (t := 23) (n := 1) (parts := #[(0, (.tmp 7))]) (d := tt23) (e := 3) (de := tt3) (enc := eI) (xs := ([(List.length a0.args : Int)] : List (Int))) (id := 2) tt_ok (by kernel_rfl) (by kernel_rfl) (by kernel_rfl) (by kernel_rfl) (by kernel_rfl) rfl (by kernel_rfl) (by kernel_rfl) (by kernel_rfl)) (by kernel_rfl) ?_
 refine lp1 8 (fun v1 => ⟨25, [(1, (.ref 1 0 0)), (3, (.row 2 (List.length (v1.2)))), (4, (fI (v1.1)))], [(1, (.box 42 [(fI (a0.rule)), (.fz ((eL 2 eTmR) (a0.args)))])), (2, (.frow 3 1 (List.map eI (v1.2))))], [2, 1], []⟩) (.exit 0) (fun v6 => ⟨25, [(3, (.row 2 (List.length (v6))))], [(2, (.frow 3 1 (List.map eI (v6))))], [2], []⟩) h (by kernel_rfl) (by kernel_rfl) (fun v1 r h => ?_) fun v6 h => ?_
 ·unfold synthesisref13_arities_l1 at h
  refine cd 9 h (by kernel_rfl) (fun h => ?_) fun h => ?_
  ·refine ix nTmR 8 h (by kernel_rfl) fun v2 h => ?_
   refine cl 1 h (ih101 _) (by kernel_rfl) fun v3 h => ?_
   refine ap nI 0 h (by kernel_rfl) fun v4 h => ?_
   cases h; exact lj 7 (by kernel_rfl)
  cases h; exact lo 1 (by kernel_rfl)
 refine wle 5 (le_freeze (t := 2) (id := 2) (n := List.length (v6)) (e := 3) (size := 1) (xs := List.map eI (v6)) (by kernel_rfl) (by kernel_rfl) (by simp)) (by kernel_rfl) ?_
 cases h; exact lq 1 (by kernel_rfl)
def synthesisref13_arities : Nat → (Tm) → Option (List Int)
  | 0 => fun _ => none
  | n + 1 => synthesisref13_arities_b (synthesisref13_arities n)
theorem synthesisref13_arities_ok : ∀ (n : Nat) (x0 : Tm) r, synthesisref13_arities n x0 = some r → PCall Try.prog 101 [eTm x0] ((eL 1 eI) (r))
  | 0, _, _, h => by cases h
  | n + 1, x0, r, h => synthesisref13_arities_b_ok (synthesisref13_arities n) (synthesisref13_arities_ok n) x0 r h

def synthesisref13_Compare (a0 : Tm) (a1 : Tm) : Option (Int) := (Option.bind (synthesisref13_Size fuel (a0)) fun v1 => (Option.bind (synthesisref13_Size fuel (a1)) fun v2 => (Option.bind (synthesisref13_order (v1) (v2)) fun v3 => (bif (v3 != 0) then (some v3) else (Option.bind (synthesisref13_Rules fuel (a0)) fun v4 => (Option.bind (synthesisref13_Rules fuel (a1)) fun v5 => (Option.bind (synthesisref13_CompareInts (v4) (v5)) fun v6 => (bif (v6 != 0) then (some v6) else (Option.bind (synthesisref13_arities fuel (a0)) fun v7 => (Option.bind (synthesisref13_arities fuel (a1)) fun v8 => (Option.bind (synthesisref13_CompareInts (v7) (v8)) fun v9 => (some v9))))))))))))
theorem synthesisref13_Compare_ok (a0 : Tm) (a1 : Tm) (r : Int) (h : synthesisref13_Compare a0 a1 = some r) : PCall Try.prog 41 [eTm a0, eTm a1] (eI (r)) := by
 unfold synthesisref13_Compare at h
 refine pcl [.one .keep] Try.func41 (by kernel_rfl) (by kernel_rfl) (by kernel_rfl) ?_
 refine dw 8 3 (by kernel_rfl) ?_
 refine cl 1 h (synthesisref13_Size_ok _ _) (by kernel_rfl) fun v1 h => ?_
 refine cl 2 h (synthesisref13_Size_ok _ _) (by kernel_rfl) fun v2 h => ?_
 refine cl 0 h (synthesisref13_order_ok _ _) (by kernel_rfl) fun v3 h => ?_
 refine cd 7 h (by kernel_rfl) (fun h => ?_) fun h => ?_
 ·cases h; exact lq 6 (by kernel_rfl)
 refine dw 3 3 (by kernel_rfl) ?_
 refine cl 1 h (synthesisref13_Rules_ok _ _) (by kernel_rfl) fun v4 h => ?_
 refine cl 2 h (synthesisref13_Rules_ok _ _) (by kernel_rfl) fun v5 h => ?_
 refine cl 0 h (synthesisref13_CompareInts_ok _ _) (by kernel_rfl) fun v6 h => ?_
 refine cd 7 h (by kernel_rfl) (fun h => ?_) fun h => ?_
 ·cases h; exact lq 6 (by kernel_rfl)
 refine dw 2 3 (by kernel_rfl) ?_
 refine cl 1 h (synthesisref13_arities_ok _ _) (by kernel_rfl) fun v7 h => ?_
 refine cl 2 h (synthesisref13_arities_ok _ _) (by kernel_rfl) fun v8 h => ?_
 refine cl 0 h (synthesisref13_CompareInts_ok _ _) (by kernel_rfl) fun v9 h => ?_
 cases h; exact lq 3 (by kernel_rfl)

def term_Build_h (a0 : La) (a1 : List Int) : Option ((Int) × (List Tm) × (Int)) := (Option.bind (grammar_Check (a0)) fun v1 => (bif (v1 != 0) then (some (0, ([] : List Tm), v1)) else (bif (decide (4096 < (List.length a1 : Int))) then (some (0, ([] : List Tm), 2)) else (Option.bind (term_builder_next_h fuel ((S_term_builder.mk (a0) (a1))) ((-1))) fun v3 => Sum.elim (fun v2 => (Option.bind ((bif (decide (0 < (List.length v2.1 : Int))) then (some (true)) else (Option.bind (term_shallow fuel ((Tm.mk (v2.2.1) (v2.2.2))) (32)) fun v5 => (some ((!v5))))) : Option ((Bool))) fun (v7 : (Bool)) => (bif v7 then (some (0, ([] : List Tm), 2)) else (some (v2.2.1, v2.2.2, 0))))) (fun v4 => (some (0, ([] : List Tm), v4.1.f_e))) v3))))
theorem term_Build_h_ok (a0 : La) (a1 : List Int) (r : (Int) × (List Tm) × (Int)) (h : term_Build_h a0 a1 = some r) : HCall Try.prog 39 ([(.fz (eLa (a0))), (.fz ((eL 1 eI) (a1)))] ++ []) [] [] (.ret (.fz (.tup [(.agg [(eI (r.1)), ((eL 2 eTmR) (r.2.1))]), (eI (r.2.2))]))) [(2, (.box 42 [(fI (r.1)), (.fz ((eL 2 eTmR) (r.2.1)))])), (3, (.box 28 [(fI (r.2.2))]))] [2, 3] := by
 unfold term_Build_h at h
 refine hdx (gi := 0) Try.func39 (by kernel_rfl) (by kernel_rfl) (by kernel_rfl) (by kernel_rfl) (by kernel_rfl) (by kernel_rfl) (by kernel_rfl) (by kernel_rfl) ?_
 intro p0 q0 w0
 refine cl 10 h (grammar_Check_ok _) (by kernel_rfl) fun v1 h => ?_
 refine cd 7 h (by kernel_rfl) (fun h => ?_) fun h => ?_
 ·obtain rfl := Option.some.inj h; exact lhd 8 ⟨38, [(4, (.ref 2 0 0)), (5, (.ref 3 0 0))], [(0, (.was p0 [] q0 w0)), (2, (.box 42 [(fI (0)), (.fz ((eL 2 eTmR) (([] : List Tm))))])), (3, (.box 28 [(fI (v1))]))], [0, 2, 3], []⟩ (le_a (by kernel_rfl)) rfl rfl (by kernel_rfl) (by kernel_rfl)
 refine cd 8 h (by kernel_rfl) (fun h => ?_) fun h => ?_
 ·obtain rfl := Option.some.inj h; exact lhd 7 ⟨38, [(4, (.ref 2 0 0)), (5, (.ref 3 0 0))], [(0, (.was p0 [] q0 w0)), (2, (.box 42 [(fI (0)), (.fz ((eL 2 eTmR) (([] : List Tm))))])), (3, (.box 28 [(fI (2))]))], [0, 2, 3], []⟩ (le_a (by kernel_rfl)) rfl rfl (by kernel_rfl) (by kernel_rfl)
 refine dfer 4 4 (f := 94) (vs := [(.ref 2 0 0), (.ref 3 0 0)]) (by kernel_rfl) (by kernel_rfl) ?_
 intro gs1 hgs1
 refine hclS 12 [.one .keep, .one .keep] [(5, 1)] [(1, 5), (2, 6)] [1] h (term_builder_next_h_ok fuel _ _) (fun _ => by kernel_rfl) (fun _ => by kernel_rfl) (fun v4 h => ?_) fun v2 h => ?_
 ·refine dfx 0 6 5 2 [4, 5] (.panic [pnE (.iface 99 (.agg #[(.int .i64 (v4.1.f_e))]))]) hgs1 Try.func94 (by kernel_rfl) (by kernel_rfl) (by kernel_rfl) (by kernel_rfl) (gi := 4) (pv := (.iface 99 (.agg #[(.int .i64 (v4.1.f_e))]))) (by kernel_rfl) (by kernel_rfl) (by kernel_rfl) (by kernel_rfl) ?_
  intro gs4
  refine dz 25 4 [3] [2] (List.range 8) (by kernel_rfl) ?_
  obtain rfl := Option.some.inj h; exact ldx 7 (vs' := [(.ref 2 0 0), (.ref 3 0 0)]) ⟨38, [(4, (.ref 2 0 0)), (5, (.ref 3 0 0))], [(0, (.was p0 [] q0 w0)), (2, (.box 42 [(fI (0)), (.fz ((eL 2 eTmR) (([] : List Tm))))])), (3, (.box 28 [(fI (v4.1.f_e))]))], [0, 2, 3], []⟩ (by kernel_rfl) (by kernel_rfl) (le_a (by kernel_rfl)) rfl rfl (by kernel_rfl)
 refine jn1 4 .normal (fun v7 => ⟨38, [(4, (.ref 2 0 0)), (5, (.ref 3 0 0)), (35, (fB (v7)))], [(0, (.was p0 [] q0 w0)), (2, (.box 42 [(fI (v2.2.1)), (.fz ((eL 2 eTmR) (v2.2.2)))])), (3, (.box 28 [(fI (0))])), (4, (.gho gs1 [(.ref 2 0 0), (.ref 3 0 0)]))], [4, 3, 2, 0], [dfn 94 gs1]⟩) h (by kernel_rfl) (fun v7 h => ?_) fun v7 h => ?_
 ·refine gd 8 h (by kernel_rfl) (fun h => ?_) fun h => ?_
  ·cases h; exact lj 5 (by kernel_rfl)
  refine cl 1 h (term_shallow_ok _ _ _) (by kernel_rfl) fun v5 h => ?_
  cases h; exact lj 3 (by kernel_rfl)
 refine cd 0 h (by kernel_rfl) (fun h => ?_) fun h => ?_
 ·refine dfx 7 5 5 2 [4, 5] .ret hgs1 Try.func94 (by kernel_rfl) (by kernel_rfl) (by kernel_rfl) (by kernel_rfl) (gi := 4) (pv := .nilIface) (by kernel_rfl) (by kernel_rfl) (by kernel_rfl) (by kernel_rfl) ?_
  intro gs2
  obtain rfl := Option.some.inj h; exact ldx 7 (vs' := [(.ref 2 0 0), (.ref 3 0 0)]) ⟨38, [(4, (.ref 2 0 0)), (5, (.ref 3 0 0))], [(0, (.was p0 [] q0 w0)), (2, (.box 42 [(fI (0)), (.fz ((eL 2 eTmR) (([] : List Tm))))])), (3, (.box 28 [(fI (2))]))], [0, 2, 3], []⟩ (by kernel_rfl) (by kernel_rfl) (le_a (by kernel_rfl)) rfl rfl (by kernel_rfl)
 refine dfx 8 5 5 2 [4, 5] .ret hgs1 Try.func94 (by kernel_rfl) (by kernel_rfl) (by kernel_rfl) (by kernel_rfl) (gi := 4) (pv := .nilIface) (by kernel_rfl) (by kernel_rfl) (by kernel_rfl) (by kernel_rfl) ?_
 intro gs3
 obtain rfl := Option.some.inj h; exact ldx 7 (vs' := [(.ref 2 0 0), (.ref 3 0 0)]) ⟨38, [(4, (.ref 2 0 0)), (5, (.ref 3 0 0))], [(0, (.was p0 [] q0 w0)), (2, (.box 42 [(fI (v2.2.1)), (.fz ((eL 2 eTmR) (v2.2.2)))])), (3, (.box 28 [(fI (0))]))], [0, 2, 3], []⟩ (by kernel_rfl) (by kernel_rfl) (le_a (by kernel_rfl)) rfl rfl (by kernel_rfl)

def synthesislaw13_TermBuilds (a0 : La) (a1 : List Int) : Option (Bool) := (Option.bind ((Option.bind (synthesisref13_Few (a0)) fun v1 => (bif (!v1) then (some (true)) else (some ((decide (60 < (List.length a1 : Int))))))) : Option ((Bool))) fun (v3 : (Bool)) => (bif v3 then (Option.bind (synthesislaw13_alive ) fun v4 => (some v4)) else (Option.bind (term_Build_h (a0) (a1)) fun v5 => (Option.bind (synthesisref13_Build (a0) (a1)) fun v6 => (Option.bind ((Option.bind (synthesisref13_Compare ((Tm.mk (v5.1) (v5.2.1))) (v6.1)) fun v7 => (bif (v7 == 0) then (bif (v5.2.2 == v6.2) then (Option.bind (synthesislaw13_alive ) fun v8 => (some (v8))) else (some (false))) else (some (false)))) : Option ((Bool))) fun (v10 : (Bool)) => (some v10))))))
theorem synthesislaw13_TermBuilds_ok (a0 : La) (a1 : List Int) (r : Bool) (h : synthesislaw13_TermBuilds a0 a1 = some r) : PCall Try.prog 8 [eLa a0, (eL 1 eI) a1] (eB (r)) := by
 unfold synthesislaw13_TermBuilds at h
 refine pcl [.one .keep] Try.func8 (by kernel_rfl) (by kernel_rfl) (by kernel_rfl) ?_
 refine jn1 7 .normal (fun v3 => ⟨42, [(1, (.fz ((eL 1 eI) (a1)))), (2, (.ref 1 0 0)), (16, (fB (v3)))], [(1, (.box 27 [(fS (a0.name)), (.fz ((eL 1 eI) (a0.inputs))), (.fz ((eL 2 eSy) (a0.symbols))), (.fz ((eL 9 eRu) (a0.rules)))]))], [1], []⟩) h (by kernel_rfl) (fun v3 h => ?_) fun v3 h => ?_
 ·refine cl 2 h (synthesisref13_Few_ok _) (by kernel_rfl) fun v1 h => ?_
  refine gd 2 h (by kernel_rfl) (fun h => ?_) fun h => ?_
  ·cases h; exact lj 5 (by kernel_rfl)
  cases h; exact lj 5 (by kernel_rfl)
 refine cd 0 h (by kernel_rfl) (fun h => ?_) fun h => ?_
 ·refine cl 2 h (synthesislaw13_alive_ok) (by kernel_rfl) fun v4 h => ?_
  cases h; exact lq 3 (by kernel_rfl)
 refine hcl 5 [.one .keep, .one .keep] [] [(2, 2), (3, 3)] [] h (term_Build_h_ok _ _) (fun _ => by kernel_rfl) fun v5 h => ?_
 refine cl 11 h (synthesisref13_Build_ok _ _) (by kernel_rfl) fun v6 h => ?_
 refine jn1 8 .normal (fun v10 => ⟨42, [(4, (fB (v10)))], [], [], []⟩) h (by kernel_rfl) (fun v10 h => ?_) fun v10 h => ?_
 ·refine cl 3 h (synthesisref13_Compare_ok _ _) (by kernel_rfl) fun v7 h => ?_
  refine gd 2 h (by kernel_rfl) (fun h => ?_) fun h => ?_
  ·refine gd 5 h (by kernel_rfl) (fun h => ?_) fun h => ?_
   ·refine cl 0 h (synthesislaw13_alive_ok) (by kernel_rfl) fun v8 h => ?_
    cases h; exact lj 3 (by kernel_rfl)
   cases h; exact lj 4 (by kernel_rfl)
  cases h; exact lj 9 (by kernel_rfl)
 cases h; exact lq 1 (by kernel_rfl)

def synthesislaw13_TermReturns (a0 : La) (a1 : Int) (a2 : Tm) : Option (Bool) := (Option.bind ((Option.bind (synthesisref13_Few (a0)) fun v1 => (bif (!v1) then (some (true)) else (Option.bind (synthesislaw13_small (([a2] : List (Tm)))) fun v2 => (bif (!v2) then (some (true)) else (Option.bind (term_Check (a0) (a1) (a2)) fun v3 => (some ((v3 != 0)))))))) : Option ((Bool))) fun (v5 : (Bool)) => (bif v5 then (Option.bind (synthesislaw13_alive ) fun v6 => (some v6)) else (Option.bind (term_Rules (a2)) fun v7 => (Option.bind (term_Build_h (a0) (v7)) fun v8 => (Option.bind ((bif (v8.2.2 == 0) then (Option.bind (term_Compare ((Tm.mk (v8.1) (v8.2.1))) (a2)) fun v9 => (bif (v9 == 0) then (Option.bind (term_Check (a0) (a1) ((Tm.mk (v8.1) (v8.2.1)))) fun v10 => (bif (v10 == 0) then (Option.bind (synthesislaw13_alive ) fun v11 => (some (v11))) else (some (false)))) else (some (false)))) else (some (false))) : Option ((Bool))) fun (v13 : (Bool)) => (some v13))))))
theorem synthesislaw13_TermReturns_ok (a0 : La) (a1 : Int) (a2 : Tm) (r : Bool) (h : synthesislaw13_TermReturns a0 a1 a2 = some r) : PCall Try.prog 9 [eLa a0, eI a1, eTm a2] (eB (r)) := by
 unfold synthesislaw13_TermReturns at h
 refine pcl [.one .keep] Try.func9 (by kernel_rfl) (by kernel_rfl) (by kernel_rfl) ?_
 refine jn1 8 .normal (fun v5 => ⟨51, [(1, (fI (a1))), (3, (.ref 1 0 0)), (5, (.ref 2 0 0)), (24, (fB (v5)))], [(1, (.box 27 [(fS (a0.name)), (.fz ((eL 1 eI) (a0.inputs))), (.fz ((eL 2 eSy) (a0.symbols))), (.fz ((eL 9 eRu) (a0.rules)))])), (2, (.box 42 [(fI (a2.rule)), (.fz ((eL 2 eTmR) (a2.args)))]))], [2, 1], []⟩) h (by kernel_rfl) (fun v5 h => ?_) fun v5 h => ?_
 ·refine cl 2 h (synthesisref13_Few_ok _) (by kernel_rfl) fun v1 h => ?_
  refine gd 2 h (by kernel_rfl) (fun h => ?_) fun h => ?_
  ·cases h; exact lj 13 (by kernel_rfl)
  refine wle 2 (le_eq (t := 14) (x := .lim 2 1 [eTm (a2)]) (y := .lim 2 1 (List.map eTmR ([a2] : List (Tm)))) (by kernel_rfl) (by simp only [List.map, eTmR_eq])) (by kernel_rfl) ?_
  refine cl 0 h (synthesislaw13_small_ok _) (by kernel_rfl) fun v2 h => ?_
  refine gd 3 h (by kernel_rfl) (fun h => ?_) fun h => ?_
  ·cases h; exact lj 7 (by kernel_rfl)
  refine cl 3 h (term_Check_ok _ _ _) (by kernel_rfl) fun v3 h => ?_
  cases h; exact lj 3 (by kernel_rfl)
 refine cd 0 h (by kernel_rfl) (fun h => ?_) fun h => ?_
 ·refine cl 2 h (synthesislaw13_alive_ok) (by kernel_rfl) fun v6 h => ?_
  cases h; exact lq 3 (by kernel_rfl)
 refine dz 2 9 [7, 8] [3] (List.range 4) (by kernel_rfl) ?_
 refine cl 2 h (term_Rules_ok _) (by kernel_rfl) fun v7 h => ?_
 obtain ⟨v8, hv8, h⟩ := Option.bind_eq_some_iff.1 h
 refine nst 0 (n_hcall (f := 39) (args := #[(.tmp 27), (.tmp 29)]) (ts := #[27, 23]) (cs := [.one .keep, .one .keep]) (by kernel_rfl) (by kernel_rfl) (term_Build_h_ok (a0) (v7) _ hv8) (.inl rfl)) (by kernel_rfl) ?_
 refine jn1 9 .normal (fun v13 => ⟨51, [(6, (fB (v13)))], [], [], []⟩) h (by kernel_rfl) (fun v13 h => ?_) fun v13 h => ?_
 ·refine gd 4 h (by kernel_rfl) (fun h => ?_) fun h => ?_
  ·refine cl 2 h (term_Compare_ok _ _) (by kernel_rfl) fun v9 h => ?_
   refine gd 3 h (by kernel_rfl) (fun h => ?_) fun h => ?_
   ·refine cl 3 h (term_Check_ok _ _ _) (by kernel_rfl) fun v10 h => ?_
    refine gd 3 h (by kernel_rfl) (fun h => ?_) fun h => ?_
    ·refine cl 0 h (synthesislaw13_alive_ok) (by kernel_rfl) fun v11 h => ?_
     cases h; exact lj 3 (by kernel_rfl)
    cases h; exact lj 4 (by kernel_rfl)
   cases h; exact lj 11 (by kernel_rfl)
  cases h; exact lj 17 (by kernel_rfl)
 cases h; exact lq 1 (by kernel_rfl)
end Go.Proofs.Ytaeicmnimjfbaaa
