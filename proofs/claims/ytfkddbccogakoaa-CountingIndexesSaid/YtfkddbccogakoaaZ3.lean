/- Typed programs and what computes them. -/
import Derived.Test.YtfkddbccogakoaaZ2
set_option linter.unusedVariables false
set_option linter.unusedSimpArgs false
set_option maxRecDepth 100000
namespace Go.Proofs.Ytfkddbccogakoaa
open Go Go.RowKit Go.Proofs
attribute [local irreducible] NStep StepA EStep LeSt
def synthesisref11_Check_m0 (a0 : La) : List (Nat × AObj) := [(1, (.box 26 [(fS (a0.name)), (.fz ((eL 1 eI) (a0.inputs))), (.fz ((eL 2 eSy) (a0.symbols))), (.fz ((eL 9 eRu) (a0.rules)))]))]
def synthesisref11_Check_l1 (a0 : La) (v9 : (Int)) (v12 : (Int)) : Option (((Int)) ⊕ (((Unit) ⊕ (Int)))) := (bif (decide (v12 < v9)) then (Option.bind (idx a0.symbols v12) fun v13 => (Option.bind (idx a0.symbols v9) fun v14 => (bif (v13.name.toList == v14.name.toList) then (some (.inr (.inr 6))) else (some (.inl ((w64 (v12 + 1)))))))) else (some (.inr (.inl ()))))
def synthesisref11_Check_l2 (a0 : La) (v22 : (Int)) (v25 : (Int)) : Option (((Int)) ⊕ (((Unit) ⊕ (Int)))) := (bif (decide (v25 < v22)) then (Option.bind (idx a0.rules v25) fun v26 => (Option.bind (idx a0.rules v22) fun v27 => (Option.bind (synthesisref11_SameRule (v26) (v27)) fun v28 => (bif v28 then (some (.inr (.inr 6))) else (some (.inl ((w64 (v25 + 1))))))))) else (some (.inr (.inl ()))))
def synthesisref11_Check_l3 (a0 : La) (v22 : (Int)) : Option (((Int)) ⊕ (((Unit) ⊕ (Int)))) := (bif (decide (v22 < (List.length a0.rules : Int))) then (Option.bind (idx a0.rules v22) fun v23 => (Option.bind (synthesisref11_rule (a0) (v23)) fun v24 => (bif (v24 != 0) then (some (.inr (.inr v24))) else (Option.bind (loopN (synthesisref11_Check_l2 a0 v22) fuel (0)) fun (v29 : ((Unit) ⊕ (Int))) => Sum.elim (fun v30 => (some (.inl ((w64 (v22 + 1)))))) (fun v31 => (some (.inr (.inr v31)))) v29)))) else (some (.inr (.inl ()))))
def synthesisref11_Check_l4 (a0 : La) (v9 : (Int)) : Option (((Int)) ⊕ (((Unit) ⊕ (Int)))) := (bif (decide (v9 < (List.length a0.symbols : Int))) then (Option.bind (idx a0.symbols v9) fun v10 => (Option.bind (synthesisref11_Name (v10.name)) fun v11 => (bif (!v11) then (some (.inr (.inr 5))) else (Option.bind (loopN (synthesisref11_Check_l1 a0 v9) fuel (0)) fun (v15 : ((Unit) ⊕ (Int))) => Sum.elim (fun v16 => (Option.bind (idx a0.symbols v9) fun v17 => (Option.bind (synthesisref11_typed (v17.type)) fun v18 => (bif (!v18) then (some (.inr (.inr 3))) else (some (.inl ((w64 (v9 + 1))))))))) (fun v19 => (some (.inr (.inr v19)))) v15)))) else (some (.inr (.inl ()))))
def synthesisref11_Check_l5 (a0 : La) (v2 : (Int)) : Option (((Int)) ⊕ (((Unit) ⊕ (Int)))) := (bif (decide (v2 < (List.length a0.inputs : Int))) then (Option.bind (idx a0.inputs v2) fun v3 => (Option.bind (synthesisref11_typed (v3)) fun v4 => (bif (!v4) then (some (.inr (.inr 3))) else (some (.inl ((w64 (v2 + 1)))))))) else (some (.inr (.inl ()))))
def synthesisref11_Check (a0 : La) : Option (Int) := (Option.bind (synthesisref11_Name (a0.name)) fun v1 => (bif (!v1) then (some 5) else (bif (decide (4 < (List.length a0.inputs : Int))) then (some 2) else (Option.bind (loopN (synthesisref11_Check_l5 a0) fuel (0)) fun (v5 : ((Unit) ⊕ (Int))) => Sum.elim (fun v6 => (Option.bind ((bif (decide ((List.length a0.symbols : Int) < 1)) then (some (true)) else (some ((decide (16 < (List.length a0.symbols : Int)))))) : Option ((Bool))) fun (v8 : (Bool)) => (bif v8 then (some 2) else (Option.bind (loopN (synthesisref11_Check_l4 a0) fuel (0)) fun (v20 : ((Unit) ⊕ (Int))) => Sum.elim (fun v21 => (bif (decide (96 < (List.length a0.rules : Int))) then (some 2) else (Option.bind (loopN (synthesisref11_Check_l3 a0) fuel (0)) fun (v32 : ((Unit) ⊕ (Int))) => Sum.elim (fun v33 => (some 0)) (fun v34 => (some v34)) v32))) (fun v35 => (some v35)) v20)))) (fun v36 => (some v36)) v5))))
theorem synthesisref11_Check_ok (a0 : La) (r : Int) (h : synthesisref11_Check a0 = some r) : PCall Try.prog 40 [eLa a0] (eI (r)) := by
 unfold synthesisref11_Check at h
 refine pcl [.one .keep] Try.func40 (by kernel_rfl) (by kernel_rfl) (by kernel_rfl) ?_
 refine cl 10 h (synthesisref11_Name_ok _) (by kernel_rfl) fun v1 h => ?_
 refine cd 2 h (by kernel_rfl) (fun h => ?_) fun h => ?_
 ·cases h; exact lq 5 (by kernel_rfl)
 refine cd 9 h (by kernel_rfl) (fun h => ?_) fun h => ?_
 ·cases h; exact lq 5 (by kernel_rfl)
 refine lpx 7 (fun v2 => ⟨119, [(1, (.ref 1 0 0)), (3, (fI (v2)))], (synthesisref11_Check_m0 a0), [1], []⟩) (fun v5 e st => Sum.elim (fun p => e = .exit 0 ∧ LeSt st ⟨119, [(1, (.ref 1 0 0))], (synthesisref11_Check_m0 a0), [1], []⟩) (fun p => e = .ret ∧ retX TT st Try.f40.results.toList [.one .keep] = some (eI (p))) v5) h (by kernel_rfl) (le_a (by kernel_rfl)) (fun v2 r h => ?_) fun v5 h e st' hq => ?_
 ·unfold synthesisref11_Check_l5 at h
  refine cd 9 h (by kernel_rfl) (fun h => ?_) fun h => ?_
  ·refine ix nI 8 h (by kernel_rfl) fun v3 h => ?_
   refine cl 1 h (synthesisref11_typed_ok _) (by kernel_rfl) fun v4 h => ?_
   refine cd 2 h (by kernel_rfl) (fun h => ?_) fun h => ?_
   ·cases h; exact lor 5 (by kernel_rfl)
   cases h; exact lj 6 (by kernel_rfl)
  cases h; exact lo 1 (by kernel_rfl)
 rcases v5 with v6 | v36
 ·try simp only [Sum.elim_inl, Sum.elim_inr] at h
  obtain ⟨rfl, hle⟩ := hq
  refine ⟨_, hle, ?_⟩
  refine jn1 2 .normal (fun v8 => ⟨119, [(1, (.ref 1 0 0)), (40, (fB (v8)))], (synthesisref11_Check_m0 a0), [1], []⟩) h (by kernel_rfl) (fun v8 h => ?_) fun v8 h => ?_
  ·refine gd 6 h (by kernel_rfl) (fun h => ?_) fun h => ?_
   ·cases h; exact lj 6 (by kernel_rfl)
   cases h; exact lj 6 (by kernel_rfl)
  refine cd 0 h (by kernel_rfl) (fun h => ?_) fun h => ?_
  ·cases h; exact lq 5 (by kernel_rfl)
  refine lpx 7 (fun v9 => ⟨119, [(1, (.ref 1 0 0)), (4, (fI (v9)))], (synthesisref11_Check_m0 a0), [1], []⟩) (fun v20 e st => Sum.elim (fun p => e = .exit 2 ∧ LeSt st ⟨119, [(1, (.ref 1 0 0))], (synthesisref11_Check_m0 a0), [1], []⟩) (fun p => e = .ret ∧ retX TT st Try.f40.results.toList [.one .keep] = some (eI (p))) v20) h (by kernel_rfl) (le_a (by kernel_rfl)) (fun v9 r h => ?_) fun v20 h e st' hq => ?_
  ·unfold synthesisref11_Check_l4 at h
   refine cd 9 h (by kernel_rfl) (fun h => ?_) fun h => ?_
   ·refine ix nSy 9 h (by kernel_rfl) fun v10 h => ?_
    refine cl 2 h (synthesisref11_Name_ok _) (by kernel_rfl) fun v11 h => ?_
    refine cd 2 h (by kernel_rfl) (fun h => ?_) fun h => ?_
    ·cases h; exact lor 5 (by kernel_rfl)
    refine lpx 7 (fun v12 => ⟨119, [(1, (.ref 1 0 0)), (4, (fI (v9))), (5, (fI (v12)))], (synthesisref11_Check_m0 a0), [1], []⟩) (fun v15 e st => Sum.elim (fun p => e = .exit 4 ∧ LeSt st ⟨119, [(1, (.ref 1 0 0)), (4, (fI (v9)))], (synthesisref11_Check_m0 a0), [1], []⟩) (fun p => e = .ret ∧ retX TT st Try.f40.results.toList [.one .keep] = some (eI (p))) v15) h (by kernel_rfl) (le_a (by kernel_rfl)) (fun v12 r h => ?_) fun v15 h e st' hq => ?_
    ·unfold synthesisref11_Check_l1 at h
     refine cd 7 h (by kernel_rfl) (fun h => ?_) fun h => ?_
     ·refine dw 4 12 (by kernel_rfl) ?_
      refine ix nSy 3 h (by kernel_rfl) fun v13 h => ?_
      refine ix nSy 5 h (by kernel_rfl) fun v14 h => ?_
      refine cd 5 h (by kernel_rfl) (fun h => ?_) fun h => ?_
      ·cases h; exact lor 5 (by kernel_rfl)
      cases h; exact lj 6 (by kernel_rfl)
     cases h; exact lo 1 (by kernel_rfl)
    rcases v15 with v16 | v19
    ·try simp only [Sum.elim_inl, Sum.elim_inr] at h
     obtain ⟨rfl, hle⟩ := hq
     refine ⟨_, hle, ?_⟩
     refine ix nSy 5 h (by kernel_rfl) fun v17 h => ?_
     refine cl 2 h (synthesisref11_typed_ok _) (by kernel_rfl) fun v18 h => ?_
     refine cd 2 h (by kernel_rfl) (fun h => ?_) fun h => ?_
     ·cases h; exact lor 5 (by kernel_rfl)
     cases h; exact lj 6 (by kernel_rfl)
    ·try simp only [Sum.elim_inl, Sum.elim_inr] at h
     obtain ⟨rfl, hret⟩ := hq
     refine ⟨_, LeSt.refl, ?_⟩
     cases h; exact lvo hret
   cases h; exact lo 1 (by kernel_rfl)
  rcases v20 with v21 | v35
  ·try simp only [Sum.elim_inl, Sum.elim_inr] at h
   obtain ⟨rfl, hle⟩ := hq
   refine ⟨_, hle, ?_⟩
   refine cd 8 h (by kernel_rfl) (fun h => ?_) fun h => ?_
   ·cases h; exact lq 5 (by kernel_rfl)
   refine lpx 7 (fun v22 => ⟨119, [(1, (.ref 1 0 0)), (6, (fI (v22)))], (synthesisref11_Check_m0 a0), [1], []⟩) (fun v32 e st => Sum.elim (fun p => e = .exit 6 ∧ LeSt st ⟨119, [], [], [], []⟩) (fun p => e = .ret ∧ retX TT st Try.f40.results.toList [.one .keep] = some (eI (p))) v32) h (by kernel_rfl) (le_a (by kernel_rfl)) (fun v22 r h => ?_) fun v32 h e st' hq => ?_
   ·unfold synthesisref11_Check_l3 at h
    refine cd 9 h (by kernel_rfl) (fun h => ?_) fun h => ?_
    ·refine dw 5 6 (by kernel_rfl) ?_
     refine ix nRu 4 h (by kernel_rfl) fun v23 h => ?_
     refine cl 2 h (synthesisref11_rule_ok _ _) (by kernel_rfl) fun v24 h => ?_
     refine cd 7 h (by kernel_rfl) (fun h => ?_) fun h => ?_
     ·cases h; exact lor 6 (by kernel_rfl)
     refine lpx 6 (fun v25 => ⟨119, [(1, (.ref 1 0 0)), (6, (fI (v22))), (8, (fI (v25)))], (synthesisref11_Check_m0 a0), [1], []⟩) (fun v29 e st => Sum.elim (fun p => e = .exit 8 ∧ LeSt st ⟨119, [(1, (.ref 1 0 0)), (6, (fI (v22)))], (synthesisref11_Check_m0 a0), [1], []⟩) (fun p => e = .ret ∧ retX TT st Try.f40.results.toList [.one .keep] = some (eI (p))) v29) h (by kernel_rfl) (le_a (by kernel_rfl)) (fun v25 r h => ?_) fun v29 h e st' hq => ?_
     ·unfold synthesisref11_Check_l2 at h
      refine cd 7 h (by kernel_rfl) (fun h => ?_) fun h => ?_
      ·refine dw 4 10 (by kernel_rfl) ?_
       refine ix nRu 3 h (by kernel_rfl) fun v26 h => ?_
       refine ix nRu 4 h (by kernel_rfl) fun v27 h => ?_
       refine cl 2 h (synthesisref11_SameRule_ok _ _) (by kernel_rfl) fun v28 h => ?_
       refine cd 1 h (by kernel_rfl) (fun h => ?_) fun h => ?_
       ·cases h; exact lor 5 (by kernel_rfl)
       cases h; exact lj 6 (by kernel_rfl)
      cases h; exact lo 1 (by kernel_rfl)
     rcases v29 with v30 | v31
     ·try simp only [Sum.elim_inl, Sum.elim_inr] at h
      obtain ⟨rfl, hle⟩ := hq
      refine ⟨_, hle, ?_⟩
      cases h; exact lj 5 (by kernel_rfl)
     ·try simp only [Sum.elim_inl, Sum.elim_inr] at h
      obtain ⟨rfl, hret⟩ := hq
      refine ⟨_, LeSt.refl, ?_⟩
      cases h; exact lvo hret
    cases h; exact lo 1 (by kernel_rfl)
   rcases v32 with v33 | v34
   ·try simp only [Sum.elim_inl, Sum.elim_inr] at h
    obtain ⟨rfl, hle⟩ := hq
    refine ⟨_, hle, ?_⟩
    cases h; exact lq 5 (by kernel_rfl)
   ·try simp only [Sum.elim_inl, Sum.elim_inr] at h
    obtain ⟨rfl, hret⟩ := hq
    refine ⟨_, LeSt.refl, ?_⟩
    cases h; exact lv hret
  ·try simp only [Sum.elim_inl, Sum.elim_inr] at h
   obtain ⟨rfl, hret⟩ := hq
   refine ⟨_, LeSt.refl, ?_⟩
   cases h; exact lv hret
 ·try simp only [Sum.elim_inl, Sum.elim_inr] at h
  obtain ⟨rfl, hret⟩ := hq
  refine ⟨_, LeSt.refl, ?_⟩
  cases h; exact lv hret

def synthesisref12_wrong (a0 : La) (a1 : Int) (a2 : Int) : Option (Int) := (Option.bind (synthesisref11_Check (a0)) fun v1 => (bif (v1 != 0) then (some v1) else (Option.bind ((bif (decide (a1 < 0)) then (some (true)) else (bif (decide ((List.length a0.symbols : Int) ≤ a1)) then (some (true)) else (bif (decide (a2 < 1)) then (some (true)) else (some ((decide (24 < a2))))))) : Option ((Bool))) fun (v3 : (Bool)) => (bif v3 then (some 1) else (some 0)))))
theorem synthesisref12_wrong_ok (a0 : La) (a1 : Int) (a2 : Int) (r : Int) (h : synthesisref12_wrong a0 a1 a2 = some r) : PCall Try.prog 33 [eLa a0, eI a1, eI a2] (eI (r)) := by
 unfold synthesisref12_wrong at h
 refine pcl [.one .keep] Try.func33 (by kernel_rfl) (by kernel_rfl) (by kernel_rfl) ?_
 refine cl 9 h (synthesisref11_Check_ok _) (by kernel_rfl) fun v1 h => ?_
 refine cd 7 h (by kernel_rfl) (fun h => ?_) fun h => ?_
 ·cases h; exact lq 6 (by kernel_rfl)
 refine jn1 3 .normal (fun v3 => ⟨30, [(29, (fB (v3)))], [], [], []⟩) h (by kernel_rfl) (fun v3 h => ?_) fun v3 h => ?_
 ·refine gd 4 h (by kernel_rfl) (fun h => ?_) fun h => ?_
  ·cases h; exact lj 15 (by kernel_rfl)
  refine gd 7 h (by kernel_rfl) (fun h => ?_) fun h => ?_
  ·cases h; exact lj 8 (by kernel_rfl)
  refine gd 4 h (by kernel_rfl) (fun h => ?_) fun h => ?_
  ·cases h; exact lj 4 (by kernel_rfl)
  cases h; exact lj 4 (by kernel_rfl)
 refine cd 0 h (by kernel_rfl) (fun h => ?_) fun h => ?_
 ·cases h; exact lq 5 (by kernel_rfl)
 cases h; exact lq 6 (by kernel_rfl)

def synthesisref12_capped (a0 : Int) : Option (Int) := (some (imin a0 1152921504606846977))
theorem synthesisref12_capped_ok (a0 : Int) (r : Int) (h : synthesisref12_capped a0 = some r) : PCall Try.prog 52 [eI a0] (eI (r)) := by
 unfold synthesisref12_capped at h
 refine pcl [.one .keep] Try.func52 (by kernel_rfl) (by kernel_rfl) (by kernel_rfl) ?_
 cases h; exact lq 11 (by kernel_rfl)

def synthesisref12_plus (a0 : Int) (a1 : Int) : Option (Int) := (Option.bind (synthesisref12_capped ((w64 (a0 + a1)))) fun v1 => (some v1))
theorem synthesisref12_plus_ok (a0 : Int) (a1 : Int) (r : Int) (h : synthesisref12_plus a0 a1 = some r) : PCall Try.prog 37 [eI a0, eI a1] (eI (r)) := by
 unfold synthesisref12_plus at h
 refine pcl [.one .keep] Try.func37 (by kernel_rfl) (by kernel_rfl) (by kernel_rfl) ?_
 refine cl 9 h (synthesisref12_capped_ok _) (by kernel_rfl) fun v1 h => ?_
 cases h; exact lq 3 (by kernel_rfl)

def synthesisref12_times (a0 : Int) (a1 : Int) : Option (Int) := (Option.bind ((bif (decide (0 < a0)) then (Option.bind (quo .i64 1152921504606846977 a0) fun v1 => (some ((decide (v1 < a1))))) else (some (false))) : Option ((Bool))) fun (v3 : (Bool)) => (bif v3 then (some 1152921504606846977) else (Option.bind (synthesisref12_capped ((w64 (a0 * a1)))) fun v4 => (some v4))))
theorem synthesisref12_times_ok (a0 : Int) (a1 : Int) (r : Int) (h : synthesisref12_times a0 a1 = some r) : PCall Try.prog 64 [eI a0, eI a1] (eI (r)) := by
 unfold synthesisref12_times at h
 refine pcl [.one .keep] Try.func64 (by kernel_rfl) (by kernel_rfl) (by kernel_rfl) ?_
 refine jn1 6 .normal (fun v3 => ⟨17, [(0, (fI (a0))), (1, (fI (a1))), (12, (fB (v3)))], [], [], []⟩) h (by kernel_rfl) (fun v3 h => ?_) fun v3 h => ?_
 ·refine gd 4 h (by kernel_rfl) (fun h => ?_) fun h => ?_
  ·obtain ⟨v1, hv1, h⟩ := Option.bind_eq_some_iff.1 h
   refine nst 2 (s_quo (t := 2) (x := (.const (.int .i64 1152921504606846977))) (y := (.tmp 9)) (yt := 2) (k := .i64) (m := 1152921504606846977) (n := a0) hv1 (by kernel_rfl) (by kernel_rfl) (by kernel_rfl)) (by kernel_rfl) ?_
   cases h; exact lj 3 (by kernel_rfl)
  cases h; exact lj 6 (by kernel_rfl)
 refine cd 0 h (by kernel_rfl) (fun h => ?_) fun h => ?_
 ·cases h; exact lq 5 (by kernel_rfl)
 refine cl 6 h (synthesisref12_capped_ok _) (by kernel_rfl) fun v4 h => ?_
 cases h; exact lq 3 (by kernel_rfl)

def synthesisref12_ways_l1 (a0 : List (List Int)) (a2 : Int) (v3 : (Int) × (List Int)) (v4 : Int) (v6 : (Int) × (List Int)) (v7 : (Int) × (List Int)) : Option (((Int) × (List Int)) ⊕ ((List Int))) := (bif (decide ((w64 (v6.1 + v7.1)) ≤ a2)) then (Option.bind (idx v7.2 (w64 (v6.1 + v7.1))) fun v8 => (Option.bind (idx v3.2 v6.1) fun v9 => (Option.bind (idx a0 v4) fun v10 => (Option.bind (idx v10 v7.1) fun v11 => (Option.bind (synthesisref12_times (v9) (v11)) fun v12 => (Option.bind (synthesisref12_plus (v8) (v12)) fun v13 => (Option.bind (idx v7.2 (w64 (v6.1 + v7.1))) fun v14 => (some (.inl ((w64 (v7.1 + 1)), (List.set v7.2 (Int.toNat (w64 (v6.1 + v7.1))) v13))))))))))) else (some (.inr (v7.2))))
def synthesisref12_ways_l2 (a0 : List (List Int)) (a2 : Int) (v3 : (Int) × (List Int)) (v4 : Int) (v6 : (Int) × (List Int)) : Option (((Int) × (List Int)) ⊕ ((List Int))) := (bif (decide (v6.1 ≤ a2)) then (Option.bind (loopN (synthesisref12_ways_l1 a0 a2 v3 v4 v6) fuel (1, v6.2)) fun (v16 : (List Int)) => (some (.inl ((w64 (v6.1 + 1)), v16)))) else (some (.inr (v6.2))))
def synthesisref12_ways_l3 (a0 : List (List Int)) (a1 : List Int) (a2 : Int) (v3 : (Int) × (List Int)) : Option (((Int) × (List Int)) ⊕ ((List Int))) := (bif (decide (v3.1 < (List.length a1 : Int))) then (Option.bind (idx a1 v3.1) fun v4 => (Option.bind (mkL 8 0 (w64 (a2 + 1))) fun v5 => (Option.bind (loopN (synthesisref12_ways_l2 a0 a2 v3 v4) fuel (0, v5)) fun (v18 : (List Int)) => (some (.inl ((w64 (v3.1 + 1)), v18)))))) else (some (.inr (v3.2))))
def synthesisref12_ways (a0 : List (List Int)) (a1 : List Int) (a2 : Int) : Option (Int) := (Option.bind (mkL 8 0 (w64 (a2 + 1))) fun v1 => (Option.bind (idx v1 0) fun v2 => (Option.bind (loopN (synthesisref12_ways_l3 a0 a1 a2) fuel (0, (List.set v1 (Int.toNat 0) 1))) fun (v20 : (List Int)) => (Option.bind (idx v20 a2) fun v21 => (some v21)))))
theorem synthesisref12_ways_ok (a0 : List (List Int)) (a1 : List Int) (a2 : Int) (r : Int) (h : synthesisref12_ways a0 a1 a2 = some r) : PCall Try.prog 42 [(eL 1 (eL 1 eI)) a0, (eL 1 eI) a1, eI a2] (eI (r)) := by
 unfold synthesisref12_ways at h
 refine pcl [.one .keep] Try.func42 (by kernel_rfl) (by kernel_rfl) (by kernel_rfl) ?_
 obtain ⟨v1, hv1, h⟩ := Option.bind_eq_some_iff.1 h
 refine sst 8 (s_make (t := 62) (X := (.tmp 14)) (Y := (.tmp 14)) (id := 1) (k := .i64) (k' := .i64) (d := tt62) (e := 2) (de := tt2) (enc := eI) (zv := .int .i64 0) hv1 (by kernel_rfl) tt_ok (by kernel_rfl) (by kernel_rfl) (by kernel_rfl) rfl rfl rfl rfl rfl (by kernel_rfl) (by kernel_rfl) (by kernel_rfl)) (by kernel_rfl) ?_
 obtain ⟨v2, hv2, h⟩ := Option.bind_eq_some_iff.1 h
 refine nst 5 (n_rowAddr (t := 62) (X := (.tmp 16)) (Y := (.const (.int .i64 0))) (id := 1) (k := .i64) (d := tt62) (e := 2) (de := tt2) (enc := eI) (xs := v1) (n := List.length (v1)) hv2 tt_ok (by kernel_rfl) (by kernel_rfl) (by kernel_rfl) (by kernel_rfl) (by kernel_rfl) (by kernel_rfl) (by kernel_rfl) rfl (by kernel_rfl)) (by kernel_rfl) ?_
 refine sst 0 (e_rowStore (t := 2) (X := (.tmp 17)) (Y := (.const (.int .i64 1))) (id := 1) (d := tt2) (enc := eI) (xs := v1) (x := v2) (i := 0) (y := 1) (n := List.length (v1)) hv2 tt_ok (by kernel_rfl) (by kernel_rfl) (by kernel_rfl) (by kernel_rfl) (by kernel_rfl) rfl (by kernel_rfl) (fun _ => ⟨_, rfl, rfl⟩)) (by kernel_rfl) ?_
 refine wle 0 (LeSt.trans (show LeSt _ ⟨69, [(0, (.fz ((eL 1 (eL 1 eI)) (a0)))), (1, (.fz ((eL 1 eI) (a1)))), (2, (fI (a2))), (7, (.row 1 (List.length (v1)))), (16, (.row 1 (List.length (v1))))], [(1, (.frow 2 1 (List.map eI ((List.set v1 (Int.toNat 0) 1)))))], [1], []⟩ from le_a (by kernel_rfl)) (LeSt.trans (le_relen 1 (k := 2) (m := List.length (v1)) (n := List.length ((List.set v1 (Int.toNat 0) 1))) (by kernel_rfl) (by simp)) (show LeSt _ ⟨69, [(0, (.fz ((eL 1 (eL 1 eI)) (a0)))), (1, (.fz ((eL 1 eI) (a1)))), (2, (fI (a2))), (7, (.row 1 (List.length ((List.set v1 (Int.toNat 0) 1))))), (16, (.row 1 (List.length ((List.set v1 (Int.toNat 0) 1)))))], [(1, (.frow 2 1 (List.map eI ((List.set v1 (Int.toNat 0) 1)))))], [1], []⟩ from le_a (by kernel_rfl)))) (by kernel_rfl) ?_
 refine lp1 9 (fun v3 => ⟨69, [(0, (.fz ((eL 1 (eL 1 eI)) (a0)))), (2, (fI (a2))), (7, (.row 1 (List.length (v3.2)))), (18, (.fz ((eL 1 eI) (a1)))), (19, (fI ((List.length a1 : Int)))), (20, (fI (v3.1)))], [(1, (.frow 2 1 (List.map eI (v3.2))))], [1], []⟩) (.exit 0) (fun v20 => ⟨69, [(2, (fI (a2))), (7, (.row 1 (List.length (v20))))], [(1, (.frow 2 1 (List.map eI (v20))))], [1], []⟩) h (by kernel_rfl) (by kernel_rfl) (fun v3 r h => ?_) fun v20 h => ?_
 ·unfold synthesisref12_ways_l3 at h
  refine cd 5 h (by kernel_rfl) (fun h => ?_) fun h => ?_
  ·refine ix nI 5 h (by kernel_rfl) fun v4 h => ?_
   obtain ⟨v5, hv5, h⟩ := Option.bind_eq_some_iff.1 h
   refine sst 7 (s_make (t := 62) (X := (.tmp 25)) (Y := (.tmp 25)) (id := 2) (k := .i64) (k' := .i64) (d := tt62) (e := 2) (de := tt2) (enc := eI) (zv := .int .i64 0) hv5 (by kernel_rfl) tt_ok (by kernel_rfl) (by kernel_rfl) (by kernel_rfl) rfl rfl rfl rfl rfl (by kernel_rfl) (by kernel_rfl) (by kernel_rfl)) (by kernel_rfl) ?_
   refine lp1 8 (fun v6 => ⟨69, [(0, (.fz ((eL 1 (eL 1 eI)) (a0)))), (2, (fI (a2))), (7, (.row 1 (List.length (v3.2)))), (9, (fI (v4))), (10, (.row 2 (List.length (v6.2)))), (11, (fI (v6.1))), (18, (.fz ((eL 1 eI) (a1)))), (19, (fI ((List.length a1 : Int)))), (20, (fI (v3.1)))], [(1, (.frow 2 1 (List.map eI (v3.2)))), (2, (.frow 2 1 (List.map eI (v6.2))))], [2, 1], []⟩) (.exit 2) (fun v18 => ⟨69, [(0, (.fz ((eL 1 (eL 1 eI)) (a0)))), (2, (fI (a2))), (10, (.row 2 (List.length (v18)))), (18, (.fz ((eL 1 eI) (a1)))), (19, (fI ((List.length a1 : Int)))), (20, (fI (v3.1)))], [(2, (.frow 2 1 (List.map eI (v18))))], [2], []⟩) h (by kernel_rfl) (by kernel_rfl) (fun v6 r h => ?_) fun v18 h => ?_
   ·unfold synthesisref12_ways_l2 at h
    refine cd 7 h (by kernel_rfl) (fun h => ?_) fun h => ?_
    ·refine lp1 8 (fun v7 => ⟨69, [(0, (.fz ((eL 1 (eL 1 eI)) (a0)))), (2, (fI (a2))), (7, (.row 1 (List.length (v3.2)))), (9, (fI (v4))), (10, (.row 2 (List.length (v7.2)))), (11, (fI (v6.1))), (12, (fI (v7.1))), (18, (.fz ((eL 1 eI) (a1)))), (19, (fI ((List.length a1 : Int)))), (20, (fI (v3.1)))], [(1, (.frow 2 1 (List.map eI (v3.2)))), (2, (.frow 2 1 (List.map eI (v7.2))))], [2, 1], []⟩) (.exit 4) (fun v16 => ⟨69, [(0, (.fz ((eL 1 (eL 1 eI)) (a0)))), (2, (fI (a2))), (7, (.row 1 (List.length (v3.2)))), (9, (fI (v4))), (10, (.row 2 (List.length (v16)))), (11, (fI (v6.1))), (18, (.fz ((eL 1 eI) (a1)))), (19, (fI ((List.length a1 : Int)))), (20, (fI (v3.1)))], [(1, (.frow 2 1 (List.map eI (v3.2)))), (2, (.frow 2 1 (List.map eI (v16))))], [2, 1], []⟩) h (by kernel_rfl) (by kernel_rfl) (fun v7 r h => ?_) fun v16 h => ?_
     ·unfold synthesisref12_ways_l1 at h
      refine cd 9 h (by kernel_rfl) (fun h => ?_) fun h => ?_
      ·refine dw 3 23 (by kernel_rfl) ?_
       obtain ⟨v8, hv8, h⟩ := Option.bind_eq_some_iff.1 h
       refine nst 8 (n_rowAddr (t := 62) (X := (.tmp 43)) (Y := (.tmp 46)) (id := 2) (k := .i64) (d := tt62) (e := 2) (de := tt2) (enc := eI) (xs := v7.2) (n := List.length (v7.2)) hv8 tt_ok (by kernel_rfl) (by kernel_rfl) (by kernel_rfl) (by kernel_rfl) (by kernel_rfl) (by kernel_rfl) (by kernel_rfl) rfl (by kernel_rfl)) (by kernel_rfl) ?_
       refine nst 0 (n_rowLoad (t := 2) (X := (.tmp 47)) (id := 2) (d := tt2) (enc := eI) (xs := v7.2) (x := v8) (i := (w64 (v6.1 + v7.1))) (n := List.length (v7.2)) hv8 tt_ok (by kernel_rfl) (by kernel_rfl) (by kernel_rfl) (by kernel_rfl) (by kernel_rfl) rfl (fun _ => rfl)) (by kernel_rfl) ?_
       obtain ⟨v9, hv9, h⟩ := Option.bind_eq_some_iff.1 h
       refine nst 2 (n_rowAddr (t := 62) (X := (.tmp 49)) (Y := (.tmp 50)) (id := 1) (k := .i64) (d := tt62) (e := 2) (de := tt2) (enc := eI) (xs := v3.2) (n := List.length (v3.2)) hv9 tt_ok (by kernel_rfl) (by kernel_rfl) (by kernel_rfl) (by kernel_rfl) (by kernel_rfl) (by kernel_rfl) (by kernel_rfl) rfl (by kernel_rfl)) (by kernel_rfl) ?_
       refine nst 0 (n_rowLoad (t := 2) (X := (.tmp 51)) (id := 1) (d := tt2) (enc := eI) (xs := v3.2) (x := v9) (i := v6.1) (n := List.length (v3.2)) hv9 tt_ok (by kernel_rfl) (by kernel_rfl) (by kernel_rfl) (by kernel_rfl) (by kernel_rfl) rfl (fun _ => rfl)) (by kernel_rfl) ?_
       refine ix (nL 1 nI) 2 h (by kernel_rfl) fun v10 h => ?_
       refine ix nI 2 h (by kernel_rfl) fun v11 h => ?_
       refine cl 1 h (synthesisref12_times_ok _ _) (by kernel_rfl) fun v12 h => ?_
       refine cl 0 h (synthesisref12_plus_ok _ _) (by kernel_rfl) fun v13 h => ?_
       obtain ⟨v14, hv14, h⟩ := Option.bind_eq_some_iff.1 h
       refine nst 1 (n_rowAddr (t := 62) (X := (.tmp 39)) (Y := (.tmp 42)) (id := 2) (k := .i64) (d := tt62) (e := 2) (de := tt2) (enc := eI) (xs := v7.2) (n := List.length (v7.2)) hv14 tt_ok (by kernel_rfl) (by kernel_rfl) (by kernel_rfl) (by kernel_rfl) (by kernel_rfl) (by kernel_rfl) (by kernel_rfl) rfl (by kernel_rfl)) (by kernel_rfl) ?_
       refine sst 0 (e_rowStore (t := 2) (X := (.tmp 62)) (Y := (.tmp 61)) (id := 2) (d := tt2) (enc := eI) (xs := v7.2) (x := v14) (i := (w64 (v6.1 + v7.1))) (y := v13) (n := List.length (v7.2)) hv14 tt_ok (by kernel_rfl) (by kernel_rfl) (by kernel_rfl) (by kernel_rfl) (by kernel_rfl) rfl (by kernel_rfl) (fun _ => ⟨_, rfl, rfl⟩)) (by kernel_rfl) ?_
       refine wle 0 (LeSt.trans (show LeSt _ ⟨69, [(0, (.fz ((eL 1 (eL 1 eI)) (a0)))), (2, (fI (a2))), (7, (.row 1 (List.length (v3.2)))), (9, (fI (v4))), (10, (.row 2 (List.length (v7.2)))), (11, (fI (v6.1))), (12, (fI (v7.1))), (18, (.fz ((eL 1 eI) (a1)))), (19, (fI ((List.length a1 : Int)))), (20, (fI (v3.1))), (39, (.row 2 (List.length (v7.2)))), (42, (fI ((w64 (v6.1 + v7.1))))), (61, (fI (v13)))], [(1, (.frow 2 1 (List.map eI (v3.2)))), (2, (.frow 2 1 (List.map eI ((List.set v7.2 (Int.toNat (w64 (v6.1 + v7.1))) v13)))))], [2, 1], []⟩ from le_a (by kernel_rfl)) (LeSt.trans (le_relen 2 (k := 2) (m := List.length (v7.2)) (n := List.length ((List.set v7.2 (Int.toNat (w64 (v6.1 + v7.1))) v13))) (by kernel_rfl) (by simp)) (show LeSt _ ⟨69, [(0, (.fz ((eL 1 (eL 1 eI)) (a0)))), (2, (fI (a2))), (7, (.row 1 (List.length (v3.2)))), (9, (fI (v4))), (10, (.row 2 (List.length ((List.set v7.2 (Int.toNat (w64 (v6.1 + v7.1))) v13))))), (11, (fI (v6.1))), (12, (fI (v7.1))), (18, (.fz ((eL 1 eI) (a1)))), (19, (fI ((List.length a1 : Int)))), (20, (fI (v3.1))), (39, (.row 2 (List.length ((List.set v7.2 (Int.toNat (w64 (v6.1 + v7.1))) v13))))), (42, (fI ((w64 (v6.1 + v7.1))))), (61, (fI (v13)))], [(1, (.frow 2 1 (List.map eI (v3.2)))), (2, (.frow 2 1 (List.map eI ((List.set v7.2 (Int.toNat (w64 (v6.1 + v7.1))) v13)))))], [2, 1], []⟩ from le_a (by kernel_rfl)))) (by kernel_rfl) ?_
       cases h; exact lj 6 (by kernel_rfl)
      cases h; exact lo 1 (by kernel_rfl)
     cases h; exact lj 5 (by kernel_rfl)
    cases h; exact lo 1 (by kernel_rfl)
   cases h; exact ljx 8 (LeSt.trans (show LeSt _ ⟨69, [(0, (.fz ((eL 1 (eL 1 eI)) (a0)))), (2, (fI (a2))), (7, (.row 2 (List.length (v18)))), (18, (.fz ((eL 1 eI) (a1)))), (19, (fI ((List.length a1 : Int)))), (20, (fI ((w64 (v3.1 + 1)))))], [(2, (.frow 2 1 (List.map eI (v18))))], [2], []⟩ from le_a (by kernel_rfl)) (LeSt.trans (le_ren [(2, 1)] (by kernel_rfl)) (le_a (by kernel_rfl)))) (by kernel_rfl)
  cases h; exact lo 1 (by kernel_rfl)
 obtain ⟨v21, hv21, h⟩ := Option.bind_eq_some_iff.1 h
 refine nst 4 (n_rowAddr (t := 62) (X := (.tmp 65)) (Y := (.tmp 66)) (id := 1) (k := .i64) (d := tt62) (e := 2) (de := tt2) (enc := eI) (xs := v20) (n := List.length (v20)) hv21 tt_ok (by kernel_rfl) (by kernel_rfl) (by kernel_rfl) (by kernel_rfl) (by kernel_rfl) (by kernel_rfl) (by kernel_rfl) rfl (by kernel_rfl)) (by kernel_rfl) ?_
 refine nst 0 (n_rowLoad (t := 2) (X := (.tmp 67)) (id := 1) (d := tt2) (enc := eI) (xs := v20) (x := v21) (i := a2) (n := List.length (v20)) hv21 tt_ok (by kernel_rfl) (by kernel_rfl) (by kernel_rfl) (by kernel_rfl) (by kernel_rfl) rfl (fun _ => rfl)) (by kernel_rfl) ?_
 cases h; exact lq 3 (by kernel_rfl)

def synthesisref12_Table_l1 (a0 : La) (v7 : (Int) × (List (List Int))) (v8 : (Int) × (List (List Int))) : Option (((Int) × (List (List Int))) ⊕ ((List (List Int)))) := (bif (decide (v8.1 < (List.length a0.rules : Int))) then (Option.bind (idx a0.rules v8.1) fun v9 => (Option.bind (idx (v8.2) v9.symbol) fun v10 => (Option.bind (idx (v8.2) v9.symbol) fun v11 => (Option.bind (idx v11 v7.1) fun v12 => (Option.bind (synthesisref12_ways (v8.2) (v9.args) ((w64 (v7.1 - 1)))) fun v13 => (Option.bind (synthesisref12_plus (v12) (v13)) fun v14 => (Option.bind (idx v10 v7.1) fun v15 => (some (.inl ((w64 (v8.1 + 1)), (List.set (v8.2) (Int.toNat (v9.symbol)) (List.set v10 (Int.toNat (v7.1)) v14)))))))))))) else (some (.inr (v8.2))))
def synthesisref12_Table_l2 (a0 : La) (a1 : Int) (v7 : (Int) × (List (List Int))) : Option (((Int) × (List (List Int))) ⊕ ((List (List Int)))) := (bif (decide (v7.1 ≤ a1)) then (Option.bind (loopN (synthesisref12_Table_l1 a0 v7) fuel (0, v7.2)) fun (v17 : (List (List Int))) => (some (.inl ((w64 (v7.1 + 1)), v17)))) else (some (.inr (v7.2))))
def synthesisref12_Table_l3 (a1 : Int) (v2 : (Int) × (List (List Int))) : Option (((Int) × (List (List Int))) ⊕ ((List (List Int)))) := (bif (decide (v2.1 < (List.length (v2.2) : Int))) then (Option.bind (mkL 8 0 (w64 (a1 + 1))) fun v3 => (Option.bind (idx (v2.2) v2.1) fun v4 => (some (.inl ((w64 (v2.1 + 1)), (List.set (v2.2) (Int.toNat (v2.1)) (v3))))))) else (some (.inr (v2.2))))
def synthesisref12_Table (a0 : La) (a1 : Int) : Option (List (List Int)) := (Option.bind (mkL 24 ([] : List Int) (List.length a0.symbols : Int)) fun v1 => (Option.bind (loopN (synthesisref12_Table_l3 a1) fuel (0, v1)) fun (v6 : (List (List Int))) => (Option.bind (loopN (synthesisref12_Table_l2 a0 a1) fuel (1, v6)) fun (v19 : (List (List Int))) => (some v19))))
theorem synthesisref12_Table_ok (a0 : La) (a1 : Int) (r : List (List Int)) (h : synthesisref12_Table a0 a1 = some r) : PCall Try.prog 34 [eLa a0, eI a1] ((eL 1 (eL 1 eI)) (r)) := by
 unfold synthesisref12_Table at h
 refine pcl [.one (.sl 1)] Try.func34 (by kernel_rfl) (by kernel_rfl) (by kernel_rfl) ?_
 refine tabm (f := vI) (eo := 62) 10 2 2 h (by kernel_rfl) (by kernel_rfl) fun v1 h ov1 => ?_
 refine lp1 8 (fun v2 => ⟨62, [(1, (fI (a1))), (2, (.ref 1 0 0)), (5, (.fz (.atom ov1))), (6, (fI (v2.1)))], [(1, (.box 26 [(fS (a0.name)), (.fz ((eL 1 eI) (a0.inputs))), (.fz ((eL 2 eSy) (a0.symbols))), (.fz ((eL 9 eRu) (a0.rules)))])), (2, (.tab 0 ov1 62 2 (List.map (List.map vI) (v2.2))))], [2, 1], []⟩) (.exit 0) (fun v6 => ⟨62, [(1, (fI (a1))), (2, (.ref 1 0 0)), (5, (.fz (.atom ov1)))], [(1, (.box 26 [(fS (a0.name)), (.fz ((eL 1 eI) (a0.inputs))), (.fz ((eL 2 eSy) (a0.symbols))), (.fz ((eL 9 eRu) (a0.rules)))])), (2, (.tab 0 ov1 62 2 (List.map (List.map vI) (v6))))], [2, 1], []⟩) h (by kernel_rfl) (by kernel_rfl) (fun v2 r h => ?_) fun v6 h => ?_
 ·unfold synthesisref12_Table_l3 at h
  refine nst 5 (n_tabLen (t := 63) (x := (.tmp 15)) (d := tt63) (e2 := 62) (id := 2) (g := 0) (ov := ov1) (eo := 62) (ei := 2) (rows := List.map (List.map vI) (v2.2)) (n := List.length (v2.2)) tt_ok (by kernel_rfl) (by kernel_rfl) rfl (by kernel_rfl) (by kernel_rfl) (by simp)) (by kernel_rfl) ?_
  refine cd 2 h (by kernel_rfl) (fun h => ?_) fun h => ?_
  ·obtain ⟨v3, hv3, h⟩ := Option.bind_eq_some_iff.1 h
   refine sst 8 (s_make (t := 62) (X := (.tmp 23)) (Y := (.tmp 23)) (id := 3) (k := .i64) (k' := .i64) (d := tt62) (e := 2) (de := tt2) (enc := eI) (zv := .int .i64 0) hv3 (by kernel_rfl) tt_ok (by kernel_rfl) (by kernel_rfl) (by kernel_rfl) rfl rfl rfl rfl rfl (by kernel_rfl) (by kernel_rfl) (by kernel_rfl)) (by kernel_rfl) ?_
   obtain ⟨v4, hv4, h⟩ := Option.bind_eq_some_iff.1 h
   refine nst 0 (n_tabAddr (t := 63) (f := vI) (rows := v2.2) (row := v4) (i := v2.1) (X := (.tmp 20)) (Y := (.tmp 21)) (e := 62) (de := tt62) (k := .i64) (id := 2) (g := 0) (ov := ov1) (ei := 2) (d := tt63) hv4 tt_ok (by kernel_rfl) (by kernel_rfl) (by kernel_rfl) (by kernel_rfl) (by kernel_rfl) (by kernel_rfl) (by kernel_rfl) (by kernel_rfl) (by kernel_rfl)) (by kernel_rfl) ?_
   refine sst 0 (e_tabStore (t := 62) (f := vI) (enc := eI) (rows := v2.2) (row := v4) (zs := v3) (i := v2.1) (X := (.tmp 25)) (Y := (.tmp 24)) (id := 2) (g := 0) (id2 := 3) (n := List.length (v3)) (ov := ov1) (ei := 2) (d := tt62) hv4 tt_ok (by kernel_rfl) (by kernel_rfl) (by kernel_rfl) (by kernel_rfl) (by kernel_rfl) (by kernel_rfl) (by kernel_rfl) rfl (fun _ => ⟨rfl, rfl⟩)) (by kernel_rfl) ?_
   refine wle 0 (LeSt.trans (show LeSt _ ⟨62, [(1, (fI (a1))), (2, (.ref 1 0 0)), (5, (.fz (.atom ov1))), (6, (fI (v2.1))), (20, (.fz (.atom ov1))), (21, (fI (v2.1))), (23, (fI ((w64 (a1 + 1)))))], [(1, (.box 26 [(fS (a0.name)), (.fz ((eL 1 eI) (a0.inputs))), (.fz ((eL 2 eSy) (a0.symbols))), (.fz ((eL 9 eRu) (a0.rules)))])), (2, (.tab 1 ov1 62 2 (List.map (List.map vI) ((List.set (v2.2) (Int.toNat (v2.1)) (v3))))))], [2, 1], []⟩ from le_a (by kernel_rfl)) (LeSt.trans (le_tabG (g := 1) (ov := ov1) (eo := 62) (ei := 2) (rows := List.map (List.map vI) ((List.set (v2.2) (Int.toNat (v2.1)) (v3)))) 2 [1] (by kernel_rfl) (by kernel_rfl) (by kernel_rfl)) (show LeSt _ ⟨62, [(1, (fI (a1))), (2, (.ref 1 0 0)), (5, (.fz (.atom ov1))), (6, (fI (v2.1))), (20, (.fz (.atom ov1))), (21, (fI (v2.1))), (23, (fI ((w64 (a1 + 1)))))], [(1, (.box 26 [(fS (a0.name)), (.fz ((eL 1 eI) (a0.inputs))), (.fz ((eL 2 eSy) (a0.symbols))), (.fz ((eL 9 eRu) (a0.rules)))])), (2, (.tab 0 ov1 62 2 (List.map (List.map vI) ((List.set (v2.2) (Int.toNat (v2.1)) (v3))))))], [2, 1], []⟩ from le_a (by kernel_rfl)))) (by kernel_rfl) ?_
   cases h; exact lj 6 (by kernel_rfl)
  cases h; exact lo 1 (by kernel_rfl)
 refine lp1 6 (fun v7 => ⟨62, [(1, (fI (a1))), (2, (.ref 1 0 0)), (5, (.fz (.atom ov1))), (7, (fI (v7.1)))], [(1, (.box 26 [(fS (a0.name)), (.fz ((eL 1 eI) (a0.inputs))), (.fz ((eL 2 eSy) (a0.symbols))), (.fz ((eL 9 eRu) (a0.rules)))])), (2, (.tab 0 ov1 62 2 (List.map (List.map vI) (v7.2))))], [2, 1], []⟩) (.exit 2) (fun v19 => ⟨62, [(5, (.fz (.atom ov1)))], [(2, (.tab 0 ov1 62 2 (List.map (List.map vI) (v19))))], [2], []⟩) h (by kernel_rfl) (by kernel_rfl) (fun v7 r h => ?_) fun v19 h => ?_
 ·unfold synthesisref12_Table_l2 at h
  refine cd 7 h (by kernel_rfl) (fun h => ?_) fun h => ?_
  ·refine lp1 11 (fun v8 => ⟨62, [(1, (fI (a1))), (2, (.ref 1 0 0)), (5, (.fz (.atom ov1))), (7, (fI (v7.1))), (32, (.fz ((eL 9 eRu) (a0.rules)))), (33, (fI ((List.length a0.rules : Int)))), (34, (fI (v8.1)))], [(1, (.box 26 [(fS (a0.name)), (.fz ((eL 1 eI) (a0.inputs))), (.fz ((eL 2 eSy) (a0.symbols))), (.fz ((eL 9 eRu) (a0.rules)))])), (2, (.tab 0 ov1 62 2 (List.map (List.map vI) (v8.2))))], [2, 1], []⟩) (.exit 4) (fun v17 => ⟨62, [(1, (fI (a1))), (2, (.ref 1 0 0)), (5, (.fz (.atom ov1))), (7, (fI (v7.1)))], [(1, (.box 26 [(fS (a0.name)), (.fz ((eL 1 eI) (a0.inputs))), (.fz ((eL 2 eSy) (a0.symbols))), (.fz ((eL 9 eRu) (a0.rules)))])), (2, (.tab 0 ov1 62 2 (List.map (List.map vI) (v17))))], [2, 1], []⟩) h (by kernel_rfl) (by kernel_rfl) (fun v8 r h => ?_) fun v17 h => ?_
   ·unfold synthesisref12_Table_l1 at h
    refine cd 5 h (by kernel_rfl) (fun h => ?_) fun h => ?_
    ·refine ix nRu 5 h (by kernel_rfl) fun v9 h => ?_
     refine dw 4 21 (by kernel_rfl) ?_
     obtain ⟨v10, hv10, h⟩ := Option.bind_eq_some_iff.1 h
     refine nst 3 (n_tabAddr (t := 63) (f := vI) (rows := v8.2) (row := v10) (i := v9.symbol) (X := (.tmp 38)) (Y := (.tmp 40)) (e := 62) (de := tt62) (k := .i64) (id := 2) (g := 0) (ov := ov1) (ei := 2) (d := tt63) hv10 tt_ok (by kernel_rfl) (by kernel_rfl) (by kernel_rfl) (by kernel_rfl) (by kernel_rfl) (by kernel_rfl) (by kernel_rfl) (by kernel_rfl) (by kernel_rfl)) (by kernel_rfl) ?_
     refine nst 0 (n_tabLoad (t := 62) (f := vI) (rows := v8.2) (row := v10) (i := v9.symbol) (X := (.tmp 41)) (id := 2) (g := 0) (ov := ov1) (ei := 2) (d := tt62) hv10 tt_ok (by kernel_rfl) (by kernel_rfl) (by kernel_rfl) (by kernel_rfl) (by kernel_rfl) (by kernel_rfl)) (by kernel_rfl) ?_
     obtain ⟨v11, hv11, h⟩ := Option.bind_eq_some_iff.1 h
     refine nst 4 (n_tabAddr (t := 63) (f := vI) (rows := v8.2) (row := v11) (i := v9.symbol) (X := (.tmp 44)) (Y := (.tmp 46)) (e := 62) (de := tt62) (k := .i64) (id := 2) (g := 0) (ov := ov1) (ei := 2) (d := tt63) hv11 tt_ok (by kernel_rfl) (by kernel_rfl) (by kernel_rfl) (by kernel_rfl) (by kernel_rfl) (by kernel_rfl) (by kernel_rfl) (by kernel_rfl) (by kernel_rfl)) (by kernel_rfl) ?_
     refine nst 0 (n_tabLoad (t := 62) (f := vI) (rows := v8.2) (row := v11) (i := v9.symbol) (X := (.tmp 47)) (id := 2) (g := 0) (ov := ov1) (ei := 2) (d := tt62) hv11 tt_ok (by kernel_rfl) (by kernel_rfl) (by kernel_rfl) (by kernel_rfl) (by kernel_rfl) (by kernel_rfl)) (by kernel_rfl) ?_
     obtain ⟨v12, hv12, h⟩ := Option.bind_eq_some_iff.1 h
     refine nst 1 (n_tinAddr (t := 62) (f := vI) (rows := v8.2) (row := v11) (x := v12) (i := v9.symbol) (j := v7.1) (X := (.tmp 48)) (Y := (.tmp 49)) (e := 2) (de := tt2) (k := .i64) (id := 2) (g := 0) (ov := ov1) (eo := 62) (d := tt62) hv11 hv12 tt_ok (by kernel_rfl) (by kernel_rfl) (by kernel_rfl) (by kernel_rfl) (by kernel_rfl) (by kernel_rfl) (by kernel_rfl) (by kernel_rfl) (by kernel_rfl)) (by kernel_rfl) ?_
     refine nst 0 (n_tinLoad (t := 2) (f := vI) (rows := v8.2) (row := v11) (x := v12) (i := v9.symbol) (j := v7.1) (X := (.tmp 50)) (id := 2) (g := 0) (ov := ov1) (eo := 62) (d := tt2) hv11 hv12 tt_ok (by kernel_rfl) (by kernel_rfl) (by kernel_rfl) (by kernel_rfl) (by kernel_rfl)) (by kernel_rfl) ?_
     refine clL 5 [(.tab 52 2 0 ov1 62 2 (List.map (List.map vI) (v8.2)) (eL 1 (eL 1 eI) (v8.2)))] h (synthesisref12_ways_ok _ _ _) (lend_cons (lend_tab (by kernel_rfl) (by kernel_rfl) (tabF_map (fun _ => rfl) _)) (lend_nil)) (by kernel_rfl) (fun _ => by kernel_rfl) fun v13 h => ?_
     refine cl 0 h (synthesisref12_plus_ok _ _) (by kernel_rfl) fun v14 h => ?_
     obtain ⟨v15, hv15, h⟩ := Option.bind_eq_some_iff.1 h
     refine nst 1 (n_tinAddr (t := 62) (f := vI) (rows := v8.2) (row := v10) (x := v15) (i := v9.symbol) (j := v7.1) (X := (.tmp 42)) (Y := (.tmp 43)) (e := 2) (de := tt2) (k := .i64) (id := 2) (g := 0) (ov := ov1) (eo := 62) (d := tt62) hv10 hv15 tt_ok (by kernel_rfl) (by kernel_rfl) (by kernel_rfl) (by kernel_rfl) (by kernel_rfl) (by kernel_rfl) (by kernel_rfl) (by kernel_rfl) (by kernel_rfl)) (by kernel_rfl) ?_
     refine sst 0 (e_tinStore (t := 2) (f := vI) (rows := v8.2) (row := v10) (x := v15) (y := v14) (i := v9.symbol) (j := v7.1) (X := (.tmp 59)) (Y := (.tmp 58)) (id := 2) (g := 0) (ov := ov1) (eo := 62) (d := tt2) hv10 hv15 tt_ok (by kernel_rfl) (by kernel_rfl) (by kernel_rfl) (by kernel_rfl) (by kernel_rfl) (by kernel_rfl)) (by kernel_rfl) ?_
     refine wle 0 ((le_a (by kernel_rfl) : LeSt _ ⟨62, [(1, (fI (a1))), (2, (.ref 1 0 0)), (5, (.fz (.atom ov1))), (7, (fI (v7.1))), (32, (.fz ((eL 9 eRu) (a0.rules)))), (33, (fI ((List.length a0.rules : Int)))), (34, (fI (v8.1))), (43, (fI (v7.1))), (58, (fI (v14)))], [(1, (.box 26 [(fS (a0.name)), (.fz ((eL 1 eI) (a0.inputs))), (.fz ((eL 2 eSy) (a0.symbols))), (.fz ((eL 9 eRu) (a0.rules)))])), (2, (.tab 0 ov1 62 2 (List.map (List.map vI) ((List.set (v8.2) (Int.toNat (v9.symbol)) (List.set v10 (Int.toNat (v7.1)) v14))))))], [2, 1], []⟩)) (by kernel_rfl) ?_
     cases h; exact lj 5 (by kernel_rfl)
    cases h; exact lo 1 (by kernel_rfl)
   cases h; exact lj 5 (by kernel_rfl)
  cases h; exact lo 1 (by kernel_rfl)
 refine wle 5 (le_freezeTab (g := 0) (ov := ov1) (eo := 62) (ei := 2) (rows := List.map (List.map vI) (v19)) (y := eL 1 (eL 1 eI) (v19)) 2 [4] ⟨by kernel_rfl, trivial⟩ (by kernel_rfl) (tabF_map (fun _ => rfl) _)) (by kernel_rfl) ?_
 cases h; exact lq 1 (by kernel_rfl)

def synthesisref12_Count (a0 : La) (a1 : Int) (a2 : Int) : Option ((Int) × (Int)) := (Option.bind (synthesisref12_wrong (a0) (a1) (a2)) fun v1 => (bif (v1 != 0) then (some (0, v1)) else (Option.bind (synthesisref12_Table (a0) (a2)) fun v2 => (Option.bind (idx v2 a1) fun v3 => (Option.bind (idx v3 a2) fun v4 => (bif (decide (1152921504606846976 < v4)) then (some (0, 11)) else (some (v4, 0))))))))
theorem synthesisref12_Count_ok (a0 : La) (a1 : Int) (a2 : Int) (r : (Int) × (Int)) (h : synthesisref12_Count a0 a1 a2 = some r) : PCall Try.prog 13 [eLa a0, eI a1, eI a2] (.tup [eI (r.1), eI (r.2)]) := by
 unfold synthesisref12_Count at h
 refine pcl [.one .keep, .one .keep] Try.func13 (by kernel_rfl) (by kernel_rfl) (by kernel_rfl) ?_
 refine cl 12 h (synthesisref12_wrong_ok _ _ _) (by kernel_rfl) fun v1 h => ?_
 refine cd 7 h (by kernel_rfl) (fun h => ?_) fun h => ?_
 ·cases h; exact lq 7 (by kernel_rfl)
 refine cl 5 h (synthesisref12_Table_ok _ _) (by kernel_rfl) fun v2 h => ?_
 refine ix (nL 1 nI) 1 h (by kernel_rfl) fun v3 h => ?_
 refine ix nI 2 h (by kernel_rfl) fun v4 h => ?_
 refine cd 9 h (by kernel_rfl) (fun h => ?_) fun h => ?_
 ·cases h; exact lq 6 (by kernel_rfl)
 cases h; exact lq 8 (by kernel_rfl)

structure S_synthesisref12_reader where
  f_l : La
  f_rules : List Int
structure S_ar2_i64 where
  f_0 : Int
  f_1 : Int
def synthesisref12_Rules_l1 (a0 : Tm) (r23 : (Tm) → Option (List Int)) (v1 : (Int) × (List Int)) : Option (((Int) × (List Int)) ⊕ ((List Int))) := (bif (decide (v1.1 < (List.length a0.args : Int))) then (Option.bind (idx a0.args v1.1) fun v2 => (Option.bind (r23 (v2)) fun v3 => (Option.bind (app 8 v1.2 v3) fun v4 => (some (.inl ((w64 (v1.1 + 1)), v4)))))) else (some (.inr (v1.2))))
def synthesisref12_Rules_b (r23 : (Tm) → Option (List Int)) (a0 : Tm) : Option (List Int) := (Option.bind (loopN (synthesisref12_Rules_l1 a0 r23) fuel (0, ([a0.rule] : List (Int)))) fun (v6 : (List Int)) => (some v6))
theorem synthesisref12_Rules_b_ok (r23 : (Tm) → Option (List Int)) (ih23 : ∀ (x0 : Tm) r, r23 x0 = some r → PCall Try.prog 23 [eTm x0] ((eL 1 eI) (r))) (a0 : Tm) (r : List Int) (h : synthesisref12_Rules_b r23 a0 = some r) : PCall Try.prog 23 [eTm a0] ((eL 1 eI) (r)) := by
 unfold synthesisref12_Rules_b at h
 refine pcl [.one (.sl 1)] Try.func23 (by kernel_rfl) (by kernel_rfl) (by kernel_rfl) ?_
 refine sst 9 (s_litrow (t := 22) (n := 1) (parts := #[(0, (.tmp 7))]) (d := tt22) (e := 3) (de := tt3) (enc := eI) (xs := ([a0.rule] : List (Int))) (id := 2) tt_ok (by kernel_rfl) (by kernel_rfl) (by kernel_rfl) (by kernel_rfl) (by kernel_rfl) rfl (by kernel_rfl) (by kernel_rfl) (by kernel_rfl)) (by kernel_rfl) ?_
 refine lp1 11 (fun v1 => ⟨22, [(3, (.row 2 (List.length (v1.2)))), (10, (.fz ((eL 2 eTmR) (a0.args)))), (11, (fI ((List.length a0.args : Int)))), (12, (fI (v1.1)))], [(2, (.frow 3 1 (List.map eI (v1.2))))], [2], []⟩) (.exit 0) (fun v6 => ⟨22, [(3, (.row 2 (List.length (v6))))], [(2, (.frow 3 1 (List.map eI (v6))))], [2], []⟩) h (by kernel_rfl) (by kernel_rfl) (fun v1 r h => ?_) fun v6 h => ?_
 ·unfold synthesisref12_Rules_l1 at h
  refine cd 5 h (by kernel_rfl) (fun h => ?_) fun h => ?_
  ·refine ix nTmR 5 h (by kernel_rfl) fun v2 h => ?_
   refine cl 7 h (ih23 _) (by kernel_rfl) fun v3 h => ?_
   refine ap nI 0 h (by kernel_rfl) fun v4 h => ?_
   cases h; exact lj 6 (by kernel_rfl)
  cases h; exact lo 1 (by kernel_rfl)
 refine wle 5 (le_freeze (t := 2) (id := 2) (n := List.length (v6)) (e := 3) (size := 1) (xs := List.map eI (v6)) (by kernel_rfl) (by kernel_rfl) (by simp)) (by kernel_rfl) ?_
 cases h; exact lq 1 (by kernel_rfl)
def synthesisref12_Rules : Nat → (Tm) → Option (List Int)
  | 0 => fun _ => none
  | n + 1 => synthesisref12_Rules_b (synthesisref12_Rules n)
theorem synthesisref12_Rules_ok : ∀ (n : Nat) (x0 : Tm) r, synthesisref12_Rules n x0 = some r → PCall Try.prog 23 [eTm x0] ((eL 1 eI) (r))
  | 0, _, _, h => by cases h
  | n + 1, x0, r, h => synthesisref12_Rules_b_ok (synthesisref12_Rules n) (synthesisref12_Rules_ok n) x0 r h

def synthesisref12_Is_l1 (a0 : La) (a2 : Tm) (r46 : (La) → (Int) → (Tm) → Option (Bool)) (v3 : Ru) (v6 : (Int)) : Option (((Int)) ⊕ (((Unit) ⊕ (Bool)))) := (bif (decide (v6 < (List.length a2.args : Int))) then (Option.bind (idx a2.args v6) fun v7 => (Option.bind (idx v3.args v6) fun v8 => (Option.bind (r46 (a0) (v8) (v7)) fun v9 => (bif (!v9) then (some (.inr (.inr false))) else (some (.inl ((w64 (v6 + 1))))))))) else (some (.inr (.inl ()))))
def synthesisref12_Is_b (r46 : (La) → (Int) → (Tm) → Option (Bool)) (a0 : La) (a1 : Int) (a2 : Tm) : Option (Bool) := (Option.bind ((bif (decide (a2.rule < 0)) then (some (true)) else (some ((decide ((List.length a0.rules : Int) ≤ a2.rule))))) : Option ((Bool))) fun (v2 : (Bool)) => (bif v2 then (some false) else (Option.bind (idx a0.rules a2.rule) fun v3 => (Option.bind ((bif (v3.symbol != a1) then (some (true)) else (some (((List.length a2.args : Int) != (List.length v3.args : Int))))) : Option ((Bool))) fun (v5 : (Bool)) => (bif v5 then (some false) else (Option.bind (loopN (synthesisref12_Is_l1 a0 a2 r46 v3) fuel (0)) fun (v10 : ((Unit) ⊕ (Bool))) => Sum.elim (fun v11 => (some true)) (fun v12 => (some v12)) v10))))))
theorem synthesisref12_Is_b_ok (r46 : (La) → (Int) → (Tm) → Option (Bool)) (ih46 : ∀ (x0 : La) (x1 : Int) (x2 : Tm) r, r46 x0 x1 x2 = some r → PCall Try.prog 46 [eLa x0, eI x1, eTm x2] (eB (r))) (a0 : La) (a1 : Int) (a2 : Tm) (r : Bool) (h : synthesisref12_Is_b r46 a0 a1 a2 = some r) : PCall Try.prog 46 [eLa a0, eI a1, eTm a2] (eB (r)) := by
 unfold synthesisref12_Is_b at h
 refine pcl [.one .keep] Try.func46 (by kernel_rfl) (by kernel_rfl) (by kernel_rfl) ?_
 refine jn1 8 .normal (fun v2 => ⟨58, [(1, (fI (a1))), (3, (.ref 1 0 0)), (5, (.ref 2 0 0)), (20, (fB (v2)))], [(1, (.box 26 [(fS (a0.name)), (.fz ((eL 1 eI) (a0.inputs))), (.fz ((eL 2 eSy) (a0.symbols))), (.fz ((eL 9 eRu) (a0.rules)))])), (2, (.box 30 [(fI (a2.rule)), (.fz ((eL 2 eTmR) (a2.args)))]))], [2, 1], []⟩) h (by kernel_rfl) (fun v2 h => ?_) fun v2 h => ?_
 ·refine gd 5 h (by kernel_rfl) (fun h => ?_) fun h => ?_
  ·cases h; exact lj 8 (by kernel_rfl)
  cases h; exact lj 8 (by kernel_rfl)
 refine cd 0 h (by kernel_rfl) (fun h => ?_) fun h => ?_
 ·cases h; exact lq 5 (by kernel_rfl)
 refine ix nRu 7 h (by kernel_rfl) fun v3 h => ?_
 refine jn1 6 .normal (fun v5 => ⟨58, [(3, (.ref 1 0 0)), (5, (.ref 2 0 0)), (7, (.ref 3 0 0)), (39, (fB (v5)))], [(1, (.box 26 [(fS (a0.name)), (.fz ((eL 1 eI) (a0.inputs))), (.fz ((eL 2 eSy) (a0.symbols))), (.fz ((eL 9 eRu) (a0.rules)))])), (2, (.box 30 [(fI (a2.rule)), (.fz ((eL 2 eTmR) (a2.args)))])), (3, (.box 50 [(fI (v3.symbol)), (fI (v3.kind)), (fI (v3.input)), (fI (v3.const.type)), (fI (v3.const.num)), (fS (v3.const.text)), (.fz ((eL 4 eVaR) (v3.const.items))), (fS (v3.op)), (.fz ((eL 1 eI) (v3.args)))]))], [3, 2, 1], []⟩) h (by kernel_rfl) (fun v5 h => ?_) fun v5 h => ?_
 ·refine gd 6 h (by kernel_rfl) (fun h => ?_) fun h => ?_
  ·cases h; exact lj 9 (by kernel_rfl)
  cases h; exact lj 9 (by kernel_rfl)
 refine cd 0 h (by kernel_rfl) (fun h => ?_) fun h => ?_
 ·cases h; exact lq 5 (by kernel_rfl)
 refine lpx 10 (fun v6 => ⟨58, [(3, (.ref 1 0 0)), (7, (.ref 3 0 0)), (41, (.fz ((eL 2 eTmR) (a2.args)))), (42, (fI ((List.length a2.args : Int)))), (43, (fI (v6)))], [(1, (.box 26 [(fS (a0.name)), (.fz ((eL 1 eI) (a0.inputs))), (.fz ((eL 2 eSy) (a0.symbols))), (.fz ((eL 9 eRu) (a0.rules)))])), (3, (.box 50 [(fI (v3.symbol)), (fI (v3.kind)), (fI (v3.input)), (fI (v3.const.type)), (fI (v3.const.num)), (fS (v3.const.text)), (.fz ((eL 4 eVaR) (v3.const.items))), (fS (v3.op)), (.fz ((eL 1 eI) (v3.args)))]))], [3, 1], []⟩) (fun v10 e st => Sum.elim (fun p => e = .exit 0 ∧ LeSt st ⟨58, [], [], [], []⟩) (fun p => e = .ret ∧ retX TT st Try.f46.results.toList [.one .keep] = some (eB (p))) v10) h (by kernel_rfl) (le_a (by kernel_rfl)) (fun v6 r h => ?_) fun v10 h e st' hq => ?_
 ·unfold synthesisref12_Is_l1 at h
  refine cd 5 h (by kernel_rfl) (fun h => ?_) fun h => ?_
  ·refine ix nTmR 6 h (by kernel_rfl) fun v7 h => ?_
   refine dw 6 7 (by kernel_rfl) ?_
   refine ix nI 4 h (by kernel_rfl) fun v8 h => ?_
   refine cl 3 h (ih46 _ _ _) (by kernel_rfl) fun v9 h => ?_
   refine cd 2 h (by kernel_rfl) (fun h => ?_) fun h => ?_
   ·cases h; exact lor 5 (by kernel_rfl)
   cases h; exact lj 5 (by kernel_rfl)
  cases h; exact lo 1 (by kernel_rfl)
 rcases v10 with v11 | v12
 ·try simp only [Sum.elim_inl, Sum.elim_inr] at h
  obtain ⟨rfl, hle⟩ := hq
  refine ⟨_, hle, ?_⟩
  cases h; exact lq 5 (by kernel_rfl)
 ·try simp only [Sum.elim_inl, Sum.elim_inr] at h
  obtain ⟨rfl, hret⟩ := hq
  refine ⟨_, LeSt.refl, ?_⟩
  cases h; exact lv hret
def synthesisref12_Is : Nat → (La) → (Int) → (Tm) → Option (Bool)
  | 0 => fun _ _ _ => none
  | n + 1 => synthesisref12_Is_b (synthesisref12_Is n)
theorem synthesisref12_Is_ok : ∀ (n : Nat) (x0 : La) (x1 : Int) (x2 : Tm) r, synthesisref12_Is n x0 x1 x2 = some r → PCall Try.prog 46 [eLa x0, eI x1, eTm x2] (eB (r))
  | 0, _, _, _, _, h => by cases h
  | n + 1, x0, x1, x2, r, h => synthesisref12_Is_b_ok (synthesisref12_Is n) (synthesisref12_Is_ok n) x0 x1 x2 r h
end Go.Proofs.Ytfkddbccogakoaa
