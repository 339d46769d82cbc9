/- Typed programs and what computes them. -/
import Derived.Test.YtfkddbccogakoaaZ2
set_option linter.unusedVariables false
set_option linter.unusedSimpArgs false
set_option maxRecDepth 100000
namespace Go.Proofs.Ytfkddbccogakoaa
open Go Go.RowKit Go.Proofs
attribute [local irreducible] NStep StepA EStep LeSt
def synthesisref11_Check_m0 (a0 : La) : List (Nat × AObj) := [(1, (.box 26 [(fS (a0.name)), (.fz ((eL 1 eI) (a0.inputs))), (.fz ((eL 2 eSy) (a0.symbols))), (.fz ((eL 9 eRu) (a0.rules)))]))]
def synthesisref11_Check_l1 (a0 : La) (v9 : (Int)) (v12 : (Int)) : Option (((Int)) ⊕ (((Unit) ⊕ (Int)))) := (bif (decide (v12 < v9)) then (Option.bind (idx a0.symbols v12) fun v13 => (Option.bind (idx a0.symbols v9) fun v14 => (bif (v13.name.toList == v14.name.toList) then (some (.inr (.inr 6))) else (some (.inl ((w64 (v12 + 1)))))))) else (some (.inr (.inl ()))))
def synthesisref11_Check_l2 (a0 : La) (v22 : (Int)) (v25 : (Int)) : Option (((Int)) ⊕ (((Unit) ⊕ (Int)))) := (bif (decide (v25 < v22)) then (Option.bind (idx a0.rules v25) fun v26 => (Option.bind (idx a0.rules v22) fun v27 => (Option.bind (synthesisref11_SameRule (v26) (v27)) fun v28 => (bif v28 then (some (.inr (.inr 6))) else (some (.inl ((w64 (v25 + 1))))))))) else (some (.inr (.inl ()))))
def synthesisref11_Check_l3 (a0 : La) (v22 : (Int)) : Option (((Int)) ⊕ (((Unit) ⊕ (Int)))) := (bif (decide (v22 < (List.length a0.rules : Int))) then (Option.bind (idx a0.rules v22) fun v23 => (Option.bind (synthesisref11_rule (a0) (v23)) fun v24 => (bif (v24 != 0) then (some (.inr (.inr v24))) else (Option.bind (loopN (synthesisref11_Check_l2 a0 v22) fuel (0)) fun (v29 : ((Unit) ⊕ (Int))) => Sum.elim (fun v30 => (some (.inl ((w64 (v22 + 1)))))) (fun v31 => (some (.inr (.inr v31)))) v29)))) else (some (.inr (.inl ()))))
def synthesisref11_Check_l4 (a0 : La) (v9 : (Int)) : Option (((Int)) ⊕ (((Unit) ⊕ (Int)))) := (bif (decide (v9 < (List.length a0.symbols : Int))) then (Option.bind (idx a0.symbols v9) fun v10 => (Option.bind (synthesisref11_Name (v10.name)) fun v11 => (bif (!v11) then (some (.inr (.inr 5))) else (Option.bind (loopN (synthesisref11_Check_l1 a0 v9) fuel (0)) fun (v15 : ((Unit) ⊕ (Int))) => Sum.elim (fun v16 => (Option.bind (idx a0.symbols v9) fun v17 => (Option.bind (synthesisref11_typed (v17.type)) fun v18 => (bif (!v18) then (some (.inr (.inr 3))) else (some (.inl ((w64 (v9 + 1))))))))) (fun v19 => (some (.inr (.inr v19)))) v15)))) else (some (.inr (.inl ()))))
def synthesisref11_Check_l5 (a0 : La) (v2 : (Int)) : Option (((Int)) ⊕ (((Unit) ⊕ (Int)))) := (bif (decide (v2 < (List.length a0.inputs : Int))) then (Option.bind (idx a0.inputs v2) fun v3 => (Option.bind (synthesisref11_typed (v3)) fun v4 => (bif (!v4) then (some (.inr (.inr 3))) else (some (.inl ((w64 (v2 + 1)))))))) else (some (.inr (.inl ()))))
def synthesisref11_Check (a0 : La) : Option (Int) := (Option.bind (synthesisref11_Name (a0.name)) fun v1 => (bif (!v1) then (some 5) else (bif (decide (4 < (List.length a0.inputs : Int))) then (some 2) else (Option.bind (loopN (synthesisref11_Check_l5 a0) fuel (0)) fun (v5 : ((Unit) ⊕ (Int))) => Sum.elim (fun v6 => (Option.bind ((bif (decide ((List.length a0.symbols : Int) < 1)) then (some (true)) else (some ((decide (16 < (List.length a0.symbols : Int)))))) : Option ((Bool))) fun (v8 : (Bool)) => (bif v8 then (some 2) else (Option.bind (loopN (synthesisref11_Check_l4 a0) fuel (0)) fun (v20 : ((Unit) ⊕ (Int))) => Sum.elim (fun v21 => (bif (decide (96 < (List.length a0.rules : Int))) then (some 2) else (Option.bind (loopN (synthesisref11_Check_l3 a0) fuel (0)) fun (v32 : ((Unit) ⊕ (Int))) => Sum.elim (fun v33 => (some 0)) (fun v34 => (some v34)) v32))) (fun v35 => (some v35)) v20)))) (fun v36 => (some v36)) v5))))
theorem synthesisref11_Check_ok (a0 : La) (r : Int) (h : synthesisref11_Check a0 = some r) : PCall Try.prog 40 [eLa a0] (eI (r)) := by
 unfold synthesisref11_Check at h
 refine pcl [.one .keep] Try.func40 (by kernel_rfl) (by kernel_rfl) (by kernel_rfl) ?_
 refine cl 10 h (synthesisref11_Name_ok _) (by kernel_rfl) fun v1 h => ?_
 refine cd 2 h (by kernel_rfl) (fun h => ?_) fun h => ?_
 ·cases h; exact lq 5 (by kernel_rfl)
 refine cd 9 h (by kernel_rfl) (fun h => ?_) fun h => ?_
 ·cases h; exact lq 5 (by kernel_rfl)
 refine lpx 7 (fun v2 => ⟨119, [(1, (.ref 1 0 0)), (3, (fI (v2)))], (synthesisref11_Check_m0 a0), [1], []⟩) (fun v5 e st => Sum.elim (fun p => e = .exit 0 ∧ LeSt st ⟨119, [(1, (.ref 1 0 0))], (synthesisref11_Check_m0 a0), [1], []⟩) (fun p => e = .ret ∧ retX TT st Try.f40.results.toList [.one .keep] = some (eI (p))) v5) h (by kernel_rfl) (le_a (by kernel_rfl)) (fun v2 r h => ?_) fun v5 h e st' hq => ?_
 ·unfold synthesisref11_Check_l5 at h
  refine cd 9 h (by kernel_rfl) (fun h => ?_) fun h => ?_
  ·refine ix nI 8 h (by kernel_rfl) fun v3 h => ?_
   refine cl 1 h (synthesisref11_typed_ok _) (by kernel_rfl) fun v4 h => ?_
   refine cd 2 h (by kernel_rfl) (fun h => ?_) fun h => ?_
   ·cases h; exact lor 5 (by kernel_rfl)
   cases h; exact lj 6 (by kernel_rfl)
  cases h; exact lo 1 (by kernel_rfl)
 rcases v5 with v6 | v36
 ·try simp only [Sum.elim_inl, Sum.elim_inr] at h
  obtain ⟨rfl, hle⟩ := hq
  refine ⟨_, hle, ?_⟩
  refine jn1 2 .normal (fun v8 => ⟨119, [(1, (.ref 1 0 0)), (40, (fB (v8)))], (synthesisref11_Check_m0 a0), [1], []⟩) h (by kernel_rfl) (fun v8 h => ?_) fun v8 h => ?_
  ·refine gd 6 h (by kernel_rfl) (fun h => ?_) fun h => ?_
   ·cases h; exact lj 6 (by kernel_rfl)
   cases h; exact lj 6 (by kernel_rfl)
  refine cd 0 h (by kernel_rfl) (fun h => ?_) fun h => ?_
  ·cases h; exact lq 5 (by kernel_rfl)
  refine lpx 7 (fun v9 => ⟨119, [(1, (.ref 1 0 0)), (4, (fI (v9)))], (synthesisref11_Check_m0 a0), [1], []⟩) (fun v20 e st => Sum.elim (fun p => e = .exit 2 ∧ LeSt st ⟨119, [(1, (.ref 1 0 0))], (synthesisref11_Check_m0 a0), [1], []⟩) (fun p => e = .ret ∧ retX TT st Try.f40.results.toList [.one .keep] = some (eI (p))) v20) h (by kernel_rfl) (le_a (by kernel_rfl)) (fun v9 r h => ?_) fun v20 h e st' hq => ?_
  ·unfold synthesisref11_Check_l4 at h
   refine cd 9 h (by kernel_rfl) (fun h => ?_) fun h => ?_
   ·refine ix nSy 9 h (by kernel_rfl) fun v10 h => ?_
    refine cl 2 h (synthesisref11_Name_ok _) (by kernel_rfl) fun v11 h => ?_
    refine cd 2 h (by kernel_rfl) (fun h => ?_) fun h => ?_
    ·cases h; exact lor 5 (by kernel_rfl)
    refine lpx 7 (fun v12 => ⟨119, [(1, (.ref 1 0 0)), (4, (fI (v9))), (5, (fI (v12)))], (synthesisref11_Check_m0 a0), [1], []⟩) (fun v15 e st => Sum.elim (fun p => e = .exit 4 ∧ LeSt st ⟨119, [(1, (.ref 1 0 0)), (4, (fI (v9)))], (synthesisref11_Check_m0 a0), [1], []⟩) (fun p => e = .ret ∧ retX TT st Try.f40.results.toList [.one .keep] = some (eI (p))) v15) h (by kernel_rfl) (le_a (by kernel_rfl)) (fun v12 r h => ?_) fun v15 h e st' hq => ?_
    ·unfold synthesisref11_Check_l1 at h
     refine cd 7 h (by kernel_rfl) (fun h => ?_) fun h => ?_
     ·refine dw 4 12 (by kernel_rfl) ?_
      refine ix nSy 3 h (by kernel_rfl) fun v13 h => ?_
      refine ix nSy 5 h (by kernel_rfl) fun v14 h => ?_
      refine cd 5 h (by kernel_rfl) (fun h => ?_) fun h => ?_
      ·cases h; exact lor 5 (by kernel_rfl)
      cases h; exact lj 6 (by kernel_rfl)
     cases h; exact lo 1 (by kernel_rfl)
    rcases v15 with v16 | v19
    ·try simp only [Sum.elim_inl, Sum.elim_inr] at h
     obtain ⟨rfl, hle⟩ := hq
     refine ⟨_, hle, ?_⟩
     refine ix nSy 5 h (by kernel_rfl) fun v17 h => ?_
     refine cl 2 h (synthesisref11_typed_ok _) (by kernel_rfl) fun v18 h => ?_
     refine cd 2 h (by kernel_rfl) (fun h => ?_) fun h => ?_
     ·cases h; exact lor 5 (by kernel_rfl)
     cases h; exact lj 6 (by kernel_rfl)
    ·try simp only [Sum.elim_inl, Sum.elim_inr] at h
     obtain ⟨rfl, hret⟩ := hq
     refine ⟨_, LeSt.refl, ?_⟩
     cases h; exact lvo hret
   cases h; exact lo 1 (by kernel_rfl)
  rcases v20 with v21 | v35
  ·try simp only [Sum.elim_inl, Sum.elim_inr] at h
   obtain ⟨rfl, hle⟩ := hq
   refine ⟨_, hle, ?_⟩
   refine cd 8 h (by kernel_rfl) (fun h => ?_) fun h => ?_
   ·cases h; exact lq 5 (by kernel_rfl)
   refine lpx 7 (fun v22 => ⟨119, [(1, (.ref 1 0 0)), (6, (fI (v22)))], (synthesisref11_Check_m0 a0), [1], []⟩) (fun v32 e st => Sum.elim (fun p => e = .exit 6 ∧ LeSt st ⟨119, [], [], [], []⟩) (fun p => e = .ret ∧ retX TT st Try.f40.results.toList [.one .keep] = some (eI (p))) v32) h (by kernel_rfl) (le_a (by kernel_rfl)) (fun v22 r h => ?_) fun v32 h e st' hq => ?_
   ·unfold synthesisref11_Check_l3 at h
    refine cd 9 h (by kernel_rfl) (fun h => ?_) fun h => ?_
    ·refine dw 5 6 (by kernel_rfl) ?_
     refine ix nRu 4 h (by kernel_rfl) fun v23 h => ?_
     refine cl 2 h (synthesisref11_rule_ok _ _) (by kernel_rfl) fun v24 h => ?_
     refine cd 7 h (by kernel_rfl) (fun h => ?_) fun h => ?_
     ·cases h; exact lor 6 (by kernel_rfl)
     refine lpx 6 (fun v25 => ⟨119, [(1, (.ref 1 0 0)), (6, (fI (v22))), (8, (fI (v25)))], (synthesisref11_Check_m0 a0), [1], []⟩) (fun v29 e st => Sum.elim (fun p => e = .exit 8 ∧ LeSt st ⟨119, [(1, (.ref 1 0 0)), (6, (fI (v22)))], (synthesisref11_Check_m0 a0), [1], []⟩) (fun p => e = .ret ∧ retX TT st Try.f40.results.toList [.one .keep] = some (eI (p))) v29) h (by kernel_rfl) (le_a (by kernel_rfl)) (fun v25 r h => ?_) fun v29 h e st' hq => ?_
     ·unfold synthesisref11_Check_l2 at h
      refine cd 7 h (by kernel_rfl) (fun h => ?_) fun h => ?_
      ·refine dw 4 10 (by kernel_rfl) ?_
       refine ix nRu 3 h (by kernel_rfl) fun v26 h => ?_
       refine ix nRu 4 h (by kernel_rfl) fun v27 h => ?_
       refine cl 2 h (synthesisref11_SameRule_ok _ _) (by kernel_rfl) fun v28 h => ?_
       refine cd 1 h (by kernel_rfl) (fun h => ?_) fun h => ?_
       ·cases h; exact lor 5 (by kernel_rfl)
       cases h; exact lj 6 (by kernel_rfl)
      cases h; exact lo 1 (by kernel_rfl)
     rcases v29 with v30 | v31
     ·try simp only [Sum.elim_inl, Sum.elim_inr] at h
      obtain ⟨rfl, hle⟩ := hq
      refine ⟨_, hle, ?_⟩
      cases h; exact lj 5 (by kernel_rfl)
     ·try simp only [Sum.elim_inl, Sum.elim_inr] at h
      obtain ⟨rfl, hret⟩ := hq
      refine ⟨_, LeSt.refl, ?_⟩
      cases h; exact lvo hret
    cases h; exact lo 1 (by kernel_rfl)
   rcases v32 with v33 | v34
   ·try simp only [Sum.elim_inl, Sum.elim_inr] at h
    obtain ⟨rfl, hle⟩ := hq
    refine ⟨_, hle, ?_⟩
    cases h; exact lq 5 (by kernel_rfl)
   ·try simp only [Sum.elim_inl, Sum.elim_inr] at h
    obtain ⟨rfl, hret⟩ := hq
    refine ⟨_, LeSt.refl, ?_⟩
    cases h; exact lv hret
  ·try simp only [Sum.elim_inl, Sum.elim_inr] at h
   obtain ⟨rfl, hret⟩ := hq
   refine ⟨_, LeSt.refl, ?_⟩
   cases h; exact lv hret
 ·try simp only [Sum.elim_inl, Sum.elim_inr] at h
  obtain ⟨rfl, hret⟩ := hq
  refine ⟨_, LeSt.refl, ?_⟩
  cases h; exact lv hret

def synthesisref12_wrong (a0 : La) (a1 : Int) (a2 : Int) : Option (Int) := (Option.bind (synthesisref11_Check (a0)) fun v1 => (bif (v1 != 0) then (some v1) else (Option.bind ((bif (decide (a1 < 0)) then (some (true)) else (bif (decide ((List.length a0.symbols : Int) ≤ a1)) then (some (true)) else (bif (decide (a2 < 1)) then (some (true)) else (some ((decide (24 < a2))))))) : Option ((Bool))) fun (v3 : (Bool)) => (bif v3 then (some 1) else (some 0)))))
theorem synthesisref12_wrong_ok (a0 : La) (a1 : Int) (a2 : Int) (r : Int) (h : synthesisref12_wrong a0 a1 a2 = some r) : PCall Try.prog 33 [eLa a0, eI a1, eI a2] (eI (r)) := by
 unfold synthesisref12_wrong at h
 refine pcl [.one .keep] Try.func33 (by kernel_rfl) (by kernel_rfl) (by kernel_rfl) ?_
 refine cl 9 h (synthesisref11_Check_ok _) (by kernel_rfl) fun v1 h => ?_
 refine cd 7 h (by kernel_rfl) (fun h => ?_) fun h => ?_
 ·cases h; exact lq 6 (by kernel_rfl)
 refine jn1 3 .normal (fun v3 => ⟨30, [(29, (fB (v3)))], [], [], []⟩) h (by kernel_rfl) (fun v3 h => ?_) fun v3 h => ?_
 ·refine gd 4 h (by kernel_rfl) (fun h => ?_) fun h => ?_
  ·cases h; exact lj 15 (by kernel_rfl)
  refine gd 7 h (by kernel_rfl) (fun h => ?_) fun h => ?_
  ·cases h; exact lj 8 (by kernel_rfl)
  refine gd 4 h (by kernel_rfl) (fun h => ?_) fun h => ?_
  ·cases h; exact lj 4 (by kernel_rfl)
  cases h; exact lj 4 (by kernel_rfl)
 refine cd 0 h (by kernel_rfl) (fun h => ?_) fun h => ?_
 ·cases h; exact lq 5 (by kernel_rfl)
 cases h; exact lq 6 (by kernel_rfl)

def synthesisref12_capped (a0 : Int) : Option (Int) := (some (imin a0 1152921504606846977))
theorem synthesisref12_capped_ok (a0 : Int) (r : Int) (h : synthesisref12_capped a0 = some r) : PCall Try.prog 52 [eI a0] (eI (r)) := by
 unfold synthesisref12_capped at h
 refine pcl [.one .keep] Try.func52 (by kernel_rfl) (by kernel_rfl) (by kernel_rfl) ?_
 cases h; exact lq 11 (by kernel_rfl)

def synthesisref12_plus (a0 : Int) (a1 : Int) : Option (Int) := (Option.bind (synthesisref12_capped ((w64 (a0 + a1)))) fun v1 => (some v1))
theorem synthesisref12_plus_ok (a0 : Int) (a1 : Int) (r : Int) (h : synthesisref12_plus a0 a1 = some r) : PCall Try.prog 37 [eI a0, eI a1] (eI (r)) := by
 unfold synthesisref12_plus at h
 refine pcl [.one .keep] Try.func37 (by kernel_rfl) (by kernel_rfl) (by kernel_rfl) ?_
 refine cl 9 h (synthesisref12_capped_ok _) (by kernel_rfl) fun v1 h => ?_
 cases h; exact lq 3 (by kernel_rfl)

def synthesisref12_times (a0 : Int) (a1 : Int) : Option (Int) := (Option.bind ((bif (decide (0 < a0)) then (Option.bind (quo .i64 1152921504606846977 a0) fun v1 => (some ((decide (v1 < a1))))) else (some (false))) : Option ((Bool))) fun (v3 : (Bool)) => (bif v3 then (some 1152921504606846977) else (Option.bind (synthesisref12_capped ((w64 (a0 * a1)))) fun v4 => (some v4))))
theorem synthesisref12_times_ok (a0 : Int) (a1 : Int) (r : Int) (h : synthesisref12_times a0 a1 = some r) : PCall Try.prog 64 [eI a0, eI a1] (eI (r)) := by
 unfold synthesisref12_times at h
 refine pcl [.one .keep] Try.func64 (by kernel_rfl) (by kernel_rfl) (by kernel_rfl) ?_
 refine jn1 6 .normal (fun v3 => ⟨17, [(0, (fI (a0))), (1, (fI (a1))), (12, (fB (v3)))], [], [], []⟩) h (by kernel_rfl) (fun v3 h => ?_) fun v3 h => ?_
 ·refine gd 4 h (by kernel_rfl) (fun h => ?_) fun h => ?_
  ·obtain ⟨v1, hv1, h⟩ := Option.bind_eq_some_iff.1 h
   refine nst 2 (s_quo (t := 2) (x := (.const (.int .i64 1152921504606846977))) (y := (.tmp 9)) (yt := 2) (k := .i64) (m := 1152921504606846977) (n := a0) hv1 (by kernel_rfl) (by kernel_rfl) (by kernel_rfl)) (by kernel_rfl) ?_
   cases h; exact lj 3 (by kernel_rfl)
  cases h; exact lj 6 (by kernel_rfl)
 refine cd 0 h (by kernel_rfl) (fun h => ?_) fun h => ?_
 ·cases h; exact lq 5 (by kernel_rfl)
 refine cl 6 h (synthesisref12_capped_ok _) (by kernel_rfl) fun v4 h => ?_
 cases h; exact lq 3 (by kernel_rfl)

def synthesisref12_ways_l1 (a0 : List (List Int)) (a2 : Int) (v3 : (Int) × (List Int)) (v4 : Int) (v6 : (Int) × (List Int)) (v7 : (Int) × (List Int)) : Option (((Int) × (List Int)) ⊕ ((List Int))) := (bif (decide ((w64 (v6.1 + v7.1)) ≤ a2)) then (Option.bind (idx v7.2 (w64 (v6.1 + v7.1))) fun v8 => (Option.bind (idx v3.2 v6.1) fun v9 => (Option.bind (idx a0 v4) fun v10 => (Option.bind (idx v10 v7.1) fun v11 => (Option.bind (synthesisref12_times (v9) (v11)) fun v12 => (Option.bind (synthesisref12_plus (v8) (v12)) fun v13 => (Option.bind (idx v7.2 (w64 (v6.1 + v7.1))) fun v14 => (some (.inl ((w64 (v7.1 + 1)), (List.set v7.2 (Int.toNat (w64 (v6.1 + v7.1))) v13))))))))))) else (some (.inr (v7.2))))
def synthesisref12_ways_l2 (a0 : List (List Int)) (a2 : Int) (v3 : (Int) × (List Int)) (v4 : Int) (v6 : (Int) × (List Int)) : Option (((Int) × (List Int)) ⊕ ((List Int))) := (bif (decide (v6.1 ≤ a2)) then (Option.bind (loopN (synthesisref12_ways_l1 a0 a2 v3 v4 v6) fuel (1, v6.2)) fun (v16 : (List Int)) => (some (.inl ((w64 (v6.1 + 1)), v16)))) else (some (.inr (v6.2))))
def synthesisref12_ways_l3 (a0 : List (List Int)) (a1 : List Int) (a2 : Int) (v3 : (Int) × (List Int)) : Option (((Int) × (List Int)) ⊕ ((List Int))) := (bif (decide (v3.1 < (List.length a1 : Int))) then (Option.bind (idx a1 v3.1) fun v4 => (Option.bind (mkL 8 0 (w64 (a2 + 1))) fun v5 => (Option.bind (loopN (synthesisref12_ways_l2 a0 a2 v3 v4) fuel (0, v5)) fun (v18 : (List Int)) => (some (.inl ((w64 (v3.1 + 1)), v18)))))) else (some (.inr (v3.2))))
def synthesisref12_ways (a0 : List (List Int)) (a1 : List Int) (a2 : Int) : Option (Int) := (Option.bind (mkL 8 0 (w64 (a2 + 1))) fun v1 => (Option.bind (idx v1 0) fun v2 => (Option.bind (loopN (synthesisref12_ways_l3 a0 a1 a2) fuel (0, (List.set v1 (Int.toNat 0) 1))) fun (v20 : (List Int)) => (Option.bind (idx v20 a2) fun v21 => (some v21)))))
theorem synthesisref12_ways_ok (a0 : List (List Int)) (a1 : List Int) (a2 : Int) (r : Int) (h : synthesisref12_ways a0 a1 a2 = some r) : PCall Try.prog 42 [(eL 1 (eL 1 eI)) a0, (eL 1 eI) a1, eI a2] (eI (r)) := by
 unfold synthesisref12_ways at h
 refine pcl [.one .keep] Try.func42 (by kernel_rfl) (by kernel_rfl) (by kernel_rfl) ?_
 obtain ⟨v1, hv1, h⟩ := Option.bind_eq_some_iff.1 h
 refine sst 8 (s_make (t := 62) (X := (.tmp 14)) (Y := (.tmp 14)) (id := 1) (k := .i64) (k' := .i64) (d := tt62) (e := 2) (de := tt2) (enc := eI) (zv := .int .i64 0) hv1 (by kernel_rfl) tt_ok (by kernel_rfl) (by kernel_rfl) (by kernel_rfl) rfl rfl rfl rfl rfl (by kernel_rfl) (by kernel_rfl) (by kernel_rfl)) (by kernel_rfl) ?_
 obtain ⟨v2, hv2, h⟩ := Option.bind_eq_some_iff.1 h
 refine nst 5 (n_rowAddr (t := 62) (X := (.tmp 16)) (Y := (.const (.int .i64 0))) (id := 1) (k := .i64) (d := tt62) (e := 2) (de := tt2) (enc := eI) (xs := v1) (n := List.length (v1)) hv2 tt_ok (by kernel_rfl) (by kernel_rfl) (by kernel_rfl) (by kernel_rfl) (by kernel_rfl) (by kernel_rfl) (by kernel_rfl) rfl (by kernel_rfl)) (by kernel_rfl) ?_
 refine sst 0 (e_rowStore (t := 2) (X := (.tmp 17)) (Y := (.const (.int .i64 1))) (id := 1) (d := tt2) (enc := eI) (xs := v1) (x := v2) (i := 0) (y := 1) (n := List.length (v1)) hv2 tt_ok (by kernel_rfl) (by kernel_rfl) (by kernel_rfl) (by kernel_rfl) (by kernel_rfl) rfl (by kernel_rfl) (fun _ => ⟨_, rfl, rfl⟩)) (by kernel_rfl) ?_
 refine wle 0 (LeSt.trans (show LeSt _ ⟨69, [(0, (.fz ((eL 1 (eL 1 eI)) (a0)))), (1, (.fz ((eL 1 eI) (a1)))), (2, (fI (a2))), (7, (.row 1 (List.length (v1)))), (16, (.row 1 (List.length (v1))))], [(1, (.frow 2 1 (List.map eI ((List.set v1 (Int.toNat 0) 1)))))], [1], []⟩ from le_a (by kernel_rfl)) (LeSt.trans (le_relen 1 (k := 2) (m := List.length (v1)) (n := List.length ((List.set v1 (Int.toNat 0) 1))) (by kernel_rfl) (by simp)) (show LeSt _ ⟨69, [(0, (.fz ((eL 1 (eL 1 eI)) (a0)))), (1, (.fz ((eL 1 eI) (a1)))), (2, (fI (a2))), (7, (.row 1 (List.length ((List.set v1 (Int.toNat 0) 1))))), (16, (.row 1 (List.length ((List.set v1 (Int.toNat 0) 1)))))], [(1, (.frow 2 1 (List.map eI ((List.set v1 (Int.toNat 0) 1)))))], [1], []⟩ from le_a (by kernel_rfl)))) (by kernel_rfl) ?_
 refine lp1 9 (fun v3 => ⟨69, [(0, (.fz ((eL 1 (eL 1 eI)) (a0)))), (2, (fI (a2))), (7, (.row 1 (List.length (v3.2)))), (18, (.fz ((eL 1 eI) (a1)))), (19, (fI ((List.length a1 : Int)))), (20, (fI (v3.1)))], [(1, (.frow 2 1 (List.map eI (v3.2))))], [1], []⟩) (.exit 0) (fun v20 => ⟨69, [(2, (fI (a2))), (7, (.row 1 (List.length (v20))))], [(1, (.frow 2 1 (List.map eI (v20))))], [1], []⟩) h (by kernel_rfl) (by kernel_rfl) (fun v3 r h => ?_) fun v20 h => ?_
 ·unfold synthesisref12_ways_l3 at h
  refine cd 5 h (by kernel_rfl) (fun h => ?_) fun h => ?_
  ·refine ix nI 5 h (by kernel_rfl) fun v4 h => ?_
   obtain ⟨v5, hv5, h⟩ := Option.bind_eq_some_iff.1 h
   refine sst 7 (s_make (t := 62) (X := (.tmp 25)) (Y := (.tmp 25)) (id := 2) (k := .i64) (k' := .i64) (d := tt62) (e := 2) (de := tt2) (enc := eI) (zv := .int .i64 0) hv5 (by kernel_rfl) tt_ok (by kernel_rfl) (by kernel_rfl) (by kernel_rfl) rfl rfl rfl rfl rfl (by kernel_rfl) (by kernel_rfl) (by kernel_rfl)) (by kernel_rfl) ?_
   refine lp1 8 (fun v6 => ⟨69, [(0, (.fz ((eL 1 (eL 1 eI)) (a0)))), (2, (fI (a2))), (7, (.row 1 (List.length (v3.2)))), (9, (fI (v4))), (10, (.row 2 (List.length (v6.2)))), (11, (fI (v6.1))), (18, (.fz ((eL 1 eI) (a1)))), (19, (fI ((List.length a1 : Int)))), (20, (fI (v3.1)))], [(1, (.frow 2 1 (List.map eI (v3.2)))), (2, (.frow 2 1 (List.map eI (v6.2))))], [2, 1], []⟩) (.exit 2) (fun v18 => ⟨69, [(0, (.fz ((eL 1 (eL 1 eI)) (a0)))), (2, (fI (a2))), (10, (.row 2 (List.length (v18)))), (18, (.fz ((eL 1 eI) (a1)))), (19, (fI ((List.length a1 : Int)))), (20, (fI (v3.1)))], [(2, (.frow 2 1 (List.map eI (v18))))], [2], []⟩) h (by kernel_rfl) (by kernel_rfl) (fun v6 r h => ?_) fun v18 h => ?_
   ·unfold synthesisref12_ways_l2 at h
    refine cd 7 h (by kernel_rfl) (fun h => ?_) fun h => ?_
    ·refine lp1 8 (fun v7 => ⟨69, [(0, (.fz ((eL 1 (eL 1 eI)) (a0)))), (2, (fI (a2))), (7, (.row 1 (List.length (v3.2)))), (9, (fI (v4))), (10, (.row 2 (List.length (v7.2)))), (11, (fI (v6.1))), (12, (fI (v7.1))), (18, (.fz ((eL 1 eI) (a1)))), (19, (fI ((List.length a1 : Int)))), (20, (fI (v3.1)))], [(1, (.frow 2 1 (List.map eI (v3.2)))), (2, (.frow 2 1 (List.map eI (v7.2))))], [2, 1], []⟩) (.exit 4) (fun v16 => ⟨69, [(0, (.fz ((eL 1 (eL 1 eI)) (a0)))), (2, (fI (a2))), (7, (.row 1 (List.length (v3.2)))), (9, (fI (v4))), (10, (.row 2 (List.length (v16)))), (11, (fI (v6.1))), (18, (.fz ((eL 1 eI) (a1)))), (19, (fI ((List.length a1 : Int)))), (20, (fI (v3.1)))], [(1, (.frow 2 1 (List.map eI (v3.2)))), (2, (.frow 2 1 (List.map eI (v16))))], [2, 1], []⟩) h (by kernel_rfl) (by kernel_rfl) (fun v7 r h => ?_) fun v16 h => ?_
     ·unfold synthesisref12_ways_l1 at h
      refine cd 9 h (by kernel_rfl) (fun h => ?_) fun h => ?_
      ·refine dw 3 23 (by kernel_rfl) ?_
       obtain ⟨v8, hv8, h⟩ := Option.bind_eq_some_iff.1 h
       refine nst 8 (n_rowAddr (t := 62) (X := (.tmp 43)) (Y := (.tmp 46)) (id := 2) (k := .i64) (d := tt62) (e := 2) (de := tt2) (enc := eI) (xs := v7.2) (n := List.length (v7.2)) hv8 tt_ok (by kernel_rfl) (by kernel_rfl) (by kernel_rfl) (by kernel_rfl) (by kernel_rfl) (by kernel_rfl) (by kernel_rfl) rfl (by kernel_rfl)) (by kernel_rfl) ?_
       refine nst 0 (n_rowLoad (t := 2) (X := (.tmp 47)) (id := 2) (d := tt2) (enc := eI) (xs := v7.2) (x := v8) (i := (w64 (v6.1 + v7.1))) (n := List.length (v7.2)) hv8 tt_ok (by kernel_rfl) (by kernel_rfl) (by kernel_rfl) (by kernel_rfl) (by kernel_rfl) rfl (fun _ => rfl)) (by kernel_rfl) ?_
       obtain ⟨v9, hv9, h⟩ := Option.bind_eq_some_iff.1 h
       refine nst 2 (n_rowAddr (t := 62) (X := (.tmp 49)) (Y := (.tmp 50)) (id := 1) (k := .i64) (d := tt62) (e := 2) (de := tt2) (enc := eI) (xs := v3.2) (n := List.length (v3.2)) hv9 tt_ok (by kernel_rfl) (by kernel_rfl) (by kernel_rfl) (by kernel_rfl) (by kernel_rfl) (by kernel_rfl) (by kernel_rfl) rfl (by kernel_rfl)) (by kernel_rfl) ?_
       refine nst 0 (n_rowLoad (t := 2) (X := (.tmp 51)) (id := 1) (d := tt2) (enc := eI) (xs := v3.2) (x := v9) (i := v6.1) (n := List.length (v3.2)) hv9 tt_ok (by kernel_rfl) (by kernel_rfl) (by kernel_rfl) (by kernel_rfl) (by kernel_rfl) rfl (fun _ => rfl)) (by kernel_rfl) ?_
       refine ix (nL 1 nI) 2 h (by kernel_rfl) fun v10 h => ?_
       refine ix nI 2 h (by kernel_rfl) fun v11 h => ?_
       refine cl 1 h (synthesisref12_times_ok _ _) (by kernel_rfl) fun v12 h => ?_
       refine cl 0 h (synthesisref12_plus_ok _ _) (by kernel_rfl) fun v13 h => ?_
       obtain ⟨v14, hv14, h⟩ := Option.bind_eq_some_iff.1 h
       refine nst 1 (n_rowAddr (t := 62) (X := (.tmp 39)) (Y := (.tmp 42)) (id := 2) (k := .i64) (d := tt62) (e := 2) (de := tt2) (enc := eI) (xs := v7.2) (n := List.length (v7.2)) hv14 tt_ok (by kernel_rfl) (by kernel_rfl) (by kernel_rfl) (by kernel_rfl) (by kernel_rfl) (by kernel_rfl) (by kernel_rfl) rfl (by kernel_rfl)) (by kernel_rfl) ?_
       refine sst 0 (e_rowStore (t := 2) (X := (.tmp 62)) (Y := (.tmp 61)) (id := 2) (d := tt2) (enc := eI) (xs := v7.2) (x := v14) (i := (w64 (v6.1 + v7.1))) (y := v13) (n := List.length (v7.2)) hv14 tt_ok (by kernel_rfl) (by kernel_rfl) (by kernel_rfl) (by kernel_rfl) (by kernel_rfl) rfl (by kernel_rfl) (fun _ => ⟨_, rfl, rfl⟩)) (by kernel_rfl) ?_
       refine wle 0 (LeSt.trans (show LeSt _ ⟨69, [(0, (.fz ((eL 1 (eL 1 eI)) (a0)))), (2, (fI (a2))), (7, (.row 1 (List.length (v3.2)))), (9, (fI (v4))), (10, (.row 2 (List.length (v7.2)))), (11, (fI (v6.1))), (12, (fI (v7.1))), (18, (.fz ((eL 1 eI) (a1)))), (19, (fI ((List.length a1 : Int)))), (20, (fI (v3.1))), (39, (.row 2 (List.length (v7.2)))), (42, (fI ((w64 (v6.1 + v7.1))))), (61, (fI (v13)))], [(1, (.frow 2 1 (List.map eI (v3.2)))), (2, (.frow 2 1 (List.map eI ((List.set v7.2 (Int.toNat (w64 (v6.1 + v7.1))) v13)))))], [2, 1], []⟩ from le_a (by kernel_rfl)) (LeSt.trans (le_relen 2 (k := 2) (m := List.length (v7.2)) (n := List.length ((List.set v7.2 (Int.toNat (w64 (v6.1 + v7.1))) v13))) (by kernel_rfl) (by simp)) (show LeSt _ ⟨69, [(0, (.fz ((eL 1 (eL 1 eI)) (a0)))), (2, (fI (a2))), (7, (.row 1 (List.length (v3.2)))), (9, (fI (v4))), (10, (.row 2 (List.length ((List.set v7.2 (Int.toNat (w64 (v6.1 + v7.1))) v13))))), (11, (fI (v6.1))), (12, (fI (v7.1))), (18, (.fz ((eL 1 eI) (a1)))), (19, (fI ((List.length a1 : Int)))), (20, (fI (v3.1))), (39, (.row 2 (List.length ((List.set v7.2 (Int.toNat (w64 (v6.1 + v7.1))) v13))))), (42, (fI ((w64 (v6.1 + v7.1))))), (61, (fI (v13)))], [(1, (.frow 2 1 (List.map eI (v3.2)))), (2, (.frow 2 1 (List.map eI ((List.set v7.2 (Int.toNat (w64 (v6.1 + v7.1))) v13)))))], [2, 1], []⟩ from le_a (by kernel_rfl)))) (by kernel_rfl) ?_
       cases h; exact lj 6 (by kernel_rfl)
      cases h; exact lo 1 (by kernel_rfl)
     cases h; exact lj 5 (by kernel_rfl)
    cases h; exact lo 1 (by kernel_rfl)
   cases h; exact ljx 8 (LeSt.trans (show LeSt _ ⟨69, [(0, (.fz ((eL 1 (eL 1 eI)) (a0)))), (2, (fI (a2))), (7, (.row 2 (List.length (v18)))), (18, (.fz ((eL 1 eI) (a1)))), (19, (fI ((List.length a1 : Int)))), (20, (fI ((w64 (v3.1 + 1)))))], [(2, (.frow 2 1 (List.map eI (v18))))], [2], []⟩ from le_a (by kernel_rfl)) (LeSt.trans (le_ren [(2, 1)] (by kernel_rfl)) (le_a (by kernel_rfl)))) (by kernel_rfl)
  cases h; exact lo 1 (by kernel_rfl)
 obtain ⟨v21, hv21, h⟩ := Option.bind_eq_some_iff.1 h
 refine nst 4 (n_rowAddr (t := 62) (X := (.tmp 65)) (Y := (.tmp 66)) (id := 1) (k := .i64) (d := tt62) (e := 2) (de := tt2) (enc := eI) (xs := v20) (n := List.length (v20)) hv21 tt_ok (by kernel_rfl) (by kernel_rfl) (by kernel_rfl) (by kernel_rfl) (by kernel_rfl) (by kernel_rfl) (by kernel_rfl) rfl (by kernel_rfl)) (by kernel_rfl) ?_
 refine nst 0 (n_rowLoad (t := 2) (X := (.tmp 67)) (id := 1) (d := tt2) (enc := eI) (xs := v20) (x := v21) (i := a2) (n := List.length (v20)) hv21 tt_ok (by kernel_rfl) (by kernel_rfl) (by kernel_rfl) (by kernel_rfl) (by kernel_rfl) rfl (fun _ => rfl)) (by kernel_rfl) ?_
 cases h; exact lq 3 (by kernel_rfl)

def synthesisref12_Table_l1 (a0 : La) (v7 : (Int) × (List (List Int))) (v8 : (Int) × (List (List Int))) : Option (((Int) × (List (List Int))) ⊕ ((List (List Int)))) := (bif (decide (v8.1 < (List.length a0.rules : Int))) then (Option.bind (idx a0.rules v8.1) fun v9 => (Option.bind (idx (v8.2) v9.symbol) fun v10 => (Option.bind (idx (v8.2) v9.symbol) fun v11 => (Option.bind (idx v11 v7.1) fun v12 => (Option.bind (synthesisref12_ways (v8.2) (v9.args) ((w64 (v7.1 - 1)))) fun v13 => (Option.bind (synthesisref12_plus (v12) (v13)) fun v14 => (Option.bind (idx v10 v7.1) fun v15 => (some (.inl ((w64 (v8.1 + 1)), (List.set (v8.2) (Int.toNat (v9.symbol)) (List.set v10 (Int.toNat (v7.1)) v14)))))))))))) else (some (.inr (v8.2))))
def synthesisref12_Table_l2 (a0 : La) (a1 : Int) (v7 : (Int) × (List (List Int))) : Option (((Int) × (List (List Int))) ⊕ ((List (List Int)))) := (bif (decide (v7.1 ≤ a1)) then (Option.bind (loopN (synthesisref12_Table_l1 a0 v7) fuel (0, v7.2)) fun (v17 : (List (List Int))) => (some (.inl ((w64 (v7.1 + 1)), v17)))) else (some (.inr (v7.2))))
def synthesisref12_Table_l3 (a1 : Int) (v2 : (Int) × (List (List Int))) : Option (((Int) × (List (List Int))) ⊕ ((List (List Int)))) := (bif (decide (v2.1 < (List.length (v2.2) : Int))) then (Option.bind (mkL 8 0 (w64 (a1 + 1))) fun v3 => (Option.bind (idx (v2.2) v2.1) fun v4 => (some (.inl ((w64 (v2.1 + 1)), (List.set (v2.2) (Int.toNat (v2.1)) (v3))))))) else (some (.inr (v2.2))))
def synthesisref12_Table (a0 : La) (a1 : Int) : Option (List (List Int)) := (Option.bind (mkL 24 ([] : List Int) (List.length a0.symbols : Int)) fun v1 => (Option.bind (loopN (synthesisref12_Table_l3 a1) fuel (0, v1)) fun (v6 : (List (List Int))) => (Option.bind (loopN (synthesisref12_Table_l2 a0 a1) fuel (1, v6)) fun (v19 : (List (List Int))) => (some v19))))
theorem synthesisref12_Table_ok (a0 : La) (a1 : Int) (r : List (List Int)) (h : synthesisref12_Table a0 a1 = some r) : PCall Try.prog 34 [eLa a0, eI a1] ((eL 1 (eL 1 eI)) (r)) := by
 unfold synthesisref12_Table at h
 refine pcl [.one (.sl 1)] Try.func34 (by kernel_rfl) (by kernel_rfl) (by kernel_rfl) ?_
 refine tabm (f := vI) (eo := 62) 10 2 2 h (by kernel_rfl) (by kernel_rfl) fun v1 h ov1 => ?_
 refine lp1 8 (fun v2 => ⟨62, [(1, (fI (a1))), (2, (.ref 1 0 0)), (5, (.fz (.atom ov1))), (6, (fI (v2.1)))], [(1, (.box 26 [(fS (a0.name)), (.fz ((eL 1 eI) (a0.inputs))), (.fz ((eL 2 eSy) (a0.symbols))), (.fz ((eL 9 eRu) (a0.rules)))])), (2, (.tab 0 ov1 62 2 (List.map (List.map vI) (v2.2))))], [2, 1], []⟩) (.exit 0) (fun v6 => ⟨62, [(1, (fI (a1))), (2, (.ref 1 0 0)), (5, (.fz (.atom ov1)))], [(1, (.box 26 [(fS (a0.name)), (.fz ((eL 1 eI) (a0.inputs))), (.fz ((eL 2 eSy) (a0.symbols))), (.fz ((eL 9 eRu) (a0.rules)))])), (2, (.tab 0 ov1 62 2 (List.map (List.map vI) (v6))))], [2, 1], []⟩) h (by kernel_rfl) (by kernel_rfl) (fun v2 r h => ?_) fun v6 h => ?_
 ·unfold synthesisref12_Table_l3 at h
  refine nst 5 (n_tabLen (t := 63) (x := (.tmp 15)) (d := tt63) (e2 := 62) (id := 2) (g := 0) (ov := ov1) (eo := 62) (ei := 2) (rows := List.map (List.map vI) (v2.2)) (n := List.length (v2.2)) tt_ok (by kernel_rfl) (by kernel_rfl) rfl (by kernel_rfl) (by kernel_rfl) (by simp)) (by kernel_rfl) ?_
  refine cd 2 h (by kernel_rfl) (fun h => ?_) fun h => ?_
  ·obtain ⟨v3, hv3, h⟩ := Option.bind_eq_some_iff.1 h
   refine sst 8 (s_make (t := 62) (X := (.tmp 23)) (Y := (.tmp 23)) (id := 3) (k := .i64) (k' := .i64) (d := tt62) (e := 2) (de := tt2) (enc := eI) (zv := .int .i64 0) hv3 (by kernel_rfl) tt_ok (by kernel_rfl) (by kernel_rfl) (by kernel_rfl) rfl rfl rfl rfl rfl (by kernel_rfl) (by kernel_rfl) (by kernel_rfl)) (by kernel_rfl) ?_
   obtain ⟨v4, hv4, h⟩ := Option.bind_eq_some_iff.1 h
   refine nst 0 (n_tabAddr (t := 63) (f := vI) (rows := v2.2) (row := v4) (i := v2.1) (X := (.tmp 20)) (Y := (.tmp 21)) (e := 62) (de := tt62) (k := .i64) (id := 2) (g := 0) (ov := ov1) (ei := 2) (d := tt63) hv4 tt_ok (by kernel_rfl) (by kernel_rfl) (by kernel_rfl) (by kernel_rfl) (by kernel_rfl) (by kernel_rfl) (by kernel_rfl) (by kernel_rfl) (by kernel_rfl)) (by kernel_rfl) ?_
   refine sst 0 (e_tabStore (t := 62) (f := vI) (enc := eI) (rows := v2.2) (row := v4) (zs := v3) (i := v2.1) (X := (.tmp 25)) (Y := (.tmp 24)) (id := 2) (g := 0) (id2 := 3) (n := List.length (v3)) (ov := ov1) (ei := 2) (d := tt62) hv4 tt_ok (by kernel_rfl) (by kernel_rfl) (by kernel_rfl) (by kernel_rfl) (by kernel_rfl) (by kernel_rfl) (by kernel_rfl) rfl (fun _ => ⟨rfl, rfl⟩)) (by kernel_rfl) ?_
   refine wle 0 (LeSt.trans (show LeSt _ ⟨62, [(1, (fI (a1))), (2, (.ref 1 0 0)), (5, (.fz (.atom ov1))), (6, (fI (v2.1))), (20, (.fz (.atom ov1))), (21, (fI (v2.1))), (23, (fI ((w64 (a1 + 1)))))], [(1, (.box 26 [(fS (a0.name)), (.fz ((eL 1 eI) (a0.inputs))), (.fz ((eL 2 eSy) (a0.symbols))), (.fz ((eL 9 eRu) (a0.rules)))])), (2, (.tab 1 ov1 62 2 (List.map (List.map vI) ((List.set (v2.2) (Int.toNat (v2.1)) (v3))))))], [2, 1], []⟩ from le_a (by kernel_rfl)) (LeSt.trans (le_tabG (g := 1) (ov := ov1) (eo := 62) (ei := 2) (rows := List.map (List.map vI) ((List.set (v2.2) (Int.toNat (v2.1)) (v3)))) 2 [1] (by kernel_rfl) (by kernel_rfl) (by kernel_rfl)) (show LeSt _ ⟨62, [(1, (fI (a1))), (2, (.ref 1 0 0)), (5, (.fz (.atom ov1))), (6, (fI (v2.1))), (20, (.fz (.atom ov1))), (21, (fI (v2.1))), (23, (fI ((w64 (a1 + 1)))))], [(1, (.box 26 [(fS (a0.name)), (.fz ((eL 1 eI) (a0.inputs))), (.fz ((eL 2 eSy) (a0.symbols))), (.fz ((eL 9 eRu) (a0.rules)))])), (2, (.tab 0 ov1 62 2 (List.map (List.map vI) ((List.set (v2.2) (Int.toNat (v2.1)) (v3))))))], [2, 1], []⟩ from le_a (by kernel_rfl)))) (by kernel_rfl) ?_
   cases h; exact lj 6 (by kernel_rfl)
  cases h; exact lo 1 (by kernel_rfl)
 refine lp1 6 (fun v7 => ⟨62, [(1, (fI (a1))), (2, (.ref 1 0 0)), (5, (.fz (.atom ov1))), (7, (fI (v7.1)))], [(1, (.box 26 [(fS (a0.name)), (.fz ((eL 1 eI) (a0.inputs))), (.fz ((eL 2 eSy) (a0.symbols))), (.fz ((eL 9 eRu) (a0.rules)))])), (2, (.tab 0 ov1 62 2 (List.map (List.map vI) (v7.2))))], [2, 1], []⟩) (.exit 2) (fun v19 => ⟨62, [(5, (.fz (.atom ov1)))], [(2, (.tab 0 ov1 62 2 (List.map (List.map vI) (v19))))], [2], []⟩) h (by kernel_rfl) (by kernel_rfl) (fun v7 r h => ?_) fun v19 h => ?_
 ·unfold synthesisref12_Table_l2 at h
  refine cd 7 h (by kernel_rfl) (fun h => ?_) fun h => ?_
  ·refine lp1 11 (fun v8 => ⟨62, [(1, (fI (a1))), (2, (.ref 1 0 0)), (5, (.fz (.atom ov1))), (7, (fI (v7.1))), (32, (.fz ((eL 9 eRu) (a0.rules)))), (33, (fI ((List.length a0.rules : Int)))), (34, (fI (v8.1)))], [(1, (.box 26 [(fS (a0.name)), (.fz ((eL 1 eI) (a0.inputs))), (.fz ((eL 2 eSy) (a0.symbols))), (.fz ((eL 9 eRu) (a0.rules)))])), (2, (.tab 0 ov1 62 2 (List.map (List.map vI) (v8.2))))], [2, 1], []⟩) (.exit 4) (fun v17 => ⟨62, [(1, (fI (a1))), (2, (.ref 1 0 0)), (5, (.fz (.atom ov1))), (7, (fI (v7.1)))], [(1, (.box 26 [(fS (a0.name)), (.fz ((eL 1 eI) (a0.inputs))), (.fz ((eL 2 eSy) (a0.symbols))), (.fz ((eL 9 eRu) (a0.rules)))])), (2, (.tab 0 ov1 62 2 (List.map (List.map vI) (v17))))], [2, 1], []⟩) h (by kernel_rfl) (by kernel_rfl) (fun v8 r h => ?_) fun v17 h => ?_
   ·unfold synthesisref12_Table_l1 at h
    refine cd 5 h (by kernel_rfl) (fun h => ?_) fun h => ?_
    ·refine ix nRu 5 h (by kernel_rfl) fun v9 h => ?_
     refine dw 4 21 (by kernel_rfl) ?_
     obtain ⟨v10, hv10, h⟩ := Option.bind_eq_some_iff.1 h
     refine nst 3 (n_tabAddr (t := 63) (f := vI) (rows := v8.2) (row := v10) (i := v9.symbol) (X := (.tmp 38)) (Y := (.tmp 40)) (e := 62) (de := tt62) (k := .i64) (id := 2) (g := 0) (ov := ov1) (ei := 2) (d := tt63) hv10 tt_ok (by kernel_rfl) (by kernel_rfl) (by kernel_rfl) (by kernel_rfl) (by kernel_rfl) (by kernel_rfl) (by kernel_rfl) (by kernel_rfl) (by kernel_rfl)) (by kernel_rfl) ?_
     refine nst 0 (n_tabLoad (t := 62) (f := vI) (rows := v8.2) (row := v10) (i := v9.symbol) (X := (.tmp 41)) (id := 2) (g := 0) (ov := ov1) (ei := 2) (d := tt62) hv10 tt_ok (by kernel_rfl) (by kernel_rfl) (by kernel_rfl) (by kernel_rfl) (by kernel_rfl) (by kernel_rfl)) (by kernel_rfl) ?_
     obtain ⟨v11, hv11, h⟩ := Option.bind_eq_some_iff.1 h
     refine nst 4 (n_tabAddr (t := 63) (f := vI) (rows := v8.2) (row := v11) (i := v9.symbol) (X := (.tmp 44)) (Y := (.tmp 46)) (e := 62) (de := tt62) (k := .i64) (id := 2) (g := 0) (ov := ov1) (ei := 2) (d := tt63) hv11 tt_ok (by kernel_rfl) (by kernel_rfl) (by kernel_rfl) (by kernel_rfl) (by kernel_rfl) (by kernel_rfl) (by kernel_rfl) (by kernel_rfl) (by kernel_rfl)) (by kernel_rfl) ?_
     refine nst 0 (n_tabLoad (t := 62) (f := vI) (rows := v8.2) (row := v11) (i := v9.symbol) (X := (.tmp 47)) (id := 2) (g := 0) (ov := ov1) (ei := 2) (d := tt62) hv11 tt_ok (by kernel_rfl) (by kernel_rfl) (by kernel_rfl) (by kernel_rfl) (by kernel_rfl) (by kernel_rfl)) (by kernel_rfl) ?_
     obtain ⟨v12, hv12, h⟩ := Option.bind_eq_some_iff.1 h
     refine nst 1 (n_tinAddr (t := 62) (f := vI) (rows := v8.2) (row := v11) (x := v12) (i := v9.symbol) (j := v7.1) (X := (.tmp 48)) (Y := (.tmp 49)) (e := 2) (de := tt2) (k := .i64) (id := 2) (g := 0) (ov := ov1) (eo := 62) (d := tt62) hv11 hv12 tt_ok (by kernel_rfl) (by kernel_rfl) (by kernel_rfl) (by kernel_rfl) (by kernel_rfl) (by kernel_rfl) (by kernel_rfl) (by kernel_rfl) (by kernel_rfl)) (by kernel_rfl) ?_
     refine nst 0 (n_tinLoad (t := 2) (f := vI) (rows := v8.2) (row := v11) (x := v12) (i := v9.symbol) (j := v7.1) (X := (.tmp 50)) (id := 2) (g := 0) (ov := ov1) (eo := 62) (d := tt2) hv11 hv12 tt_ok (by kernel_rfl) (by kernel_rfl) (by kernel_rfl) (by kernel_rfl) (by kernel_rfl)) (by kernel_rfl) ?_
     refine clL 5 [(.tab 52 2 0 ov1 62 2 (List.map (List.map vI) (v8.2)) (eL 1 (eL 1 eI) (v8.2)))] h (synthesisref12_ways_ok _ _ _) (lend_cons (lend_tab (by kernel_rfl) (by kernel_rfl) (tabF_map (fun _ => rfl) _)) (lend_nil)) (by kernel_rfl) (fun _ => by kernel_rfl) fun v13 h => ?_
     refine cl 0 h (synthesisref12_plus_ok _ _) (by kernel_rfl) fun v14 h => ?_
     obtain ⟨v15, hv15, h⟩ := Option.bind_eq_some_iff.1 h
     refine nst 1 (n_tinAddr (t := 62) (f := vI) (rows := v8.2) (row := v10) (x := v15) (i := v9.symbol) (j := v7.1) (X := (.tmp 42)) (Y := (.tmp 43)) (e := 2) (de := tt2) (k := .i64) (id := 2) (g := 0) (ov := ov1) (eo := 62) (d := tt62) hv10 hv15 tt_ok (by kernel_rfl) (by kernel_rfl) (by kernel_rfl) (by kernel_rfl) (by kernel_rfl) (by kernel_rfl) (by kernel_rfl) (by kernel_rfl) (by kernel_rfl)) (by kernel_rfl) ?_
     refine sst 0 (e_tinStore (t := 2) (f := vI) (rows := v8.2) (row := v10) (x := v15) (y := v14) (i := v9.symbol) (j := v7.1) (X := (.tmp 59)) (Y := (.tmp 58)) (id := 2) (g := 0) (ov := ov1) (eo := 62) (d := tt2) hv10 hv15 tt_ok (by kernel_rfl) (by kernel_rfl) (by kernel_rfl) (by kernel_rfl) (by kernel_rfl) (by kernel_rfl)) (by kernel_rfl) ?_
     refine wle 0 ((le_a (by kernel_rfl) : LeSt _ ⟨62, [(1, (fI (a1))), (2, (.ref 1 0 0)), (5, (.fz (.atom ov1))), (7, (fI (v7.1))), (32, (.fz ((eL 9 eRu) (a0.rules)))), (33, (fI ((List.length a0.rules : Int)))), (34, (fI (v8.1))), (43, (fI (v7.1))), (58, (fI (v14)))], [(1, (.box 26 [(fS (a0.name)), (.fz ((eL 1 eI) (a0.inputs))), (.fz ((eL 2 eSy) (a0.symbols))), (.fz ((eL 9 eRu) (a0.rules)))])), (2, (.tab 0 ov1 62 2 (List.map (List.map vI) ((List.set (v8.2) (Int.toNat (v9.symbol)) (List.set v10 (Int.toNat (v7.1)) v14))))))], [2, 1], []⟩)) (by kernel_rfl) ?_
     cases h; exact lj 5 (by kernel_rfl)
    cases h; exact lo 1 (by kernel_rfl)
   cases h; exact lj 5 (by kernel_rfl)
  cases h; exact lo 1 (by kernel_rfl)
 refine wle 5 (le_freezeTab (g := 0) (ov := ov1) (eo := 62) (ei := 2) (rows := List.map (List.map vI) (v19)) (y := eL 1 (eL 1 eI) (v19)) 2 [4] ⟨by kernel_rfl, trivial⟩ (by kernel_rfl) (tabF_map (fun _ => rfl) _)) (by kernel_rfl) ?_
 cases h; exact lq 1 (by kernel_rfl)

def synthesisref12_Count (a0 : La) (a1 : Int) (a2 : Int) : Option ((Int) × (Int)) := (Option.bind (synthesisref12_wrong (a0) (a1) (a2)) fun v1 => (bif (v1 != 0) then (some (0, v1)) else (Option.bind (synthesisref12_Table (a0) (a2)) fun v2 => (Option.bind (idx v2 a1) fun v3 => (Option.bind (idx v3 a2) fun v4 => (bif (decide (1152921504606846976 < v4)) then (some (0, 11)) else (some (v4, 0))))))))
theorem synthesisref12_Count_ok (a0 : La) (a1 : Int) (a2 : Int) (r : (Int) × (Int)) (h : synthesisref12_Count a0 a1 a2 = some r) : PCall Try.prog 13 [eLa a0, eI a1, eI a2] (.tup [eI (r.1), eI (r.2)]) := by
 unfold synthesisref12_Count at h
 refine pcl [.one .keep, .one .keep] Try.func13 (by kernel_rfl) (by kernel_rfl) (by kernel_rfl) ?_
 refine cl 12 h (synthesisref12_wrong_ok _ _ _) (by kernel_rfl) fun v1 h => ?_
 refine cd 7 h (by kernel_rfl) (fun h => ?_) fun h => ?_
 ·cases h; exact lq 7 (by kernel_rfl)
 refine cl 5 h (synthesisref12_Table_ok _ _) (by kernel_rfl) fun v2 h => ?_
 refine ix (nL 1 nI) 1 h (by kernel_rfl) fun v3 h => ?_
 refine ix nI 2 h (by kernel_rfl) fun v4 h => ?_
 refine cd 9 h (by kernel_rfl) (fun h => ?_) fun h => ?_
 ·cases h; exact lq 6 (by kernel_rfl)
 cases h; exact lq 8 (by kernel_rfl)

structure S_synthesisref12_reader where
  f_l : La
  f_rules : List Int
def synthesisref12_reader_next_h2_l1 (a0 : S_synthesisref12_reader) (r28 : (S_synthesisref12_reader) → Option ((List Int) × (Int) × (List Tm))) (v4 : Ru) (v5 : (Int) × (List Int) × (List Tm)) : Option (((Int) × (List Int) × (List Tm)) ⊕ ((List Int) × (List Tm))) := (bif (decide (v5.1 < (List.length v4.args : Int))) then (Option.bind (r28 ((S_synthesisref12_reader.mk (a0.f_l) (v5.2.1)))) fun v6 => (Option.bind (app 32 v5.2.2 ([(Tm.mk (v6.2.1) (v6.2.2))] : List (Tm))) fun v7 => (some (.inl ((w64 (v5.1 + 1)), v6.1, v7))))) else (some (.inr (v5.2.1, v5.2.2))))
def synthesisref12_reader_next_h2_b (r28 : (S_synthesisref12_reader) → Option ((List Int) × (Int) × (List Tm))) (a0 : S_synthesisref12_reader) : Option ((List Int) × (Int) × (List Tm)) := (Option.bind (idx a0.f_rules 0) fun v1 => (Option.bind (cutL a0.f_rules 1 (List.length a0.f_rules)) fun v2 => (Option.bind ((Option.bind (idx a0.f_l.rules v1) fun v3 => (bif (v3.kind == 3) then (Option.bind (idx a0.f_l.rules v1) fun v4 => (Option.bind (loopN (synthesisref12_reader_next_h2_l1 a0 r28 v4) fuel (0, v2, ([] : List (Tm)))) fun (v9 : (List Int) × (List Tm)) => (some (v9.1, v9.2)))) else (some (v2, ([] : List (Tm)))))) : Option ((List Int) × (List Tm))) fun (v11 : (List Int) × (List Tm)) => (some (v11.1, v1, v11.2)))))
theorem synthesisref12_reader_next_h2_b_ok (r28 : (S_synthesisref12_reader) → Option ((List Int) × (Int) × (List Tm))) (ih28 : ∀ (x0 : S_synthesisref12_reader) r, r28 x0 = some r → HCall Try.prog 43 ([(.ref 1 0 0)] ++ []) [(1, (.box 72 [(fS (x0.f_l.name)), (.fz ((eL 1 eI) (x0.f_l.inputs))), (.fz ((eL 2 eSy) (x0.f_l.symbols))), (.fz ((eL 9 eRu) (x0.f_l.rules))), (.fz ((eL 1 eI) (x0.f_rules)))]))] [1] (.ret (.fz (.agg [(eI (r.2.1)), ((eL 2 eTmR) (r.2.2))]))) [(1, (.box 72 [(fS (x0.f_l.name)), (.fz ((eL 1 eI) (x0.f_l.inputs))), (.fz ((eL 2 eSy) (x0.f_l.symbols))), (.fz ((eL 9 eRu) (x0.f_l.rules))), (.fz ((eL 1 eI) (r.1)))])), (2, (.box 30 [(fI (r.2.1)), (.fz ((eL 2 eTmR) (r.2.2)))]))] [1, 2]) (a0 : S_synthesisref12_reader) (r : (List Int) × (Int) × (List Tm)) (h : synthesisref12_reader_next_h2_b r28 a0 = some r) : HCall Try.prog 43 ([(.ref 1 0 0)] ++ []) [(1, (.box 72 [(fS (a0.f_l.name)), (.fz ((eL 1 eI) (a0.f_l.inputs))), (.fz ((eL 2 eSy) (a0.f_l.symbols))), (.fz ((eL 9 eRu) (a0.f_l.rules))), (.fz ((eL 1 eI) (a0.f_rules)))]))] [1] (.ret (.fz (.agg [(eI (r.2.1)), ((eL 2 eTmR) (r.2.2))]))) [(1, (.box 72 [(fS (a0.f_l.name)), (.fz ((eL 1 eI) (a0.f_l.inputs))), (.fz ((eL 2 eSy) (a0.f_l.symbols))), (.fz ((eL 9 eRu) (a0.f_l.rules))), (.fz ((eL 1 eI) (r.1)))])), (2, (.box 30 [(fI (r.2.1)), (.fz ((eL 2 eTmR) (r.2.2)))]))] [1, 2] := by
 unfold synthesisref12_reader_next_h2_b at h
 refine hcx (gi := 0) Try.func43 (by kernel_rfl) (by kernel_rfl) (by kernel_rfl) (by kernel_rfl) (by kernel_rfl) (by kernel_rfl) (by kernel_rfl) (by kernel_rfl) ?_
 intro p0 q0 w0
 refine ix nI 10 h (by kernel_rfl) fun v1 h => ?_
 obtain ⟨v2, hv2, h⟩ := Option.bind_eq_some_iff.1 h
 refine nst 12 (s_cutL (t := 22) (x := (.tmp 15)) (lo := (some (.const (.int .i64 1)))) (hi := none) (d := tt22) (e := 3) (de := tt3) (size := 1) (enc := eI) (xs := a0.f_rules) (l := (some 1)) (h := none) hv2 tt_ok (by kernel_rfl) (by kernel_rfl) (by kernel_rfl) (by kernel_rfl) (by kernel_rfl) (by kernel_rfl) (by kernel_rfl) (by kernel_rfl)) (by kernel_rfl) ?_
 refine wle 5 (le_nilcell (e2 := 30) (e := 30) (size := 2) (id2 := 3) (j := 1) (id := 4) (cells := [(fI (v1)), (.fz (.atom (.slice none 0 0)))]) (by kernel_rfl) (by kernel_rfl) (by kernel_rfl) (by kernel_rfl)) (by kernel_rfl) ?_
 refine jn1 0 .normal (fun v11 => ⟨52, [(2, (.ref 2 0 0)), (3, (.ref 3 0 0))], [(0, (.was p0 [1] q0 w0)), (1, (.box 72 [(fS (a0.f_l.name)), (.fz ((eL 1 eI) (a0.f_l.inputs))), (.fz ((eL 2 eSy) (a0.f_l.symbols))), (.fz ((eL 9 eRu) (a0.f_l.rules))), (.fz ((eL 1 eI) (v11.1)))])), (2, (.box 30 [(fI (0)), (.fz (.atom (.slice none 0 0)))])), (3, (.box 30 [(fI (v1)), (.row 4 (List.length (v11.2)))])), (4, (.frow 30 2 (List.map eTmR (v11.2))))], [4, 3, 2, 0, 1], []⟩) h (by kernel_rfl) (fun v11 h => ?_) fun v11 h => ?_
 ·refine dw 1 7 (by kernel_rfl) ?_
  refine ix nRu 8 h (by kernel_rfl) fun v3 h => ?_
  refine cd 4 h (by kernel_rfl) (fun h => ?_) fun h => ?_
  ·refine dw 1 12 (by kernel_rfl) ?_
   refine ix nRu 7 h (by kernel_rfl) fun v4 h => ?_
   refine lp1 7 (fun v5 => ⟨52, [(0, (.ref 1 0 0)), (2, (.ref 2 0 0)), (3, (.ref 3 0 0)), (40, (fI ((List.length v4.args : Int)))), (41, (fI (v5.1)))], [(0, (.was p0 [1] q0 w0)), (1, (.box 72 [(fS (a0.f_l.name)), (.fz ((eL 1 eI) (a0.f_l.inputs))), (.fz ((eL 2 eSy) (a0.f_l.symbols))), (.fz ((eL 9 eRu) (a0.f_l.rules))), (.fz ((eL 1 eI) (v5.2.1)))])), (2, (.box 30 [(fI (0)), (.fz (.atom (.slice none 0 0)))])), (3, (.box 30 [(fI (v1)), (.row 4 (List.length (v5.2.2)))])), (4, (.frow 30 2 (List.map eTmR (v5.2.2))))], [4, 3, 2, 0, 1], []⟩) (.exit 0) (fun v9 => ⟨52, [(2, (.ref 2 0 0)), (3, (.ref 3 0 0))], [(0, (.was p0 [1] q0 w0)), (1, (.box 72 [(fS (a0.f_l.name)), (.fz ((eL 1 eI) (a0.f_l.inputs))), (.fz ((eL 2 eSy) (a0.f_l.symbols))), (.fz ((eL 9 eRu) (a0.f_l.rules))), (.fz ((eL 1 eI) (v9.1)))])), (2, (.box 30 [(fI (0)), (.fz (.atom (.slice none 0 0)))])), (3, (.box 30 [(fI (v1)), (.row 4 (List.length (v9.2)))])), (4, (.frow 30 2 (List.map eTmR (v9.2))))], [4, 3, 2, 0, 1], []⟩) h (by kernel_rfl) (by kernel_rfl) (fun v5 r h => ?_) fun v9 h => ?_
   ·unfold synthesisref12_reader_next_h2_l1 at h
    refine cd 5 h (by kernel_rfl) (fun h => ?_) fun h => ?_
    ·refine dz 3 5 [3] [1, 5] (List.range 6) (by kernel_rfl) ?_
     refine hclZ 3 [.one .keep] [(1, 1)] [(1, 1), (2, 5)] [1] h (ih28 _) (fun _ => by kernel_rfl) (by kernel_rfl) (fun _ => by kernel_rfl) fun v6 h => ?_
     refine nst 0 ((nstep_co (st' := ⟨52, [(46, (.fz (eTm ((Tm.mk (v6.2.1) (v6.2.2))))))], [], [], []⟩) (ids := []) (ts := [(46, (.ag [.keep, .sl 2]))]) (by kernel_rfl) (nstep_ok (c := .lim 2 1 [eTm ((Tm.mk (v6.2.1) (v6.2.2)))]) tt_ok (by kernel_rfl))).eqv (show AV.lim 2 1 [eTm ((Tm.mk (v6.2.1) (v6.2.2)))] = .lim 2 1 (List.map eTmR ([(Tm.mk (v6.2.1) (v6.2.2))] : List (Tm))) by simp only [List.map, eTmR_eq])) (by kernel_rfl) ?_
     refine ap nTmR 1 h (by kernel_rfl) fun v7 h => ?_
     cases h; exact lj 7 (by kernel_rfl)
    cases h; exact lo 1 (by kernel_rfl)
   cases h; exact lj 0 (by kernel_rfl)
  cases h; exact lj 1 (by kernel_rfl)
 refine wle 5 (le_freezeCell (e2 := 30) (id2 := 2) (j := 1) (id := 4) (n := List.length (v11.2)) (e := 30) (size := 2) (xs := List.map eTmR (v11.2)) (cells := [(fI (v1)), (.row 4 (List.length (v11.2)))]) (by kernel_rfl) (by kernel_rfl) (by kernel_rfl) (by simp)) (by kernel_rfl) ?_
 obtain rfl := Option.some.inj h; exact lh 1 ⟨52, [(2, (.ref 2 0 0))], [(0, (.was p0 [1] q0 w0)), (1, (.box 72 [(fS (a0.f_l.name)), (.fz ((eL 1 eI) (a0.f_l.inputs))), (.fz ((eL 2 eSy) (a0.f_l.symbols))), (.fz ((eL 9 eRu) (a0.f_l.rules))), (.fz ((eL 1 eI) (v11.1)))])), (2, (.box 30 [(fI (v1)), (.fz ((eL 2 eTmR) (v11.2)))]))], [0, 1, 2], []⟩ (le_a (by kernel_rfl)) rfl rfl (by kernel_rfl) (by kernel_rfl)
def synthesisref12_reader_next_h2 : Nat → (S_synthesisref12_reader) → Option ((List Int) × (Int) × (List Tm))
  | 0 => fun _ => none
  | n + 1 => synthesisref12_reader_next_h2_b (synthesisref12_reader_next_h2 n)
theorem synthesisref12_reader_next_h2_ok : ∀ n : Nat, ∀ (x0 : S_synthesisref12_reader) r, synthesisref12_reader_next_h2 n x0 = some r → HCall Try.prog 43 ([(.ref 1 0 0)] ++ []) [(1, (.box 72 [(fS (x0.f_l.name)), (.fz ((eL 1 eI) (x0.f_l.inputs))), (.fz ((eL 2 eSy) (x0.f_l.symbols))), (.fz ((eL 9 eRu) (x0.f_l.rules))), (.fz ((eL 1 eI) (x0.f_rules)))]))] [1] (.ret (.fz (.agg [(eI (r.2.1)), ((eL 2 eTmR) (r.2.2))]))) [(1, (.box 72 [(fS (x0.f_l.name)), (.fz ((eL 1 eI) (x0.f_l.inputs))), (.fz ((eL 2 eSy) (x0.f_l.symbols))), (.fz ((eL 9 eRu) (x0.f_l.rules))), (.fz ((eL 1 eI) (r.1)))])), (2, (.box 30 [(fI (r.2.1)), (.fz ((eL 2 eTmR) (r.2.2)))]))] [1, 2]
  | 0 => fun _ _ h => by cases h
  | n + 1 => fun a0 r h => synthesisref12_reader_next_h2_b_ok (synthesisref12_reader_next_h2 n) (synthesisref12_reader_next_h2_ok n) a0 r h

def synthesisref12_Term_m0 (a0 : La) (v5 : (Int) × (List Int) × (Int) × (List Int)) : List (Nat × AObj) := [(1, (.box 26 [(fS (a0.name)), (.fz ((eL 1 eI) (a0.inputs))), (.fz ((eL 2 eSy) (a0.symbols))), (.fz ((eL 9 eRu) (a0.rules)))])), (2, (.box 30 [(fI (0)), (.fz (.atom (.slice none 0 0)))])), (3, (.frow 3 1 (List.map eI (v5.2.2.2))))]
def synthesisref12_Term_l1 (a0 : La) (v4 : List (List Int)) (v5 : (Int) × (List Int) × (Int) × (List Int)) (v6 : (Int) × (List Int) × (Int)) : Option (((Int) × (List Int) × (Int)) ⊕ ((Int) × (List Int) × (List Int))) := (bif (decide (v6.2.2 < (List.length a0.rules : Int))) then (Option.bind ((Option.bind ((Option.bind (idx a0.rules v6.2.2) fun v7 => (Option.bind (idx v6.2.1 0) fun v8 => (bif (v7.symbol != v8) then (some (.inr (.inr ()))) else (Option.bind ((bif List.isEmpty v7.args then (Option.bind (cutL v6.2.1 1 (List.length v6.2.1)) fun v12 => (bif List.isEmpty v12 then (some (([] : List (Int)))) else (Option.bind (appN 8 ([] : List (Int)) v12) fun v13 => (some (v13))))) else (Option.bind (appN 8 ([] : List (Int)) v7.args) fun v9 => (Option.bind (cutL v6.2.1 1 (List.length v6.2.1)) fun v10 => (Option.bind (app 8 v9 v10) fun v11 => (some (v11)))))) : Option ((List Int))) fun (v17 : (List Int)) => (Option.bind (synthesisref12_ways (v4) (v17) ((w64 (v5.2.2.1 - 1)))) fun v18 => (bif (decide (v6.1 < v18)) then (Option.bind (app 8 v5.2.2.2 ([v6.2.2] : List (Int))) fun v19 => (some (.inr (.inl (v17, v19))))) else (some (.inl ((w64 (v6.1 - v18))))))))))) : Option ((((Int)) ⊕ ((((List Int) × (List Int)) ⊕ (Unit)))))) fun (v20 : (((Int)) ⊕ ((((List Int) × (List Int)) ⊕ (Unit))))) => Sum.elim (fun v21 => (some (.inl (v21)))) (Sum.elim (fun v22 => (some (.inr (v22.1, v22.2)))) (fun v23 => (some (.inl (v6.1))))) v20) : Option ((((Int)) ⊕ ((List Int) × (List Int))))) fun (v24 : (((Int)) ⊕ ((List Int) × (List Int)))) => Sum.elim (fun v25 => (some (.inl (v25, v6.2.1, (w64 (v6.2.2 + 1)))))) (fun v26 => (some (.inr (v6.1, v26.1, v26.2)))) v24) else (some (.inr (v6.1, v6.2.1, v5.2.2.2))))
def synthesisref12_Term_l2 (a0 : La) (v4 : List (List Int)) (v5 : (Int) × (List Int) × (Int) × (List Int)) : Option (((Int) × (List Int) × (Int) × (List Int)) ⊕ ((List Int))) := (bif (decide (0 < (List.length v5.2.1 : Int))) then (Option.bind (loopN (synthesisref12_Term_l1 a0 v4 v5) fuel (v5.1, v5.2.1, 0)) fun (v28 : (Int) × (List Int) × (List Int)) => (some (.inl (v28.1, v28.2.1, (w64 (v5.2.2.1 - 1)), v28.2.2)))) else (some (.inr (v5.2.2.2))))
def synthesisref12_Term (a0 : La) (a1 : Int) (a2 : Int) (a3 : Int) : Option ((Tm) × (Int)) := (Option.bind (synthesisref12_Count (a0) (a1) (a2)) fun v1 => (bif (v1.2 != 0) then (some ((Tm.mk (0) (([] : List Tm))), v1.2)) else (Option.bind ((bif (decide (a3 < 0)) then (some (true)) else (some ((decide (v1.1 ≤ a3))))) : Option ((Bool))) fun (v3 : (Bool)) => (bif v3 then (some ((Tm.mk (0) (([] : List Tm))), 1)) else (Option.bind (synthesisref12_Table (a0) (a2)) fun v4 => (Option.bind (loopN (synthesisref12_Term_l2 a0 v4) fuel (a3, ([a1] : List (Int)), a2, ([] : List (Int)))) fun (v30 : (List Int)) => (Option.bind (synthesisref12_reader_next_h2 fuel ((S_synthesisref12_reader.mk (a0) (v30)))) fun v31 => (some ((Tm.mk (v31.2.1) (v31.2.2)), 0)))))))))
theorem synthesisref12_Term_ok (a0 : La) (a1 : Int) (a2 : Int) (a3 : Int) (r : (Tm) × (Int)) (h : synthesisref12_Term a0 a1 a2 a3 = some r) : PCall Try.prog 19 [eLa a0, eI a1, eI a2, eI a3] (.tup [eTm (r.1), eI (r.2)]) := by
 unfold synthesisref12_Term at h
 refine pcl [.ag [.keep, .sl 2], .one .keep] Try.func19 (by kernel_rfl) (by kernel_rfl) (by kernel_rfl) ?_
 refine cl 11 h (synthesisref12_Count_ok _ _ _) (by kernel_rfl) fun v1 h => ?_
 refine cd 12 h (by kernel_rfl) (fun h => ?_) fun h => ?_
 ·cases h; exact lq 8 (by kernel_rfl)
 refine jn1 3 .normal (fun v3 => ⟨93, [(1, (fI (a1))), (2, (fI (a2))), (3, (fI (a3))), (4, (.ref 1 0 0)), (8, (.ref 2 0 0)), (37, (fB (v3)))], [(1, (.box 26 [(fS (a0.name)), (.fz ((eL 1 eI) (a0.inputs))), (.fz ((eL 2 eSy) (a0.symbols))), (.fz ((eL 9 eRu) (a0.rules)))])), (2, (.box 30 [(fI (0)), (.fz (.atom (.slice none 0 0)))]))], [2, 1], []⟩) h (by kernel_rfl) (fun v3 h => ?_) fun v3 h => ?_
 ·refine gd 4 h (by kernel_rfl) (fun h => ?_) fun h => ?_
  ·cases h; exact lj 5 (by kernel_rfl)
  cases h; exact lj 5 (by kernel_rfl)
 refine cd 0 h (by kernel_rfl) (fun h => ?_) fun h => ?_
 ·cases h; exact lq 7 (by kernel_rfl)
 refine cl 5 h (synthesisref12_Table_ok _ _) (by kernel_rfl) fun v4 h => ?_
 refine wle 19 (le_nilrow (e := 3) (size := 1) (t := 14) (id := 3) (by decide) (by kernel_rfl) (by kernel_rfl)) (by kernel_rfl) ?_
 refine lp1 0 (fun v5 => ⟨93, [(3, (fI (v5.1))), (4, (.ref 1 0 0)), (8, (.ref 2 0 0)), (12, (.fz ((eL 1 (eL 1 eI)) (v4)))), (13, (.fz ((eL 1 eI) (v5.2.1)))), (14, (.row 3 (List.length (v5.2.2.2)))), (15, (fI (v5.2.2.1)))], (synthesisref12_Term_m0 a0 v5), [3, 2, 1], []⟩) (.exit 0) (fun v30 => ⟨93, [(4, (.ref 1 0 0)), (8, (.ref 2 0 0)), (14, (.row 3 (List.length (v30))))], [(1, (.box 26 [(fS (a0.name)), (.fz ((eL 1 eI) (a0.inputs))), (.fz ((eL 2 eSy) (a0.symbols))), (.fz ((eL 9 eRu) (a0.rules)))])), (2, (.box 30 [(fI (0)), (.fz (.atom (.slice none 0 0)))])), (3, (.frow 3 1 (List.map eI (v30))))], [3, 2, 1], []⟩) h (by kernel_rfl) (by kernel_rfl) (fun v5 r h => ?_) fun v30 h => ?_
 ·unfold synthesisref12_Term_l2 at h
  refine cd 7 h (by kernel_rfl) (fun h => ?_) fun h => ?_
  ·refine lp1 11 (fun v6 => ⟨93, [(3, (fI (v6.1))), (4, (.ref 1 0 0)), (8, (.ref 2 0 0)), (12, (.fz ((eL 1 (eL 1 eI)) (v4)))), (13, (.fz ((eL 1 eI) (v6.2.1)))), (14, (.row 3 (List.length (v5.2.2.2)))), (15, (fI (v5.2.2.1))), (51, (.fz ((eL 9 eRu) (a0.rules)))), (52, (fI ((List.length a0.rules : Int)))), (53, (fI (v6.2.2)))], (synthesisref12_Term_m0 a0 v5), [3, 2, 1], []⟩) (.exit 2) (fun v28 => ⟨93, [(3, (fI (v28.1))), (4, (.ref 1 0 0)), (8, (.ref 2 0 0)), (12, (.fz ((eL 1 (eL 1 eI)) (v4)))), (13, (.fz ((eL 1 eI) (v28.2.1)))), (14, (.row 3 (List.length (v28.2.2)))), (15, (fI (v5.2.2.1)))], [(1, (.box 26 [(fS (a0.name)), (.fz ((eL 1 eI) (a0.inputs))), (.fz ((eL 2 eSy) (a0.symbols))), (.fz ((eL 9 eRu) (a0.rules)))])), (2, (.box 30 [(fI (0)), (.fz (.atom (.slice none 0 0)))])), (3, (.frow 3 1 (List.map eI (v28.2.2))))], [3, 2, 1], []⟩) h (by kernel_rfl) (by kernel_rfl) (fun v6 r h => ?_) fun v28 h => ?_
   ·unfold synthesisref12_Term_l1 at h
    refine cd 5 h (by kernel_rfl) (fun h => ?_) fun h => ?_
    ·refine jnQ 2 (fun v24 e st => Sum.elim (fun p => e = .normal ∧ LeSt st ⟨93, [(3, (fI (p))), (4, (.ref 1 0 0)), (8, (.ref 2 0 0)), (12, (.fz ((eL 1 (eL 1 eI)) (v4)))), (13, (.fz ((eL 1 eI) (v6.2.1)))), (14, (.row 3 (List.length (v5.2.2.2)))), (15, (fI (v5.2.2.1))), (51, (.fz ((eL 9 eRu) (a0.rules)))), (52, (fI ((List.length a0.rules : Int)))), (53, (fI (v6.2.2)))], (synthesisref12_Term_m0 a0 v5), [3, 2, 1], []⟩) (fun p => e = .exit 2 ∧ LeSt st ⟨93, [(3, (fI (v6.1))), (4, (.ref 1 0 0)), (8, (.ref 2 0 0)), (12, (.fz ((eL 1 (eL 1 eI)) (v4)))), (13, (.fz ((eL 1 eI) (p.1)))), (14, (.row 3 (List.length (p.2)))), (15, (fI (v5.2.2.1)))], [(1, (.box 26 [(fS (a0.name)), (.fz ((eL 1 eI) (a0.inputs))), (.fz ((eL 2 eSy) (a0.symbols))), (.fz ((eL 9 eRu) (a0.rules)))])), (2, (.box 30 [(fI (0)), (.fz (.atom (.slice none 0 0)))])), (3, (.frow 3 1 (List.map eI (p.2))))], [3, 2, 1], []⟩) v24) h (by kernel_rfl) (fun v24 h => ?_) fun v24 h e st' hq => ?_
     ·refine jnQ 1 (fun v20 e st => Sum.elim (fun p => e = .normal ∧ LeSt st ⟨93, [(3, (fI (p))), (4, (.ref 1 0 0)), (8, (.ref 2 0 0)), (12, (.fz ((eL 1 (eL 1 eI)) (v4)))), (13, (.fz ((eL 1 eI) (v6.2.1)))), (14, (.row 3 (List.length (v5.2.2.2)))), (15, (fI (v5.2.2.1))), (51, (.fz ((eL 9 eRu) (a0.rules)))), (52, (fI ((List.length a0.rules : Int)))), (53, (fI (v6.2.2)))], (synthesisref12_Term_m0 a0 v5), [3, 2, 1], []⟩) (Sum.elim (fun p => e = .exit 2 ∧ LeSt st ⟨93, [(3, (fI (v6.1))), (4, (.ref 1 0 0)), (8, (.ref 2 0 0)), (12, (.fz ((eL 1 (eL 1 eI)) (v4)))), (13, (.fz ((eL 1 eI) (p.1)))), (14, (.row 3 (List.length (p.2)))), (15, (fI (v5.2.2.1)))], [(1, (.box 26 [(fS (a0.name)), (.fz ((eL 1 eI) (a0.inputs))), (.fz ((eL 2 eSy) (a0.symbols))), (.fz ((eL 9 eRu) (a0.rules)))])), (2, (.box 30 [(fI (0)), (.fz (.atom (.slice none 0 0)))])), (3, (.frow 3 1 (List.map eI (p.2))))], [3, 2, 1], []⟩) (fun p => e = .exit 3 ∧ LeSt st ⟨93, [(3, (fI (v6.1))), (4, (.ref 1 0 0)), (8, (.ref 2 0 0)), (12, (.fz ((eL 1 (eL 1 eI)) (v4)))), (13, (.fz ((eL 1 eI) (v6.2.1)))), (14, (.row 3 (List.length (v5.2.2.2)))), (15, (fI (v5.2.2.1))), (51, (.fz ((eL 9 eRu) (a0.rules)))), (52, (fI ((List.length a0.rules : Int)))), (53, (fI (v6.2.2)))], (synthesisref12_Term_m0 a0 v5), [3, 2, 1], []⟩)) v20) h (by kernel_rfl) (fun v20 h => ?_) fun v20 h e st' hq => ?_
      ·refine ix nRu 3 h (by kernel_rfl) fun v7 h => ?_
       refine dw 7 5 (by kernel_rfl) ?_
       refine ix nI 3 h (by kernel_rfl) fun v8 h => ?_
       refine cd 4 h (by kernel_rfl) (fun h => ?_) fun h => ?_
       ·cases h; exact lj 1 (by kernel_rfl)
       refine jn1 2 .normal (fun v17 => ⟨93, [(3, (fI (v6.1))), (4, (.ref 1 0 0)), (8, (.ref 2 0 0)), (12, (.fz ((eL 1 (eL 1 eI)) (v4)))), (13, (.fz ((eL 1 eI) (v6.2.1)))), (14, (.row 3 (List.length (v5.2.2.2)))), (15, (fI (v5.2.2.1))), (16, (fI (v6.2.2))), (18, (.fz ((eL 1 eI) (v17)))), (51, (.fz ((eL 9 eRu) (a0.rules)))), (52, (fI ((List.length a0.rules : Int)))), (53, (fI (v6.2.2)))], (synthesisref12_Term_m0 a0 v5), [3, 2, 1], []⟩) h (by kernel_rfl) (fun v17 h => ?_) fun v17 h => ?_
       ·refine dz 0 6 [3] [5] (List.range 6) (by kernel_rfl) ?_
        refine nst 0 (nstep_co (st' := ⟨93, [], [], [], []⟩) (ids := []) (ts := []) (by kernel_rfl) (nstep_ok (c := .lim 1 0 []) tt_ok (by kernel_rfl))) (by kernel_rfl) ?_
        refine gdb 2 h (fun hE15 h => ?_) fun hE15 h => ?_
        ·refine zst 0 ((s_appLit0 (t := 22) (X := (.tmp 64)) (Y := (.tmp 66)) (d := tt22) (e := 3) (de := tt3) (enc := eI) (xs := ([] : List (Int))) (ys := v7.args) (n := List.length ([] : List (Int))) (m := List.length v7.args) hE15 tt_ok (by kernel_rfl) (by kernel_rfl) (by kernel_rfl) (by kernel_rfl) (by kernel_rfl) (.inl (by kernel_rfl))).step) (by kernel_rfl) (by kernel_rfl) (by kernel_rfl) ?_
         obtain ⟨v12, hv12, h⟩ := Option.bind_eq_some_iff.1 h
         refine nst 1 (s_cutL (t := 22) (x := (.tmp 68)) (lo := (some (.const (.int .i64 1)))) (hi := none) (d := tt22) (e := 3) (de := tt3) (size := 1) (enc := eI) (xs := v6.2.1) (l := (some 1)) (h := none) hv12 tt_ok (by kernel_rfl) (by kernel_rfl) (by kernel_rfl) (by kernel_rfl) (by kernel_rfl) (by kernel_rfl) (by kernel_rfl) (by kernel_rfl)) (by kernel_rfl) ?_
         refine gdb 1 h (fun hE14 h => ?_) fun hE14 h => ?_
         ·refine nst 0 (s_appLit0 (t := 22) (X := (.tmp 67)) (Y := (.tmp 69)) (d := tt22) (e := 3) (de := tt3) (enc := eI) (xs := ([] : List (Int))) (ys := v12) (n := List.length ([] : List (Int))) (m := List.length v12) hE14 tt_ok (by kernel_rfl) (by kernel_rfl) (by kernel_rfl) (by kernel_rfl) (by kernel_rfl) (.inl (by kernel_rfl))) (by kernel_rfl) ?_
          cases h; exact lj 2 (by kernel_rfl)
         obtain ⟨v13, hv13, h⟩ := Option.bind_eq_some_iff.1 h
         refine sst 0 (s_appLit (t := 22) (X := (.tmp 67)) (Y := (.tmp 69)) (d := tt22) (e := 3) (de := tt3) (enc := eI) (xs := ([] : List (Int))) (ys := v12) (n := List.length ([] : List (Int))) (m := List.length v12) (id := 5) hv13 tt_ok (by kernel_rfl) (by kernel_rfl) (by kernel_rfl) (by kernel_rfl) (by kernel_rfl) (by kernel_rfl) (by kernel_rfl) (by kernel_rfl) (.inl (by kernel_rfl)) (by kernel_rfl)) (by kernel_rfl) ?_
         obtain rfl := Option.some.inj h; exact ljx 2 (LeSt.trans (le_freezeTs (id := 5) (n := List.length (v13)) (e := 3) (size := 1) (xs := List.map eI (v13)) [18] ⟨by kernel_rfl, trivial⟩ (by kernel_rfl) (by simp)) (le_a (by kernel_rfl))) (by kernel_rfl)
        obtain ⟨v9, hv9, h⟩ := Option.bind_eq_some_iff.1 h
        refine zst 0 (s_appLit (t := 22) (X := (.tmp 64)) (Y := (.tmp 66)) (d := tt22) (e := 3) (de := tt3) (enc := eI) (xs := ([] : List (Int))) (ys := v7.args) (n := List.length ([] : List (Int))) (m := List.length v7.args) (id := 5) hv9 tt_ok (by kernel_rfl) (by kernel_rfl) (by kernel_rfl) (by kernel_rfl) (by kernel_rfl) (by kernel_rfl) (by kernel_rfl) (by kernel_rfl) (.inl (by kernel_rfl)) (by kernel_rfl)) (by kernel_rfl) (by kernel_rfl) (by kernel_rfl) ?_
        obtain ⟨v10, hv10, h⟩ := Option.bind_eq_some_iff.1 h
        refine nst 1 (s_cutL (t := 22) (x := (.tmp 68)) (lo := (some (.const (.int .i64 1)))) (hi := none) (d := tt22) (e := 3) (de := tt3) (size := 1) (enc := eI) (xs := v6.2.1) (l := (some 1)) (h := none) hv10 tt_ok (by kernel_rfl) (by kernel_rfl) (by kernel_rfl) (by kernel_rfl) (by kernel_rfl) (by kernel_rfl) (by kernel_rfl) (by kernel_rfl)) (by kernel_rfl) ?_
        refine ap nI 1 h (by kernel_rfl) fun v11 h => ?_
        obtain rfl := Option.some.inj h; exact ljx 2 (LeSt.trans (le_freezeTs (id := 5) (n := List.length (v11)) (e := 3) (size := 1) (xs := List.map eI (v11)) [18] ⟨by kernel_rfl, trivial⟩ (by kernel_rfl) (by simp)) (le_a (by kernel_rfl))) (by kernel_rfl)
       refine cl 6 h (synthesisref12_ways_ok _ _ _) (by kernel_rfl) fun v18 h => ?_
       refine cd 9 h (by kernel_rfl) (fun h => ?_) fun h => ?_
       ·refine ap nI 5 h (by kernel_rfl) fun v19 h => ?_
        cases h; exact lj 8 (by kernel_rfl)
       cases h; exact lj 7 (by kernel_rfl)
      rcases v20 with v21 | (v22 | v23)
      ·try simp only [Sum.elim_inl, Sum.elim_inr] at h
       obtain ⟨rfl, hle⟩ := hq
       refine ⟨_, hle, ?_⟩
       cases h; exact lj 0 (by kernel_rfl)
      ·try simp only [Sum.elim_inl, Sum.elim_inr] at h
       obtain ⟨rfl, hle⟩ := hq
       refine ⟨_, hle, ?_⟩
       cases h; exact lj 0 (by kernel_rfl)
      ·try simp only [Sum.elim_inl, Sum.elim_inr] at h
       obtain ⟨rfl, hle⟩ := hq
       refine ⟨_, hle, ?_⟩
       cases h; exact lj 0 (by kernel_rfl)
     rcases v24 with v25 | v26
     ·try simp only [Sum.elim_inl, Sum.elim_inr] at h
      obtain ⟨rfl, hle⟩ := hq
      refine ⟨_, hle, ?_⟩
      cases h; exact lj 4 (by kernel_rfl)
     ·try simp only [Sum.elim_inl, Sum.elim_inr] at h
      obtain ⟨rfl, hle⟩ := hq
      refine ⟨_, hle, ?_⟩
      cases h; exact lo 0 (by kernel_rfl)
    cases h; exact lo 1 (by kernel_rfl)
   cases h; exact lj 5 (by kernel_rfl)
  cases h; exact lo 1 (by kernel_rfl)
 refine wle 6 (le_freezeCell (e2 := 72) (id2 := 4) (j := 4) (id := 3) (n := List.length (v30)) (e := 3) (size := 1) (xs := List.map eI (v30)) (cells := [(fS (a0.name)), (.fz ((eL 1 eI) (a0.inputs))), (.fz ((eL 2 eSy) (a0.symbols))), (.fz ((eL 9 eRu) (a0.rules))), (.row 3 (List.length (v30)))]) (by kernel_rfl) (by kernel_rfl) (by kernel_rfl) (by simp)) (by kernel_rfl) ?_
 refine hcl 0 [.one .keep] [(4, 1)] [(1, 4), (2, 5)] [1] h (synthesisref12_reader_next_h2_ok fuel _) (fun _ => by kernel_rfl) fun v31 h => ?_
 cases h; exact lq 4 (by kernel_rfl)

structure S_ar2_i64 where
  f_0 : Int
  f_1 : Int
def eS_ar2_i64 (x : S_ar2_i64) : FV := .agg [eI (x.f_0), eI (x.f_1)]
def synthesislaw12_CountingTerms (a0 : La) (a1 : S_ar2_i64) (a2 : Int) : Option (Bool) := (Option.bind (synthesislaw12_small (a0) ((Tm.mk (0) (([] : List Tm))))) fun v1 => (bif (!v1) then (Option.bind (synthesislaw12_alive ) fun v2 => (some v2)) else (Option.bind (counting_Term (a0) (a1.f_0) (a1.f_1) (a2)) fun v3 => (Option.bind (synthesisref12_Term (a0) (a1.f_0) (a1.f_1) (a2)) fun v4 => (Option.bind ((Option.bind (synthesisref12_Same fuel (v3.1) (v4.1)) fun v5 => (bif v5 then (bif (v3.2 == v4.2) then (Option.bind (synthesislaw12_alive ) fun v6 => (some (v6))) else (some (false))) else (some (false)))) : Option ((Bool))) fun (v8 : (Bool)) => (some v8))))))
theorem synthesislaw12_CountingTerms_ok (a0 : La) (a1 : S_ar2_i64) (a2 : Int) (r : Bool) (h : synthesislaw12_CountingTerms a0 a1 a2 = some r) : PCall Try.prog 5 [eLa a0, eS_ar2_i64 a1, eI a2] (eB (r)) := by
 unfold synthesislaw12_CountingTerms at h
 refine pcl [.one .keep] Try.func5 (by kernel_rfl) (by kernel_rfl) (by kernel_rfl) ?_
 refine cl 11 h (synthesislaw12_small_ok _ _) (by kernel_rfl) fun v1 h => ?_
 refine cd 2 h (by kernel_rfl) (fun h => ?_) fun h => ?_
 ·refine cl 2 h (synthesislaw12_alive_ok) (by kernel_rfl) fun v2 h => ?_
  cases h; exact lq 3 (by kernel_rfl)
 refine cl 9 h (counting_Term_ok _ _ _ _) (by kernel_rfl) fun v3 h => ?_
 refine cl 15 h (synthesisref12_Term_ok _ _ _ _) (by kernel_rfl) fun v4 h => ?_
 refine jn1 8 .normal (fun v8 => ⟨47, [(6, (fB (v8)))], [], [], []⟩) h (by kernel_rfl) (fun v8 h => ?_) fun v8 h => ?_
 ·refine cl 3 h (synthesisref12_Same_ok _ _ _) (by kernel_rfl) fun v5 h => ?_
  refine gd 1 h (by kernel_rfl) (fun h => ?_) fun h => ?_
  ·refine gd 5 h (by kernel_rfl) (fun h => ?_) fun h => ?_
   ·refine cl 0 h (synthesislaw12_alive_ok) (by kernel_rfl) fun v6 h => ?_
    cases h; exact lj 3 (by kernel_rfl)
   cases h; exact lj 4 (by kernel_rfl)
  cases h; exact lj 9 (by kernel_rfl)
 cases h; exact lq 1 (by kernel_rfl)

end Go.Proofs.Ytfkddbccogakoaa
