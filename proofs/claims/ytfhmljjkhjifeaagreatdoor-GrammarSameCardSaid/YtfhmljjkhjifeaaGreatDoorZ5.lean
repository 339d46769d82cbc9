/- Typed programs and what computes them. -/
import Derived.Test.YtfhmljjkhjifeaaGreatDoorZ4
set_option linter.unusedVariables false
set_option linter.unusedSimpArgs false
set_option maxRecDepth 100000
namespace Go.Proofs.YtfhmljjkhjifeaaGreatDoor
open Go Go.RowKit Go.Proofs
set_option maxHeartbeats 2000000
attribute [local irreducible] NStep StepA EStep LeSt
def synthesisref11_Same_m0 (a0 : La) (a1 : La) : List (Nat × AObj) := [(1, (.box 26 [(fS (a0.name)), (.fz ((eL 1 eI) (a0.inputs))), (.fz ((eL 2 eSy) (a0.symbols))), (.fz ((eL 9 eRu) (a0.rules)))])), (2, (.box 26 [(fS (a1.name)), (.fz ((eL 1 eI) (a1.inputs))), (.fz ((eL 2 eSy) (a1.symbols))), (.fz ((eL 9 eRu) (a1.rules)))]))]
def synthesisref11_Same_l1 (a0 : La) (a1 : La) (v9 : (Int)) : Option (((Int)) ⊕ (((Unit) ⊕ (Bool)))) := (bif (decide (v9 < (List.length a0.rules : Int))) then (Option.bind (idx a0.rules v9) fun v10 => (Option.bind (idx a1.rules v9) fun v11 => (Option.bind (synthesisref11_SameRule (v10) (v11)) fun v12 => (bif (!v12) then (some (.inr (.inr false))) else (some (.inl ((w64 (v9 + 1))))))))) else (some (.inr (.inl ()))))
def synthesisref11_Same_l2 (a0 : La) (a1 : La) (v4 : (Int)) : Option (((Int)) ⊕ (((Unit) ⊕ (Bool)))) := (bif (decide (v4 < (List.length a0.symbols : Int))) then (Option.bind (idx a0.symbols v4) fun v5 => (Option.bind (idx a1.symbols v4) fun v6 => (bif (!((v5.name.toList == v6.name.toList) && ((v5.type == v6.type) && true))) then (some (.inr (.inr false))) else (some (.inl ((w64 (v4 + 1)))))))) else (some (.inr (.inl ()))))
def synthesisref11_Same (a0 : La) (a1 : La) : Option (Bool) := (Option.bind ((bif (!(a0.name.toList == a1.name.toList)) then (some (true)) else (Option.bind (synthesisref11_SameInts (a0.inputs) (a1.inputs)) fun v1 => (bif (!v1) then (some (true)) else (bif ((List.length a0.symbols : Int) != (List.length a1.symbols : Int)) then (some (true)) else (some (((List.length a0.rules : Int) != (List.length a1.rules : Int)))))))) : Option ((Bool))) fun (v3 : (Bool)) => (bif v3 then (some false) else (Option.bind (loopN (synthesisref11_Same_l2 a0 a1) fuel (0)) fun (v7 : ((Unit) ⊕ (Bool))) => Sum.elim (fun v8 => (Option.bind (loopN (synthesisref11_Same_l1 a0 a1) fuel (0)) fun (v13 : ((Unit) ⊕ (Bool))) => Sum.elim (fun v14 => (some true)) (fun v15 => (some v15)) v13)) (fun v16 => (some v16)) v7)))
theorem synthesisref11_Same_ok (a0 : La) (a1 : La) (r : Bool) (h : synthesisref11_Same a0 a1 = some r) : PCall Tryz.prog 26 [eLa a0, eLa a1] (eB (r)) := by
 unfold synthesisref11_Same at h
 refine pcl [.one .keep] Tryz.func26 (by kernel_rfl) (by kernel_rfl) (by kernel_rfl) ?_
 refine jn1 8 .normal (fun v3 => ⟨75, [(2, (.ref 1 0 0)), (3, (.ref 2 0 0)), (37, (fB (v3)))], (synthesisref11_Same_m0 a0 a1), [2, 1], []⟩) h (by kernel_rfl) (fun v3 h => ?_) fun v3 h => ?_
 ·refine gd 7 h (by kernel_rfl) (fun h => ?_) fun h => ?_
  ·cases h; exact lj 26 (by kernel_rfl)
  refine cl 4 h (synthesisref11_SameInts_ok _ _) (by kernel_rfl) fun v1 h => ?_
  refine gd 3 h (by kernel_rfl) (fun h => ?_) fun h => ?_
  ·cases h; exact lj 18 (by kernel_rfl)
  refine gd 9 h (by kernel_rfl) (fun h => ?_) fun h => ?_
  ·cases h; exact lj 9 (by kernel_rfl)
  cases h; exact lj 9 (by kernel_rfl)
 refine cd 0 h (by kernel_rfl) (fun h => ?_) fun h => ?_
 ·cases h; exact lq 5 (by kernel_rfl)
 refine lpx 7 (fun v4 => ⟨75, [(2, (.ref 1 0 0)), (3, (.ref 2 0 0)), (5, (fI (v4)))], (synthesisref11_Same_m0 a0 a1), [2, 1], []⟩) (fun v7 e st => Sum.elim (fun p => e = .exit 0 ∧ LeSt st ⟨75, [(2, (.ref 1 0 0)), (3, (.ref 2 0 0))], (synthesisref11_Same_m0 a0 a1), [2, 1], []⟩) (fun p => e = .ret ∧ retX TT st Tryz.f26.results.toList [.one .keep] = some (eB (p))) v7) h (by kernel_rfl) (le_a (by kernel_rfl)) (fun v4 r h => ?_) fun v7 h e st' hq => ?_
 ·unfold synthesisref11_Same_l2 at h
  refine cd 9 h (by kernel_rfl) (fun h => ?_) fun h => ?_
  ·refine dw 4 10 (by kernel_rfl) ?_
   refine ix nSy 3 h (by kernel_rfl) fun v5 h => ?_
   refine ix nSy 4 h (by kernel_rfl) fun v6 h => ?_
   refine nst 2 (n_structeq (t := 49) (x := (.tmp 49)) (y := (.tmp 54)) (yt := 49) (d := tt49) (xs := [(eS (v5.name)), (eI (v5.type))]) (ys := [(eS (v6.name)), (eI (v6.type))]) (r := ((v5.name.toList == v6.name.toList) && ((v5.type == v6.type) && true))) true tt_ok (by kernel_rfl) (by kernel_rfl) rfl (by kernel_rfl) (by kernel_rfl) (by kernel_rfl) (by kernel_rfl) (by kernel_rfl) (by kernel_rfl)) (by kernel_rfl) ?_
   refine cd 1 h (by kernel_rfl) (fun h => ?_) fun h => ?_
   ·cases h; exact lor 5 (by kernel_rfl)
   cases h; exact lj 6 (by kernel_rfl)
  cases h; exact lo 1 (by kernel_rfl)
 rcases v7 with v8 | v16
 ·try simp only [Sum.elim_inl, Sum.elim_inr] at h
  obtain ⟨rfl, hle⟩ := hq
  refine ⟨_, hle, ?_⟩
  refine lpx 6 (fun v9 => ⟨75, [(2, (.ref 1 0 0)), (3, (.ref 2 0 0)), (6, (fI (v9)))], (synthesisref11_Same_m0 a0 a1), [2, 1], []⟩) (fun v13 e st => Sum.elim (fun p => e = .exit 2 ∧ LeSt st ⟨75, [], [], [], []⟩) (fun p => e = .ret ∧ retX TT st Tryz.f26.results.toList [.one .keep] = some (eB (p))) v13) h (by kernel_rfl) (le_a (by kernel_rfl)) (fun v9 r h => ?_) fun v13 h e st' hq => ?_
  ·unfold synthesisref11_Same_l1 at h
   refine cd 9 h (by kernel_rfl) (fun h => ?_) fun h => ?_
   ·refine dw 4 10 (by kernel_rfl) ?_
    refine ix nRu 3 h (by kernel_rfl) fun v10 h => ?_
    refine ix nRu 4 h (by kernel_rfl) fun v11 h => ?_
    refine cl 2 h (synthesisref11_SameRule_ok _ _) (by kernel_rfl) fun v12 h => ?_
    refine cd 2 h (by kernel_rfl) (fun h => ?_) fun h => ?_
    ·cases h; exact lor 5 (by kernel_rfl)
    cases h; exact lj 6 (by kernel_rfl)
   cases h; exact lo 1 (by kernel_rfl)
  rcases v13 with v14 | v15
  ·try simp only [Sum.elim_inl, Sum.elim_inr] at h
   obtain ⟨rfl, hle⟩ := hq
   refine ⟨_, hle, ?_⟩
   cases h; exact lq 5 (by kernel_rfl)
  ·try simp only [Sum.elim_inl, Sum.elim_inr] at h
   obtain ⟨rfl, hret⟩ := hq
   refine ⟨_, LeSt.refl, ?_⟩
   cases h; exact lv hret
 ·try simp only [Sum.elim_inl, Sum.elim_inr] at h
  obtain ⟨rfl, hret⟩ := hq
  refine ⟨_, LeSt.refl, ?_⟩
  cases h; exact lv hret

end Go.Proofs.YtfhmljjkhjifeaaGreatDoor
