/- Typed programs and what computes them. -/
import Derived.Test.YtpcfkflhnkfjjaaZ2
set_option linter.unusedVariables false
set_option linter.unusedSimpArgs false
set_option maxRecDepth 100000
namespace Go.Proofs.Ytpcfkflhnkfjjaa
open Go Go.RowKit Go.Proofs
set_option maxHeartbeats 2000000
attribute [local irreducible] NStep StepA EStep LeSt
structure S_ar3_str where
  f_0 : ByteArray
  f_1 : ByteArray
  f_2 : ByteArray
def synthesisref13_left_l1 (a0 : Tm) (r33 : (Tm) → (Int) → Option (Int)) (v1 : (Int) × (Int)) : Option (((Int) × (Int)) ⊕ ((Int))) := (Option.bind ((bif (decide (v1.2 < (List.length a0.args : Int))) then (some ((decide (0 ≤ v1.1)))) else (some (false))) : Option ((Bool))) fun (v3 : (Bool)) => (bif v3 then (Option.bind (idx a0.args v1.2) fun v4 => (Option.bind (r33 (v4) (v1.1)) fun v5 => (some (.inl (v5, (w64 (v1.2 + 1))))))) else (some (.inr (v1.1)))))
def synthesisref13_left_b (r33 : (Tm) → (Int) → Option (Int)) (a0 : Tm) (a1 : Int) : Option (Int) := (Option.bind (loopN (synthesisref13_left_l1 a0 r33) fuel ((w64 (a1 - 1)), 0)) fun (v7 : (Int)) => (some v7))
theorem synthesisref13_left_b_ok (r33 : (Tm) → (Int) → Option (Int)) (ih33 : ∀ (x0 : Tm) (x1 : Int) r, r33 x0 x1 = some r → PCall Try.prog 33 [eTm x0, eI x1] (eI (r))) (a0 : Tm) (a1 : Int) (r : Int) (h : synthesisref13_left_b r33 a0 a1 = some r) : PCall Try.prog 33 [eTm a0, eI a1] (eI (r)) := by
 unfold synthesisref13_left_b at h
 refine pcl [.one .keep] Try.func33 (by kernel_rfl) (by kernel_rfl) (by kernel_rfl) ?_
 refine lp1 17 (fun v1 => ⟨27, [(1, (fI (v1.1))), (2, (.ref 1 0 0)), (5, (fI (v1.2)))], [(1, (.box 35 [(fI (a0.rule)), (.fz ((eL 2 eTmR) (a0.args)))]))], [1], []⟩) (.exit 0) (fun v7 => ⟨27, [(1, (fI (v7)))], [], [], []⟩) h (by kernel_rfl) (by kernel_rfl) (fun v1 r h => ?_) fun v7 h => ?_
 ·unfold synthesisref13_left_l1 at h
  refine jn1 2 .normal (fun v3 => ⟨27, [(1, (fI (v1.1))), (2, (.ref 1 0 0)), (5, (fI (v1.2))), (16, (fB (v3)))], [(1, (.box 35 [(fI (a0.rule)), (.fz ((eL 2 eTmR) (a0.args)))]))], [1], []⟩) h (by kernel_rfl) (fun v3 h => ?_) fun v3 h => ?_
  ·refine gd 7 h (by kernel_rfl) (fun h => ?_) fun h => ?_
   ·cases h; exact lj 4 (by kernel_rfl)
   cases h; exact lj 4 (by kernel_rfl)
  refine cd 0 h (by kernel_rfl) (fun h => ?_) fun h => ?_
  ·refine ix nTmR 7 h (by kernel_rfl) fun v4 h => ?_
   refine cl 2 h (ih33 _ _) (by kernel_rfl) fun v5 h => ?_
   cases h; exact lj 7 (by kernel_rfl)
  cases h; exact lo 1 (by kernel_rfl)
 cases h; exact lq 6 (by kernel_rfl)
def synthesisref13_left : Nat → (Tm) → (Int) → Option (Int)
  | 0 => fun _ _ => none
  | n + 1 => synthesisref13_left_b (synthesisref13_left n)
theorem synthesisref13_left_ok : ∀ (n : Nat) (x0 : Tm) (x1 : Int) r, synthesisref13_left n x0 x1 = some r → PCall Try.prog 33 [eTm x0, eI x1] (eI (r))
  | 0, _, _, _, h => by cases h
  | n + 1, x0, x1, r, h => synthesisref13_left_b_ok (synthesisref13_left n) (synthesisref13_left_ok n) x0 x1 r h

def synthesisref13_Within (a0 : Tm) (a1 : Int) : Option (Bool) := (Option.bind (synthesisref13_left fuel (a0) (a1)) fun v1 => (some (decide (0 ≤ v1))))
theorem synthesisref13_Within_ok (a0 : Tm) (a1 : Int) (r : Bool) (h : synthesisref13_Within a0 a1 = some r) : PCall Try.prog 16 [eTm a0, eI a1] (eB (r)) := by
 unfold synthesisref13_Within at h
 refine pcl [.one .keep] Try.func16 (by kernel_rfl) (by kernel_rfl) (by kernel_rfl) ?_
 refine cl 9 h (synthesisref13_left_ok _ _ _) (by kernel_rfl) fun v1 h => ?_
 cases h; exact lq 4 (by kernel_rfl)

def synthesisref13_Rules_l1 (a0 : Tm) (r26 : (Tm) → Option (List Int)) (v1 : (Int) × (List Int)) : Option (((Int) × (List Int)) ⊕ ((List Int))) := (bif (decide (v1.1 < (List.length a0.args : Int))) then (Option.bind (idx a0.args v1.1) fun v2 => (Option.bind (r26 (v2)) fun v3 => (Option.bind (app 8 v1.2 v3) fun v4 => (some (.inl ((w64 (v1.1 + 1)), v4)))))) else (some (.inr (v1.2))))
def synthesisref13_Rules_b (r26 : (Tm) → Option (List Int)) (a0 : Tm) : Option (List Int) := (Option.bind (loopN (synthesisref13_Rules_l1 a0 r26) fuel (0, ([a0.rule] : List (Int)))) fun (v6 : (List Int)) => (some v6))
theorem synthesisref13_Rules_b_ok (r26 : (Tm) → Option (List Int)) (ih26 : ∀ (x0 : Tm) r, r26 x0 = some r → PCall Try.prog 26 [eTm x0] ((eL 1 eI) (r))) (a0 : Tm) (r : List Int) (h : synthesisref13_Rules_b r26 a0 = some r) : PCall Try.prog 26 [eTm a0] ((eL 1 eI) (r)) := by
 unfold synthesisref13_Rules_b at h
 refine pcl [.one (.sl 1)] Try.func26 (by kernel_rfl) (by kernel_rfl) (by kernel_rfl) ?_
 refine sst 9 (s_litrow (t := 22) (n := 1) (parts := #[(0, (.tmp 6))]) (d := tt22) (e := 3) (de := tt3) (enc := eI) (xs := ([a0.rule] : List (Int))) (id := 2) tt_ok (by kernel_rfl) (by kernel_rfl) (by kernel_rfl) (by kernel_rfl) (by kernel_rfl) rfl (by kernel_rfl) (by kernel_rfl) (by kernel_rfl)) (by kernel_rfl) ?_
 refine lp1 8 (fun v1 => ⟨24, [(1, (.ref 1 0 0)), (3, (.row 2 (List.length (v1.2)))), (4, (fI (v1.1)))], [(1, (.box 35 [(fI (a0.rule)), (.fz ((eL 2 eTmR) (a0.args)))])), (2, (.frow 3 1 (List.map eI (v1.2))))], [2, 1], []⟩) (.exit 0) (fun v6 => ⟨24, [(3, (.row 2 (List.length (v6))))], [(2, (.frow 3 1 (List.map eI (v6))))], [2], []⟩) h (by kernel_rfl) (by kernel_rfl) (fun v1 r h => ?_) fun v6 h => ?_
 ·unfold synthesisref13_Rules_l1 at h
  refine cd 9 h (by kernel_rfl) (fun h => ?_) fun h => ?_
  ·refine ix nTmR 8 h (by kernel_rfl) fun v2 h => ?_
   refine cl 1 h (ih26 _) (by kernel_rfl) fun v3 h => ?_
   refine ap nI 0 h (by kernel_rfl) fun v4 h => ?_
   cases h; exact lj 7 (by kernel_rfl)
  cases h; exact lo 1 (by kernel_rfl)
 refine wle 5 (le_freeze (t := 2) (id := 2) (n := List.length (v6)) (e := 3) (size := 1) (xs := List.map eI (v6)) (by kernel_rfl) (by kernel_rfl) (by simp)) (by kernel_rfl) ?_
 cases h; exact lq 1 (by kernel_rfl)
def synthesisref13_Rules : Nat → (Tm) → Option (List Int)
  | 0 => fun _ => none
  | n + 1 => synthesisref13_Rules_b (synthesisref13_Rules n)
theorem synthesisref13_Rules_ok : ∀ (n : Nat) (x0 : Tm) r, synthesisref13_Rules n x0 = some r → PCall Try.prog 26 [eTm x0] ((eL 1 eI) (r))
  | 0, _, _, h => by cases h
  | n + 1, x0, r, h => synthesisref13_Rules_b_ok (synthesisref13_Rules n) (synthesisref13_Rules_ok n) x0 r h

def synthesisref38_Cost_l1 (a0 : List Int) (v1 : List Int) (v2 : (Int) × (Int)) : Option (((Int) × (Int)) ⊕ ((((Int)) ⊕ ((Int) × (Int))))) := (bif (decide (v2.2 < (List.length v1 : Int))) then (Option.bind ((Option.bind (idx v1 v2.2) fun v3 => (bif (decide (v3 < 0)) then (some (true)) else (Option.bind (idx v1 v2.2) fun v4 => (bif (decide ((List.length a0 : Int) ≤ v4)) then (some (true)) else (Option.bind (idx v1 v2.2) fun v5 => (Option.bind (idx a0 v5) fun v6 => (bif (decide (v6 < 0)) then (some (true)) else (Option.bind (idx v1 v2.2) fun v7 => (Option.bind (idx a0 v7) fun v8 => (some ((decide (1000 < v8))))))))))))) : Option ((Bool))) fun (v10 : (Bool)) => (bif v10 then (some (.inr (.inr (0, 1)))) else (Option.bind (idx v1 v2.2) fun v11 => (Option.bind (idx a0 v11) fun v12 => (some (.inl ((w64 (v2.1 + v12)), (w64 (v2.2 + 1))))))))) else (some (.inr (.inl (v2.1)))))
def synthesisref38_Cost (a0 : List Int) (a1 : Tm) : Option ((Int) × (Int)) := (Option.bind (synthesisref13_Rules fuel (a1)) fun v1 => (Option.bind (loopN (synthesisref38_Cost_l1 a0 v1) fuel (0, 0)) fun (v13 : (((Int)) ⊕ ((Int) × (Int)))) => Sum.elim (fun v14 => (some (v14, 0))) (fun v15 => (some v15)) v13))
theorem synthesisref38_Cost_ok (a0 : List Int) (a1 : Tm) (r : (Int) × (Int)) (h : synthesisref38_Cost a0 a1 = some r) : PCall Try.prog 18 [(eL 1 eI) a0, eTm a1] (.tup [eI (r.1), eI (r.2)]) := by
 unfold synthesisref38_Cost at h
 refine pcl [.one .keep, .one .keep] Try.func18 (by kernel_rfl) (by kernel_rfl) (by kernel_rfl) ?_
 refine cl 9 h (synthesisref13_Rules_ok _ _) (by kernel_rfl) fun v1 h => ?_
 refine lpx 12 (fun v2 => ⟨61, [(0, (.fz ((eL 1 eI) (a0)))), (6, (.fz ((eL 1 eI) (v1)))), (7, (fI (v2.1))), (8, (fI (v2.2)))], [], [], []⟩) (fun v13 e st => Sum.elim (fun p => e = .exit 0 ∧ LeSt st ⟨61, [(7, (fI (p)))], [], [], []⟩) (fun p => e = .ret ∧ retX TT st Try.f18.results.toList [.one .keep, .one .keep] = some (.tup [eI (p.1), eI (p.2)])) v13) h (by kernel_rfl) (le_a (by kernel_rfl)) (fun v2 r h => ?_) fun v13 h e st' hq => ?_
 ·unfold synthesisref38_Cost_l1 at h
  refine cd 8 h (by kernel_rfl) (fun h => ?_) fun h => ?_
  ·refine jn1 5 .normal (fun v10 => ⟨61, [(0, (.fz ((eL 1 eI) (a0)))), (6, (.fz ((eL 1 eI) (v1)))), (7, (fI (v2.1))), (8, (fI (v2.2))), (50, (fB (v10)))], [], [], []⟩) h (by kernel_rfl) (fun v10 h => ?_) fun v10 h => ?_
   ·refine ix nI 3 h (by kernel_rfl) fun v3 h => ?_
    refine gd 3 h (by kernel_rfl) (fun h => ?_) fun h => ?_
    ·cases h; exact lj 29 (by kernel_rfl)
    refine ix nI 2 h (by kernel_rfl) fun v4 h => ?_
    refine gd 6 h (by kernel_rfl) (fun h => ?_) fun h => ?_
    ·cases h; exact lj 20 (by kernel_rfl)
    refine ix nI 3 h (by kernel_rfl) fun v5 h => ?_
    refine ix nI 1 h (by kernel_rfl) fun v6 h => ?_
    refine gd 4 h (by kernel_rfl) (fun h => ?_) fun h => ?_
    ·cases h; exact lj 10 (by kernel_rfl)
    refine ix nI 3 h (by kernel_rfl) fun v7 h => ?_
    refine ix nI 1 h (by kernel_rfl) fun v8 h => ?_
    cases h; exact lj 4 (by kernel_rfl)
   refine cd 0 h (by kernel_rfl) (fun h => ?_) fun h => ?_
   ·cases h; exact lor 6 (by kernel_rfl)
   refine ix nI 6 h (by kernel_rfl) fun v11 h => ?_
   refine ix nI 1 h (by kernel_rfl) fun v12 h => ?_
   cases h; exact lj 9 (by kernel_rfl)
  cases h; exact lo 1 (by kernel_rfl)
 rcases v13 with v14 | v15
 ·try simp only [Sum.elim_inl, Sum.elim_inr] at h
  obtain ⟨rfl, hle⟩ := hq
  refine ⟨_, hle, ?_⟩
  cases h; exact lq 7 (by kernel_rfl)
 ·try simp only [Sum.elim_inl, Sum.elim_inr] at h
  obtain ⟨rfl, hret⟩ := hq
  refine ⟨_, LeSt.refl, ?_⟩
  cases h; exact lv hret

def synthesisref13_Size_l1 (a0 : Tm) (r27 : (Tm) → Option (Int)) (v1 : (Int) × (Int)) : Option (((Int) × (Int)) ⊕ ((Int))) := (bif (decide (v1.2 < (List.length a0.args : Int))) then (Option.bind (idx a0.args v1.2) fun v2 => (Option.bind (r27 (v2)) fun v3 => (some (.inl ((w64 (v1.1 + v3)), (w64 (v1.2 + 1))))))) else (some (.inr (v1.1))))
def synthesisref13_Size_b (r27 : (Tm) → Option (Int)) (a0 : Tm) : Option (Int) := (Option.bind (loopN (synthesisref13_Size_l1 a0 r27) fuel (1, 0)) fun (v5 : (Int)) => (some v5))
theorem synthesisref13_Size_b_ok (r27 : (Tm) → Option (Int)) (ih27 : ∀ (x0 : Tm) r, r27 x0 = some r → PCall Try.prog 27 [eTm x0] (eI (r))) (a0 : Tm) (r : Int) (h : synthesisref13_Size_b r27 a0 = some r) : PCall Try.prog 27 [eTm a0] (eI (r)) := by
 unfold synthesisref13_Size_b at h
 refine pcl [.one .keep] Try.func27 (by kernel_rfl) (by kernel_rfl) (by kernel_rfl) ?_
 refine lp1 15 (fun v1 => ⟨21, [(1, (.ref 1 0 0)), (3, (fI (v1.1))), (4, (fI (v1.2)))], [(1, (.box 35 [(fI (a0.rule)), (.fz ((eL 2 eTmR) (a0.args)))]))], [1], []⟩) (.exit 0) (fun v5 => ⟨21, [(3, (fI (v5)))], [], [], []⟩) h (by kernel_rfl) (by kernel_rfl) (fun v1 r h => ?_) fun v5 h => ?_
 ·unfold synthesisref13_Size_l1 at h
  refine cd 9 h (by kernel_rfl) (fun h => ?_) fun h => ?_
  ·refine ix nTmR 8 h (by kernel_rfl) fun v2 h => ?_
   refine cl 1 h (ih27 _) (by kernel_rfl) fun v3 h => ?_
   cases h; exact lj 8 (by kernel_rfl)
  cases h; exact lo 1 (by kernel_rfl)
 cases h; exact lq 6 (by kernel_rfl)
def synthesisref13_Size : Nat → (Tm) → Option (Int)
  | 0 => fun _ => none
  | n + 1 => synthesisref13_Size_b (synthesisref13_Size n)
theorem synthesisref13_Size_ok : ∀ (n : Nat) (x0 : Tm) r, synthesisref13_Size n x0 = some r → PCall Try.prog 27 [eTm x0] (eI (r))
  | 0, _, _, h => by cases h
  | n + 1, x0, r, h => synthesisref13_Size_b_ok (synthesisref13_Size n) (synthesisref13_Size_ok n) x0 r h

def synthesisref13_order (a0 : Int) (a1 : Int) : Option (Int) := (bif (decide (a0 < a1)) then (some (-1)) else (bif (decide (a1 < a0)) then (some 1) else (some 0)))
theorem synthesisref13_order_ok (a0 : Int) (a1 : Int) (r : Int) (h : synthesisref13_order a0 a1 = some r) : PCall Try.prog 45 [eI a0, eI a1] (eI (r)) := by
 unfold synthesisref13_order at h
 refine pcl [.one .keep] Try.func45 (by kernel_rfl) (by kernel_rfl) (by kernel_rfl) ?_
 refine cd 11 h (by kernel_rfl) (fun h => ?_) fun h => ?_
 ·cases h; exact lq 5 (by kernel_rfl)
 refine cd 8 h (by kernel_rfl) (fun h => ?_) fun h => ?_
 ·cases h; exact lq 5 (by kernel_rfl)
 cases h; exact lq 6 (by kernel_rfl)

def synthesisref13_CompareInts_l1 (a0 : List Int) (a1 : List Int) (v1 : (Int)) : Option (((Int)) ⊕ (((Unit) ⊕ (Int)))) := (Option.bind ((bif (decide (v1 < (List.length a0 : Int))) then (some ((decide (v1 < (List.length a1 : Int))))) else (some (false))) : Option ((Bool))) fun (v3 : (Bool)) => (bif v3 then (Option.bind (idx a0 v1) fun v4 => (Option.bind (idx a1 v1) fun v5 => (bif (decide (v4 < v5)) then (some (.inr (.inr (-1)))) else (Option.bind (idx a0 v1) fun v6 => (Option.bind (idx a1 v1) fun v7 => (bif (decide (v7 < v6)) then (some (.inr (.inr 1))) else (some (.inl ((w64 (v1 + 1))))))))))) else (some (.inr (.inl ())))))
def synthesisref13_CompareInts (a0 : List Int) (a1 : List Int) : Option (Int) := (Option.bind (loopN (synthesisref13_CompareInts_l1 a0 a1) fuel (0)) fun (v8 : ((Unit) ⊕ (Int))) => Sum.elim (fun v9 => (Option.bind (synthesisref13_order ((List.length a0 : Int)) ((List.length a1 : Int))) fun v10 => (some v10))) (fun v11 => (some v11)) v8)
theorem synthesisref13_CompareInts_ok (a0 : List Int) (a1 : List Int) (r : Int) (h : synthesisref13_CompareInts a0 a1 = some r) : PCall Try.prog 46 [(eL 1 eI) a0, (eL 1 eI) a1] (eI (r)) := by
 unfold synthesisref13_CompareInts at h
 refine pcl [.one .keep] Try.func46 (by kernel_rfl) (by kernel_rfl) (by kernel_rfl) ?_
 refine lpx 10 (fun v1 => ⟨41, [(0, (.fz ((eL 1 eI) (a0)))), (1, (.fz ((eL 1 eI) (a1)))), (5, (fI (v1)))], [], [], []⟩) (fun v8 e st => Sum.elim (fun p => e = .exit 0 ∧ LeSt st ⟨41, [(0, (.fz ((eL 1 eI) (a0)))), (1, (.fz ((eL 1 eI) (a1))))], [], [], []⟩) (fun p => e = .ret ∧ retX TT st Try.f46.results.toList [.one .keep] = some (eI (p))) v8) h (by kernel_rfl) (le_a (by kernel_rfl)) (fun v1 r h => ?_) fun v8 h e st' hq => ?_
 ·unfold synthesisref13_CompareInts_l1 at h
  refine jn1 2 .normal (fun v3 => ⟨41, [(0, (.fz ((eL 1 eI) (a0)))), (1, (.fz ((eL 1 eI) (a1)))), (5, (fI (v1))), (15, (fB (v3)))], [], [], []⟩) h (by kernel_rfl) (fun v3 h => ?_) fun v3 h => ?_
  ·refine gd 6 h (by kernel_rfl) (fun h => ?_) fun h => ?_
   ·cases h; exact lj 6 (by kernel_rfl)
   cases h; exact lj 6 (by kernel_rfl)
  refine cd 0 h (by kernel_rfl) (fun h => ?_) fun h => ?_
  ·refine dw 5 8 (by kernel_rfl) ?_
   refine ix nI 2 h (by kernel_rfl) fun v4 h => ?_
   refine ix nI 3 h (by kernel_rfl) fun v5 h => ?_
   refine cd 4 h (by kernel_rfl) (fun h => ?_) fun h => ?_
   ·cases h; exact lor 5 (by kernel_rfl)
   refine dw 2 8 (by kernel_rfl) ?_
   refine ix nI 2 h (by kernel_rfl) fun v6 h => ?_
   refine ix nI 3 h (by kernel_rfl) fun v7 h => ?_
   refine cd 4 h (by kernel_rfl) (fun h => ?_) fun h => ?_
   ·cases h; exact lor 5 (by kernel_rfl)
   cases h; exact lj 6 (by kernel_rfl)
  cases h; exact lo 1 (by kernel_rfl)
 rcases v8 with v9 | v11
 ·try simp only [Sum.elim_inl, Sum.elim_inr] at h
  obtain ⟨rfl, hle⟩ := hq
  refine ⟨_, hle, ?_⟩
  refine cl 6 h (synthesisref13_order_ok _ _) (by kernel_rfl) fun v10 h => ?_
  cases h; exact lq 3 (by kernel_rfl)
 ·try simp only [Sum.elim_inl, Sum.elim_inr] at h
  obtain ⟨rfl, hret⟩ := hq
  refine ⟨_, LeSt.refl, ?_⟩
  cases h; exact lv hret

def synthesisref13_arities_l1 (a0 : Tm) (r47 : (Tm) → Option (List Int)) (v1 : (Int) × (List Int)) : Option (((Int) × (List Int)) ⊕ ((List Int))) := (bif (decide (v1.1 < (List.length a0.args : Int))) then (Option.bind (idx a0.args v1.1) fun v2 => (Option.bind (r47 (v2)) fun v3 => (Option.bind (app 8 v1.2 v3) fun v4 => (some (.inl ((w64 (v1.1 + 1)), v4)))))) else (some (.inr (v1.2))))
def synthesisref13_arities_b (r47 : (Tm) → Option (List Int)) (a0 : Tm) : Option (List Int) := (Option.bind (loopN (synthesisref13_arities_l1 a0 r47) fuel (0, ([(List.length a0.args : Int)] : List (Int)))) fun (v6 : (List Int)) => (some v6))
theorem synthesisref13_arities_b_ok (r47 : (Tm) → Option (List Int)) (ih47 : ∀ (x0 : Tm) r, r47 x0 = some r → PCall Try.prog 47 [eTm x0] ((eL 1 eI) (r))) (a0 : Tm) (r : List Int) (h : synthesisref13_arities_b r47 a0 = some r) : PCall Try.prog 47 [eTm a0] ((eL 1 eI) (r)) := by
 unfold synthesisref13_arities_b at h
 refine pcl [.one (.sl 1)] Try.func47 (by kernel_rfl) (by kernel_rfl) (by kernel_rfl) ?_
 refine sst 10 (s_litrow (t := 22) (n := 1) (parts := #[(0, (.tmp 7))]) (d := tt22) (e := 3) (de := tt3) (enc := eI) (xs := ([(List.length a0.args : Int)] : List (Int))) (id := 2) tt_ok (by kernel_rfl) (by kernel_rfl) (by kernel_rfl) (by kernel_rfl) (by kernel_rfl) rfl (by kernel_rfl) (by kernel_rfl) (by kernel_rfl)) (by kernel_rfl) ?_
 refine lp1 8 (fun v1 => ⟨25, [(1, (.ref 1 0 0)), (3, (.row 2 (List.length (v1.2)))), (4, (fI (v1.1)))], [(1, (.box 35 [(fI (a0.rule)), (.fz ((eL 2 eTmR) (a0.args)))])), (2, (.frow 3 1 (List.map eI (v1.2))))], [2, 1], []⟩) (.exit 0) (fun v6 => ⟨25, [(3, (.row 2 (List.length (v6))))], [(2, (.frow 3 1 (List.map eI (v6))))], [2], []⟩) h (by kernel_rfl) (by kernel_rfl) (fun v1 r h => ?_) fun v6 h => ?_
 ·unfold synthesisref13_arities_l1 at h
  refine cd 9 h (by kernel_rfl) (fun h => ?_) fun h => ?_
  ·refine ix nTmR 8 h (by kernel_rfl) fun v2 h => ?_
   refine cl 1 h (ih47 _) (by kernel_rfl) fun v3 h => ?_
   refine ap nI 0 h (by kernel_rfl) fun v4 h => ?_
   cases h; exact lj 7 (by kernel_rfl)
  cases h; exact lo 1 (by kernel_rfl)
 refine wle 5 (le_freeze (t := 2) (id := 2) (n := List.length (v6)) (e := 3) (size := 1) (xs := List.map eI (v6)) (by kernel_rfl) (by kernel_rfl) (by simp)) (by kernel_rfl) ?_
 cases h; exact lq 1 (by kernel_rfl)
def synthesisref13_arities : Nat → (Tm) → Option (List Int)
  | 0 => fun _ => none
  | n + 1 => synthesisref13_arities_b (synthesisref13_arities n)
theorem synthesisref13_arities_ok : ∀ (n : Nat) (x0 : Tm) r, synthesisref13_arities n x0 = some r → PCall Try.prog 47 [eTm x0] ((eL 1 eI) (r))
  | 0, _, _, h => by cases h
  | n + 1, x0, r, h => synthesisref13_arities_b_ok (synthesisref13_arities n) (synthesisref13_arities_ok n) x0 r h

def synthesisref13_Compare (a0 : Tm) (a1 : Tm) : Option (Int) := (Option.bind (synthesisref13_Size fuel (a0)) fun v1 => (Option.bind (synthesisref13_Size fuel (a1)) fun v2 => (Option.bind (synthesisref13_order (v1) (v2)) fun v3 => (bif (v3 != 0) then (some v3) else (Option.bind (synthesisref13_Rules fuel (a0)) fun v4 => (Option.bind (synthesisref13_Rules fuel (a1)) fun v5 => (Option.bind (synthesisref13_CompareInts (v4) (v5)) fun v6 => (bif (v6 != 0) then (some v6) else (Option.bind (synthesisref13_arities fuel (a0)) fun v7 => (Option.bind (synthesisref13_arities fuel (a1)) fun v8 => (Option.bind (synthesisref13_CompareInts (v7) (v8)) fun v9 => (some v9))))))))))))
theorem synthesisref13_Compare_ok (a0 : Tm) (a1 : Tm) (r : Int) (h : synthesisref13_Compare a0 a1 = some r) : PCall Try.prog 25 [eTm a0, eTm a1] (eI (r)) := by
 unfold synthesisref13_Compare at h
 refine pcl [.one .keep] Try.func25 (by kernel_rfl) (by kernel_rfl) (by kernel_rfl) ?_
 refine dw 8 3 (by kernel_rfl) ?_
 refine cl 1 h (synthesisref13_Size_ok _ _) (by kernel_rfl) fun v1 h => ?_
 refine cl 2 h (synthesisref13_Size_ok _ _) (by kernel_rfl) fun v2 h => ?_
 refine cl 0 h (synthesisref13_order_ok _ _) (by kernel_rfl) fun v3 h => ?_
 refine cd 7 h (by kernel_rfl) (fun h => ?_) fun h => ?_
 ·cases h; exact lq 6 (by kernel_rfl)
 refine dw 3 3 (by kernel_rfl) ?_
 refine cl 1 h (synthesisref13_Rules_ok _ _) (by kernel_rfl) fun v4 h => ?_
 refine cl 2 h (synthesisref13_Rules_ok _ _) (by kernel_rfl) fun v5 h => ?_
 refine cl 0 h (synthesisref13_CompareInts_ok _ _) (by kernel_rfl) fun v6 h => ?_
 refine cd 7 h (by kernel_rfl) (fun h => ?_) fun h => ?_
 ·cases h; exact lq 6 (by kernel_rfl)
 refine dw 2 3 (by kernel_rfl) ?_
 refine cl 1 h (synthesisref13_arities_ok _ _) (by kernel_rfl) fun v7 h => ?_
 refine cl 2 h (synthesisref13_arities_ok _ _) (by kernel_rfl) fun v8 h => ?_
 refine cl 0 h (synthesisref13_CompareInts_ok _ _) (by kernel_rfl) fun v9 h => ?_
 cases h; exact lq 3 (by kernel_rfl)

end Go.Proofs.Ytpcfkflhnkfjjaa
