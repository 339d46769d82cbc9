/- Typed programs and what computes them. -/
import Derived.Test.YtijkipikefpopaaDoorTT
set_option linter.unusedVariables false
set_option linter.unusedSimpArgs false
set_option maxRecDepth 100000
namespace Go.Proofs.YtijkipikefpopaaDoor
open Go Go.RowKit Go.Proofs
attribute [local irreducible] NStep StepA EStep LeSt
def synthesisref01_Size_l1 (a0 : Va) (r27 : (Va) → Option (Int)) (v1 : (Int) × (Int)) : Option (((Int) × (Int)) ⊕ ((Int))) := (bif (decide (v1.2 < (List.length a0.items : Int))) then (Option.bind (idx a0.items v1.2) fun v2 => (Option.bind (r27 (v2)) fun v3 => (some (.inl ((w64 (v1.1 + v3)), (w64 (v1.2 + 1))))))) else (some (.inr (v1.1))))
def synthesisref01_Size_b (r27 : (Va) → Option (Int)) (a0 : Va) : Option (Int) := (Option.bind (loopN (synthesisref01_Size_l1 a0 r27) fuel (1, 0)) fun (v5 : (Int)) => (some v5))
theorem synthesisref01_Size_b_ok (r27 : (Va) → Option (Int)) (ih27 : ∀ (x0 : Va) r, r27 x0 = some r → PCall Tryd.prog 27 [eVa x0] (eI (r))) (a0 : Va) (r : Int) (h : synthesisref01_Size_b r27 a0 = some r) : PCall Tryd.prog 27 [eVa a0] (eI (r)) := by
 unfold synthesisref01_Size_b at h
 refine pcl [.one .keep] Tryd.func27 (by kernel_rfl) (by kernel_rfl) (by kernel_rfl) ?_
 refine lp1 15 (fun v1 => ⟨21, [(1, (.ref 1 0 0)), (3, (fI (v1.1))), (4, (fI (v1.2)))], [(1, (.box 24 [(fI (a0.type)), (fI (a0.num)), (fS (a0.text)), (.fz ((eL 4 eVaR) (a0.items)))]))], [1], []⟩) (.exit 0) (fun v5 => ⟨21, [(3, (fI (v5)))], [], [], []⟩) h (by kernel_rfl) (by kernel_rfl) (fun v1 r h => ?_) fun v5 h => ?_
 ·unfold synthesisref01_Size_l1 at h
  refine cd 9 h (by kernel_rfl) (fun h => ?_) fun h => ?_
  ·refine ix nVaR 8 h (by kernel_rfl) fun v2 h => ?_
   refine cl 1 h (ih27 _) (by kernel_rfl) fun v3 h => ?_
   cases h; exact lj 8 (by kernel_rfl)
  cases h; exact lo 1 (by kernel_rfl)
 cases h; exact lq 6 (by kernel_rfl)
def synthesisref01_Size : Nat → (Va) → Option (Int)
  | 0 => fun _ => none
  | n + 1 => synthesisref01_Size_b (synthesisref01_Size n)
theorem synthesisref01_Size_ok : ∀ (n : Nat) (x0 : Va) r, synthesisref01_Size n x0 = some r → PCall Tryd.prog 27 [eVa x0] (eI (r))
  | 0, _, _, h => by cases h
  | n + 1, x0, r, h => synthesisref01_Size_b_ok (synthesisref01_Size n) (synthesisref01_Size_ok n) x0 r h

def synthesislaw02_small_m0 (a0 : Va) : List (Nat × AObj) := [(1, (.box 24 [(fI (a0.type)), (fI (a0.num)), (fS (a0.text)), (.fz ((eL 4 eVaR) (a0.items)))]))]
def synthesislaw02_small_l1 (a0 : Va) (a1 : Int) (r10 : (Va) → (Int) → Option (Bool)) (v3 : (Int)) : Option (((Int)) ⊕ (((Unit) ⊕ (Bool)))) := (bif (decide (v3 < (List.length a0.items : Int))) then (Option.bind (idx a0.items v3) fun v4 => (Option.bind (r10 (v4) ((w64 (a1 - 1)))) fun v5 => (bif (!v5) then (some (.inr (.inr false))) else (some (.inl ((w64 (v3 + 1)))))))) else (some (.inr (.inl ()))))
def synthesislaw02_small_b (r10 : (Va) → (Int) → Option (Bool)) (a0 : Va) (a1 : Int) : Option (Bool) := (Option.bind ((bif (a1 == 0) then (some (true)) else (bif (decide (200 < (a0.text.size : Int))) then (some (true)) else (some ((decide (40 < (List.length a0.items : Int))))))) : Option ((Bool))) fun (v2 : (Bool)) => (bif v2 then (some false) else (Option.bind (loopN (synthesislaw02_small_l1 a0 a1 r10) fuel (0)) fun (v6 : ((Unit) ⊕ (Bool))) => Sum.elim (fun v7 => (Option.bind (synthesisref01_Size fuel (a0)) fun v8 => (some (decide (v8 ≤ 200))))) (fun v9 => (some v9)) v6)))
theorem synthesislaw02_small_b_ok (r10 : (Va) → (Int) → Option (Bool)) (ih10 : ∀ (x0 : Va) (x1 : Int) r, r10 x0 x1 = some r → PCall Tryd.prog 10 [eVa x0, eI x1] (eB (r))) (a0 : Va) (a1 : Int) (r : Bool) (h : synthesislaw02_small_b r10 a0 a1 = some r) : PCall Tryd.prog 10 [eVa a0, eI a1] (eB (r)) := by
 unfold synthesislaw02_small_b at h
 refine pcl [.one .keep] Tryd.func10 (by kernel_rfl) (by kernel_rfl) (by kernel_rfl) ?_
 refine jn1 7 .normal (fun v2 => ⟨39, [(1, (fI (a1))), (2, (.ref 1 0 0)), (19, (fB (v2)))], (synthesislaw02_small_m0 a0), [1], []⟩) h (by kernel_rfl) (fun v2 h => ?_) fun v2 h => ?_
 ·refine gd 4 h (by kernel_rfl) (fun h => ?_) fun h => ?_
  ·cases h; exact lj 12 (by kernel_rfl)
  refine gd 6 h (by kernel_rfl) (fun h => ?_) fun h => ?_
  ·cases h; exact lj 6 (by kernel_rfl)
  cases h; exact lj 6 (by kernel_rfl)
 refine cd 0 h (by kernel_rfl) (fun h => ?_) fun h => ?_
 ·cases h; exact lq 5 (by kernel_rfl)
 refine lpx 7 (fun v3 => ⟨39, [(1, (fI (a1))), (2, (.ref 1 0 0)), (5, (fI (v3)))], (synthesislaw02_small_m0 a0), [1], []⟩) (fun v6 e st => Sum.elim (fun p => e = .exit 0 ∧ LeSt st ⟨39, [(2, (.ref 1 0 0))], (synthesislaw02_small_m0 a0), [1], []⟩) (fun p => e = .ret ∧ retX TT st Tryd.f10.results.toList [.one .keep] = some (eB (p))) v6) h (by kernel_rfl) (le_a (by kernel_rfl)) (fun v3 r h => ?_) fun v6 h e st' hq => ?_
 ·unfold synthesislaw02_small_l1 at h
  refine cd 9 h (by kernel_rfl) (fun h => ?_) fun h => ?_
  ·refine ix nVaR 8 h (by kernel_rfl) fun v4 h => ?_
   refine cl 3 h (ih10 _ _) (by kernel_rfl) fun v5 h => ?_
   refine cd 2 h (by kernel_rfl) (fun h => ?_) fun h => ?_
   ·cases h; exact lor 5 (by kernel_rfl)
   cases h; exact lj 6 (by kernel_rfl)
  cases h; exact lo 1 (by kernel_rfl)
 rcases v6 with v7 | v9
 ·try simp only [Sum.elim_inl, Sum.elim_inr] at h
  obtain ⟨rfl, hle⟩ := hq
  refine ⟨_, hle, ?_⟩
  refine cl 3 h (synthesisref01_Size_ok _ _) (by kernel_rfl) fun v8 h => ?_
  cases h; exact lq 4 (by kernel_rfl)
 ·try simp only [Sum.elim_inl, Sum.elim_inr] at h
  obtain ⟨rfl, hret⟩ := hq
  refine ⟨_, LeSt.refl, ?_⟩
  cases h; exact lv hret
def synthesislaw02_small : Nat → (Va) → (Int) → Option (Bool)
  | 0 => fun _ _ => none
  | n + 1 => synthesislaw02_small_b (synthesislaw02_small n)
theorem synthesislaw02_small_ok : ∀ (n : Nat) (x0 : Va) (x1 : Int) r, synthesislaw02_small n x0 x1 = some r → PCall Tryd.prog 10 [eVa x0, eI x1] (eB (r))
  | 0, _, _, _, h => by cases h
  | n + 1, x0, x1, r, h => synthesislaw02_small_b_ok (synthesislaw02_small n) (synthesislaw02_small_ok n) x0 x1 r h

def value_unused_m0 (a0 : Va) : List (Nat × AObj) := [(1, (.box 24 [(fI (a0.type)), (fI (a0.num)), (fS (a0.text)), (.fz ((eL 4 eVaR) (a0.items)))]))]
def value_unused (a0 : Va) : Option (Bool) := (Option.bind ((bif (a0.type == 1) then (some ((a0.type == 1))) else (bif (a0.type == 2) then (some ((a0.type == 2))) else (some ((a0.type == 4))))) : Option ((Bool))) fun (v2 : (Bool)) => (bif v2 then (Option.bind ((bif (a0.text.toList == (⟨#[]⟩ : ByteArray).toList) then (some (((List.length a0.items : Int) == 0))) else (some (false))) : Option ((Bool))) fun (v4 : (Bool)) => (some v4)) else (Option.bind ((bif (a0.type == 3) then (some ((a0.type == 3))) else (some ((a0.type == 8)))) : Option ((Bool))) fun (v6 : (Bool)) => (bif v6 then (Option.bind ((bif (a0.num == 0) then (some (((List.length a0.items : Int) == 0))) else (some (false))) : Option ((Bool))) fun (v8 : (Bool)) => (some v8)) else (Option.bind ((bif (a0.num == 0) then (some ((a0.text.toList == (⟨#[]⟩ : ByteArray).toList))) else (some (false))) : Option ((Bool))) fun (v10 : (Bool)) => (some v10))))))
theorem value_unused_ok (a0 : Va) (r : Bool) (h : value_unused a0 = some r) : PCall Tryd.prog 67 [eVa a0] (eB (r)) := by
 unfold value_unused at h
 refine pcl [.one .keep] Tryd.func67 (by kernel_rfl) (by kernel_rfl) (by kernel_rfl) ?_
 refine jn1 13 .normal (fun v2 => ⟨38, [(1, (.ref 1 0 0)), (4, (fI (a0.type))), (5, (fB (v2)))], (value_unused_m0 a0), [1], []⟩) h (by kernel_rfl) (fun v2 h => ?_) fun v2 h => ?_
 ·refine cd 5 h (by kernel_rfl) (fun h => ?_) fun h => ?_
  ·cases h; exact lj 1 (by kernel_rfl)
  refine cd 5 h (by kernel_rfl) (fun h => ?_) fun h => ?_
  ·cases h; exact lj 1 (by kernel_rfl)
  cases h; exact lj 4 (by kernel_rfl)
 refine cd 0 h (by kernel_rfl) (fun h => ?_) fun h => ?_
 ·refine jn1 1 .normal (fun v4 => ⟨38, [(2, (fB (v4)))], [], [], []⟩) h (by kernel_rfl) (fun v4 h => ?_) fun v4 h => ?_
  ·refine gd 5 h (by kernel_rfl) (fun h => ?_) fun h => ?_
   ·cases h; exact lj 7 (by kernel_rfl)
   cases h; exact lj 7 (by kernel_rfl)
  cases h; exact lq 1 (by kernel_rfl)
 refine jn1 1 .normal (fun v6 => ⟨38, [(1, (.ref 1 0 0)), (18, (fB (v6)))], (value_unused_m0 a0), [1], []⟩) h (by kernel_rfl) (fun v6 h => ?_) fun v6 h => ?_
 ·refine cd 5 h (by kernel_rfl) (fun h => ?_) fun h => ?_
  ·cases h; exact lj 1 (by kernel_rfl)
  cases h; exact lj 4 (by kernel_rfl)
 refine cd 0 h (by kernel_rfl) (fun h => ?_) fun h => ?_
 ·refine jn1 1 .normal (fun v8 => ⟨38, [(2, (fB (v8)))], [], [], []⟩) h (by kernel_rfl) (fun v8 h => ?_) fun v8 h => ?_
  ·refine gd 5 h (by kernel_rfl) (fun h => ?_) fun h => ?_
   ·cases h; exact lj 7 (by kernel_rfl)
   cases h; exact lj 7 (by kernel_rfl)
  cases h; exact lq 1 (by kernel_rfl)
 refine jn1 2 .normal (fun v10 => ⟨38, [(2, (fB (v10)))], [], [], []⟩) h (by kernel_rfl) (fun v10 h => ?_) fun v10 h => ?_
 ·refine gd 5 h (by kernel_rfl) (fun h => ?_) fun h => ?_
  ·cases h; exact lj 6 (by kernel_rfl)
  cases h; exact lj 6 (by kernel_rfl)
 cases h; exact lq 1 (by kernel_rfl)

def value_ranged (a0 : Int) (a1 : Int) (a2 : Int) : Option (Int) := (Option.bind ((bif (decide (a0 < a1)) then (some (true)) else (some ((decide (a2 < a0))))) : Option ((Bool))) fun (v2 : (Bool)) => (bif v2 then (some 1) else (some 0)))
theorem value_ranged_ok (a0 : Int) (a1 : Int) (a2 : Int) (r : Int) (h : value_ranged a0 a1 a2 = some r) : PCall Tryd.prog 68 [eI a0, eI a1, eI a2] (eI (r)) := by
 unfold value_ranged at h
 refine pcl [.one .keep] Tryd.func68 (by kernel_rfl) (by kernel_rfl) (by kernel_rfl) ?_
 refine jn1 6 .normal (fun v2 => ⟨15, [(14, (fB (v2)))], [], [], []⟩) h (by kernel_rfl) (fun v2 h => ?_) fun v2 h => ?_
 ·refine gd 5 h (by kernel_rfl) (fun h => ?_) fun h => ?_
  ·cases h; exact lj 5 (by kernel_rfl)
  cases h; exact lj 5 (by kernel_rfl)
 refine cd 0 h (by kernel_rfl) (fun h => ?_) fun h => ?_
 ·cases h; exact lq 5 (by kernel_rfl)
 cases h; exact lq 6 (by kernel_rfl)

def value_printed_l1 (a0 : ByteArray) (v1 : (Int)) : Option (((Int)) ⊕ (((Unit) ⊕ (Bool)))) := (bif (decide (v1 < (a0.size : Int))) then (Option.bind ((Option.bind (byt a0 v1) fun v2 => (bif (decide (v2 < 32)) then (some (true)) else (Option.bind (byt a0 v1) fun v3 => (some ((decide (126 < v3))))))) : Option ((Bool))) fun (v5 : (Bool)) => (bif v5 then (some (.inr (.inr false))) else (some (.inl ((w64 (v1 + 1))))))) else (some (.inr (.inl ()))))
def value_printed (a0 : ByteArray) : Option (Bool) := (Option.bind (loopN (value_printed_l1 a0) fuel (0)) fun (v6 : ((Unit) ⊕ (Bool))) => Sum.elim (fun v7 => (some true)) (fun v8 => (some v8)) v6)
theorem value_printed_ok (a0 : ByteArray) (r : Bool) (h : value_printed a0 = some r) : PCall Tryd.prog 79 [eS a0] (eB (r)) := by
 unfold value_printed at h
 refine pcl [.one .keep] Tryd.func79 (by kernel_rfl) (by kernel_rfl) (by kernel_rfl) ?_
 refine lpx 10 (fun v1 => ⟨20, [(0, (fS (a0))), (3, (fI (v1)))], [], [], []⟩) (fun v6 e st => Sum.elim (fun p => e = .exit 0 ∧ LeSt st ⟨20, [], [], [], []⟩) (fun p => e = .ret ∧ retX TT st Tryd.f79.results.toList [.one .keep] = some (eB (p))) v6) h (by kernel_rfl) (le_a (by kernel_rfl)) (fun v1 r h => ?_) fun v6 h e st' hq => ?_
 ·unfold value_printed_l1 at h
  refine cd 8 h (by kernel_rfl) (fun h => ?_) fun h => ?_
  ·refine jn1 4 .normal (fun v5 => ⟨20, [(0, (fS (a0))), (3, (fI (v1))), (19, (fB (v5)))], [], [], []⟩) h (by kernel_rfl) (fun v5 h => ?_) fun v5 h => ?_
   ·refine byx 3 h (by kernel_rfl) fun v2 h => ?_
    refine gd 2 h (by kernel_rfl) (fun h => ?_) fun h => ?_
    ·cases h; exact lj 6 (by kernel_rfl)
    refine byx 2 h (by kernel_rfl) fun v3 h => ?_
    cases h; exact lj 3 (by kernel_rfl)
   refine cd 0 h (by kernel_rfl) (fun h => ?_) fun h => ?_
   ·cases h; exact lor 5 (by kernel_rfl)
   cases h; exact lj 6 (by kernel_rfl)
  cases h; exact lo 1 (by kernel_rfl)
 rcases v6 with v7 | v8
 ·try simp only [Sum.elim_inl, Sum.elim_inr] at h
  obtain ⟨rfl, hle⟩ := hq
  refine ⟨_, hle, ?_⟩
  cases h; exact lq 5 (by kernel_rfl)
 ·try simp only [Sum.elim_inl, Sum.elim_inr] at h
  obtain ⟨rfl, hret⟩ := hq
  refine ⟨_, LeSt.refl, ?_⟩
  cases h; exact lv hret

def value_sized (a0 : ByteArray) (a1 : Int) (a2 : Int) : Option (Int) := (Option.bind ((bif (decide ((a0.size : Int) < a1)) then (some (true)) else (some ((decide (a2 < (a0.size : Int)))))) : Option ((Bool))) fun (v2 : (Bool)) => (bif v2 then (some 2) else (Option.bind (value_printed (a0)) fun v3 => (bif (!v3) then (some 1) else (some 0)))))
theorem value_sized_ok (a0 : ByteArray) (a1 : Int) (a2 : Int) (r : Int) (h : value_sized a0 a1 a2 = some r) : PCall Tryd.prog 69 [eS a0, eI a1, eI a2] (eI (r)) := by
 unfold value_sized at h
 refine pcl [.one .keep] Tryd.func69 (by kernel_rfl) (by kernel_rfl) (by kernel_rfl) ?_
 refine jn1 6 .normal (fun v2 => ⟨20, [(0, (fS (a0))), (16, (fB (v2)))], [], [], []⟩) h (by kernel_rfl) (fun v2 h => ?_) fun v2 h => ?_
 ·refine gd 6 h (by kernel_rfl) (fun h => ?_) fun h => ?_
  ·cases h; exact lj 6 (by kernel_rfl)
  cases h; exact lj 6 (by kernel_rfl)
 refine cd 0 h (by kernel_rfl) (fun h => ?_) fun h => ?_
 ·cases h; exact lq 5 (by kernel_rfl)
 refine cl 5 h (value_printed_ok _) (by kernel_rfl) fun v3 h => ?_
 refine cd 2 h (by kernel_rfl) (fun h => ?_) fun h => ?_
 ·cases h; exact lq 5 (by kernel_rfl)
 cases h; exact lq 6 (by kernel_rfl)

def value_Check_m0 (a0 : Va) : List (Nat × AObj) := [(1, (.box 24 [(fI (a0.type)), (fI (a0.num)), (fS (a0.text)), (.fz ((eL 4 eVaR) (a0.items)))]))]
def value_Check_b (r33 : (Va) → Option (Int)) (r70 : (List Va) → (Int) → Option (Int)) (r71 : (List Va) → Option (Int)) (a0 : Va) : Option (Int) := (Option.bind ((bif (decide (a0.type < 1)) then (some (true)) else (some ((decide (8 < a0.type))))) : Option ((Bool))) fun (v2 : (Bool)) => (bif v2 then (some 3) else (Option.bind (value_unused (a0)) fun v3 => (bif (!v3) then (some 4) else (Option.bind ((Option.bind ((Option.bind ((Option.bind ((bif (a0.type == 1) then (Option.bind (value_ranged (a0.num) (0) (1)) fun v4 => (some (.inr (.inr (.inr (.inr (.inr v4))))))) else (bif (a0.type == 2) then (Option.bind (value_ranged (a0.num) ((-1000000)) (1000000)) fun v5 => (some (.inr (.inr (.inr (.inr (.inr v5))))))) else (bif (a0.type == 4) then (Option.bind (value_ranged (a0.num) (0) (255)) fun v6 => (some (.inr (.inr (.inr (.inr (.inr v6))))))) else (bif (a0.type == 8) then (some (.inl ())) else (bif (a0.type == 3) then (some (.inr (.inr (.inl ())))) else (bif (a0.type == 5) then (some (.inr (.inr (.inr (.inl ()))))) else (bif (a0.type == 6) then (some (.inr (.inr (.inr (.inr (.inl ())))))) else (some (.inr (.inl ())))))))))) : Option (((Unit) ⊕ (((Unit) ⊕ (((Unit) ⊕ (((Unit) ⊕ (((Unit) ⊕ (Int)))))))))))) fun (v7 : ((Unit) ⊕ (((Unit) ⊕ (((Unit) ⊕ (((Unit) ⊕ (((Unit) ⊕ (Int))))))))))) => Sum.elim (fun v8 => (some (.inl (1, 40)))) (Sum.elim (fun v9 => (some (.inr (.inl ())))) (Sum.elim (fun v10 => (some (.inl (0, 64)))) (Sum.elim (fun v11 => (some (.inr (.inr (.inl ()))))) (Sum.elim (fun v12 => (some (.inr (.inr (.inr (.inl ())))))) (fun v13 => (some (.inr (.inr (.inr (.inr v13)))))))))) v7) : Option ((((Int) × (Int)) ⊕ (((Unit) ⊕ (((Unit) ⊕ (((Unit) ⊕ (Int)))))))))) fun (v14 : (((Int) × (Int)) ⊕ (((Unit) ⊕ (((Unit) ⊕ (((Unit) ⊕ (Int))))))))) => Sum.elim (fun v15 => (Option.bind (value_sized (a0.text) (v15.1) (v15.2)) fun v16 => (some (.inr (.inr (.inr v16)))))) (Sum.elim (fun v17 => (some (.inr (.inl ())))) (Sum.elim (fun v18 => (some (.inl ()))) (Sum.elim (fun v19 => (some (.inr (.inr (.inl ()))))) (fun v20 => (some (.inr (.inr (.inr v20)))))))) v14) : Option (((Unit) ⊕ (((Unit) ⊕ (((Unit) ⊕ (Int)))))))) fun (v21 : ((Unit) ⊕ (((Unit) ⊕ (((Unit) ⊕ (Int))))))) => Sum.elim (fun v22 => (some (.inl (2)))) (Sum.elim (fun v23 => (some (.inr (.inl ())))) (Sum.elim (fun v24 => (some (.inl (3)))) (fun v25 => (some (.inr (.inr v25)))))) v21) : Option ((((Int)) ⊕ (((Unit) ⊕ (Int)))))) fun (v26 : (((Int)) ⊕ (((Unit) ⊕ (Int))))) => Sum.elim (fun v27 => (Option.bind (r70 (a0.items) (v27)) fun v28 => (some v28))) (Sum.elim (fun v29 => (Option.bind (r71 (a0.items)) fun v30 => (some v30))) (fun v31 => (some v31))) v26)))))
theorem value_Check_b_ok (r33 : (Va) → Option (Int)) (r70 : (List Va) → (Int) → Option (Int)) (r71 : (List Va) → Option (Int)) (ih33 : ∀ (x0 : Va) r, r33 x0 = some r → PCall Tryd.prog 33 [eVa x0] (eI (r))) (ih70 : ∀ (x0 : List Va) (x1 : Int) r, r70 x0 x1 = some r → PCall Tryd.prog 70 [(eL 4 eVaR) x0, eI x1] (eI (r))) (ih71 : ∀ (x0 : List Va) r, r71 x0 = some r → PCall Tryd.prog 71 [(eL 4 eVaR) x0] (eI (r))) (a0 : Va) (r : Int) (h : value_Check_b r33 r70 r71 a0 = some r) : PCall Tryd.prog 33 [eVa a0] (eI (r)) := by
 unfold value_Check_b at h
 refine pcl [.one .keep] Tryd.func33 (by kernel_rfl) (by kernel_rfl) (by kernel_rfl) ?_
 refine jn1 7 .normal (fun v2 => ⟨54, [(1, (.ref 1 0 0)), (13, (fB (v2)))], (value_Check_m0 a0), [1], []⟩) h (by kernel_rfl) (fun v2 h => ?_) fun v2 h => ?_
 ·refine gd 5 h (by kernel_rfl) (fun h => ?_) fun h => ?_
  ·cases h; exact lj 5 (by kernel_rfl)
  cases h; exact lj 5 (by kernel_rfl)
 refine cd 0 h (by kernel_rfl) (fun h => ?_) fun h => ?_
 ·cases h; exact lq 5 (by kernel_rfl)
 refine cl 5 h (value_unused_ok _) (by kernel_rfl) fun v3 h => ?_
 refine cd 2 h (by kernel_rfl) (fun h => ?_) fun h => ?_
 ·cases h; exact lq 5 (by kernel_rfl)
 refine jnQ 15 (fun v26 e st => Sum.elim (fun p => e = .normal ∧ LeSt st ⟨54, [(1, (.ref 1 0 0)), (5, (fI (p)))], (value_Check_m0 a0), [1], []⟩) (Sum.elim (fun p => e = .exit 0 ∧ LeSt st ⟨54, [(1, (.ref 1 0 0))], (value_Check_m0 a0), [1], []⟩) (fun p => e = .ret ∧ retX TT st Tryd.f33.results.toList [.one .keep] = some (eI (p)))) v26) h (by kernel_rfl) (fun v26 h => ?_) fun v26 h e st' hq => ?_
 ·refine jnQ 1 (fun v21 e st => Sum.elim (fun p => e = .normal ∧ LeSt st ⟨54, [(1, (.ref 1 0 0)), (5, (fI (2)))], (value_Check_m0 a0), [1], []⟩) (Sum.elim (fun p => e = .exit 0 ∧ LeSt st ⟨54, [(1, (.ref 1 0 0))], (value_Check_m0 a0), [1], []⟩) (Sum.elim (fun p => e = .exit 7 ∧ LeSt st ⟨54, [(1, (.ref 1 0 0)), (5, (fI (3)))], (value_Check_m0 a0), [1], []⟩) (fun p => e = .ret ∧ retX TT st Tryd.f33.results.toList [.one .keep] = some (eI (p))))) v21) h (by kernel_rfl) (fun v21 h => ?_) fun v21 h e st' hq => ?_
  ·refine jnQ 3 (fun v14 e st => Sum.elim (fun p => e = .normal ∧ LeSt st ⟨54, [(1, (.ref 1 0 0)), (3, (fI (p.1))), (4, (fI (p.2)))], (value_Check_m0 a0), [1], []⟩) (Sum.elim (fun p => e = .exit 0 ∧ LeSt st ⟨54, [(1, (.ref 1 0 0))], (value_Check_m0 a0), [1], []⟩) (Sum.elim (fun p => e = .exit 6 ∧ LeSt st ⟨54, [(1, (.ref 1 0 0))], (value_Check_m0 a0), [1], []⟩) (Sum.elim (fun p => e = .exit 7 ∧ LeSt st ⟨54, [(1, (.ref 1 0 0)), (5, (fI (3)))], (value_Check_m0 a0), [1], []⟩) (fun p => e = .ret ∧ retX TT st Tryd.f33.results.toList [.one .keep] = some (eI (p)))))) v14) h (by kernel_rfl) (fun v14 h => ?_) fun v14 h e st' hq => ?_
   ·refine jnQ 1 (fun v7 e st => Sum.elim (fun p => e = .normal ∧ LeSt st ⟨54, [(1, (.ref 1 0 0)), (3, (fI (1))), (4, (fI (40)))], (value_Check_m0 a0), [1], []⟩) (Sum.elim (fun p => e = .exit 0 ∧ LeSt st ⟨54, [(1, (.ref 1 0 0))], (value_Check_m0 a0), [1], []⟩) (Sum.elim (fun p => e = .exit 5 ∧ LeSt st ⟨54, [(1, (.ref 1 0 0)), (3, (fI (0))), (4, (fI (64)))], (value_Check_m0 a0), [1], []⟩) (Sum.elim (fun p => e = .exit 6 ∧ LeSt st ⟨54, [(1, (.ref 1 0 0))], (value_Check_m0 a0), [1], []⟩) (Sum.elim (fun p => e = .exit 7 ∧ LeSt st ⟨54, [(1, (.ref 1 0 0)), (5, (fI (3)))], (value_Check_m0 a0), [1], []⟩) (fun p => e = .ret ∧ retX TT st Tryd.f33.results.toList [.one .keep] = some (eI (p))))))) v7) h (by kernel_rfl) (fun v7 h => ?_) fun v7 h e st' hq => ?_
    ·refine cd 15 h (by kernel_rfl) (fun h => ?_) fun h => ?_
     ·refine cl 6 h (value_ranged_ok _ _ _) (by kernel_rfl) fun v4 h => ?_
      cases h; exact lr 3 (by kernel_rfl)
     refine cd 7 h (by kernel_rfl) (fun h => ?_) fun h => ?_
     ·refine cl 6 h (value_ranged_ok _ _ _) (by kernel_rfl) fun v5 h => ?_
      cases h; exact lr 3 (by kernel_rfl)
     refine cd 7 h (by kernel_rfl) (fun h => ?_) fun h => ?_
     ·refine cl 6 h (value_ranged_ok _ _ _) (by kernel_rfl) fun v6 h => ?_
      cases h; exact lr 3 (by kernel_rfl)
     refine cd 7 h (by kernel_rfl) (fun h => ?_) fun h => ?_
     ·cases h; exact lj 5 (by kernel_rfl)
     refine cd 7 h (by kernel_rfl) (fun h => ?_) fun h => ?_
     ·cases h; exact lj 1 (by kernel_rfl)
     refine cd 7 h (by kernel_rfl) (fun h => ?_) fun h => ?_
     ·cases h; exact lj 1 (by kernel_rfl)
     refine cd 6 h (by kernel_rfl) (fun h => ?_) fun h => ?_
     ·cases h; exact lj 1 (by kernel_rfl)
     cases h; exact lj 2 (by kernel_rfl)
    rcases v7 with v8 | (v9 | (v10 | (v11 | (v12 | v13))))
    ·try simp only [Sum.elim_inl, Sum.elim_inr] at h
     obtain ⟨rfl, hle⟩ := hq
     refine ⟨_, hle, ?_⟩
     cases h; exact lj 0 (by kernel_rfl)
    ·try simp only [Sum.elim_inl, Sum.elim_inr] at h
     obtain ⟨rfl, hle⟩ := hq
     refine ⟨_, hle, ?_⟩
     cases h; exact lj 0 (by kernel_rfl)
    ·try simp only [Sum.elim_inl, Sum.elim_inr] at h
     obtain ⟨rfl, hle⟩ := hq
     refine ⟨_, hle, ?_⟩
     cases h; exact lj 0 (by kernel_rfl)
    ·try simp only [Sum.elim_inl, Sum.elim_inr] at h
     obtain ⟨rfl, hle⟩ := hq
     refine ⟨_, hle, ?_⟩
     cases h; exact lj 0 (by kernel_rfl)
    ·try simp only [Sum.elim_inl, Sum.elim_inr] at h
     obtain ⟨rfl, hle⟩ := hq
     refine ⟨_, hle, ?_⟩
     cases h; exact lj 0 (by kernel_rfl)
    ·try simp only [Sum.elim_inl, Sum.elim_inr] at h
     obtain ⟨rfl, hret⟩ := hq
     refine ⟨_, LeSt.refl, ?_⟩
     cases h; exact lvr hret
   rcases v14 with v15 | (v17 | (v18 | (v19 | v20)))
   ·try simp only [Sum.elim_inl, Sum.elim_inr] at h
    obtain ⟨rfl, hle⟩ := hq
    refine ⟨_, hle, ?_⟩
    refine cl 7 h (value_sized_ok _ _ _) (by kernel_rfl) fun v16 h => ?_
    cases h; exact lr 3 (by kernel_rfl)
   ·try simp only [Sum.elim_inl, Sum.elim_inr] at h
    obtain ⟨rfl, hle⟩ := hq
    refine ⟨_, hle, ?_⟩
    cases h; exact lj 0 (by kernel_rfl)
   ·try simp only [Sum.elim_inl, Sum.elim_inr] at h
    obtain ⟨rfl, hle⟩ := hq
    refine ⟨_, hle, ?_⟩
    cases h; exact lj 3 (by kernel_rfl)
   ·try simp only [Sum.elim_inl, Sum.elim_inr] at h
    obtain ⟨rfl, hle⟩ := hq
    refine ⟨_, hle, ?_⟩
    cases h; exact lj 0 (by kernel_rfl)
   ·try simp only [Sum.elim_inl, Sum.elim_inr] at h
    obtain ⟨rfl, hret⟩ := hq
    refine ⟨_, LeSt.refl, ?_⟩
    cases h; exact lvr hret
  rcases v21 with v22 | (v23 | (v24 | v25))
  ·try simp only [Sum.elim_inl, Sum.elim_inr] at h
   obtain ⟨rfl, hle⟩ := hq
   refine ⟨_, hle, ?_⟩
   cases h; exact lj 0 (by kernel_rfl)
  ·try simp only [Sum.elim_inl, Sum.elim_inr] at h
   obtain ⟨rfl, hle⟩ := hq
   refine ⟨_, hle, ?_⟩
   cases h; exact lj 0 (by kernel_rfl)
  ·try simp only [Sum.elim_inl, Sum.elim_inr] at h
   obtain ⟨rfl, hle⟩ := hq
   refine ⟨_, hle, ?_⟩
   cases h; exact lj 0 (by kernel_rfl)
  ·try simp only [Sum.elim_inl, Sum.elim_inr] at h
   obtain ⟨rfl, hret⟩ := hq
   refine ⟨_, LeSt.refl, ?_⟩
   cases h; exact lvr hret
 rcases v26 with v27 | (v29 | v31)
 ·try simp only [Sum.elim_inl, Sum.elim_inr] at h
  obtain ⟨rfl, hle⟩ := hq
  refine ⟨_, hle, ?_⟩
  refine cl 6 h (ih70 _ _) (by kernel_rfl) fun v28 h => ?_
  cases h; exact lq 3 (by kernel_rfl)
 ·try simp only [Sum.elim_inl, Sum.elim_inr] at h
  obtain ⟨rfl, hle⟩ := hq
  refine ⟨_, hle, ?_⟩
  refine cl 4 h (ih71 _) (by kernel_rfl) fun v30 h => ?_
  cases h; exact lq 3 (by kernel_rfl)
 ·try simp only [Sum.elim_inl, Sum.elim_inr] at h
  obtain ⟨rfl, hret⟩ := hq
  refine ⟨_, LeSt.refl, ?_⟩
  cases h; exact lv hret
def value_elements_l1 (a0 : List Va) (a1 : Int) (r33 : (Va) → Option (Int)) (v1 : (Int)) : Option (((Int)) ⊕ (((Unit) ⊕ (Int)))) := (bif (decide (v1 < (List.length a0 : Int))) then (Option.bind (idx a0 v1) fun v2 => (bif (v2.type != a1) then (some (.inr (.inr 3))) else (Option.bind (r33 (v2)) fun v3 => (bif (v3 != 0) then (some (.inr (.inr v3))) else (some (.inl ((w64 (v1 + 1))))))))) else (some (.inr (.inl ()))))
def value_elements_b (r33 : (Va) → Option (Int)) (r70 : (List Va) → (Int) → Option (Int)) (r71 : (List Va) → Option (Int)) (a0 : List Va) (a1 : Int) : Option (Int) := (bif (decide (16 < (List.length a0 : Int))) then (some 2) else (Option.bind (loopN (value_elements_l1 a0 a1 r33) fuel (0)) fun (v4 : ((Unit) ⊕ (Int))) => Sum.elim (fun v5 => (some 0)) (fun v6 => (some v6)) v4))
theorem value_elements_b_ok (r33 : (Va) → Option (Int)) (r70 : (List Va) → (Int) → Option (Int)) (r71 : (List Va) → Option (Int)) (ih33 : ∀ (x0 : Va) r, r33 x0 = some r → PCall Tryd.prog 33 [eVa x0] (eI (r))) (ih70 : ∀ (x0 : List Va) (x1 : Int) r, r70 x0 x1 = some r → PCall Tryd.prog 70 [(eL 4 eVaR) x0, eI x1] (eI (r))) (ih71 : ∀ (x0 : List Va) r, r71 x0 = some r → PCall Tryd.prog 71 [(eL 4 eVaR) x0] (eI (r))) (a0 : List Va) (a1 : Int) (r : Int) (h : value_elements_b r33 r70 r71 a0 a1 = some r) : PCall Tryd.prog 70 [(eL 4 eVaR) a0, eI a1] (eI (r)) := by
 unfold value_elements_b at h
 refine pcl [.one .keep] Tryd.func70 (by kernel_rfl) (by kernel_rfl) (by kernel_rfl) ?_
 refine cd 11 h (by kernel_rfl) (fun h => ?_) fun h => ?_
 ·cases h; exact lq 5 (by kernel_rfl)
 refine lpx 9 (fun v1 => ⟨27, [(1, (fI (a1))), (11, (.fz ((eL 4 eVaR) (a0)))), (12, (fI ((List.length a0 : Int)))), (13, (fI (v1)))], [], [], []⟩) (fun v4 e st => Sum.elim (fun p => e = .exit 0 ∧ LeSt st ⟨27, [], [], [], []⟩) (fun p => e = .ret ∧ retX TT st Tryd.f70.results.toList [.one .keep] = some (eI (p))) v4) h (by kernel_rfl) (le_a (by kernel_rfl)) (fun v1 r h => ?_) fun v4 h e st' hq => ?_
 ·unfold value_elements_l1 at h
  refine cd 5 h (by kernel_rfl) (fun h => ?_) fun h => ?_
  ·refine ix nVaR 5 h (by kernel_rfl) fun v2 h => ?_
   refine cd 12 h (by kernel_rfl) (fun h => ?_) fun h => ?_
   ·cases h; exact lor 5 (by kernel_rfl)
   refine cl 4 h (ih33 _) (by kernel_rfl) fun v3 h => ?_
   refine cd 7 h (by kernel_rfl) (fun h => ?_) fun h => ?_
   ·cases h; exact lor 6 (by kernel_rfl)
   cases h; exact lj 5 (by kernel_rfl)
  cases h; exact lo 1 (by kernel_rfl)
 rcases v4 with v5 | v6
 ·try simp only [Sum.elim_inl, Sum.elim_inr] at h
  obtain ⟨rfl, hle⟩ := hq
  refine ⟨_, hle, ?_⟩
  cases h; exact lq 5 (by kernel_rfl)
 ·try simp only [Sum.elim_inl, Sum.elim_inr] at h
  obtain ⟨rfl, hret⟩ := hq
  refine ⟨_, LeSt.refl, ?_⟩
  cases h; exact lv hret
def value_rows_l1 (a0 : List Va) (r33 : (Va) → Option (Int)) (v1 : (Int)) : Option (((Int)) ⊕ (((Unit) ⊕ (Int)))) := (bif (decide (v1 < (List.length a0 : Int))) then (Option.bind (idx a0 v1) fun v2 => (bif (v2.type != 6) then (some (.inr (.inr 3))) else (Option.bind ((bif (decide ((List.length v2.items : Int) < 1)) then (some (true)) else (bif (decide (8 < (List.length v2.items : Int))) then (some (true)) else (Option.bind (idx a0 0) fun v3 => (some (((List.length v2.items : Int) != (List.length v3.items : Int))))))) : Option ((Bool))) fun (v5 : (Bool)) => (bif v5 then (some (.inr (.inr 2))) else (Option.bind (r33 (v2)) fun v6 => (bif (v6 != 0) then (some (.inr (.inr v6))) else (some (.inl ((w64 (v1 + 1))))))))))) else (some (.inr (.inl ()))))
def value_rows_b (r33 : (Va) → Option (Int)) (r70 : (List Va) → (Int) → Option (Int)) (r71 : (List Va) → Option (Int)) (a0 : List Va) : Option (Int) := (bif (decide (8 < (List.length a0 : Int))) then (some 2) else (Option.bind (loopN (value_rows_l1 a0 r33) fuel (0)) fun (v7 : ((Unit) ⊕ (Int))) => Sum.elim (fun v8 => (some 0)) (fun v9 => (some v9)) v7))
theorem value_rows_b_ok (r33 : (Va) → Option (Int)) (r70 : (List Va) → (Int) → Option (Int)) (r71 : (List Va) → Option (Int)) (ih33 : ∀ (x0 : Va) r, r33 x0 = some r → PCall Tryd.prog 33 [eVa x0] (eI (r))) (ih70 : ∀ (x0 : List Va) (x1 : Int) r, r70 x0 x1 = some r → PCall Tryd.prog 70 [(eL 4 eVaR) x0, eI x1] (eI (r))) (ih71 : ∀ (x0 : List Va) r, r71 x0 = some r → PCall Tryd.prog 71 [(eL 4 eVaR) x0] (eI (r))) (a0 : List Va) (r : Int) (h : value_rows_b r33 r70 r71 a0 = some r) : PCall Tryd.prog 71 [(eL 4 eVaR) a0] (eI (r)) := by
 unfold value_rows_b at h
 refine pcl [.one .keep] Tryd.func71 (by kernel_rfl) (by kernel_rfl) (by kernel_rfl) ?_
 refine cd 11 h (by kernel_rfl) (fun h => ?_) fun h => ?_
 ·cases h; exact lq 5 (by kernel_rfl)
 refine lpx 9 (fun v1 => ⟨45, [(0, (.fz ((eL 4 eVaR) (a0)))), (9, (.fz ((eL 4 eVaR) (a0)))), (10, (fI ((List.length a0 : Int)))), (11, (fI (v1)))], [], [], []⟩) (fun v7 e st => Sum.elim (fun p => e = .exit 0 ∧ LeSt st ⟨45, [], [], [], []⟩) (fun p => e = .ret ∧ retX TT st Tryd.f71.results.toList [.one .keep] = some (eI (p))) v7) h (by kernel_rfl) (le_a (by kernel_rfl)) (fun v1 r h => ?_) fun v7 h e st' hq => ?_
 ·unfold value_rows_l1 at h
  refine cd 5 h (by kernel_rfl) (fun h => ?_) fun h => ?_
  ·refine ix nVaR 5 h (by kernel_rfl) fun v2 h => ?_
   refine cd 11 h (by kernel_rfl) (fun h => ?_) fun h => ?_
   ·cases h; exact lor 5 (by kernel_rfl)
   refine jn1 3 .normal (fun v5 => ⟨45, [(0, (.fz ((eL 4 eVaR) (a0)))), (4, (.ref 1 0 0)), (9, (.fz ((eL 4 eVaR) (a0)))), (10, (fI ((List.length a0 : Int)))), (11, (fI (v1))), (38, (fB (v5)))], [(1, (.box 24 [(fI (v2.type)), (fI (v2.num)), (fS (v2.text)), (.fz ((eL 4 eVaR) (v2.items)))]))], [1], []⟩) h (by kernel_rfl) (fun v5 h => ?_) fun v5 h => ?_
   ·refine dw 0 19 (by kernel_rfl) ?_
    refine gd 5 h (by kernel_rfl) (fun h => ?_) fun h => ?_
    ·cases h; exact lj 18 (by kernel_rfl)
    refine gd 6 h (by kernel_rfl) (fun h => ?_) fun h => ?_
    ·cases h; exact lj 12 (by kernel_rfl)
    refine ix nVaR 4 h (by kernel_rfl) fun v3 h => ?_
    cases h; exact lj 7 (by kernel_rfl)
   refine cd 0 h (by kernel_rfl) (fun h => ?_) fun h => ?_
   ·cases h; exact lor 5 (by kernel_rfl)
   refine cl 4 h (ih33 _) (by kernel_rfl) fun v6 h => ?_
   refine cd 7 h (by kernel_rfl) (fun h => ?_) fun h => ?_
   ·cases h; exact lor 6 (by kernel_rfl)
   cases h; exact lj 5 (by kernel_rfl)
  cases h; exact lo 1 (by kernel_rfl)
 rcases v7 with v8 | v9
 ·try simp only [Sum.elim_inl, Sum.elim_inr] at h
  obtain ⟨rfl, hle⟩ := hq
  refine ⟨_, hle, ?_⟩
  cases h; exact lq 5 (by kernel_rfl)
 ·try simp only [Sum.elim_inl, Sum.elim_inr] at h
  obtain ⟨rfl, hret⟩ := hq
  refine ⟨_, LeSt.refl, ?_⟩
  cases h; exact lv hret
def value_Check_all : Nat → ((Va) → Option (Int)) × ((List Va) → (Int) → Option (Int)) × ((List Va) → Option (Int))
  | 0 => (fun _ => none, fun _ _ => none, fun _ => none)
  | n + 1 => (value_Check_b ((value_Check_all n).1) ((value_Check_all n).2.1) ((value_Check_all n).2.2), value_elements_b ((value_Check_all n).1) ((value_Check_all n).2.1) ((value_Check_all n).2.2), value_rows_b ((value_Check_all n).1) ((value_Check_all n).2.1) ((value_Check_all n).2.2))
def value_Check (n : Nat) : (Va) → Option (Int) := (value_Check_all n).1
def value_elements (n : Nat) : (List Va) → (Int) → Option (Int) := (value_Check_all n).2.1
def value_rows (n : Nat) : (List Va) → Option (Int) := (value_Check_all n).2.2
theorem value_Check_all_ok : ∀ n : Nat, (∀ (x0 : Va) r, value_Check n x0 = some r → PCall Tryd.prog 33 [eVa x0] (eI (r))) ∧ (∀ (x0 : List Va) (x1 : Int) r, value_elements n x0 x1 = some r → PCall Tryd.prog 70 [(eL 4 eVaR) x0, eI x1] (eI (r))) ∧ (∀ (x0 : List Va) r, value_rows n x0 = some r → PCall Tryd.prog 71 [(eL 4 eVaR) x0] (eI (r)))
  | 0 => ⟨(fun _ _ h => nomatch h), (fun _ _ _ h => nomatch h), (fun _ _ h => nomatch h)⟩
  | n + 1 => ⟨(value_Check_b_ok _ _ _ ((value_Check_all_ok n).1) ((value_Check_all_ok n).2.1) ((value_Check_all_ok n).2.2)), (value_elements_b_ok _ _ _ ((value_Check_all_ok n).1) ((value_Check_all_ok n).2.1) ((value_Check_all_ok n).2.2)), (value_rows_b_ok _ _ _ ((value_Check_all_ok n).1) ((value_Check_all_ok n).2.1) ((value_Check_all_ok n).2.2))⟩
theorem value_Check_ok (n : Nat) : ∀ (x0 : Va) r, value_Check n x0 = some r → PCall Tryd.prog 33 [eVa x0] (eI (r)) := (value_Check_all_ok n).1
def literal_plain (a0 : Int) : Option (Bool) := (Option.bind ((bif (decide (32 ≤ a0)) then (some ((decide (a0 ≤ 126)))) else (some (false))) : Option ((Bool))) fun (v2 : (Bool)) => (some v2))
theorem literal_plain_ok (a0 : Int) (r : Bool) (h : literal_plain a0 = some r) : PCall Tryd.prog 40 [eI32 a0] (eB (r)) := by
 unfold literal_plain at h
 refine pcl [.one .keep] Tryd.func40 (by kernel_rfl) (by kernel_rfl) (by kernel_rfl) ?_
 refine jn1 5 .normal (fun v2 => ⟨9, [(2, (fB (v2)))], [], [], []⟩) h (by kernel_rfl) (fun v2 h => ?_) fun v2 h => ?_
 ·refine gd 4 h (by kernel_rfl) (fun h => ?_) fun h => ?_
  ·cases h; exact lj 5 (by kernel_rfl)
  cases h; exact lj 5 (by kernel_rfl)
 cases h; exact lq 1 (by kernel_rfl)

def internal_strconv_FormatBool (a0 : Bool) : Option (ByteArray) := (bif a0 then (some (⟨#[116, 114, 117, 101]⟩ : ByteArray)) else (some (⟨#[102, 97, 108, 115, 101]⟩ : ByteArray)))
theorem internal_strconv_FormatBool_ok (a0 : Bool) (r : ByteArray) (h : internal_strconv_FormatBool a0 = some r) : PCall Tryd.prog 85 [eB a0] (eS (r)) := by
 unfold internal_strconv_FormatBool at h
 refine pcl [.one .keep] Tryd.func85 (by kernel_rfl) (by kernel_rfl) (by kernel_rfl) ?_
 refine cd 9 h (by kernel_rfl) (fun h => ?_) fun h => ?_
 ·cases h; exact lq 5 (by kernel_rfl)
 cases h; exact lq 6 (by kernel_rfl)

def strconv_FormatBool (a0 : Bool) : Option (ByteArray) := (Option.bind (internal_strconv_FormatBool (a0)) fun v1 => (some v1))
theorem strconv_FormatBool_ok (a0 : Bool) (r : ByteArray) (h : strconv_FormatBool a0 = some r) : PCall Tryd.prog 80 [eB a0] (eS (r)) := by
 unfold strconv_FormatBool at h
 refine pcl [.one .keep] Tryd.func80 (by kernel_rfl) (by kernel_rfl) (by kernel_rfl) ?_
 refine cl 7 h (internal_strconv_FormatBool_ok _) (by kernel_rfl) fun v1 h => ?_
 cases h; exact lq 3 (by kernel_rfl)

def literal_brackets (a0 : Int) : Option ((ByteArray) × (ByteArray)) := (bif (a0 == 5) then (some ((⟨#[91]⟩ : ByteArray), (⟨#[93]⟩ : ByteArray))) else (bif (a0 == 6) then (some ((⟨#[123]⟩ : ByteArray), (⟨#[125]⟩ : ByteArray))) else (some ((⟨#[60]⟩ : ByteArray), (⟨#[62]⟩ : ByteArray)))))
theorem literal_brackets_ok (a0 : Int) (r : (ByteArray) × (ByteArray)) (h : literal_brackets a0 = some r) : PCall Tryd.prog 82 [eI a0] (.tup [eS (r.1), eS (r.2)]) := by
 unfold literal_brackets at h
 refine pcl [.one .keep, .one .keep] Tryd.func82 (by kernel_rfl) (by kernel_rfl) (by kernel_rfl) ?_
 refine cd 16 h (by kernel_rfl) (fun h => ?_) fun h => ?_
 ·cases h; exact lq 6 (by kernel_rfl)
 refine cd 5 h (by kernel_rfl) (fun h => ?_) fun h => ?_
 ·cases h; exact lq 6 (by kernel_rfl)
 cases h; exact lq 7 (by kernel_rfl)

def internal_stringslite_HasPrefix (a0 : ByteArray) (a1 : ByteArray) : Option (Bool) := (Option.bind ((bif (decide ((a1.size : Int) ≤ (a0.size : Int))) then (Option.bind (cutS a0 0 (a1.size : Int)) fun v1 => (some ((v1.toList == a1.toList)))) else (some (false))) : Option ((Bool))) fun (v3 : (Bool)) => (some v3))
theorem internal_stringslite_HasPrefix_ok (a0 : ByteArray) (a1 : ByteArray) (r : Bool) (h : internal_stringslite_HasPrefix a0 a1 = some r) : PCall Tryd.prog 78 [eS a0, eS a1] (eB (r)) := by
 unfold internal_stringslite_HasPrefix at h
 refine pcl [.one .keep] Tryd.func78 (by kernel_rfl) (by kernel_rfl) (by kernel_rfl) ?_
 refine jn1 5 .normal (fun v3 => ⟨18, [(4, (fB (v3)))], [], [], []⟩) h (by kernel_rfl) (fun v3 h => ?_) fun v3 h => ?_
 ·refine gd 7 h (by kernel_rfl) (fun h => ?_) fun h => ?_
  ·obtain ⟨v1, hv1, h⟩ := Option.bind_eq_some_iff.1 h
   refine nst 3 (s_cutS (t := 9) (x := (.tmp 11)) (lo := none) (hi := (some (.tmp 13))) (d := tt9) (s := a0) (l := none) (h := (some (a1.size : Int))) hv1 tt_ok (by kernel_rfl) (by kernel_rfl) (by kernel_rfl) (by kernel_rfl) (by kernel_rfl) (by kernel_rfl)) (by kernel_rfl) ?_
   cases h; exact lj 5 (by kernel_rfl)
  cases h; exact lj 9 (by kernel_rfl)
 cases h; exact lq 1 (by kernel_rfl)

def strings_HasPrefix (a0 : ByteArray) (a1 : ByteArray) : Option (Bool) := (Option.bind (internal_stringslite_HasPrefix (a0) (a1)) fun v1 => (some v1))
theorem strings_HasPrefix_ok (a0 : ByteArray) (a1 : ByteArray) (r : Bool) (h : strings_HasPrefix a0 a1 = some r) : PCall Tryd.prog 58 [eS a0, eS a1] (eB (r)) := by
 unfold strings_HasPrefix at h
 refine pcl [.one .keep] Tryd.func58 (by kernel_rfl) (by kernel_rfl) (by kernel_rfl) ?_
 refine cl 8 h (internal_stringslite_HasPrefix_ok _ _) (by kernel_rfl) fun v1 h => ?_
 cases h; exact lq 3 (by kernel_rfl)

def internal_stringslite_IndexByte (a0 : ByteArray) (a1 : Int) : Option (Int) := (some (Lib.indexByte (ByteArray.data a0).toList (Int.toNat a1).toUInt8))
theorem internal_stringslite_IndexByte_ok (a0 : ByteArray) (a1 : Int) (r : Int) (h : internal_stringslite_IndexByte a0 a1 = some r) : PCall Tryd.prog 87 [eS a0, eU8 a1] (eI (r)) := by
 unfold internal_stringslite_IndexByte at h
 refine pcl [.one .keep] Tryd.func87 (by kernel_rfl) (by kernel_rfl) (by kernel_rfl) ?_
 refine nst 8 (s_idxByte (f := 92) (ts := #[9, 5]) (X := (.tmp 5)) (Y := (.tmp 6)) (fn := Tryd.f92) (s := a0) (c := a1) (by kernel_rfl) Tryd.func92 (by kernel_rfl) (by kernel_rfl) (by kernel_rfl) (by kernel_rfl) (by kernel_rfl) (by kernel_rfl)) (by kernel_rfl) ?_
 cases h; exact lq 3 (by kernel_rfl)

def strings_IndexByte (a0 : ByteArray) (a1 : Int) : Option (Int) := (Option.bind (internal_stringslite_IndexByte (a0) (a1)) fun v1 => (some v1))
theorem strings_IndexByte_ok (a0 : ByteArray) (a1 : Int) (r : Int) (h : strings_IndexByte a0 a1 = some r) : PCall Tryd.prog 83 [eS a0, eU8 a1] (eI (r)) := by
 unfold strings_IndexByte at h
 refine pcl [.one .keep] Tryd.func83 (by kernel_rfl) (by kernel_rfl) (by kernel_rfl) ?_
 refine cl 8 h (internal_stringslite_IndexByte_ok _ _) (by kernel_rfl) fun v1 h => ?_
 cases h; exact lq 3 (by kernel_rfl)

def literal_hex (a0 : Int) : Option (Int) := (Option.bind (strings_IndexByte ((⟨#[48, 49, 50, 51, 52, 53, 54, 55, 56, 57, 97, 98, 99, 100, 101, 102]⟩ : ByteArray)) (a0)) fun v1 => (some v1))
theorem literal_hex_ok (a0 : Int) (r : Int) (h : literal_hex a0 = some r) : PCall Tryd.prog 73 [eU8 a0] (eI (r)) := by
 unfold literal_hex at h
 refine pcl [.one .keep] Tryd.func73 (by kernel_rfl) (by kernel_rfl) (by kernel_rfl) ?_
 refine cl 7 h (strings_IndexByte_ok _ _) (by kernel_rfl) fun v1 h => ?_
 cases h; exact lq 3 (by kernel_rfl)
end Go.Proofs.YtijkipikefpopaaDoor
