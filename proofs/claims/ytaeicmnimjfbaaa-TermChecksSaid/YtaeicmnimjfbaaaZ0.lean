/- Typed programs and what computes them. -/
import Derived.Test.YtaeicmnimjfbaaaTT
set_option linter.unusedVariables false
set_option linter.unusedSimpArgs false
set_option maxRecDepth 100000
namespace Go.Proofs.Ytaeicmnimjfbaaa
open Go Go.RowKit Go.Proofs
attribute [local irreducible] NStep StepA EStep LeSt
def value_unused_m0 (a0 : Va) : List (Nat × AObj) := [(1, (.box 65 [(fI (a0.type)), (fI (a0.num)), (fS (a0.text)), (.fz ((eL 4 eVaR) (a0.items)))]))]
def value_unused (a0 : Va) : Option (Bool) := (Option.bind ((bif (a0.type == 1) then (some ((a0.type == 1))) else (bif (a0.type == 2) then (some ((a0.type == 2))) else (some ((a0.type == 4))))) : Option ((Bool))) fun (v2 : (Bool)) => (bif v2 then (Option.bind ((bif (a0.text.toList == (⟨#[]⟩ : ByteArray).toList) then (some (((List.length a0.items : Int) == 0))) else (some (false))) : Option ((Bool))) fun (v4 : (Bool)) => (some v4)) else (Option.bind ((bif (a0.type == 3) then (some ((a0.type == 3))) else (some ((a0.type == 8)))) : Option ((Bool))) fun (v6 : (Bool)) => (bif v6 then (Option.bind ((bif (a0.num == 0) then (some (((List.length a0.items : Int) == 0))) else (some (false))) : Option ((Bool))) fun (v8 : (Bool)) => (some v8)) else (Option.bind ((bif (a0.num == 0) then (some ((a0.text.toList == (⟨#[]⟩ : ByteArray).toList))) else (some (false))) : Option ((Bool))) fun (v10 : (Bool)) => (some v10))))))
theorem value_unused_ok (a0 : Va) (r : Bool) (h : value_unused a0 = some r) : PCall Try.prog 163 [eVa a0] (eB (r)) := by
 unfold value_unused at h
 refine pcl [.one .keep] Try.func163 (by kernel_rfl) (by kernel_rfl) (by kernel_rfl) ?_
 refine jn1 13 .normal (fun v2 => ⟨38, [(1, (.ref 1 0 0)), (4, (fI (a0.type))), (5, (fB (v2)))], (value_unused_m0 a0), [1], []⟩) h (by kernel_rfl) (fun v2 h => ?_) fun v2 h => ?_
 ·refine cd 5 h (by kernel_rfl) (fun h => ?_) fun h => ?_
  ·cases h; exact lj 1 (by kernel_rfl)
  refine cd 5 h (by kernel_rfl) (fun h => ?_) fun h => ?_
  ·cases h; exact lj 1 (by kernel_rfl)
  cases h; exact lj 4 (by kernel_rfl)
 refine cd 0 h (by kernel_rfl) (fun h => ?_) fun h => ?_
 ·refine jn1 1 .normal (fun v4 => ⟨38, [(2, (fB (v4)))], [], [], []⟩) h (by kernel_rfl) (fun v4 h => ?_) fun v4 h => ?_
  ·refine gd 5 h (by kernel_rfl) (fun h => ?_) fun h => ?_
   ·cases h; exact lj 7 (by kernel_rfl)
   cases h; exact lj 7 (by kernel_rfl)
  cases h; exact lq 1 (by kernel_rfl)
 refine jn1 1 .normal (fun v6 => ⟨38, [(1, (.ref 1 0 0)), (18, (fB (v6)))], (value_unused_m0 a0), [1], []⟩) h (by kernel_rfl) (fun v6 h => ?_) fun v6 h => ?_
 ·refine cd 5 h (by kernel_rfl) (fun h => ?_) fun h => ?_
  ·cases h; exact lj 1 (by kernel_rfl)
  cases h; exact lj 4 (by kernel_rfl)
 refine cd 0 h (by kernel_rfl) (fun h => ?_) fun h => ?_
 ·refine jn1 1 .normal (fun v8 => ⟨38, [(2, (fB (v8)))], [], [], []⟩) h (by kernel_rfl) (fun v8 h => ?_) fun v8 h => ?_
  ·refine gd 5 h (by kernel_rfl) (fun h => ?_) fun h => ?_
   ·cases h; exact lj 7 (by kernel_rfl)
   cases h; exact lj 7 (by kernel_rfl)
  cases h; exact lq 1 (by kernel_rfl)
 refine jn1 2 .normal (fun v10 => ⟨38, [(2, (fB (v10)))], [], [], []⟩) h (by kernel_rfl) (fun v10 h => ?_) fun v10 h => ?_
 ·refine gd 5 h (by kernel_rfl) (fun h => ?_) fun h => ?_
  ·cases h; exact lj 6 (by kernel_rfl)
  cases h; exact lj 6 (by kernel_rfl)
 cases h; exact lq 1 (by kernel_rfl)

def value_ranged (a0 : Int) (a1 : Int) (a2 : Int) : Option (Int) := (Option.bind ((bif (decide (a0 < a1)) then (some (true)) else (some ((decide (a2 < a0))))) : Option ((Bool))) fun (v2 : (Bool)) => (bif v2 then (some 1) else (some 0)))
theorem value_ranged_ok (a0 : Int) (a1 : Int) (a2 : Int) (r : Int) (h : value_ranged a0 a1 a2 = some r) : PCall Try.prog 164 [eI a0, eI a1, eI a2] (eI (r)) := by
 unfold value_ranged at h
 refine pcl [.one .keep] Try.func164 (by kernel_rfl) (by kernel_rfl) (by kernel_rfl) ?_
 refine jn1 6 .normal (fun v2 => ⟨15, [(14, (fB (v2)))], [], [], []⟩) h (by kernel_rfl) (fun v2 h => ?_) fun v2 h => ?_
 ·refine gd 5 h (by kernel_rfl) (fun h => ?_) fun h => ?_
  ·cases h; exact lj 5 (by kernel_rfl)
  cases h; exact lj 5 (by kernel_rfl)
 refine cd 0 h (by kernel_rfl) (fun h => ?_) fun h => ?_
 ·cases h; exact lq 5 (by kernel_rfl)
 cases h; exact lq 6 (by kernel_rfl)

def value_printed_l1 (a0 : ByteArray) (v1 : (Int)) : Option (((Int)) ⊕ (((Unit) ⊕ (Bool)))) := (bif (decide (v1 < (a0.size : Int))) then (Option.bind ((Option.bind (byt a0 v1) fun v2 => (bif (decide (v2 < 32)) then (some (true)) else (Option.bind (byt a0 v1) fun v3 => (some ((decide (126 < v3))))))) : Option ((Bool))) fun (v5 : (Bool)) => (bif v5 then (some (.inr (.inr false))) else (some (.inl ((w64 (v1 + 1))))))) else (some (.inr (.inl ()))))
def value_printed (a0 : ByteArray) : Option (Bool) := (Option.bind (loopN (value_printed_l1 a0) fuel (0)) fun (v6 : ((Unit) ⊕ (Bool))) => Sum.elim (fun v7 => (some true)) (fun v8 => (some v8)) v6)
theorem value_printed_ok (a0 : ByteArray) (r : Bool) (h : value_printed a0 = some r) : PCall Try.prog 187 [eS a0] (eB (r)) := by
 unfold value_printed at h
 refine pcl [.one .keep] Try.func187 (by kernel_rfl) (by kernel_rfl) (by kernel_rfl) ?_
 refine lpx 10 (fun v1 => ⟨20, [(0, (fS (a0))), (3, (fI (v1)))], [], [], []⟩) (fun v6 e st => Sum.elim (fun p => e = .exit 0 ∧ LeSt st ⟨20, [], [], [], []⟩) (fun p => e = .ret ∧ retX TT st Try.f187.results.toList [.one .keep] = some (eB (p))) v6) h (by kernel_rfl) (le_a (by kernel_rfl)) (fun v1 r h => ?_) fun v6 h e st' hq => ?_
 ·unfold value_printed_l1 at h
  refine cd 8 h (by kernel_rfl) (fun h => ?_) fun h => ?_
  ·refine jn1 4 .normal (fun v5 => ⟨20, [(0, (fS (a0))), (3, (fI (v1))), (19, (fB (v5)))], [], [], []⟩) h (by kernel_rfl) (fun v5 h => ?_) fun v5 h => ?_
   ·refine byx 3 h (by kernel_rfl) fun v2 h => ?_
    refine gd 2 h (by kernel_rfl) (fun h => ?_) fun h => ?_
    ·cases h; exact lj 6 (by kernel_rfl)
    refine byx 2 h (by kernel_rfl) fun v3 h => ?_
    cases h; exact lj 3 (by kernel_rfl)
   refine cd 0 h (by kernel_rfl) (fun h => ?_) fun h => ?_
   ·cases h; exact lor 5 (by kernel_rfl)
   cases h; exact lj 6 (by kernel_rfl)
  cases h; exact lo 1 (by kernel_rfl)
 rcases v6 with v7 | v8
 ·try simp only [Sum.elim_inl, Sum.elim_inr] at h
  obtain ⟨rfl, hle⟩ := hq
  refine ⟨_, hle, ?_⟩
  cases h; exact lq 5 (by kernel_rfl)
 ·try simp only [Sum.elim_inl, Sum.elim_inr] at h
  obtain ⟨rfl, hret⟩ := hq
  refine ⟨_, LeSt.refl, ?_⟩
  cases h; exact lv hret

def value_sized (a0 : ByteArray) (a1 : Int) (a2 : Int) : Option (Int) := (Option.bind ((bif (decide ((a0.size : Int) < a1)) then (some (true)) else (some ((decide (a2 < (a0.size : Int)))))) : Option ((Bool))) fun (v2 : (Bool)) => (bif v2 then (some 2) else (Option.bind (value_printed (a0)) fun v3 => (bif (!v3) then (some 1) else (some 0)))))
theorem value_sized_ok (a0 : ByteArray) (a1 : Int) (a2 : Int) (r : Int) (h : value_sized a0 a1 a2 = some r) : PCall Try.prog 165 [eS a0, eI a1, eI a2] (eI (r)) := by
 unfold value_sized at h
 refine pcl [.one .keep] Try.func165 (by kernel_rfl) (by kernel_rfl) (by kernel_rfl) ?_
 refine jn1 6 .normal (fun v2 => ⟨20, [(0, (fS (a0))), (16, (fB (v2)))], [], [], []⟩) h (by kernel_rfl) (fun v2 h => ?_) fun v2 h => ?_
 ·refine gd 6 h (by kernel_rfl) (fun h => ?_) fun h => ?_
  ·cases h; exact lj 6 (by kernel_rfl)
  cases h; exact lj 6 (by kernel_rfl)
 refine cd 0 h (by kernel_rfl) (fun h => ?_) fun h => ?_
 ·cases h; exact lq 5 (by kernel_rfl)
 refine cl 5 h (value_printed_ok _) (by kernel_rfl) fun v3 h => ?_
 refine cd 2 h (by kernel_rfl) (fun h => ?_) fun h => ?_
 ·cases h; exact lq 5 (by kernel_rfl)
 cases h; exact lq 6 (by kernel_rfl)

def value_Check_m0 (a0 : Va) : List (Nat × AObj) := [(1, (.box 65 [(fI (a0.type)), (fI (a0.num)), (fS (a0.text)), (.fz ((eL 4 eVaR) (a0.items)))]))]
def value_Check_b (r128 : (Va) → Option (Int)) (r166 : (List Va) → (Int) → Option (Int)) (r167 : (List Va) → Option (Int)) (a0 : Va) : Option (Int) := (Option.bind ((bif (decide (a0.type < 1)) then (some (true)) else (some ((decide (8 < a0.type))))) : Option ((Bool))) fun (v2 : (Bool)) => (bif v2 then (some 3) else (Option.bind (value_unused (a0)) fun v3 => (bif (!v3) then (some 4) else (Option.bind ((Option.bind ((Option.bind ((Option.bind ((bif (a0.type == 1) then (Option.bind (value_ranged (a0.num) (0) (1)) fun v4 => (some (.inr (.inr (.inr (.inr (.inr v4))))))) else (bif (a0.type == 2) then (Option.bind (value_ranged (a0.num) ((-1000000)) (1000000)) fun v5 => (some (.inr (.inr (.inr (.inr (.inr v5))))))) else (bif (a0.type == 4) then (Option.bind (value_ranged (a0.num) (0) (255)) fun v6 => (some (.inr (.inr (.inr (.inr (.inr v6))))))) else (bif (a0.type == 8) then (some (.inl ())) else (bif (a0.type == 3) then (some (.inr (.inr (.inl ())))) else (bif (a0.type == 5) then (some (.inr (.inr (.inr (.inl ()))))) else (bif (a0.type == 6) then (some (.inr (.inr (.inr (.inr (.inl ())))))) else (some (.inr (.inl ())))))))))) : Option (((Unit) ⊕ (((Unit) ⊕ (((Unit) ⊕ (((Unit) ⊕ (((Unit) ⊕ (Int)))))))))))) fun (v7 : ((Unit) ⊕ (((Unit) ⊕ (((Unit) ⊕ (((Unit) ⊕ (((Unit) ⊕ (Int))))))))))) => Sum.elim (fun v8 => (some (.inl (1, 40)))) (Sum.elim (fun v9 => (some (.inr (.inl ())))) (Sum.elim (fun v10 => (some (.inl (0, 64)))) (Sum.elim (fun v11 => (some (.inr (.inr (.inl ()))))) (Sum.elim (fun v12 => (some (.inr (.inr (.inr (.inl ())))))) (fun v13 => (some (.inr (.inr (.inr (.inr v13)))))))))) v7) : Option ((((Int) × (Int)) ⊕ (((Unit) ⊕ (((Unit) ⊕ (((Unit) ⊕ (Int)))))))))) fun (v14 : (((Int) × (Int)) ⊕ (((Unit) ⊕ (((Unit) ⊕ (((Unit) ⊕ (Int))))))))) => Sum.elim (fun v15 => (Option.bind (value_sized (a0.text) (v15.1) (v15.2)) fun v16 => (some (.inr (.inr (.inr v16)))))) (Sum.elim (fun v17 => (some (.inr (.inl ())))) (Sum.elim (fun v18 => (some (.inl ()))) (Sum.elim (fun v19 => (some (.inr (.inr (.inl ()))))) (fun v20 => (some (.inr (.inr (.inr v20)))))))) v14) : Option (((Unit) ⊕ (((Unit) ⊕ (((Unit) ⊕ (Int)))))))) fun (v21 : ((Unit) ⊕ (((Unit) ⊕ (((Unit) ⊕ (Int))))))) => Sum.elim (fun v22 => (some (.inl (2)))) (Sum.elim (fun v23 => (some (.inr (.inl ())))) (Sum.elim (fun v24 => (some (.inl (3)))) (fun v25 => (some (.inr (.inr v25)))))) v21) : Option ((((Int)) ⊕ (((Unit) ⊕ (Int)))))) fun (v26 : (((Int)) ⊕ (((Unit) ⊕ (Int))))) => Sum.elim (fun v27 => (Option.bind (r166 (a0.items) (v27)) fun v28 => (some v28))) (Sum.elim (fun v29 => (Option.bind (r167 (a0.items)) fun v30 => (some v30))) (fun v31 => (some v31))) v26)))))
theorem value_Check_b_ok (r128 : (Va) → Option (Int)) (r166 : (List Va) → (Int) → Option (Int)) (r167 : (List Va) → Option (Int)) (ih128 : ∀ (x0 : Va) r, r128 x0 = some r → PCall Try.prog 128 [eVa x0] (eI (r))) (ih166 : ∀ (x0 : List Va) (x1 : Int) r, r166 x0 x1 = some r → PCall Try.prog 166 [(eL 4 eVaR) x0, eI x1] (eI (r))) (ih167 : ∀ (x0 : List Va) r, r167 x0 = some r → PCall Try.prog 167 [(eL 4 eVaR) x0] (eI (r))) (a0 : Va) (r : Int) (h : value_Check_b r128 r166 r167 a0 = some r) : PCall Try.prog 128 [eVa a0] (eI (r)) := by
 unfold value_Check_b at h
 refine pcl [.one .keep] Try.func128 (by kernel_rfl) (by kernel_rfl) (by kernel_rfl) ?_
 refine jn1 7 .normal (fun v2 => ⟨54, [(1, (.ref 1 0 0)), (13, (fB (v2)))], (value_Check_m0 a0), [1], []⟩) h (by kernel_rfl) (fun v2 h => ?_) fun v2 h => ?_
 ·refine gd 5 h (by kernel_rfl) (fun h => ?_) fun h => ?_
  ·cases h; exact lj 5 (by kernel_rfl)
  cases h; exact lj 5 (by kernel_rfl)
 refine cd 0 h (by kernel_rfl) (fun h => ?_) fun h => ?_
 ·cases h; exact lq 5 (by kernel_rfl)
 refine cl 5 h (value_unused_ok _) (by kernel_rfl) fun v3 h => ?_
 refine cd 2 h (by kernel_rfl) (fun h => ?_) fun h => ?_
 ·cases h; exact lq 5 (by kernel_rfl)
 refine jnQ 15 (fun v26 e st => Sum.elim (fun p => e = .normal ∧ LeSt st ⟨54, [(1, (.ref 1 0 0)), (5, (fI (p)))], (value_Check_m0 a0), [1], []⟩) (Sum.elim (fun p => e = .exit 0 ∧ LeSt st ⟨54, [(1, (.ref 1 0 0))], (value_Check_m0 a0), [1], []⟩) (fun p => e = .ret ∧ retX TT st Try.f128.results.toList [.one .keep] = some (eI (p)))) v26) h (by kernel_rfl) (fun v26 h => ?_) fun v26 h e st' hq => ?_
 ·refine jnQ 1 (fun v21 e st => Sum.elim (fun p => e = .normal ∧ LeSt st ⟨54, [(1, (.ref 1 0 0)), (5, (fI (2)))], (value_Check_m0 a0), [1], []⟩) (Sum.elim (fun p => e = .exit 0 ∧ LeSt st ⟨54, [(1, (.ref 1 0 0))], (value_Check_m0 a0), [1], []⟩) (Sum.elim (fun p => e = .exit 7 ∧ LeSt st ⟨54, [(1, (.ref 1 0 0)), (5, (fI (3)))], (value_Check_m0 a0), [1], []⟩) (fun p => e = .ret ∧ retX TT st Try.f128.results.toList [.one .keep] = some (eI (p))))) v21) h (by kernel_rfl) (fun v21 h => ?_) fun v21 h e st' hq => ?_
  ·refine jnQ 3 (fun v14 e st => Sum.elim (fun p => e = .normal ∧ LeSt st ⟨54, [(1, (.ref 1 0 0)), (3, (fI (p.1))), (4, (fI (p.2)))], (value_Check_m0 a0), [1], []⟩) (Sum.elim (fun p => e = .exit 0 ∧ LeSt st ⟨54, [(1, (.ref 1 0 0))], (value_Check_m0 a0), [1], []⟩) (Sum.elim (fun p => e = .exit 6 ∧ LeSt st ⟨54, [(1, (.ref 1 0 0))], (value_Check_m0 a0), [1], []⟩) (Sum.elim (fun p => e = .exit 7 ∧ LeSt st ⟨54, [(1, (.ref 1 0 0)), (5, (fI (3)))], (value_Check_m0 a0), [1], []⟩) (fun p => e = .ret ∧ retX TT st Try.f128.results.toList [.one .keep] = some (eI (p)))))) v14) h (by kernel_rfl) (fun v14 h => ?_) fun v14 h e st' hq => ?_
   ·refine jnQ 1 (fun v7 e st => Sum.elim (fun p => e = .normal ∧ LeSt st ⟨54, [(1, (.ref 1 0 0)), (3, (fI (1))), (4, (fI (40)))], (value_Check_m0 a0), [1], []⟩) (Sum.elim (fun p => e = .exit 0 ∧ LeSt st ⟨54, [(1, (.ref 1 0 0))], (value_Check_m0 a0), [1], []⟩) (Sum.elim (fun p => e = .exit 5 ∧ LeSt st ⟨54, [(1, (.ref 1 0 0)), (3, (fI (0))), (4, (fI (64)))], (value_Check_m0 a0), [1], []⟩) (Sum.elim (fun p => e = .exit 6 ∧ LeSt st ⟨54, [(1, (.ref 1 0 0))], (value_Check_m0 a0), [1], []⟩) (Sum.elim (fun p => e = .exit 7 ∧ LeSt st ⟨54, [(1, (.ref 1 0 0)), (5, (fI (3)))], (value_Check_m0 a0), [1], []⟩) (fun p => e = .ret ∧ retX TT st Try.f128.results.toList [.one .keep] = some (eI (p))))))) v7) h (by kernel_rfl) (fun v7 h => ?_) fun v7 h e st' hq => ?_
    ·refine cd 15 h (by kernel_rfl) (fun h => ?_) fun h => ?_
     ·refine cl 6 h (value_ranged_ok _ _ _) (by kernel_rfl) fun v4 h => ?_
      cases h; exact lr 3 (by kernel_rfl)
     refine cd 7 h (by kernel_rfl) (fun h => ?_) fun h => ?_
     ·refine cl 6 h (value_ranged_ok _ _ _) (by kernel_rfl) fun v5 h => ?_
      cases h; exact lr 3 (by kernel_rfl)
     refine cd 7 h (by kernel_rfl) (fun h => ?_) fun h => ?_
     ·refine cl 6 h (value_ranged_ok _ _ _) (by kernel_rfl) fun v6 h => ?_
      cases h; exact lr 3 (by kernel_rfl)
     refine cd 7 h (by kernel_rfl) (fun h => ?_) fun h => ?_
     ·cases h; exact lj 5 (by kernel_rfl)
     refine cd 7 h (by kernel_rfl) (fun h => ?_) fun h => ?_
     ·cases h; exact lj 1 (by kernel_rfl)
     refine cd 7 h (by kernel_rfl) (fun h => ?_) fun h => ?_
     ·cases h; exact lj 1 (by kernel_rfl)
     refine cd 6 h (by kernel_rfl) (fun h => ?_) fun h => ?_
     ·cases h; exact lj 1 (by kernel_rfl)
     cases h; exact lj 2 (by kernel_rfl)
    rcases v7 with v8 | (v9 | (v10 | (v11 | (v12 | v13))))
    ·try simp only [Sum.elim_inl, Sum.elim_inr] at h
     obtain ⟨rfl, hle⟩ := hq
     refine ⟨_, hle, ?_⟩
     cases h; exact lj 0 (by kernel_rfl)
    ·try simp only [Sum.elim_inl, Sum.elim_inr] at h
     obtain ⟨rfl, hle⟩ := hq
     refine ⟨_, hle, ?_⟩
     cases h; exact lj 0 (by kernel_rfl)
    ·try simp only [Sum.elim_inl, Sum.elim_inr] at h
     obtain ⟨rfl, hle⟩ := hq
     refine ⟨_, hle, ?_⟩
     cases h; exact lj 0 (by kernel_rfl)
    ·try simp only [Sum.elim_inl, Sum.elim_inr] at h
     obtain ⟨rfl, hle⟩ := hq
     refine ⟨_, hle, ?_⟩
     cases h; exact lj 0 (by kernel_rfl)
    ·try simp only [Sum.elim_inl, Sum.elim_inr] at h
     obtain ⟨rfl, hle⟩ := hq
     refine ⟨_, hle, ?_⟩
     cases h; exact lj 0 (by kernel_rfl)
    ·try simp only [Sum.elim_inl, Sum.elim_inr] at h
     obtain ⟨rfl, hret⟩ := hq
     refine ⟨_, LeSt.refl, ?_⟩
     cases h; exact lvr hret
   rcases v14 with v15 | (v17 | (v18 | (v19 | v20)))
   ·try simp only [Sum.elim_inl, Sum.elim_inr] at h
    obtain ⟨rfl, hle⟩ := hq
    refine ⟨_, hle, ?_⟩
    refine cl 7 h (value_sized_ok _ _ _) (by kernel_rfl) fun v16 h => ?_
    cases h; exact lr 3 (by kernel_rfl)
   ·try simp only [Sum.elim_inl, Sum.elim_inr] at h
    obtain ⟨rfl, hle⟩ := hq
    refine ⟨_, hle, ?_⟩
    cases h; exact lj 0 (by kernel_rfl)
   ·try simp only [Sum.elim_inl, Sum.elim_inr] at h
    obtain ⟨rfl, hle⟩ := hq
    refine ⟨_, hle, ?_⟩
    cases h; exact lj 3 (by kernel_rfl)
   ·try simp only [Sum.elim_inl, Sum.elim_inr] at h
    obtain ⟨rfl, hle⟩ := hq
    refine ⟨_, hle, ?_⟩
    cases h; exact lj 0 (by kernel_rfl)
   ·try simp only [Sum.elim_inl, Sum.elim_inr] at h
    obtain ⟨rfl, hret⟩ := hq
    refine ⟨_, LeSt.refl, ?_⟩
    cases h; exact lvr hret
  rcases v21 with v22 | (v23 | (v24 | v25))
  ·try simp only [Sum.elim_inl, Sum.elim_inr] at h
   obtain ⟨rfl, hle⟩ := hq
   refine ⟨_, hle, ?_⟩
   cases h; exact lj 0 (by kernel_rfl)
  ·try simp only [Sum.elim_inl, Sum.elim_inr] at h
   obtain ⟨rfl, hle⟩ := hq
   refine ⟨_, hle, ?_⟩
   cases h; exact lj 0 (by kernel_rfl)
  ·try simp only [Sum.elim_inl, Sum.elim_inr] at h
   obtain ⟨rfl, hle⟩ := hq
   refine ⟨_, hle, ?_⟩
   cases h; exact lj 0 (by kernel_rfl)
  ·try simp only [Sum.elim_inl, Sum.elim_inr] at h
   obtain ⟨rfl, hret⟩ := hq
   refine ⟨_, LeSt.refl, ?_⟩
   cases h; exact lvr hret
 rcases v26 with v27 | (v29 | v31)
 ·try simp only [Sum.elim_inl, Sum.elim_inr] at h
  obtain ⟨rfl, hle⟩ := hq
  refine ⟨_, hle, ?_⟩
  refine cl 6 h (ih166 _ _) (by kernel_rfl) fun v28 h => ?_
  cases h; exact lq 3 (by kernel_rfl)
 ·try simp only [Sum.elim_inl, Sum.elim_inr] at h
  obtain ⟨rfl, hle⟩ := hq
  refine ⟨_, hle, ?_⟩
  refine cl 4 h (ih167 _) (by kernel_rfl) fun v30 h => ?_
  cases h; exact lq 3 (by kernel_rfl)
 ·try simp only [Sum.elim_inl, Sum.elim_inr] at h
  obtain ⟨rfl, hret⟩ := hq
  refine ⟨_, LeSt.refl, ?_⟩
  cases h; exact lv hret
def value_elements_l1 (a0 : List Va) (a1 : Int) (r128 : (Va) → Option (Int)) (v1 : (Int)) : Option (((Int)) ⊕ (((Unit) ⊕ (Int)))) := (bif (decide (v1 < (List.length a0 : Int))) then (Option.bind (idx a0 v1) fun v2 => (bif (v2.type != a1) then (some (.inr (.inr 3))) else (Option.bind (r128 (v2)) fun v3 => (bif (v3 != 0) then (some (.inr (.inr v3))) else (some (.inl ((w64 (v1 + 1))))))))) else (some (.inr (.inl ()))))
def value_elements_b (r128 : (Va) → Option (Int)) (r166 : (List Va) → (Int) → Option (Int)) (r167 : (List Va) → Option (Int)) (a0 : List Va) (a1 : Int) : Option (Int) := (bif (decide (16 < (List.length a0 : Int))) then (some 2) else (Option.bind (loopN (value_elements_l1 a0 a1 r128) fuel (0)) fun (v4 : ((Unit) ⊕ (Int))) => Sum.elim (fun v5 => (some 0)) (fun v6 => (some v6)) v4))
theorem value_elements_b_ok (r128 : (Va) → Option (Int)) (r166 : (List Va) → (Int) → Option (Int)) (r167 : (List Va) → Option (Int)) (ih128 : ∀ (x0 : Va) r, r128 x0 = some r → PCall Try.prog 128 [eVa x0] (eI (r))) (ih166 : ∀ (x0 : List Va) (x1 : Int) r, r166 x0 x1 = some r → PCall Try.prog 166 [(eL 4 eVaR) x0, eI x1] (eI (r))) (ih167 : ∀ (x0 : List Va) r, r167 x0 = some r → PCall Try.prog 167 [(eL 4 eVaR) x0] (eI (r))) (a0 : List Va) (a1 : Int) (r : Int) (h : value_elements_b r128 r166 r167 a0 a1 = some r) : PCall Try.prog 166 [(eL 4 eVaR) a0, eI a1] (eI (r)) := by
 unfold value_elements_b at h
 refine pcl [.one .keep] Try.func166 (by kernel_rfl) (by kernel_rfl) (by kernel_rfl) ?_
 refine cd 11 h (by kernel_rfl) (fun h => ?_) fun h => ?_
 ·cases h; exact lq 5 (by kernel_rfl)
 refine lpx 9 (fun v1 => ⟨27, [(1, (fI (a1))), (11, (.fz ((eL 4 eVaR) (a0)))), (12, (fI ((List.length a0 : Int)))), (13, (fI (v1)))], [], [], []⟩) (fun v4 e st => Sum.elim (fun p => e = .exit 0 ∧ LeSt st ⟨27, [], [], [], []⟩) (fun p => e = .ret ∧ retX TT st Try.f166.results.toList [.one .keep] = some (eI (p))) v4) h (by kernel_rfl) (le_a (by kernel_rfl)) (fun v1 r h => ?_) fun v4 h e st' hq => ?_
 ·unfold value_elements_l1 at h
  refine cd 5 h (by kernel_rfl) (fun h => ?_) fun h => ?_
  ·refine ix nVaR 5 h (by kernel_rfl) fun v2 h => ?_
   refine cd 12 h (by kernel_rfl) (fun h => ?_) fun h => ?_
   ·cases h; exact lor 5 (by kernel_rfl)
   refine cl 4 h (ih128 _) (by kernel_rfl) fun v3 h => ?_
   refine cd 7 h (by kernel_rfl) (fun h => ?_) fun h => ?_
   ·cases h; exact lor 6 (by kernel_rfl)
   cases h; exact lj 5 (by kernel_rfl)
  cases h; exact lo 1 (by kernel_rfl)
 rcases v4 with v5 | v6
 ·try simp only [Sum.elim_inl, Sum.elim_inr] at h
  obtain ⟨rfl, hle⟩ := hq
  refine ⟨_, hle, ?_⟩
  cases h; exact lq 5 (by kernel_rfl)
 ·try simp only [Sum.elim_inl, Sum.elim_inr] at h
  obtain ⟨rfl, hret⟩ := hq
  refine ⟨_, LeSt.refl, ?_⟩
  cases h; exact lv hret
def value_rows_l1 (a0 : List Va) (r128 : (Va) → Option (Int)) (v1 : (Int)) : Option (((Int)) ⊕ (((Unit) ⊕ (Int)))) := (bif (decide (v1 < (List.length a0 : Int))) then (Option.bind (idx a0 v1) fun v2 => (bif (v2.type != 6) then (some (.inr (.inr 3))) else (Option.bind ((bif (decide ((List.length v2.items : Int) < 1)) then (some (true)) else (bif (decide (8 < (List.length v2.items : Int))) then (some (true)) else (Option.bind (idx a0 0) fun v3 => (some (((List.length v2.items : Int) != (List.length v3.items : Int))))))) : Option ((Bool))) fun (v5 : (Bool)) => (bif v5 then (some (.inr (.inr 2))) else (Option.bind (r128 (v2)) fun v6 => (bif (v6 != 0) then (some (.inr (.inr v6))) else (some (.inl ((w64 (v1 + 1))))))))))) else (some (.inr (.inl ()))))
def value_rows_b (r128 : (Va) → Option (Int)) (r166 : (List Va) → (Int) → Option (Int)) (r167 : (List Va) → Option (Int)) (a0 : List Va) : Option (Int) := (bif (decide (8 < (List.length a0 : Int))) then (some 2) else (Option.bind (loopN (value_rows_l1 a0 r128) fuel (0)) fun (v7 : ((Unit) ⊕ (Int))) => Sum.elim (fun v8 => (some 0)) (fun v9 => (some v9)) v7))
theorem value_rows_b_ok (r128 : (Va) → Option (Int)) (r166 : (List Va) → (Int) → Option (Int)) (r167 : (List Va) → Option (Int)) (ih128 : ∀ (x0 : Va) r, r128 x0 = some r → PCall Try.prog 128 [eVa x0] (eI (r))) (ih166 : ∀ (x0 : List Va) (x1 : Int) r, r166 x0 x1 = some r → PCall Try.prog 166 [(eL 4 eVaR) x0, eI x1] (eI (r))) (ih167 : ∀ (x0 : List Va) r, r167 x0 = some r → PCall Try.prog 167 [(eL 4 eVaR) x0] (eI (r))) (a0 : List Va) (r : Int) (h : value_rows_b r128 r166 r167 a0 = some r) : PCall Try.prog 167 [(eL 4 eVaR) a0] (eI (r)) := by
 unfold value_rows_b at h
 refine pcl [.one .keep] Try.func167 (by kernel_rfl) (by kernel_rfl) (by kernel_rfl) ?_
 refine cd 11 h (by kernel_rfl) (fun h => ?_) fun h => ?_
 ·cases h; exact lq 5 (by kernel_rfl)
 refine lpx 9 (fun v1 => ⟨45, [(0, (.fz ((eL 4 eVaR) (a0)))), (9, (.fz ((eL 4 eVaR) (a0)))), (10, (fI ((List.length a0 : Int)))), (11, (fI (v1)))], [], [], []⟩) (fun v7 e st => Sum.elim (fun p => e = .exit 0 ∧ LeSt st ⟨45, [], [], [], []⟩) (fun p => e = .ret ∧ retX TT st Try.f167.results.toList [.one .keep] = some (eI (p))) v7) h (by kernel_rfl) (le_a (by kernel_rfl)) (fun v1 r h => ?_) fun v7 h e st' hq => ?_
 ·unfold value_rows_l1 at h
  refine cd 5 h (by kernel_rfl) (fun h => ?_) fun h => ?_
  ·refine ix nVaR 5 h (by kernel_rfl) fun v2 h => ?_
   refine cd 11 h (by kernel_rfl) (fun h => ?_) fun h => ?_
   ·cases h; exact lor 5 (by kernel_rfl)
   refine jn1 3 .normal (fun v5 => ⟨45, [(0, (.fz ((eL 4 eVaR) (a0)))), (4, (.ref 1 0 0)), (9, (.fz ((eL 4 eVaR) (a0)))), (10, (fI ((List.length a0 : Int)))), (11, (fI (v1))), (38, (fB (v5)))], [(1, (.box 65 [(fI (v2.type)), (fI (v2.num)), (fS (v2.text)), (.fz ((eL 4 eVaR) (v2.items)))]))], [1], []⟩) h (by kernel_rfl) (fun v5 h => ?_) fun v5 h => ?_
   ·refine dw 0 19 (by kernel_rfl) ?_
    refine gd 5 h (by kernel_rfl) (fun h => ?_) fun h => ?_
    ·cases h; exact lj 18 (by kernel_rfl)
    refine gd 6 h (by kernel_rfl) (fun h => ?_) fun h => ?_
    ·cases h; exact lj 12 (by kernel_rfl)
    refine ix nVaR 4 h (by kernel_rfl) fun v3 h => ?_
    cases h; exact lj 7 (by kernel_rfl)
   refine cd 0 h (by kernel_rfl) (fun h => ?_) fun h => ?_
   ·cases h; exact lor 5 (by kernel_rfl)
   refine cl 4 h (ih128 _) (by kernel_rfl) fun v6 h => ?_
   refine cd 7 h (by kernel_rfl) (fun h => ?_) fun h => ?_
   ·cases h; exact lor 6 (by kernel_rfl)
   cases h; exact lj 5 (by kernel_rfl)
  cases h; exact lo 1 (by kernel_rfl)
 rcases v7 with v8 | v9
 ·try simp only [Sum.elim_inl, Sum.elim_inr] at h
  obtain ⟨rfl, hle⟩ := hq
  refine ⟨_, hle, ?_⟩
  cases h; exact lq 5 (by kernel_rfl)
 ·try simp only [Sum.elim_inl, Sum.elim_inr] at h
  obtain ⟨rfl, hret⟩ := hq
  refine ⟨_, LeSt.refl, ?_⟩
  cases h; exact lv hret
def value_Check_all : Nat → ((Va) → Option (Int)) × ((List Va) → (Int) → Option (Int)) × ((List Va) → Option (Int))
  | 0 => (fun _ => none, fun _ _ => none, fun _ => none)
  | n + 1 => (value_Check_b ((value_Check_all n).1) ((value_Check_all n).2.1) ((value_Check_all n).2.2), value_elements_b ((value_Check_all n).1) ((value_Check_all n).2.1) ((value_Check_all n).2.2), value_rows_b ((value_Check_all n).1) ((value_Check_all n).2.1) ((value_Check_all n).2.2))
def value_Check (n : Nat) : (Va) → Option (Int) := (value_Check_all n).1
def value_elements (n : Nat) : (List Va) → (Int) → Option (Int) := (value_Check_all n).2.1
def value_rows (n : Nat) : (List Va) → Option (Int) := (value_Check_all n).2.2
theorem value_Check_all_ok : ∀ n : Nat, (∀ (x0 : Va) r, value_Check n x0 = some r → PCall Try.prog 128 [eVa x0] (eI (r))) ∧ (∀ (x0 : List Va) (x1 : Int) r, value_elements n x0 x1 = some r → PCall Try.prog 166 [(eL 4 eVaR) x0, eI x1] (eI (r))) ∧ (∀ (x0 : List Va) r, value_rows n x0 = some r → PCall Try.prog 167 [(eL 4 eVaR) x0] (eI (r)))
  | 0 => ⟨(fun _ _ h => nomatch h), (fun _ _ _ h => nomatch h), (fun _ _ h => nomatch h)⟩
  | n + 1 => ⟨(value_Check_b_ok _ _ _ ((value_Check_all_ok n).1) ((value_Check_all_ok n).2.1) ((value_Check_all_ok n).2.2)), (value_elements_b_ok _ _ _ ((value_Check_all_ok n).1) ((value_Check_all_ok n).2.1) ((value_Check_all_ok n).2.2)), (value_rows_b_ok _ _ _ ((value_Check_all_ok n).1) ((value_Check_all_ok n).2.1) ((value_Check_all_ok n).2.2))⟩
theorem value_Check_ok (n : Nat) : ∀ (x0 : Va) r, value_Check n x0 = some r → PCall Try.prog 128 [eVa x0] (eI (r)) := (value_Check_all_ok n).1
theorem value_elements_ok (n : Nat) : ∀ (x0 : List Va) (x1 : Int) r, value_elements n x0 x1 = some r → PCall Try.prog 166 [(eL 4 eVaR) x0, eI x1] (eI (r)) := (value_Check_all_ok n).2.1
theorem value_rows_ok (n : Nat) : ∀ (x0 : List Va) r, value_rows n x0 = some r → PCall Try.prog 167 [(eL 4 eVaR) x0] (eI (r)) := (value_Check_all_ok n).2.2

def value_Compare_m0 (a0 : Va) (a1 : Va) : List (Nat × AObj) := [(1, (.box 65 [(fI (a0.type)), (fI (a0.num)), (fS (a0.text)), (.fz ((eL 4 eVaR) (a0.items)))])), (2, (.box 65 [(fI (a1.type)), (fI (a1.num)), (fS (a1.text)), (.fz ((eL 4 eVaR) (a1.items)))]))]
def value_Compare_l1 (a0 : Va) (a1 : Va) (r168 : (Va) → (Va) → Option (Int)) (v1 : (Int)) : Option (((Int)) ⊕ (((Unit) ⊕ (Int)))) := (bif (decide (v1 < (List.length a0.items : Int))) then (Option.bind (idx a0.items v1) fun v2 => (bif (v1 == (List.length a1.items : Int)) then (some (.inr (.inr 1))) else (Option.bind (idx a1.items v1) fun v3 => (Option.bind (r168 (v2) (v3)) fun v4 => (bif (v4 != 0) then (some (.inr (.inr v4))) else (some (.inl ((w64 (v1 + 1)))))))))) else (some (.inr (.inl ()))))
def value_Compare_b (r168 : (Va) → (Va) → Option (Int)) (a0 : Va) (a1 : Va) : Option (Int) := (bif (decide (a0.type < a1.type)) then (some (-1)) else (bif (decide (a1.type < a0.type)) then (some 1) else (bif (decide (a0.num < a1.num)) then (some (-1)) else (bif (decide (a1.num < a0.num)) then (some 1) else (bif (Op.bytesLess a0.text.toList a1.text.toList) then (some (-1)) else (bif (!((Op.bytesLess a0.text.toList a1.text.toList) || (a0.text.toList == a1.text.toList))) then (some 1) else (Option.bind (loopN (value_Compare_l1 a0 a1 r168) fuel (0)) fun (v5 : ((Unit) ⊕ (Int))) => Sum.elim (fun v6 => (bif (decide ((List.length a0.items : Int) < (List.length a1.items : Int))) then (some (-1)) else (some 0))) (fun v7 => (some v7)) v5)))))))
theorem value_Compare_b_ok (r168 : (Va) → (Va) → Option (Int)) (ih168 : ∀ (x0 : Va) (x1 : Va) r, r168 x0 x1 = some r → PCall Try.prog 168 [eVa x0, eVa x1] (eI (r))) (a0 : Va) (a1 : Va) (r : Int) (h : value_Compare_b r168 a0 a1 = some r) : PCall Try.prog 168 [eVa a0, eVa a1] (eI (r)) := by
 unfold value_Compare_b at h
 refine pcl [.one .keep] Try.func168 (by kernel_rfl) (by kernel_rfl) (by kernel_rfl) ?_
 refine cd 17 h (by kernel_rfl) (fun h => ?_) fun h => ?_
 ·cases h; exact lq 5 (by kernel_rfl)
 refine cd 9 h (by kernel_rfl) (fun h => ?_) fun h => ?_
 ·cases h; exact lq 5 (by kernel_rfl)
 refine cd 9 h (by kernel_rfl) (fun h => ?_) fun h => ?_
 ·cases h; exact lq 5 (by kernel_rfl)
 refine cd 9 h (by kernel_rfl) (fun h => ?_) fun h => ?_
 ·cases h; exact lq 5 (by kernel_rfl)
 refine cd 9 h (by kernel_rfl) (fun h => ?_) fun h => ?_
 ·cases h; exact lq 5 (by kernel_rfl)
 refine cd 9 h (by kernel_rfl) (fun h => ?_) fun h => ?_
 ·cases h; exact lq 5 (by kernel_rfl)
 refine lpx 10 (fun v1 => ⟨75, [(2, (.ref 1 0 0)), (3, (.ref 2 0 0)), (45, (.fz ((eL 4 eVaR) (a0.items)))), (46, (fI ((List.length a0.items : Int)))), (47, (fI (v1)))], (value_Compare_m0 a0 a1), [2, 1], []⟩) (fun v5 e st => Sum.elim (fun p => e = .exit 1 ∧ LeSt st ⟨75, [(2, (.ref 1 0 0)), (3, (.ref 2 0 0))], (value_Compare_m0 a0 a1), [2, 1], []⟩) (fun p => e = .ret ∧ retX TT st Try.f168.results.toList [.one .keep] = some (eI (p))) v5) h (by kernel_rfl) (le_a (by kernel_rfl)) (fun v1 r h => ?_) fun v5 h e st' hq => ?_
 ·unfold value_Compare_l1 at h
  refine cd 5 h (by kernel_rfl) (fun h => ?_) fun h => ?_
  ·refine ix nVaR 6 h (by kernel_rfl) fun v2 h => ?_
   refine cd 14 h (by kernel_rfl) (fun h => ?_) fun h => ?_
   ·cases h; exact lor 5 (by kernel_rfl)
   refine dw 2 6 (by kernel_rfl) ?_
   refine ix nVaR 4 h (by kernel_rfl) fun v3 h => ?_
   refine cl 2 h (ih168 _ _) (by kernel_rfl) fun v4 h => ?_
   refine cd 7 h (by kernel_rfl) (fun h => ?_) fun h => ?_
   ·cases h; exact lor 6 (by kernel_rfl)
   cases h; exact lj 5 (by kernel_rfl)
  cases h; exact lo 1 (by kernel_rfl)
 rcases v5 with v6 | v7
 ·try simp only [Sum.elim_inl, Sum.elim_inr] at h
  obtain ⟨rfl, hle⟩ := hq
  refine ⟨_, hle, ?_⟩
  refine cd 11 h (by kernel_rfl) (fun h => ?_) fun h => ?_
  ·cases h; exact lq 5 (by kernel_rfl)
  cases h; exact lq 6 (by kernel_rfl)
 ·try simp only [Sum.elim_inl, Sum.elim_inr] at h
  obtain ⟨rfl, hret⟩ := hq
  refine ⟨_, LeSt.refl, ?_⟩
  cases h; exact lv hret
def value_Compare : Nat → (Va) → (Va) → Option (Int)
  | 0 => fun _ _ => none
  | n + 1 => value_Compare_b (value_Compare n)
theorem value_Compare_ok : ∀ (n : Nat) (x0 : Va) (x1 : Va) r, value_Compare n x0 x1 = some r → PCall Try.prog 168 [eVa x0, eVa x1] (eI (r))
  | 0, _, _, _, h => by cases h
  | n + 1, x0, x1, r, h => value_Compare_b_ok (value_Compare n) (value_Compare_ok n) x0 x1 r h

def value_Equal (a0 : Va) (a1 : Va) : Option (Bool) := (Option.bind (value_Compare fuel (a0) (a1)) fun v1 => (some (v1 == 0)))
theorem value_Equal_ok (a0 : Va) (a1 : Va) (r : Bool) (h : value_Equal a0 a1 = some r) : PCall Try.prog 129 [eVa a0, eVa a1] (eB (r)) := by
 unfold value_Equal at h
 refine pcl [.one .keep] Try.func129 (by kernel_rfl) (by kernel_rfl) (by kernel_rfl) ?_
 refine cl 10 h (value_Compare_ok _ _ _) (by kernel_rfl) fun v1 h => ?_
 cases h; exact lq 4 (by kernel_rfl)

def internal_stringslite_IndexByte (a0 : ByteArray) (a1 : Int) : Option (Int) := (some (Lib.indexByte (ByteArray.data a0).toList (Int.toNat a1).toUInt8))
theorem internal_stringslite_IndexByte_ok (a0 : ByteArray) (a1 : Int) (r : Int) (h : internal_stringslite_IndexByte a0 a1 = some r) : PCall Try.prog 188 [eS a0, eU8 a1] (eI (r)) := by
 unfold internal_stringslite_IndexByte at h
 refine pcl [.one .keep] Try.func188 (by kernel_rfl) (by kernel_rfl) (by kernel_rfl) ?_
 refine nst 8 (s_idxByte (f := 192) (ts := #[9, 5]) (X := (.tmp 5)) (Y := (.tmp 6)) (fn := Try.f192) (s := a0) (c := a1) (by kernel_rfl) Try.func192 (by kernel_rfl) (by kernel_rfl) (by kernel_rfl) (by kernel_rfl) (by kernel_rfl) (by kernel_rfl)) (by kernel_rfl) ?_
 cases h; exact lq 3 (by kernel_rfl)

def synthesisref01_sign (a0 : Bool) : Option (Int) := (bif a0 then (some (-1)) else (some 1))
theorem synthesisref01_sign_ok (a0 : Bool) (r : Int) (h : synthesisref01_sign a0 = some r) : PCall Try.prog 185 [eB a0] (eI (r)) := by
 unfold synthesisref01_sign at h
 refine pcl [.one .keep] Try.func185 (by kernel_rfl) (by kernel_rfl) (by kernel_rfl) ?_
 refine cd 9 h (by kernel_rfl) (fun h => ?_) fun h => ?_
 ·cases h; exact lq 5 (by kernel_rfl)
 cases h; exact lq 6 (by kernel_rfl)

def synthesisref01_Compare_b (r162 : (Va) → (Va) → Option (Int)) (r186 : (List Va) → (List Va) → Option (Int)) (a0 : Va) (a1 : Va) : Option (Int) := (bif (a0.type != a1.type) then (Option.bind (synthesisref01_sign ((decide (a0.type < a1.type)))) fun v1 => (some v1)) else (bif (a0.num != a1.num) then (Option.bind (synthesisref01_sign ((decide (a0.num < a1.num)))) fun v2 => (some v2)) else (bif (!(a0.text.toList == a1.text.toList)) then (Option.bind (synthesisref01_sign ((Op.bytesLess a0.text.toList a1.text.toList))) fun v3 => (some v3)) else (Option.bind (r186 (a0.items) (a1.items)) fun v4 => (some v4)))))
theorem synthesisref01_Compare_b_ok (r162 : (Va) → (Va) → Option (Int)) (r186 : (List Va) → (List Va) → Option (Int)) (ih162 : ∀ (x0 : Va) (x1 : Va) r, r162 x0 x1 = some r → PCall Try.prog 162 [eVa x0, eVa x1] (eI (r))) (ih186 : ∀ (x0 : List Va) (x1 : List Va) r, r186 x0 x1 = some r → PCall Try.prog 186 [(eL 4 eVaR) x0, (eL 4 eVaR) x1] (eI (r))) (a0 : Va) (a1 : Va) (r : Int) (h : synthesisref01_Compare_b r162 r186 a0 a1 = some r) : PCall Try.prog 162 [eVa a0, eVa a1] (eI (r)) := by
 unfold synthesisref01_Compare_b at h
 refine pcl [.one .keep] Try.func162 (by kernel_rfl) (by kernel_rfl) (by kernel_rfl) ?_
 refine cd 17 h (by kernel_rfl) (fun h => ?_) fun h => ?_
 ·refine cl 7 h (synthesisref01_sign_ok _) (by kernel_rfl) fun v1 h => ?_
  cases h; exact lq 3 (by kernel_rfl)
 refine cd 9 h (by kernel_rfl) (fun h => ?_) fun h => ?_
 ·refine cl 7 h (synthesisref01_sign_ok _) (by kernel_rfl) fun v2 h => ?_
  cases h; exact lq 3 (by kernel_rfl)
 refine cd 9 h (by kernel_rfl) (fun h => ?_) fun h => ?_
 ·refine cl 7 h (synthesisref01_sign_ok _) (by kernel_rfl) fun v3 h => ?_
  cases h; exact lq 3 (by kernel_rfl)
 refine cl 7 h (ih186 _ _) (by kernel_rfl) fun v4 h => ?_
 cases h; exact lq 3 (by kernel_rfl)
def synthesisref01_CompareAll_l1 (a0 : List Va) (a1 : List Va) (r162 : (Va) → (Va) → Option (Int)) (v1 : (Int)) : Option (((Int)) ⊕ (((Unit) ⊕ (Int)))) := (Option.bind ((bif (decide (v1 < (List.length a0 : Int))) then (some ((decide (v1 < (List.length a1 : Int))))) else (some (false))) : Option ((Bool))) fun (v3 : (Bool)) => (bif v3 then (Option.bind (idx a0 v1) fun v4 => (Option.bind (idx a1 v1) fun v5 => (Option.bind (r162 (v4) (v5)) fun v6 => (bif (v6 != 0) then (some (.inr (.inr v6))) else (some (.inl ((w64 (v1 + 1))))))))) else (some (.inr (.inl ())))))
def synthesisref01_CompareAll_b (r162 : (Va) → (Va) → Option (Int)) (r186 : (List Va) → (List Va) → Option (Int)) (a0 : List Va) (a1 : List Va) : Option (Int) := (Option.bind (loopN (synthesisref01_CompareAll_l1 a0 a1 r162) fuel (0)) fun (v7 : ((Unit) ⊕ (Int))) => Sum.elim (fun v8 => (bif ((List.length a0 : Int) == (List.length a1 : Int)) then (some 0) else (Option.bind (synthesisref01_sign ((decide ((List.length a0 : Int) < (List.length a1 : Int))))) fun v9 => (some v9)))) (fun v10 => (some v10)) v7)
theorem synthesisref01_CompareAll_b_ok (r162 : (Va) → (Va) → Option (Int)) (r186 : (List Va) → (List Va) → Option (Int)) (ih162 : ∀ (x0 : Va) (x1 : Va) r, r162 x0 x1 = some r → PCall Try.prog 162 [eVa x0, eVa x1] (eI (r))) (ih186 : ∀ (x0 : List Va) (x1 : List Va) r, r186 x0 x1 = some r → PCall Try.prog 186 [(eL 4 eVaR) x0, (eL 4 eVaR) x1] (eI (r))) (a0 : List Va) (a1 : List Va) (r : Int) (h : synthesisref01_CompareAll_b r162 r186 a0 a1 = some r) : PCall Try.prog 186 [(eL 4 eVaR) a0, (eL 4 eVaR) a1] (eI (r)) := by
 unfold synthesisref01_CompareAll_b at h
 refine pcl [.one .keep] Try.func186 (by kernel_rfl) (by kernel_rfl) (by kernel_rfl) ?_
 refine lpx 10 (fun v1 => ⟨42, [(0, (.fz ((eL 4 eVaR) (a0)))), (1, (.fz ((eL 4 eVaR) (a1)))), (5, (fI (v1)))], [], [], []⟩) (fun v7 e st => Sum.elim (fun p => e = .exit 0 ∧ LeSt st ⟨42, [(0, (.fz ((eL 4 eVaR) (a0)))), (1, (.fz ((eL 4 eVaR) (a1))))], [], [], []⟩) (fun p => e = .ret ∧ retX TT st Try.f186.results.toList [.one .keep] = some (eI (p))) v7) h (by kernel_rfl) (le_a (by kernel_rfl)) (fun v1 r h => ?_) fun v7 h e st' hq => ?_
 ·unfold synthesisref01_CompareAll_l1 at h
  refine jn1 2 .normal (fun v3 => ⟨42, [(0, (.fz ((eL 4 eVaR) (a0)))), (1, (.fz ((eL 4 eVaR) (a1)))), (5, (fI (v1))), (16, (fB (v3)))], [], [], []⟩) h (by kernel_rfl) (fun v3 h => ?_) fun v3 h => ?_
  ·refine gd 6 h (by kernel_rfl) (fun h => ?_) fun h => ?_
   ·cases h; exact lj 6 (by kernel_rfl)
   cases h; exact lj 6 (by kernel_rfl)
  refine cd 0 h (by kernel_rfl) (fun h => ?_) fun h => ?_
  ·refine dw 4 8 (by kernel_rfl) ?_
   refine ix nVaR 2 h (by kernel_rfl) fun v4 h => ?_
   refine ix nVaR 3 h (by kernel_rfl) fun v5 h => ?_
   refine cl 2 h (ih162 _ _) (by kernel_rfl) fun v6 h => ?_
   refine cd 7 h (by kernel_rfl) (fun h => ?_) fun h => ?_
   ·cases h; exact lor 6 (by kernel_rfl)
   cases h; exact lj 6 (by kernel_rfl)
  cases h; exact lo 1 (by kernel_rfl)
 rcases v7 with v8 | v10
 ·try simp only [Sum.elim_inl, Sum.elim_inr] at h
  obtain ⟨rfl, hle⟩ := hq
  refine ⟨_, hle, ?_⟩
  refine cd 9 h (by kernel_rfl) (fun h => ?_) fun h => ?_
  ·cases h; exact lq 5 (by kernel_rfl)
  refine cl 8 h (synthesisref01_sign_ok _) (by kernel_rfl) fun v9 h => ?_
  cases h; exact lq 3 (by kernel_rfl)
 ·try simp only [Sum.elim_inl, Sum.elim_inr] at h
  obtain ⟨rfl, hret⟩ := hq
  refine ⟨_, LeSt.refl, ?_⟩
  cases h; exact lv hret
def synthesisref01_Compare_all : Nat → ((Va) → (Va) → Option (Int)) × ((List Va) → (List Va) → Option (Int))
  | 0 => (fun _ _ => none, fun _ _ => none)
  | n + 1 => (synthesisref01_Compare_b ((synthesisref01_Compare_all n).1) ((synthesisref01_Compare_all n).2), synthesisref01_CompareAll_b ((synthesisref01_Compare_all n).1) ((synthesisref01_Compare_all n).2))
def synthesisref01_Compare (n : Nat) : (Va) → (Va) → Option (Int) := (synthesisref01_Compare_all n).1
def synthesisref01_CompareAll (n : Nat) : (List Va) → (List Va) → Option (Int) := (synthesisref01_Compare_all n).2
theorem synthesisref01_Compare_all_ok : ∀ n : Nat, (∀ (x0 : Va) (x1 : Va) r, synthesisref01_Compare n x0 x1 = some r → PCall Try.prog 162 [eVa x0, eVa x1] (eI (r))) ∧ (∀ (x0 : List Va) (x1 : List Va) r, synthesisref01_CompareAll n x0 x1 = some r → PCall Try.prog 186 [(eL 4 eVaR) x0, (eL 4 eVaR) x1] (eI (r)))
  | 0 => ⟨(fun _ _ _ h => nomatch h), (fun _ _ _ h => nomatch h)⟩
  | n + 1 => ⟨(synthesisref01_Compare_b_ok _ _ ((synthesisref01_Compare_all_ok n).1) ((synthesisref01_Compare_all_ok n).2)), (synthesisref01_CompareAll_b_ok _ _ ((synthesisref01_Compare_all_ok n).1) ((synthesisref01_Compare_all_ok n).2))⟩
theorem synthesisref01_Compare_ok (n : Nat) : ∀ (x0 : Va) (x1 : Va) r, synthesisref01_Compare n x0 x1 = some r → PCall Try.prog 162 [eVa x0, eVa x1] (eI (r)) := (synthesisref01_Compare_all_ok n).1
theorem synthesisref01_CompareAll_ok (n : Nat) : ∀ (x0 : List Va) (x1 : List Va) r, synthesisref01_CompareAll n x0 x1 = some r → PCall Try.prog 186 [(eL 4 eVaR) x0, (eL 4 eVaR) x1] (eI (r)) := (synthesisref01_Compare_all_ok n).2

def synthesisref01_Equal (a0 : Va) (a1 : Va) : Option (Bool) := (Option.bind (synthesisref01_Compare fuel (a0) (a1)) fun v1 => (some (v1 == 0)))
theorem synthesisref01_Equal_ok (a0 : Va) (a1 : Va) (r : Bool) (h : synthesisref01_Equal a0 a1 = some r) : PCall Try.prog 127 [eVa a0, eVa a1] (eB (r)) := by
 unfold synthesisref01_Equal at h
 refine pcl [.one .keep] Try.func127 (by kernel_rfl) (by kernel_rfl) (by kernel_rfl) ?_
 refine cl 10 h (synthesisref01_Compare_ok _ _ _) (by kernel_rfl) fun v1 h => ?_
 cases h; exact lq 4 (by kernel_rfl)

def synthesisref01_within (a0 : Int) (a1 : Int) (a2 : Int) : Option (Int) := (Option.bind ((bif (decide (a0 < a1)) then (some (true)) else (some ((decide (a2 < a0))))) : Option ((Bool))) fun (v2 : (Bool)) => (bif v2 then (some 1) else (some 0)))
theorem synthesisref01_within_ok (a0 : Int) (a1 : Int) (a2 : Int) (r : Int) (h : synthesisref01_within a0 a1 a2 = some r) : PCall Try.prog 169 [eI a0, eI a1, eI a2] (eI (r)) := by
 unfold synthesisref01_within at h
 refine pcl [.one .keep] Try.func169 (by kernel_rfl) (by kernel_rfl) (by kernel_rfl) ?_
 refine jn1 6 .normal (fun v2 => ⟨15, [(14, (fB (v2)))], [], [], []⟩) h (by kernel_rfl) (fun v2 h => ?_) fun v2 h => ?_
 ·refine gd 5 h (by kernel_rfl) (fun h => ?_) fun h => ?_
  ·cases h; exact lj 5 (by kernel_rfl)
  cases h; exact lj 5 (by kernel_rfl)
 refine cd 0 h (by kernel_rfl) (fun h => ?_) fun h => ?_
 ·cases h; exact lq 5 (by kernel_rfl)
 cases h; exact lq 6 (by kernel_rfl)

def synthesisref01_plain_l1 (a0 : ByteArray) (v3 : (Int)) : Option (((Int)) ⊕ (((Unit) ⊕ (Int)))) := (bif (decide (v3 < (a0.size : Int))) then (Option.bind ((Option.bind (byt a0 v3) fun v4 => (bif (decide (v4 < 32)) then (some (true)) else (Option.bind (byt a0 v3) fun v5 => (some ((decide (126 < v5))))))) : Option ((Bool))) fun (v7 : (Bool)) => (bif v7 then (some (.inr (.inr 1))) else (some (.inl ((w64 (v3 + 1))))))) else (some (.inr (.inl ()))))
def synthesisref01_plain (a0 : ByteArray) (a1 : Int) (a2 : Int) : Option (Int) := (Option.bind ((bif (decide ((a0.size : Int) < a1)) then (some (true)) else (some ((decide (a2 < (a0.size : Int)))))) : Option ((Bool))) fun (v2 : (Bool)) => (bif v2 then (some 2) else (Option.bind (loopN (synthesisref01_plain_l1 a0) fuel (0)) fun (v8 : ((Unit) ⊕ (Int))) => Sum.elim (fun v9 => (some 0)) (fun v10 => (some v10)) v8)))
theorem synthesisref01_plain_ok (a0 : ByteArray) (a1 : Int) (a2 : Int) (r : Int) (h : synthesisref01_plain a0 a1 a2 = some r) : PCall Try.prog 170 [eS a0, eI a1, eI a2] (eI (r)) := by
 unfold synthesisref01_plain at h
 refine pcl [.one .keep] Try.func170 (by kernel_rfl) (by kernel_rfl) (by kernel_rfl) ?_
 refine jn1 6 .normal (fun v2 => ⟨34, [(0, (fS (a0))), (17, (fB (v2)))], [], [], []⟩) h (by kernel_rfl) (fun v2 h => ?_) fun v2 h => ?_
 ·refine gd 6 h (by kernel_rfl) (fun h => ?_) fun h => ?_
  ·cases h; exact lj 6 (by kernel_rfl)
  cases h; exact lj 6 (by kernel_rfl)
 refine cd 0 h (by kernel_rfl) (fun h => ?_) fun h => ?_
 ·cases h; exact lq 5 (by kernel_rfl)
 refine lpx 7 (fun v3 => ⟨34, [(0, (fS (a0))), (7, (fI (v3)))], [], [], []⟩) (fun v8 e st => Sum.elim (fun p => e = .exit 0 ∧ LeSt st ⟨34, [], [], [], []⟩) (fun p => e = .ret ∧ retX TT st Try.f170.results.toList [.one .keep] = some (eI (p))) v8) h (by kernel_rfl) (le_a (by kernel_rfl)) (fun v3 r h => ?_) fun v8 h e st' hq => ?_
 ·unfold synthesisref01_plain_l1 at h
  refine cd 8 h (by kernel_rfl) (fun h => ?_) fun h => ?_
  ·refine jn1 4 .normal (fun v7 => ⟨34, [(0, (fS (a0))), (7, (fI (v3))), (33, (fB (v7)))], [], [], []⟩) h (by kernel_rfl) (fun v7 h => ?_) fun v7 h => ?_
   ·refine byx 3 h (by kernel_rfl) fun v4 h => ?_
    refine gd 2 h (by kernel_rfl) (fun h => ?_) fun h => ?_
    ·cases h; exact lj 6 (by kernel_rfl)
    refine byx 2 h (by kernel_rfl) fun v5 h => ?_
    cases h; exact lj 3 (by kernel_rfl)
   refine cd 0 h (by kernel_rfl) (fun h => ?_) fun h => ?_
   ·cases h; exact lor 5 (by kernel_rfl)
   cases h; exact lj 6 (by kernel_rfl)
  cases h; exact lo 1 (by kernel_rfl)
 rcases v8 with v9 | v10
 ·try simp only [Sum.elim_inl, Sum.elim_inr] at h
  obtain ⟨rfl, hle⟩ := hq
  refine ⟨_, hle, ?_⟩
  cases h; exact lq 5 (by kernel_rfl)
 ·try simp only [Sum.elim_inl, Sum.elim_inr] at h
  obtain ⟨rfl, hret⟩ := hq
  refine ⟨_, LeSt.refl, ?_⟩
  cases h; exact lv hret

def synthesisref01_Check_m0 (a0 : Va) : List (Nat × AObj) := [(1, (.box 65 [(fI (a0.type)), (fI (a0.num)), (fS (a0.text)), (.fz ((eL 4 eVaR) (a0.items)))]))]
def synthesisref01_Check_b (r131 : (Va) → Option (Int)) (r171 : (List Va) → (Int) → Option (Int)) (r172 : (List Va) → Option (Int)) (a0 : Va) : Option (Int) := (Option.bind ((bif (decide (a0.type < 1)) then (some (true)) else (some ((decide (8 < a0.type))))) : Option ((Bool))) fun (v2 : (Bool)) => (bif v2 then (some 3) else (Option.bind ((bif (a0.type == 1) then (some (true)) else (bif (a0.type == 2) then (some (true)) else (some ((a0.type == 4))))) : Option ((Bool))) fun (v4 : (Bool)) => (Option.bind ((bif (a0.type == 3) then (some (true)) else (some ((a0.type == 8)))) : Option ((Bool))) fun (v6 : (Bool)) => (Option.bind ((bif (!v4) then (bif (a0.num != 0) then (some (true)) else (bif (!v6) then (bif (!(a0.text.toList == (⟨#[]⟩ : ByteArray).toList)) then (some (true)) else (bif v4 then (some ((decide (0 < (List.length a0.items : Int))))) else (bif v6 then (some ((decide (0 < (List.length a0.items : Int))))) else (some (false))))) else (bif v4 then (some ((decide (0 < (List.length a0.items : Int))))) else (bif v6 then (some ((decide (0 < (List.length a0.items : Int))))) else (some (false)))))) else (bif (!v6) then (bif (!(a0.text.toList == (⟨#[]⟩ : ByteArray).toList)) then (some (true)) else (bif v4 then (some ((decide (0 < (List.length a0.items : Int))))) else (bif v6 then (some ((decide (0 < (List.length a0.items : Int))))) else (some (false))))) else (bif v4 then (some ((decide (0 < (List.length a0.items : Int))))) else (bif v6 then (some ((decide (0 < (List.length a0.items : Int))))) else (some (false)))))) : Option ((Bool))) fun (v8 : (Bool)) => (bif v8 then (some 4) else (bif (a0.type == 1) then (Option.bind (synthesisref01_within (a0.num) (0) (1)) fun v9 => (some v9)) else (bif (a0.type == 2) then (Option.bind (synthesisref01_within (a0.num) ((-1000000)) (1000000)) fun v10 => (some v10)) else (bif (a0.type == 4) then (Option.bind (synthesisref01_within (a0.num) (0) (255)) fun v11 => (some v11)) else (bif (a0.type == 3) then (Option.bind (synthesisref01_plain (a0.text) (0) (64)) fun v12 => (some v12)) else (bif (a0.type == 8) then (Option.bind (synthesisref01_plain (a0.text) (1) (40)) fun v13 => (some v13)) else (bif (a0.type == 5) then (Option.bind (r171 (a0.items) (2)) fun v14 => (some v14)) else (bif (a0.type == 6) then (Option.bind (r171 (a0.items) (3)) fun v15 => (some v15)) else (Option.bind (r172 (a0.items)) fun v16 => (some v16)))))))))))))))
theorem synthesisref01_Check_b_ok (r131 : (Va) → Option (Int)) (r171 : (List Va) → (Int) → Option (Int)) (r172 : (List Va) → Option (Int)) (ih131 : ∀ (x0 : Va) r, r131 x0 = some r → PCall Try.prog 131 [eVa x0] (eI (r))) (ih171 : ∀ (x0 : List Va) (x1 : Int) r, r171 x0 x1 = some r → PCall Try.prog 171 [(eL 4 eVaR) x0, eI x1] (eI (r))) (ih172 : ∀ (x0 : List Va) r, r172 x0 = some r → PCall Try.prog 172 [(eL 4 eVaR) x0] (eI (r))) (a0 : Va) (r : Int) (h : synthesisref01_Check_b r131 r171 r172 a0 = some r) : PCall Try.prog 131 [eVa a0] (eI (r)) := by
 unfold synthesisref01_Check_b at h
 refine pcl [.one .keep] Try.func131 (by kernel_rfl) (by kernel_rfl) (by kernel_rfl) ?_
 refine jn1 7 .normal (fun v2 => ⟨102, [(1, (.ref 1 0 0)), (12, (fB (v2)))], (synthesisref01_Check_m0 a0), [1], []⟩) h (by kernel_rfl) (fun v2 h => ?_) fun v2 h => ?_
 ·refine gd 5 h (by kernel_rfl) (fun h => ?_) fun h => ?_
  ·cases h; exact lj 5 (by kernel_rfl)
  cases h; exact lj 5 (by kernel_rfl)
 refine cd 0 h (by kernel_rfl) (fun h => ?_) fun h => ?_
 ·cases h; exact lq 5 (by kernel_rfl)
 refine jn1 2 .normal (fun v4 => ⟨102, [(1, (.ref 1 0 0)), (3, (fB (v4)))], (synthesisref01_Check_m0 a0), [1], []⟩) h (by kernel_rfl) (fun v4 h => ?_) fun v4 h => ?_
 ·refine gd 5 h (by kernel_rfl) (fun h => ?_) fun h => ?_
  ·cases h; exact lj 11 (by kernel_rfl)
  refine gd 5 h (by kernel_rfl) (fun h => ?_) fun h => ?_
  ·cases h; exact lj 6 (by kernel_rfl)
  cases h; exact lj 6 (by kernel_rfl)
 refine jn1 1 .normal (fun v6 => ⟨102, [(1, (.ref 1 0 0)), (3, (fB (v4))), (4, (fB (v6)))], (synthesisref01_Check_m0 a0), [1], []⟩) h (by kernel_rfl) (fun v6 h => ?_) fun v6 h => ?_
 ·refine gd 5 h (by kernel_rfl) (fun h => ?_) fun h => ?_
  ·cases h; exact lj 6 (by kernel_rfl)
  cases h; exact lj 6 (by kernel_rfl)
 refine jn1 2 .normal (fun v8 => ⟨102, [(1, (.ref 1 0 0)), (61, (fB (v8)))], (synthesisref01_Check_m0 a0), [1], []⟩) h (by kernel_rfl) (fun v8 h => ?_) fun v8 h => ?_
 ·refine gd 4 h (by kernel_rfl) (fun h => ?_) fun h => ?_
  ·refine gd 5 h (by kernel_rfl) (fun h => ?_) fun h => ?_
   ·cases h; exact lj 21 (by kernel_rfl)
   refine gd 3 h (by kernel_rfl) (fun h => ?_) fun h => ?_
   ·refine gd 6 h (by kernel_rfl) (fun h => ?_) fun h => ?_
    ·cases h; exact lj 12 (by kernel_rfl)
    refine gd 2 h (by kernel_rfl) (fun h => ?_) fun h => ?_
    ·cases h; exact lj 10 (by kernel_rfl)
    refine gd 3 h (by kernel_rfl) (fun h => ?_) fun h => ?_
    ·cases h; exact lj 7 (by kernel_rfl)
    cases h; exact lj 7 (by kernel_rfl)
   refine gd 8 h (by kernel_rfl) (fun h => ?_) fun h => ?_
   ·cases h; exact lj 10 (by kernel_rfl)
   refine gd 3 h (by kernel_rfl) (fun h => ?_) fun h => ?_
   ·cases h; exact lj 7 (by kernel_rfl)
   cases h; exact lj 7 (by kernel_rfl)
  refine gd 8 h (by kernel_rfl) (fun h => ?_) fun h => ?_
  ·refine gd 6 h (by kernel_rfl) (fun h => ?_) fun h => ?_
   ·cases h; exact lj 12 (by kernel_rfl)
   refine gd 2 h (by kernel_rfl) (fun h => ?_) fun h => ?_
   ·cases h; exact lj 10 (by kernel_rfl)
   refine gd 3 h (by kernel_rfl) (fun h => ?_) fun h => ?_
   ·cases h; exact lj 7 (by kernel_rfl)
   cases h; exact lj 7 (by kernel_rfl)
  refine gd 8 h (by kernel_rfl) (fun h => ?_) fun h => ?_
  ·cases h; exact lj 10 (by kernel_rfl)
  refine gd 3 h (by kernel_rfl) (fun h => ?_) fun h => ?_
  ·cases h; exact lj 7 (by kernel_rfl)
  cases h; exact lj 7 (by kernel_rfl)
 refine cd 0 h (by kernel_rfl) (fun h => ?_) fun h => ?_
 ·cases h; exact lq 5 (by kernel_rfl)
 refine cd 13 h (by kernel_rfl) (fun h => ?_) fun h => ?_
 ·refine cl 4 h (synthesisref01_within_ok _ _ _) (by kernel_rfl) fun v9 h => ?_
  cases h; exact lq 3 (by kernel_rfl)
 refine cd 5 h (by kernel_rfl) (fun h => ?_) fun h => ?_
 ·refine cl 4 h (synthesisref01_within_ok _ _ _) (by kernel_rfl) fun v10 h => ?_
  cases h; exact lq 3 (by kernel_rfl)
 refine cd 5 h (by kernel_rfl) (fun h => ?_) fun h => ?_
 ·refine cl 4 h (synthesisref01_within_ok _ _ _) (by kernel_rfl) fun v11 h => ?_
  cases h; exact lq 3 (by kernel_rfl)
 refine cd 5 h (by kernel_rfl) (fun h => ?_) fun h => ?_
 ·refine cl 4 h (synthesisref01_plain_ok _ _ _) (by kernel_rfl) fun v12 h => ?_
  cases h; exact lq 3 (by kernel_rfl)
 refine cd 5 h (by kernel_rfl) (fun h => ?_) fun h => ?_
 ·refine cl 4 h (synthesisref01_plain_ok _ _ _) (by kernel_rfl) fun v13 h => ?_
  cases h; exact lq 3 (by kernel_rfl)
 refine cd 5 h (by kernel_rfl) (fun h => ?_) fun h => ?_
 ·refine cl 4 h (ih171 _ _) (by kernel_rfl) fun v14 h => ?_
  cases h; exact lq 3 (by kernel_rfl)
 refine cd 5 h (by kernel_rfl) (fun h => ?_) fun h => ?_
 ·refine cl 4 h (ih171 _ _) (by kernel_rfl) fun v15 h => ?_
  cases h; exact lq 3 (by kernel_rfl)
 refine cl 5 h (ih172 _) (by kernel_rfl) fun v16 h => ?_
 cases h; exact lq 3 (by kernel_rfl)
def synthesisref01_elements_l1 (a0 : List Va) (a1 : Int) (r131 : (Va) → Option (Int)) (v1 : (Int)) : Option (((Int)) ⊕ (((Unit) ⊕ (Int)))) := (bif (decide (v1 < (List.length a0 : Int))) then (Option.bind (idx a0 v1) fun v2 => (bif (v2.type != a1) then (some (.inr (.inr 3))) else (Option.bind (idx a0 v1) fun v3 => (Option.bind (r131 (v3)) fun v4 => (bif (v4 != 0) then (some (.inr (.inr v4))) else (some (.inl ((w64 (v1 + 1)))))))))) else (some (.inr (.inl ()))))
def synthesisref01_elements_b (r131 : (Va) → Option (Int)) (r171 : (List Va) → (Int) → Option (Int)) (r172 : (List Va) → Option (Int)) (a0 : List Va) (a1 : Int) : Option (Int) := (bif (decide (16 < (List.length a0 : Int))) then (some 2) else (Option.bind (loopN (synthesisref01_elements_l1 a0 a1 r131) fuel (0)) fun (v5 : ((Unit) ⊕ (Int))) => Sum.elim (fun v6 => (some 0)) (fun v7 => (some v7)) v5))
theorem synthesisref01_elements_b_ok (r131 : (Va) → Option (Int)) (r171 : (List Va) → (Int) → Option (Int)) (r172 : (List Va) → Option (Int)) (ih131 : ∀ (x0 : Va) r, r131 x0 = some r → PCall Try.prog 131 [eVa x0] (eI (r))) (ih171 : ∀ (x0 : List Va) (x1 : Int) r, r171 x0 x1 = some r → PCall Try.prog 171 [(eL 4 eVaR) x0, eI x1] (eI (r))) (ih172 : ∀ (x0 : List Va) r, r172 x0 = some r → PCall Try.prog 172 [(eL 4 eVaR) x0] (eI (r))) (a0 : List Va) (a1 : Int) (r : Int) (h : synthesisref01_elements_b r131 r171 r172 a0 a1 = some r) : PCall Try.prog 171 [(eL 4 eVaR) a0, eI a1] (eI (r)) := by
 unfold synthesisref01_elements_b at h
 refine pcl [.one .keep] Try.func171 (by kernel_rfl) (by kernel_rfl) (by kernel_rfl) ?_
 refine cd 11 h (by kernel_rfl) (fun h => ?_) fun h => ?_
 ·cases h; exact lq 5 (by kernel_rfl)
 refine lpx 7 (fun v1 => ⟨31, [(0, (.fz ((eL 4 eVaR) (a0)))), (1, (fI (a1))), (5, (fI (v1)))], [], [], []⟩) (fun v5 e st => Sum.elim (fun p => e = .exit 0 ∧ LeSt st ⟨31, [], [], [], []⟩) (fun p => e = .ret ∧ retX TT st Try.f171.results.toList [.one .keep] = some (eI (p))) v5) h (by kernel_rfl) (le_a (by kernel_rfl)) (fun v1 r h => ?_) fun v5 h e st' hq => ?_
 ·unfold synthesisref01_elements_l1 at h
  refine cd 8 h (by kernel_rfl) (fun h => ?_) fun h => ?_
  ·refine ix nVaR 8 h (by kernel_rfl) fun v2 h => ?_
   refine cd 5 h (by kernel_rfl) (fun h => ?_) fun h => ?_
   ·cases h; exact lor 5 (by kernel_rfl)
   refine ix nVaR 5 h (by kernel_rfl) fun v3 h => ?_
   refine cl 1 h (ih131 _) (by kernel_rfl) fun v4 h => ?_
   refine cd 7 h (by kernel_rfl) (fun h => ?_) fun h => ?_
   ·cases h; exact lor 6 (by kernel_rfl)
   cases h; exact lj 6 (by kernel_rfl)
  cases h; exact lo 1 (by kernel_rfl)
 rcases v5 with v6 | v7
 ·try simp only [Sum.elim_inl, Sum.elim_inr] at h
  obtain ⟨rfl, hle⟩ := hq
  refine ⟨_, hle, ?_⟩
  cases h; exact lq 5 (by kernel_rfl)
 ·try simp only [Sum.elim_inl, Sum.elim_inr] at h
  obtain ⟨rfl, hret⟩ := hq
  refine ⟨_, LeSt.refl, ?_⟩
  cases h; exact lv hret
def synthesisref01_rows_l1 (a0 : List Va) (r131 : (Va) → Option (Int)) (v1 : (Int)) : Option (((Int)) ⊕ (((Unit) ⊕ (Int)))) := (bif (decide (v1 < (List.length a0 : Int))) then (Option.bind (idx a0 v1) fun v2 => (bif (v2.type != 6) then (some (.inr (.inr 3))) else (Option.bind (idx a0 v1) fun v3 => (Option.bind ((bif (decide ((List.length v3.items : Int) < 1)) then (some (true)) else (bif (decide (8 < (List.length v3.items : Int))) then (some (true)) else (Option.bind (idx a0 0) fun v4 => (some (((List.length v3.items : Int) != (List.length v4.items : Int))))))) : Option ((Bool))) fun (v6 : (Bool)) => (bif v6 then (some (.inr (.inr 2))) else (Option.bind (idx a0 v1) fun v7 => (Option.bind (r131 (v7)) fun v8 => (bif (v8 != 0) then (some (.inr (.inr v8))) else (some (.inl ((w64 (v1 + 1))))))))))))) else (some (.inr (.inl ()))))
def synthesisref01_rows_b (r131 : (Va) → Option (Int)) (r171 : (List Va) → (Int) → Option (Int)) (r172 : (List Va) → Option (Int)) (a0 : List Va) : Option (Int) := (bif (decide (8 < (List.length a0 : Int))) then (some 2) else (Option.bind (loopN (synthesisref01_rows_l1 a0 r131) fuel (0)) fun (v9 : ((Unit) ⊕ (Int))) => Sum.elim (fun v10 => (some 0)) (fun v11 => (some v11)) v9))
theorem synthesisref01_rows_b_ok (r131 : (Va) → Option (Int)) (r171 : (List Va) → (Int) → Option (Int)) (r172 : (List Va) → Option (Int)) (ih131 : ∀ (x0 : Va) r, r131 x0 = some r → PCall Try.prog 131 [eVa x0] (eI (r))) (ih171 : ∀ (x0 : List Va) (x1 : Int) r, r171 x0 x1 = some r → PCall Try.prog 171 [(eL 4 eVaR) x0, eI x1] (eI (r))) (ih172 : ∀ (x0 : List Va) r, r172 x0 = some r → PCall Try.prog 172 [(eL 4 eVaR) x0] (eI (r))) (a0 : List Va) (r : Int) (h : synthesisref01_rows_b r131 r171 r172 a0 = some r) : PCall Try.prog 172 [(eL 4 eVaR) a0] (eI (r)) := by
 unfold synthesisref01_rows_b at h
 refine pcl [.one .keep] Try.func172 (by kernel_rfl) (by kernel_rfl) (by kernel_rfl) ?_
 refine cd 11 h (by kernel_rfl) (fun h => ?_) fun h => ?_
 ·cases h; exact lq 5 (by kernel_rfl)
 refine lpx 7 (fun v1 => ⟨50, [(0, (.fz ((eL 4 eVaR) (a0)))), (3, (fI (v1)))], [], [], []⟩) (fun v9 e st => Sum.elim (fun p => e = .exit 0 ∧ LeSt st ⟨50, [], [], [], []⟩) (fun p => e = .ret ∧ retX TT st Try.f172.results.toList [.one .keep] = some (eI (p))) v9) h (by kernel_rfl) (le_a (by kernel_rfl)) (fun v1 r h => ?_) fun v9 h e st' hq => ?_
 ·unfold synthesisref01_rows_l1 at h
  refine cd 8 h (by kernel_rfl) (fun h => ?_) fun h => ?_
  ·refine ix nVaR 8 h (by kernel_rfl) fun v2 h => ?_
   refine cd 4 h (by kernel_rfl) (fun h => ?_) fun h => ?_
   ·cases h; exact lor 5 (by kernel_rfl)
   refine ix nVaR 6 h (by kernel_rfl) fun v3 h => ?_
   refine jn1 6 .normal (fun v6 => ⟨50, [(0, (.fz ((eL 4 eVaR) (a0)))), (3, (fI (v1))), (41, (fB (v6)))], [], [], []⟩) h (by kernel_rfl) (fun v6 h => ?_) fun v6 h => ?_
   ·refine gd 4 h (by kernel_rfl) (fun h => ?_) fun h => ?_
    ·cases h; exact lj 13 (by kernel_rfl)
    refine gd 4 h (by kernel_rfl) (fun h => ?_) fun h => ?_
    ·cases h; exact lj 9 (by kernel_rfl)
    refine ix nVaR 2 h (by kernel_rfl) fun v4 h => ?_
    cases h; exact lj 6 (by kernel_rfl)
   refine cd 0 h (by kernel_rfl) (fun h => ?_) fun h => ?_
   ·cases h; exact lor 5 (by kernel_rfl)
   refine ix nVaR 5 h (by kernel_rfl) fun v7 h => ?_
   refine cl 1 h (ih131 _) (by kernel_rfl) fun v8 h => ?_
   refine cd 7 h (by kernel_rfl) (fun h => ?_) fun h => ?_
   ·cases h; exact lor 6 (by kernel_rfl)
   cases h; exact lj 6 (by kernel_rfl)
  cases h; exact lo 1 (by kernel_rfl)
 rcases v9 with v10 | v11
 ·try simp only [Sum.elim_inl, Sum.elim_inr] at h
  obtain ⟨rfl, hle⟩ := hq
  refine ⟨_, hle, ?_⟩
  cases h; exact lq 5 (by kernel_rfl)
 ·try simp only [Sum.elim_inl, Sum.elim_inr] at h
  obtain ⟨rfl, hret⟩ := hq
  refine ⟨_, LeSt.refl, ?_⟩
  cases h; exact lv hret
def synthesisref01_Check_all : Nat → ((Va) → Option (Int)) × ((List Va) → (Int) → Option (Int)) × ((List Va) → Option (Int))
  | 0 => (fun _ => none, fun _ _ => none, fun _ => none)
  | n + 1 => (synthesisref01_Check_b ((synthesisref01_Check_all n).1) ((synthesisref01_Check_all n).2.1) ((synthesisref01_Check_all n).2.2), synthesisref01_elements_b ((synthesisref01_Check_all n).1) ((synthesisref01_Check_all n).2.1) ((synthesisref01_Check_all n).2.2), synthesisref01_rows_b ((synthesisref01_Check_all n).1) ((synthesisref01_Check_all n).2.1) ((synthesisref01_Check_all n).2.2))
def synthesisref01_Check (n : Nat) : (Va) → Option (Int) := (synthesisref01_Check_all n).1
def synthesisref01_elements (n : Nat) : (List Va) → (Int) → Option (Int) := (synthesisref01_Check_all n).2.1
def synthesisref01_rows (n : Nat) : (List Va) → Option (Int) := (synthesisref01_Check_all n).2.2
theorem synthesisref01_Check_all_ok : ∀ n : Nat, (∀ (x0 : Va) r, synthesisref01_Check n x0 = some r → PCall Try.prog 131 [eVa x0] (eI (r))) ∧ (∀ (x0 : List Va) (x1 : Int) r, synthesisref01_elements n x0 x1 = some r → PCall Try.prog 171 [(eL 4 eVaR) x0, eI x1] (eI (r))) ∧ (∀ (x0 : List Va) r, synthesisref01_rows n x0 = some r → PCall Try.prog 172 [(eL 4 eVaR) x0] (eI (r)))
  | 0 => ⟨(fun _ _ h => nomatch h), (fun _ _ _ h => nomatch h), (fun _ _ h => nomatch h)⟩
  | n + 1 => ⟨(synthesisref01_Check_b_ok _ _ _ ((synthesisref01_Check_all_ok n).1) ((synthesisref01_Check_all_ok n).2.1) ((synthesisref01_Check_all_ok n).2.2)), (synthesisref01_elements_b_ok _ _ _ ((synthesisref01_Check_all_ok n).1) ((synthesisref01_Check_all_ok n).2.1) ((synthesisref01_Check_all_ok n).2.2)), (synthesisref01_rows_b_ok _ _ _ ((synthesisref01_Check_all_ok n).1) ((synthesisref01_Check_all_ok n).2.1) ((synthesisref01_Check_all_ok n).2.2))⟩
theorem synthesisref01_Check_ok (n : Nat) : ∀ (x0 : Va) r, synthesisref01_Check n x0 = some r → PCall Try.prog 131 [eVa x0] (eI (r)) := (synthesisref01_Check_all_ok n).1
theorem synthesisref01_elements_ok (n : Nat) : ∀ (x0 : List Va) (x1 : Int) r, synthesisref01_elements n x0 x1 = some r → PCall Try.prog 171 [(eL 4 eVaR) x0, eI x1] (eI (r)) := (synthesisref01_Check_all_ok n).2.1
theorem synthesisref01_rows_ok (n : Nat) : ∀ (x0 : List Va) r, synthesisref01_rows n x0 = some r → PCall Try.prog 172 [(eL 4 eVaR) x0] (eI (r)) := (synthesisref01_Check_all_ok n).2.2

def synthesisref11_SameInts_l1 (a0 : List Int) (a1 : List Int) (v1 : (Int)) : Option (((Int)) ⊕ (((Unit) ⊕ (Bool)))) := (bif (decide (v1 < (List.length a0 : Int))) then (Option.bind (idx a0 v1) fun v2 => (Option.bind (idx a1 v1) fun v3 => (bif (v2 != v3) then (some (.inr (.inr false))) else (some (.inl ((w64 (v1 + 1)))))))) else (some (.inr (.inl ()))))
def synthesisref11_SameInts (a0 : List Int) (a1 : List Int) : Option (Bool) := (bif ((List.length a0 : Int) != (List.length a1 : Int)) then (some false) else (Option.bind (loopN (synthesisref11_SameInts_l1 a0 a1) fuel (0)) fun (v4 : ((Unit) ⊕ (Bool))) => Sum.elim (fun v5 => (some true)) (fun v6 => (some v6)) v4))
theorem synthesisref11_SameInts_ok (a0 : List Int) (a1 : List Int) (r : Bool) (h : synthesisref11_SameInts a0 a1 = some r) : PCall Try.prog 60 [(eL 1 eI) a0, (eL 1 eI) a1] (eB (r)) := by
 unfold synthesisref11_SameInts at h
 refine pcl [.one .keep] Try.func60 (by kernel_rfl) (by kernel_rfl) (by kernel_rfl) ?_
 refine cd 13 h (by kernel_rfl) (fun h => ?_) fun h => ?_
 ·cases h; exact lq 5 (by kernel_rfl)
 refine lpx 7 (fun v1 => ⟨26, [(0, (.fz ((eL 1 eI) (a0)))), (1, (.fz ((eL 1 eI) (a1)))), (5, (fI (v1)))], [], [], []⟩) (fun v4 e st => Sum.elim (fun p => e = .exit 0 ∧ LeSt st ⟨26, [], [], [], []⟩) (fun p => e = .ret ∧ retX TT st Try.f60.results.toList [.one .keep] = some (eB (p))) v4) h (by kernel_rfl) (le_a (by kernel_rfl)) (fun v1 r h => ?_) fun v4 h e st' hq => ?_
 ·unfold synthesisref11_SameInts_l1 at h
  refine cd 8 h (by kernel_rfl) (fun h => ?_) fun h => ?_
  ·refine dw 4 8 (by kernel_rfl) ?_
   refine ix nI 2 h (by kernel_rfl) fun v2 h => ?_
   refine ix nI 3 h (by kernel_rfl) fun v3 h => ?_
   refine cd 4 h (by kernel_rfl) (fun h => ?_) fun h => ?_
   ·cases h; exact lor 5 (by kernel_rfl)
   cases h; exact lj 6 (by kernel_rfl)
  cases h; exact lo 1 (by kernel_rfl)
 rcases v4 with v5 | v6
 ·try simp only [Sum.elim_inl, Sum.elim_inr] at h
  obtain ⟨rfl, hle⟩ := hq
  refine ⟨_, hle, ?_⟩
  cases h; exact lq 5 (by kernel_rfl)
 ·try simp only [Sum.elim_inl, Sum.elim_inr] at h
  obtain ⟨rfl, hret⟩ := hq
  refine ⟨_, LeSt.refl, ?_⟩
  cases h; exact lv hret

def synthesisref11_SameRule (a0 : Ru) (a1 : Ru) : Option (Bool) := (Option.bind ((bif (a0.symbol == a1.symbol) then (bif (a0.kind == a1.kind) then (bif (a0.input == a1.input) then (bif (a0.op.toList == a1.op.toList) then (Option.bind (synthesisref11_SameInts (a0.args) (a1.args)) fun v1 => (bif v1 then (Option.bind (synthesisref01_Equal (a0.const) (a1.const)) fun v2 => (some (v2))) else (some (false)))) else (some (false))) else (some (false))) else (some (false))) else (some (false))) : Option ((Bool))) fun (v4 : (Bool)) => (some v4))
theorem synthesisref11_SameRule_ok (a0 : Ru) (a1 : Ru) (r : Bool) (h : synthesisref11_SameRule a0 a1 = some r) : PCall Try.prog 61 [eRu a0, eRu a1] (eB (r)) := by
 unfold synthesisref11_SameRule at h
 refine pcl [.one .keep] Try.func61 (by kernel_rfl) (by kernel_rfl) (by kernel_rfl) ?_
 refine jn1 7 .normal (fun v4 => ⟨45, [(4, (fB (v4)))], [], [], []⟩) h (by kernel_rfl) (fun v4 h => ?_) fun v4 h => ?_
 ·refine gd 7 h (by kernel_rfl) (fun h => ?_) fun h => ?_
  ·refine gd 7 h (by kernel_rfl) (fun h => ?_) fun h => ?_
   ·refine gd 7 h (by kernel_rfl) (fun h => ?_) fun h => ?_
    ·refine gd 7 h (by kernel_rfl) (fun h => ?_) fun h => ?_
     ·refine cl 4 h (synthesisref11_SameInts_ok _ _) (by kernel_rfl) fun v1 h => ?_
      refine gd 2 h (by kernel_rfl) (fun h => ?_) fun h => ?_
      ·refine cl 4 h (synthesisref01_Equal_ok _ _) (by kernel_rfl) fun v2 h => ?_
       cases h; exact lj 3 (by kernel_rfl)
      cases h; exact lj 8 (by kernel_rfl)
     cases h; exact lj 15 (by kernel_rfl)
    cases h; exact lj 22 (by kernel_rfl)
   cases h; exact lj 29 (by kernel_rfl)
  cases h; exact lj 36 (by kernel_rfl)
 cases h; exact lq 1 (by kernel_rfl)

def synthesisref01_Count_l1 (a0 : List Va) (a1 : Int) (r140 : (List Va) → (Int) → Option (Int)) (v1 : (Int) × (Int)) : Option (((Int) × (Int)) ⊕ ((Int))) := (Option.bind ((bif (decide (v1.2 < (List.length a0 : Int))) then (some ((decide (v1.1 ≤ a1)))) else (some (false))) : Option ((Bool))) fun (v3 : (Bool)) => (bif v3 then (Option.bind (idx a0 v1.2) fun v4 => (Option.bind (r140 (v4.items) ((w64 (a1 - v1.1)))) fun v5 => (some (.inl ((w64 (v1.1 + (w64 (1 + v5)))), (w64 (v1.2 + 1))))))) else (some (.inr (v1.1)))))
def synthesisref01_Count_b (r140 : (List Va) → (Int) → Option (Int)) (a0 : List Va) (a1 : Int) : Option (Int) := (Option.bind (loopN (synthesisref01_Count_l1 a0 a1 r140) fuel (0, 0)) fun (v7 : (Int)) => (some v7))
theorem synthesisref01_Count_b_ok (r140 : (List Va) → (Int) → Option (Int)) (ih140 : ∀ (x0 : List Va) (x1 : Int) r, r140 x0 x1 = some r → PCall Try.prog 140 [(eL 4 eVaR) x0, eI x1] (eI (r))) (a0 : List Va) (a1 : Int) (r : Int) (h : synthesisref01_Count_b r140 a0 a1 = some r) : PCall Try.prog 140 [(eL 4 eVaR) a0, eI a1] (eI (r)) := by
 unfold synthesisref01_Count_b at h
 refine pcl [.one .keep] Try.func140 (by kernel_rfl) (by kernel_rfl) (by kernel_rfl) ?_
 refine lp1 14 (fun v1 => ⟨31, [(0, (.fz ((eL 4 eVaR) (a0)))), (1, (fI (a1))), (5, (fI (v1.1))), (6, (fI (v1.2)))], [], [], []⟩) (.exit 0) (fun v7 => ⟨31, [(5, (fI (v7)))], [], [], []⟩) h (by kernel_rfl) (by kernel_rfl) (fun v1 r h => ?_) fun v7 h => ?_
 ·unfold synthesisref01_Count_l1 at h
  refine jn1 2 .normal (fun v3 => ⟨31, [(0, (.fz ((eL 4 eVaR) (a0)))), (1, (fI (a1))), (5, (fI (v1.1))), (6, (fI (v1.2))), (15, (fB (v3)))], [], [], []⟩) h (by kernel_rfl) (fun v3 h => ?_) fun v3 h => ?_
  ·refine gd 6 h (by kernel_rfl) (fun h => ?_) fun h => ?_
   ·cases h; exact lj 5 (by kernel_rfl)
   cases h; exact lj 5 (by kernel_rfl)
  refine cd 0 h (by kernel_rfl) (fun h => ?_) fun h => ?_
  ·refine ix nVaR 7 h (by kernel_rfl) fun v4 h => ?_
   refine cl 5 h (ih140 _ _) (by kernel_rfl) fun v5 h => ?_
   cases h; exact lj 9 (by kernel_rfl)
  cases h; exact lo 1 (by kernel_rfl)
 cases h; exact lq 6 (by kernel_rfl)
def synthesisref01_Count : Nat → (List Va) → (Int) → Option (Int)
  | 0 => fun _ _ => none
  | n + 1 => synthesisref01_Count_b (synthesisref01_Count n)
theorem synthesisref01_Count_ok : ∀ (n : Nat) (x0 : List Va) (x1 : Int) r, synthesisref01_Count n x0 x1 = some r → PCall Try.prog 140 [(eL 4 eVaR) x0, eI x1] (eI (r))
  | 0, _, _, _, h => by cases h
  | n + 1, x0, x1, r, h => synthesisref01_Count_b_ok (synthesisref01_Count n) (synthesisref01_Count_ok n) x0 x1 r h

def synthesisref01_shallow_l1 (a0 : Va) (a1 : Int) (r141 : (Va) → (Int) → Option (Bool)) (v3 : (Int)) : Option (((Int)) ⊕ (((Unit) ⊕ (Bool)))) := (bif (decide (v3 < (List.length a0.items : Int))) then (Option.bind (idx a0.items v3) fun v4 => (Option.bind (r141 (v4) ((w64 (a1 - 1)))) fun v5 => (bif (!v5) then (some (.inr (.inr false))) else (some (.inl ((w64 (v3 + 1)))))))) else (some (.inr (.inl ()))))
def synthesisref01_shallow_b (r141 : (Va) → (Int) → Option (Bool)) (a0 : Va) (a1 : Int) : Option (Bool) := (Option.bind ((bif (a1 == 0) then (some (true)) else (some ((decide (100 < (a0.text.size : Int)))))) : Option ((Bool))) fun (v2 : (Bool)) => (bif v2 then (some false) else (Option.bind (loopN (synthesisref01_shallow_l1 a0 a1 r141) fuel (0)) fun (v6 : ((Unit) ⊕ (Bool))) => Sum.elim (fun v7 => (some true)) (fun v8 => (some v8)) v6)))
theorem synthesisref01_shallow_b_ok (r141 : (Va) → (Int) → Option (Bool)) (ih141 : ∀ (x0 : Va) (x1 : Int) r, r141 x0 x1 = some r → PCall Try.prog 141 [eVa x0, eI x1] (eB (r))) (a0 : Va) (a1 : Int) (r : Bool) (h : synthesisref01_shallow_b r141 a0 a1 = some r) : PCall Try.prog 141 [eVa a0, eI a1] (eB (r)) := by
 unfold synthesisref01_shallow_b at h
 refine pcl [.one .keep] Try.func141 (by kernel_rfl) (by kernel_rfl) (by kernel_rfl) ?_
 refine jn1 7 .normal (fun v2 => ⟨30, [(1, (fI (a1))), (2, (.ref 1 0 0)), (13, (fB (v2)))], [(1, (.box 65 [(fI (a0.type)), (fI (a0.num)), (fS (a0.text)), (.fz ((eL 4 eVaR) (a0.items)))]))], [1], []⟩) h (by kernel_rfl) (fun v2 h => ?_) fun v2 h => ?_
 ·refine gd 4 h (by kernel_rfl) (fun h => ?_) fun h => ?_
  ·cases h; exact lj 6 (by kernel_rfl)
  cases h; exact lj 6 (by kernel_rfl)
 refine cd 0 h (by kernel_rfl) (fun h => ?_) fun h => ?_
 ·cases h; exact lq 5 (by kernel_rfl)
 refine lpx 7 (fun v3 => ⟨30, [(1, (fI (a1))), (2, (.ref 1 0 0)), (5, (fI (v3)))], [(1, (.box 65 [(fI (a0.type)), (fI (a0.num)), (fS (a0.text)), (.fz ((eL 4 eVaR) (a0.items)))]))], [1], []⟩) (fun v6 e st => Sum.elim (fun p => e = .exit 0 ∧ LeSt st ⟨30, [], [], [], []⟩) (fun p => e = .ret ∧ retX TT st Try.f141.results.toList [.one .keep] = some (eB (p))) v6) h (by kernel_rfl) (le_a (by kernel_rfl)) (fun v3 r h => ?_) fun v6 h e st' hq => ?_
 ·unfold synthesisref01_shallow_l1 at h
  refine cd 9 h (by kernel_rfl) (fun h => ?_) fun h => ?_
  ·refine ix nVaR 8 h (by kernel_rfl) fun v4 h => ?_
   refine cl 3 h (ih141 _ _) (by kernel_rfl) fun v5 h => ?_
   refine cd 2 h (by kernel_rfl) (fun h => ?_) fun h => ?_
   ·cases h; exact lor 5 (by kernel_rfl)
   cases h; exact lj 6 (by kernel_rfl)
  cases h; exact lo 1 (by kernel_rfl)
 rcases v6 with v7 | v8
 ·try simp only [Sum.elim_inl, Sum.elim_inr] at h
  obtain ⟨rfl, hle⟩ := hq
  refine ⟨_, hle, ?_⟩
  cases h; exact lq 5 (by kernel_rfl)
 ·try simp only [Sum.elim_inl, Sum.elim_inr] at h
  obtain ⟨rfl, hret⟩ := hq
  refine ⟨_, LeSt.refl, ?_⟩
  cases h; exact lv hret
def synthesisref01_shallow : Nat → (Va) → (Int) → Option (Bool)
  | 0 => fun _ _ => none
  | n + 1 => synthesisref01_shallow_b (synthesisref01_shallow n)
theorem synthesisref01_shallow_ok : ∀ (n : Nat) (x0 : Va) (x1 : Int) r, synthesisref01_shallow n x0 x1 = some r → PCall Try.prog 141 [eVa x0, eI x1] (eB (r))
  | 0, _, _, _, h => by cases h
  | n + 1, x0, x1, r, h => synthesisref01_shallow_b_ok (synthesisref01_shallow n) (synthesisref01_shallow_ok n) x0 x1 r h

def synthesisref01_Small (a0 : Va) : Option (Bool) := (Option.bind ((Option.bind (synthesisref01_Count (fuel + depVs (([a0] : List (Va)))) (([a0] : List (Va))) (90)) fun v1 => (bif (decide (v1 ≤ 90)) then (Option.bind (synthesisref01_shallow fuel (a0) (8)) fun v2 => (some (v2))) else (some (false)))) : Option ((Bool))) fun (v4 : (Bool)) => (some v4))
theorem synthesisref01_Small_ok (a0 : Va) (r : Bool) (h : synthesisref01_Small a0 = some r) : PCall Try.prog 83 [eVa a0] (eB (r)) := by
 unfold synthesisref01_Small at h
 refine pcl [.one .keep] Try.func83 (by kernel_rfl) (by kernel_rfl) (by kernel_rfl) ?_
 refine jn1 6 .normal (fun v4 => ⟨11, [(2, (fB (v4)))], [], [], []⟩) h (by kernel_rfl) (fun v4 h => ?_) fun v4 h => ?_
 ·refine wle 3 (le_eq (t := 4) (x := .lim 4 1 [eVa (a0)]) (y := .lim 4 1 (List.map eVaR ([a0] : List (Va)))) (by kernel_rfl) (by simp only [List.map, eVaR_eq])) (by kernel_rfl) ?_
  refine cl 0 h (synthesisref01_Count_ok _ _ _) (by kernel_rfl) fun v1 h => ?_
  refine gd 2 h (by kernel_rfl) (fun h => ?_) fun h => ?_
  ·refine cl 1 h (synthesisref01_shallow_ok _ _ _) (by kernel_rfl) fun v2 h => ?_
   cases h; exact lj 3 (by kernel_rfl)
  cases h; exact lj 5 (by kernel_rfl)
 cases h; exact lq 1 (by kernel_rfl)

def synthesisref13_Few_m0 (a0 : La) : List (Nat × AObj) := [(1, (.box 27 [(fS (a0.name)), (.fz ((eL 1 eI) (a0.inputs))), (.fz ((eL 2 eSy) (a0.symbols))), (.fz ((eL 9 eRu) (a0.rules)))]))]
def synthesisref13_Few_l1 (a0 : La) (v7 : (Int)) : Option (((Int)) ⊕ (((Unit) ⊕ (Bool)))) := (bif (decide (v7 < (List.length a0.rules : Int))) then (Option.bind (idx a0.rules v7) fun v8 => (Option.bind ((Option.bind (synthesisref01_Small (v8.const)) fun v9 => (bif (!v9) then (some (true)) else (bif (decide (40 < (v8.op.size : Int))) then (some (true)) else (some ((decide (6 < (List.length v8.args : Int)))))))) : Option ((Bool))) fun (v11 : (Bool)) => (bif v11 then (some (.inr (.inr false))) else (some (.inl ((w64 (v7 + 1)))))))) else (some (.inr (.inl ()))))
def synthesisref13_Few_l2 (a0 : La) (v3 : (Int)) : Option (((Int)) ⊕ (((Unit) ⊕ (Bool)))) := (bif (decide (v3 < (List.length a0.symbols : Int))) then (Option.bind (idx a0.symbols v3) fun v4 => (bif (decide (40 < (v4.name.size : Int))) then (some (.inr (.inr false))) else (some (.inl ((w64 (v3 + 1))))))) else (some (.inr (.inl ()))))
def synthesisref13_Few (a0 : La) : Option (Bool) := (Option.bind ((bif (decide (40 < (a0.name.size : Int))) then (some (true)) else (bif (decide (6 < (List.length a0.inputs : Int))) then (some (true)) else (bif (decide (18 < (List.length a0.symbols : Int))) then (some (true)) else (some ((decide (30 < (List.length a0.rules : Int)))))))) : Option ((Bool))) fun (v2 : (Bool)) => (bif v2 then (some false) else (Option.bind (loopN (synthesisref13_Few_l2 a0) fuel (0)) fun (v5 : ((Unit) ⊕ (Bool))) => Sum.elim (fun v6 => (Option.bind (loopN (synthesisref13_Few_l1 a0) fuel (0)) fun (v12 : ((Unit) ⊕ (Bool))) => Sum.elim (fun v13 => (some true)) (fun v14 => (some v14)) v12)) (fun v15 => (some v15)) v5)))
theorem synthesisref13_Few_ok (a0 : La) (r : Bool) (h : synthesisref13_Few a0 = some r) : PCall Try.prog 34 [eLa a0] (eB (r)) := by
 unfold synthesisref13_Few at h
 refine pcl [.one .keep] Try.func34 (by kernel_rfl) (by kernel_rfl) (by kernel_rfl) ?_
 refine jn1 7 .normal (fun v2 => ⟨71, [(1, (.ref 1 0 0)), (27, (fB (v2)))], (synthesisref13_Few_m0 a0), [1], []⟩) h (by kernel_rfl) (fun v2 h => ?_) fun v2 h => ?_
 ·refine gd 6 h (by kernel_rfl) (fun h => ?_) fun h => ?_
  ·cases h; exact lj 18 (by kernel_rfl)
  refine gd 6 h (by kernel_rfl) (fun h => ?_) fun h => ?_
  ·cases h; exact lj 12 (by kernel_rfl)
  refine gd 6 h (by kernel_rfl) (fun h => ?_) fun h => ?_
  ·cases h; exact lj 6 (by kernel_rfl)
  cases h; exact lj 6 (by kernel_rfl)
 refine cd 0 h (by kernel_rfl) (fun h => ?_) fun h => ?_
 ·cases h; exact lq 5 (by kernel_rfl)
 refine lpx 7 (fun v3 => ⟨71, [(1, (.ref 1 0 0)), (3, (fI (v3)))], (synthesisref13_Few_m0 a0), [1], []⟩) (fun v5 e st => Sum.elim (fun p => e = .exit 0 ∧ LeSt st ⟨71, [(1, (.ref 1 0 0))], (synthesisref13_Few_m0 a0), [1], []⟩) (fun p => e = .ret ∧ retX TT st Try.f34.results.toList [.one .keep] = some (eB (p))) v5) h (by kernel_rfl) (le_a (by kernel_rfl)) (fun v3 r h => ?_) fun v5 h e st' hq => ?_
 ·unfold synthesisref13_Few_l2 at h
  refine cd 9 h (by kernel_rfl) (fun h => ?_) fun h => ?_
  ·refine ix nSy 8 h (by kernel_rfl) fun v4 h => ?_
   refine cd 5 h (by kernel_rfl) (fun h => ?_) fun h => ?_
   ·cases h; exact lor 5 (by kernel_rfl)
   cases h; exact lj 6 (by kernel_rfl)
  cases h; exact lo 1 (by kernel_rfl)
 rcases v5 with v6 | v15
 ·try simp only [Sum.elim_inl, Sum.elim_inr] at h
  obtain ⟨rfl, hle⟩ := hq
  refine ⟨_, hle, ?_⟩
  refine lpx 6 (fun v7 => ⟨71, [(1, (.ref 1 0 0)), (4, (fI (v7)))], (synthesisref13_Few_m0 a0), [1], []⟩) (fun v12 e st => Sum.elim (fun p => e = .exit 2 ∧ LeSt st ⟨71, [], [], [], []⟩) (fun p => e = .ret ∧ retX TT st Try.f34.results.toList [.one .keep] = some (eB (p))) v12) h (by kernel_rfl) (le_a (by kernel_rfl)) (fun v7 r h => ?_) fun v12 h e st' hq => ?_
  ·unfold synthesisref13_Few_l1 at h
   refine cd 9 h (by kernel_rfl) (fun h => ?_) fun h => ?_
   ·refine ix nRu 8 h (by kernel_rfl) fun v8 h => ?_
    refine jn1 5 .normal (fun v11 => ⟨71, [(1, (.ref 1 0 0)), (4, (fI (v7))), (70, (fB (v11)))], (synthesisref13_Few_m0 a0), [1], []⟩) h (by kernel_rfl) (fun v11 h => ?_) fun v11 h => ?_
    ·refine cl 3 h (synthesisref01_Small_ok _) (by kernel_rfl) fun v9 h => ?_
     refine gd 2 h (by kernel_rfl) (fun h => ?_) fun h => ?_
     ·cases h; exact lj 12 (by kernel_rfl)
     refine gd 6 h (by kernel_rfl) (fun h => ?_) fun h => ?_
     ·cases h; exact lj 6 (by kernel_rfl)
     cases h; exact lj 6 (by kernel_rfl)
    refine cd 0 h (by kernel_rfl) (fun h => ?_) fun h => ?_
    ·cases h; exact lor 5 (by kernel_rfl)
    cases h; exact lj 6 (by kernel_rfl)
   cases h; exact lo 1 (by kernel_rfl)
  rcases v12 with v13 | v14
  ·try simp only [Sum.elim_inl, Sum.elim_inr] at h
   obtain ⟨rfl, hle⟩ := hq
   refine ⟨_, hle, ?_⟩
   cases h; exact lq 5 (by kernel_rfl)
  ·try simp only [Sum.elim_inl, Sum.elim_inr] at h
   obtain ⟨rfl, hret⟩ := hq
   refine ⟨_, LeSt.refl, ?_⟩
   cases h; exact lv hret
 ·try simp only [Sum.elim_inl, Sum.elim_inr] at h
  obtain ⟨rfl, hret⟩ := hq
  refine ⟨_, LeSt.refl, ?_⟩
  cases h; exact lv hret

def synthesisref13_left_l1 (a0 : Tm) (r142 : (Tm) → (Int) → Option (Int)) (v1 : (Int) × (Int)) : Option (((Int) × (Int)) ⊕ ((Int))) := (Option.bind ((bif (decide (v1.2 < (List.length a0.args : Int))) then (some ((decide (0 ≤ v1.1)))) else (some (false))) : Option ((Bool))) fun (v3 : (Bool)) => (bif v3 then (Option.bind (idx a0.args v1.2) fun v4 => (Option.bind (r142 (v4) (v1.1)) fun v5 => (some (.inl (v5, (w64 (v1.2 + 1))))))) else (some (.inr (v1.1)))))
def synthesisref13_left_b (r142 : (Tm) → (Int) → Option (Int)) (a0 : Tm) (a1 : Int) : Option (Int) := (Option.bind (loopN (synthesisref13_left_l1 a0 r142) fuel ((w64 (a1 - 1)), 0)) fun (v7 : (Int)) => (some v7))
theorem synthesisref13_left_b_ok (r142 : (Tm) → (Int) → Option (Int)) (ih142 : ∀ (x0 : Tm) (x1 : Int) r, r142 x0 x1 = some r → PCall Try.prog 142 [eTm x0, eI x1] (eI (r))) (a0 : Tm) (a1 : Int) (r : Int) (h : synthesisref13_left_b r142 a0 a1 = some r) : PCall Try.prog 142 [eTm a0, eI a1] (eI (r)) := by
 unfold synthesisref13_left_b at h
 refine pcl [.one .keep] Try.func142 (by kernel_rfl) (by kernel_rfl) (by kernel_rfl) ?_
 refine lp1 17 (fun v1 => ⟨27, [(1, (fI (v1.1))), (2, (.ref 1 0 0)), (5, (fI (v1.2)))], [(1, (.box 42 [(fI (a0.rule)), (.fz ((eL 2 eTmR) (a0.args)))]))], [1], []⟩) (.exit 0) (fun v7 => ⟨27, [(1, (fI (v7)))], [], [], []⟩) h (by kernel_rfl) (by kernel_rfl) (fun v1 r h => ?_) fun v7 h => ?_
 ·unfold synthesisref13_left_l1 at h
  refine jn1 2 .normal (fun v3 => ⟨27, [(1, (fI (v1.1))), (2, (.ref 1 0 0)), (5, (fI (v1.2))), (16, (fB (v3)))], [(1, (.box 42 [(fI (a0.rule)), (.fz ((eL 2 eTmR) (a0.args)))]))], [1], []⟩) h (by kernel_rfl) (fun v3 h => ?_) fun v3 h => ?_
  ·refine gd 7 h (by kernel_rfl) (fun h => ?_) fun h => ?_
   ·cases h; exact lj 4 (by kernel_rfl)
   cases h; exact lj 4 (by kernel_rfl)
  refine cd 0 h (by kernel_rfl) (fun h => ?_) fun h => ?_
  ·refine ix nTmR 7 h (by kernel_rfl) fun v4 h => ?_
   refine cl 2 h (ih142 _ _) (by kernel_rfl) fun v5 h => ?_
   cases h; exact lj 7 (by kernel_rfl)
  cases h; exact lo 1 (by kernel_rfl)
 cases h; exact lq 6 (by kernel_rfl)
def synthesisref13_left : Nat → (Tm) → (Int) → Option (Int)
  | 0 => fun _ _ => none
  | n + 1 => synthesisref13_left_b (synthesisref13_left n)
theorem synthesisref13_left_ok : ∀ (n : Nat) (x0 : Tm) (x1 : Int) r, synthesisref13_left n x0 x1 = some r → PCall Try.prog 142 [eTm x0, eI x1] (eI (r))
  | 0, _, _, _, h => by cases h
  | n + 1, x0, x1, r, h => synthesisref13_left_b_ok (synthesisref13_left n) (synthesisref13_left_ok n) x0 x1 r h

def synthesisref13_Within (a0 : Tm) (a1 : Int) : Option (Bool) := (Option.bind (synthesisref13_left fuel (a0) (a1)) fun v1 => (some (decide (0 ≤ v1))))
theorem synthesisref13_Within_ok (a0 : Tm) (a1 : Int) (r : Bool) (h : synthesisref13_Within a0 a1 = some r) : PCall Try.prog 84 [eTm a0, eI a1] (eB (r)) := by
 unfold synthesisref13_Within at h
 refine pcl [.one .keep] Try.func84 (by kernel_rfl) (by kernel_rfl) (by kernel_rfl) ?_
 refine cl 9 h (synthesisref13_left_ok _ _ _) (by kernel_rfl) fun v1 h => ?_
 cases h; exact lq 4 (by kernel_rfl)

def synthesislaw13_small_l1 (a0 : List Tm) (v1 : (Int)) : Option (((Int)) ⊕ (((Unit) ⊕ (Bool)))) := (bif (decide (v1 < (List.length a0 : Int))) then (Option.bind (idx a0 v1) fun v2 => (Option.bind (synthesisref13_Within (v2) (40)) fun v3 => (bif (!v3) then (some (.inr (.inr false))) else (some (.inl ((w64 (v1 + 1)))))))) else (some (.inr (.inl ()))))
def synthesislaw13_small (a0 : List Tm) : Option (Bool) := (Option.bind (loopN (synthesislaw13_small_l1 a0) fuel (0)) fun (v4 : ((Unit) ⊕ (Bool))) => Sum.elim (fun v5 => (some true)) (fun v6 => (some v6)) v4)
theorem synthesislaw13_small_ok (a0 : List Tm) (r : Bool) (h : synthesislaw13_small a0 = some r) : PCall Try.prog 35 [(eL 2 eTmR) a0] (eB (r)) := by
 unfold synthesislaw13_small at h
 refine pcl [.one .keep] Try.func35 (by kernel_rfl) (by kernel_rfl) (by kernel_rfl) ?_
 refine lpx 10 (fun v1 => ⟨16, [(0, (.fz ((eL 2 eTmR) (a0)))), (3, (fI (v1)))], [], [], []⟩) (fun v4 e st => Sum.elim (fun p => e = .exit 0 ∧ LeSt st ⟨16, [], [], [], []⟩) (fun p => e = .ret ∧ retX TT st Try.f35.results.toList [.one .keep] = some (eB (p))) v4) h (by kernel_rfl) (le_a (by kernel_rfl)) (fun v1 r h => ?_) fun v4 h e st' hq => ?_
 ·unfold synthesislaw13_small_l1 at h
  refine cd 8 h (by kernel_rfl) (fun h => ?_) fun h => ?_
  ·refine ix nTmR 7 h (by kernel_rfl) fun v2 h => ?_
   refine cl 1 h (synthesisref13_Within_ok _ _) (by kernel_rfl) fun v3 h => ?_
   refine cd 2 h (by kernel_rfl) (fun h => ?_) fun h => ?_
   ·cases h; exact lor 5 (by kernel_rfl)
   cases h; exact lj 6 (by kernel_rfl)
  cases h; exact lo 1 (by kernel_rfl)
 rcases v4 with v5 | v6
 ·try simp only [Sum.elim_inl, Sum.elim_inr] at h
  obtain ⟨rfl, hle⟩ := hq
  refine ⟨_, hle, ?_⟩
  cases h; exact lq 5 (by kernel_rfl)
 ·try simp only [Sum.elim_inl, Sum.elim_inr] at h
  obtain ⟨rfl, hret⟩ := hq
  refine ⟨_, LeSt.refl, ?_⟩
  cases h; exact lv hret

def grammar_named_l1 (a0 : ByteArray) (v3 : (Int)) : Option (((Int)) ⊕ (((Unit) ⊕ (Bool)))) := (bif (decide (v3 < (a0.size : Int))) then (Option.bind (byt a0 v3) fun v4 => (Option.bind ((bif (decide (97 ≤ (ior .u8 v4 32))) then (some ((decide ((ior .u8 v4 32) ≤ 122)))) else (some (false))) : Option ((Bool))) fun (v6 : (Bool)) => (Option.bind ((bif (!v6) then (bif (v3 == 0) then (some (true)) else (bif (v4 != 45) then (bif (decide (v4 < 48)) then (some (true)) else (some ((decide (57 < v4))))) else (some (false)))) else (some (false))) : Option ((Bool))) fun (v8 : (Bool)) => (bif v8 then (some (.inr (.inr false))) else (some (.inl ((w64 (v3 + 1))))))))) else (some (.inr (.inl ()))))
def grammar_named (a0 : ByteArray) : Option (Bool) := (Option.bind ((bif (decide ((a0.size : Int) < 1)) then (some (true)) else (some ((decide (24 < (a0.size : Int)))))) : Option ((Bool))) fun (v2 : (Bool)) => (bif v2 then (some false) else (Option.bind (loopN (grammar_named_l1 a0) fuel (0)) fun (v9 : ((Unit) ⊕ (Bool))) => Sum.elim (fun v10 => (some true)) (fun v11 => (some v11)) v9)))
theorem grammar_named_ok (a0 : ByteArray) (r : Bool) (h : grammar_named a0 = some r) : PCall Try.prog 143 [eS a0] (eB (r)) := by
 unfold grammar_named at h
 refine pcl [.one .keep] Try.func143 (by kernel_rfl) (by kernel_rfl) (by kernel_rfl) ?_
 refine jn1 6 .normal (fun v2 => ⟨49, [(0, (fS (a0))), (13, (fB (v2)))], [], [], []⟩) h (by kernel_rfl) (fun v2 h => ?_) fun v2 h => ?_
 ·refine gd 5 h (by kernel_rfl) (fun h => ?_) fun h => ?_
  ·cases h; exact lj 5 (by kernel_rfl)
  cases h; exact lj 5 (by kernel_rfl)
 refine cd 0 h (by kernel_rfl) (fun h => ?_) fun h => ?_
 ·cases h; exact lq 5 (by kernel_rfl)
 refine lpx 9 (fun v3 => ⟨49, [(0, (fS (a0))), (15, (fI ((a0.size : Int)))), (16, (fI (v3)))], [], [], []⟩) (fun v9 e st => Sum.elim (fun p => e = .exit 0 ∧ LeSt st ⟨49, [], [], [], []⟩) (fun p => e = .ret ∧ retX TT st Try.f143.results.toList [.one .keep] = some (eB (p))) v9) h (by kernel_rfl) (le_a (by kernel_rfl)) (fun v3 r h => ?_) fun v9 h e st' hq => ?_
 ·unfold grammar_named_l1 at h
  refine cd 5 h (by kernel_rfl) (fun h => ?_) fun h => ?_
  ·refine byx 12 h (by kernel_rfl) fun v4 h => ?_
   refine jn1 3 .normal (fun v6 => ⟨49, [(0, (fS (a0))), (3, (fI (v3))), (4, (.fz (eU8 (v4)))), (5, (fB (v6))), (15, (fI ((a0.size : Int)))), (16, (fI (v3)))], [], [], []⟩) h (by kernel_rfl) (fun v6 h => ?_) fun v6 h => ?_
   ·refine gd 5 h (by kernel_rfl) (fun h => ?_) fun h => ?_
    ·cases h; exact lj 6 (by kernel_rfl)
    cases h; exact lj 6 (by kernel_rfl)
   refine jn1 1 .normal (fun v8 => ⟨49, [(0, (fS (a0))), (15, (fI ((a0.size : Int)))), (16, (fI (v3))), (47, (fB (v8)))], [], [], []⟩) h (by kernel_rfl) (fun v8 h => ?_) fun v8 h => ?_
   ·refine gd 4 h (by kernel_rfl) (fun h => ?_) fun h => ?_
    ·refine gd 3 h (by kernel_rfl) (fun h => ?_) fun h => ?_
     ·cases h; exact lj 13 (by kernel_rfl)
     refine gd 3 h (by kernel_rfl) (fun h => ?_) fun h => ?_
     ·refine gd 3 h (by kernel_rfl) (fun h => ?_) fun h => ?_
      ·cases h; exact lj 7 (by kernel_rfl)
      cases h; exact lj 7 (by kernel_rfl)
     cases h; exact lj 10 (by kernel_rfl)
    cases h; exact lj 16 (by kernel_rfl)
   refine cd 0 h (by kernel_rfl) (fun h => ?_) fun h => ?_
   ·cases h; exact lor 5 (by kernel_rfl)
   cases h; exact lj 5 (by kernel_rfl)
  cases h; exact lo 1 (by kernel_rfl)
 rcases v9 with v10 | v11
 ·try simp only [Sum.elim_inl, Sum.elim_inr] at h
  obtain ⟨rfl, hle⟩ := hq
  refine ⟨_, hle, ?_⟩
  cases h; exact lq 5 (by kernel_rfl)
 ·try simp only [Sum.elim_inl, Sum.elim_inr] at h
  obtain ⟨rfl, hret⟩ := hq
  refine ⟨_, LeSt.refl, ?_⟩
  cases h; exact lv hret

def grammar_typed (a0 : Int) : Option (Bool) := (Option.bind ((bif (decide (1 ≤ a0)) then (some ((decide (a0 ≤ 8)))) else (some (false))) : Option ((Bool))) fun (v2 : (Bool)) => (some v2))
theorem grammar_typed_ok (a0 : Int) (r : Bool) (h : grammar_typed a0 = some r) : PCall Try.prog 144 [eI a0] (eB (r)) := by
 unfold grammar_typed at h
 refine pcl [.one .keep] Try.func144 (by kernel_rfl) (by kernel_rfl) (by kernel_rfl) ?_
 refine jn1 5 .normal (fun v2 => ⟨9, [(2, (fB (v2)))], [], [], []⟩) h (by kernel_rfl) (fun v2 h => ?_) fun v2 h => ?_
 ·refine gd 4 h (by kernel_rfl) (fun h => ?_) fun h => ?_
  ·cases h; exact lj 5 (by kernel_rfl)
  cases h; exact lj 5 (by kernel_rfl)
 cases h; exact lq 1 (by kernel_rfl)

def slices_Equal_int_int_l1 (a0 : List Int) (a1 : List Int) (v1 : (Int)) : Option (((Int)) ⊕ (((Unit) ⊕ (Bool)))) := (bif (decide (v1 < (List.length a0 : Int))) then (Option.bind (idx a0 v1) fun v2 => (Option.bind (idx a1 v1) fun v3 => (bif (v2 != v3) then (some (.inr (.inr false))) else (some (.inl ((w64 (v1 + 1)))))))) else (some (.inr (.inl ()))))
def slices_Equal_int_int (a0 : List Int) (a1 : List Int) : Option (Bool) := (bif ((List.length a0 : Int) != (List.length a1 : Int)) then (some false) else (Option.bind (loopN (slices_Equal_int_int_l1 a0 a1) fuel (0)) fun (v4 : ((Unit) ⊕ (Bool))) => Sum.elim (fun v5 => (some true)) (fun v6 => (some v6)) v4))
theorem slices_Equal_int_int_ok (a0 : List Int) (a1 : List Int) (r : Bool) (h : slices_Equal_int_int a0 a1 = some r) : PCall Try.prog 179 [(eL 1 eI) a0, (eL 1 eI) a1] (eB (r)) := by
 unfold slices_Equal_int_int at h
 refine pcl [.one .keep] Try.func179 (by kernel_rfl) (by kernel_rfl) (by kernel_rfl) ?_
 refine cd 13 h (by kernel_rfl) (fun h => ?_) fun h => ?_
 ·cases h; exact lq 5 (by kernel_rfl)
 refine lpx 9 (fun v1 => ⟨26, [(0, (.fz ((eL 1 eI) (a0)))), (1, (.fz ((eL 1 eI) (a1)))), (12, (fI ((List.length a0 : Int)))), (13, (fI (v1)))], [], [], []⟩) (fun v4 e st => Sum.elim (fun p => e = .exit 0 ∧ LeSt st ⟨26, [], [], [], []⟩) (fun p => e = .ret ∧ retX TT st Try.f179.results.toList [.one .keep] = some (eB (p))) v4) h (by kernel_rfl) (le_a (by kernel_rfl)) (fun v1 r h => ?_) fun v4 h e st' hq => ?_
 ·unfold slices_Equal_int_int_l1 at h
  refine cd 5 h (by kernel_rfl) (fun h => ?_) fun h => ?_
  ·refine dw 9 8 (by kernel_rfl) ?_
   refine ix nI 2 h (by kernel_rfl) fun v2 h => ?_
   refine ix nI 3 h (by kernel_rfl) fun v3 h => ?_
   refine cd 4 h (by kernel_rfl) (fun h => ?_) fun h => ?_
   ·cases h; exact lor 5 (by kernel_rfl)
   cases h; exact lj 5 (by kernel_rfl)
  cases h; exact lo 1 (by kernel_rfl)
 rcases v4 with v5 | v6
 ·try simp only [Sum.elim_inl, Sum.elim_inr] at h
  obtain ⟨rfl, hle⟩ := hq
  refine ⟨_, hle, ?_⟩
  cases h; exact lq 5 (by kernel_rfl)
 ·try simp only [Sum.elim_inl, Sum.elim_inr] at h
  obtain ⟨rfl, hret⟩ := hq
  refine ⟨_, LeSt.refl, ?_⟩
  cases h; exact lv hret

def grammar_sameRule (a0 : Ru) (a1 : Ru) : Option (Bool) := (Option.bind ((bif (a0.symbol == a1.symbol) then (bif (a0.kind == a1.kind) then (bif (a0.input == a1.input) then (bif (a0.op.toList == a1.op.toList) then (Option.bind (slices_Equal_int_int (a0.args) (a1.args)) fun v1 => (bif v1 then (Option.bind (value_Equal (a0.const) (a1.const)) fun v2 => (some (v2))) else (some (false)))) else (some (false))) else (some (false))) else (some (false))) else (some (false))) : Option ((Bool))) fun (v4 : (Bool)) => (some v4))
theorem grammar_sameRule_ok (a0 : Ru) (a1 : Ru) (r : Bool) (h : grammar_sameRule a0 a1 = some r) : PCall Try.prog 148 [eRu a0, eRu a1] (eB (r)) := by
 unfold grammar_sameRule at h
 refine pcl [.one .keep] Try.func148 (by kernel_rfl) (by kernel_rfl) (by kernel_rfl) ?_
 refine jn1 7 .normal (fun v4 => ⟨45, [(4, (fB (v4)))], [], [], []⟩) h (by kernel_rfl) (fun v4 h => ?_) fun v4 h => ?_
 ·refine gd 7 h (by kernel_rfl) (fun h => ?_) fun h => ?_
  ·refine gd 7 h (by kernel_rfl) (fun h => ?_) fun h => ?_
   ·refine gd 7 h (by kernel_rfl) (fun h => ?_) fun h => ?_
    ·refine gd 7 h (by kernel_rfl) (fun h => ?_) fun h => ?_
     ·refine cl 4 h (slices_Equal_int_int_ok _ _) (by kernel_rfl) fun v1 h => ?_
      refine gd 2 h (by kernel_rfl) (fun h => ?_) fun h => ?_
      ·refine cl 4 h (value_Equal_ok _ _) (by kernel_rfl) fun v2 h => ?_
       cases h; exact lj 3 (by kernel_rfl)
      cases h; exact lj 8 (by kernel_rfl)
     cases h; exact lj 15 (by kernel_rfl)
    cases h; exact lj 22 (by kernel_rfl)
   cases h; exact lj 29 (by kernel_rfl)
  cases h; exact lj 36 (by kernel_rfl)
 cases h; exact lq 1 (by kernel_rfl)

def grammar_symbol (a0 : La) (a1 : Int) : Option (Bool) := (Option.bind ((bif (decide (0 ≤ a1)) then (some ((decide (a1 < (List.length a0.symbols : Int))))) else (some (false))) : Option ((Bool))) fun (v2 : (Bool)) => (some v2))
theorem grammar_symbol_ok (a0 : La) (a1 : Int) (r : Bool) (h : grammar_symbol a0 a1 = some r) : PCall Try.prog 175 [eLa a0, eI a1] (eB (r)) := by
 unfold grammar_symbol at h
 refine pcl [.one .keep] Try.func175 (by kernel_rfl) (by kernel_rfl) (by kernel_rfl) ?_
 refine jn1 6 .normal (fun v2 => ⟨14, [(4, (fB (v2)))], [], [], []⟩) h (by kernel_rfl) (fun v2 h => ?_) fun v2 h => ?_
 ·refine gd 4 h (by kernel_rfl) (fun h => ?_) fun h => ?_
  ·cases h; exact lj 8 (by kernel_rfl)
  cases h; exact lj 8 (by kernel_rfl)
 cases h; exact lq 1 (by kernel_rfl)

def grammar_same (a0 : Int) (a1 : Int) : Option (Int) := (bif (a0 != a1) then (some 3) else (some 0))
theorem grammar_same_ok (a0 : Int) (a1 : Int) (r : Int) (h : grammar_same a0 a1 = some r) : PCall Try.prog 176 [eI a0, eI a1] (eI (r)) := by
 unfold grammar_same at h
 refine pcl [.one .keep] Try.func176 (by kernel_rfl) (by kernel_rfl) (by kernel_rfl) ?_
 refine cd 11 h (by kernel_rfl) (fun h => ?_) fun h => ?_
 ·cases h; exact lq 5 (by kernel_rfl)
 cases h; exact lq 6 (by kernel_rfl)

def internal_bytealg_Cutover (a0 : Int) : Option (Int) := (some (w64 (Int.tdiv (w64 (a0 + 16)) 8)))
theorem internal_bytealg_Cutover_ok (a0 : Int) (r : Int) (h : internal_bytealg_Cutover a0 = some r) : PCall Try.prog 204 [eI a0] (eI (r)) := by
 unfold internal_bytealg_Cutover at h
 refine pcl [.one .keep] Try.func204 (by kernel_rfl) (by kernel_rfl) (by kernel_rfl) ?_
 cases h; exact lq 12 (by kernel_rfl)

def internal_bytealg_IndexRabinKarp_string (a0 : ByteArray) (a1 : ByteArray) : Option (Int) := none
theorem internal_bytealg_IndexRabinKarp_string_ok (a0 : ByteArray) (a1 : ByteArray) (r : Int) (h : internal_bytealg_IndexRabinKarp_string a0 a1 = some r) : PCall Try.prog 205 [eS a0, eS a1] (eI (r)) := by
 unfold internal_bytealg_IndexRabinKarp_string at h
 refine pcl [.one .keep] Try.func205 (by kernel_rfl) (by kernel_rfl) (by kernel_rfl) ?_
 cases h

def internal_stringslite_Index (a0 : ByteArray) (a1 : ByteArray) : Option (Int) := (Option.bind ((bif ((a1.size : Int) == 0) then (some (true)) else (some ((a1.toList == a0.toList)))) : Option ((Bool))) fun (v2 : (Bool)) => (bif v2 then (some 0) else (bif ((a1.size : Int) == 1) then (Option.bind (byt a1 0) fun v3 => (Option.bind (internal_stringslite_IndexByte (a0) (v3)) fun v4 => (some v4))) else (bif (decide ((a0.size : Int) ≤ (a1.size : Int))) then (some (-1)) else none))))
theorem internal_stringslite_Index_ok (a0 : ByteArray) (a1 : ByteArray) (r : Int) (h : internal_stringslite_Index a0 a1 = some r) : PCall Try.prog 202 [eS a0, eS a1] (eI (r)) := by
 unfold internal_stringslite_Index at h
 refine pcl [.one .keep] Try.func202 (by kernel_rfl) (by kernel_rfl) (by kernel_rfl) ?_
 refine jn1 13 .normal (fun v2 => ⟨143, [(0, (fS (a0))), (1, (fS (a1))), (5, (fI ((a1.size : Int)))), (16, (fB (v2)))], [], [], []⟩) h (by kernel_rfl) (fun v2 h => ?_) fun v2 h => ?_
 ·refine gd 4 h (by kernel_rfl) (fun h => ?_) fun h => ?_
  ·cases h; exact lj 6 (by kernel_rfl)
  cases h; exact lj 6 (by kernel_rfl)
 refine cd 0 h (by kernel_rfl) (fun h => ?_) fun h => ?_
 ·cases h; exact lq 5 (by kernel_rfl)
 refine cd 6 h (by kernel_rfl) (fun h => ?_) fun h => ?_
 ·refine byx 4 h (by kernel_rfl) fun v3 h => ?_
  refine cl 0 h (internal_stringslite_IndexByte_ok _ _) (by kernel_rfl) fun v4 h => ?_
  cases h; exact lq 3 (by kernel_rfl)
 refine cd 8 h (by kernel_rfl) (fun h => ?_) fun h => ?_
 ·cases h; exact lq 5 (by kernel_rfl)
 cases h

def internal_stringslite_Cut (a0 : ByteArray) (a1 : ByteArray) : Option ((ByteArray) × (ByteArray) × (Bool)) := (Option.bind (internal_stringslite_Index (a0) (a1)) fun v1 => (bif (decide (0 ≤ v1)) then (Option.bind (cutS a0 0 v1) fun v2 => (Option.bind (cutS a0 (w64 (v1 + (a1.size : Int))) a0.size) fun v3 => (some (v2, v3, true)))) else (some (a0, (⟨#[]⟩ : ByteArray), false))))
theorem internal_stringslite_Cut_ok (a0 : ByteArray) (a1 : ByteArray) (r : (ByteArray) × (ByteArray) × (Bool)) (h : internal_stringslite_Cut a0 a1 = some r) : PCall Try.prog 201 [eS a0, eS a1] (.tup [eS (r.1), eS (r.2.1), eB (r.2.2)]) := by
 unfold internal_stringslite_Cut at h
 refine pcl [.one .keep, .one .keep, .one .keep] Try.func201 (by kernel_rfl) (by kernel_rfl) (by kernel_rfl) ?_
 refine cl 11 h (internal_stringslite_Index_ok _ _) (by kernel_rfl) fun v1 h => ?_
 refine cd 7 h (by kernel_rfl) (fun h => ?_) fun h => ?_
 ·refine dw 1 10 (by kernel_rfl) ?_
  obtain ⟨v2, hv2, h⟩ := Option.bind_eq_some_iff.1 h
  refine nst 2 (s_cutS (t := 9) (x := (.tmp 13)) (lo := none) (hi := (some (.tmp 14))) (d := tt9) (s := a0) (l := none) (h := (some v1)) hv2 tt_ok (by kernel_rfl) (by kernel_rfl) (by kernel_rfl) (by kernel_rfl) (by kernel_rfl) (by kernel_rfl)) (by kernel_rfl) ?_
  obtain ⟨v3, hv3, h⟩ := Option.bind_eq_some_iff.1 h
  refine nst 5 (s_cutS (t := 9) (x := (.tmp 16)) (lo := (some (.tmp 20))) (hi := none) (d := tt9) (s := a0) (l := (some (w64 (v1 + (a1.size : Int))))) (h := none) hv3 tt_ok (by kernel_rfl) (by kernel_rfl) (by kernel_rfl) (by kernel_rfl) (by kernel_rfl) (by kernel_rfl)) (by kernel_rfl) ?_
  cases h; exact lq 6 (by kernel_rfl)
 cases h; exact lq 9 (by kernel_rfl)

def strings_Cut (a0 : ByteArray) (a1 : ByteArray) : Option ((ByteArray) × (ByteArray) × (Bool)) := (Option.bind (internal_stringslite_Cut (a0) (a1)) fun v1 => (some (v1.1, v1.2.1, v1.2.2)))
theorem strings_Cut_ok (a0 : ByteArray) (a1 : ByteArray) (r : (ByteArray) × (ByteArray) × (Bool)) (h : strings_Cut a0 a1 = some r) : PCall Try.prog 199 [eS a0, eS a1] (.tup [eS (r.1), eS (r.2.1), eB (r.2.2)]) := by
 unfold strings_Cut at h
 refine pcl [.one .keep, .one .keep, .one .keep] Try.func199 (by kernel_rfl) (by kernel_rfl) (by kernel_rfl) ?_
 refine cl 10 h (internal_stringslite_Cut_ok _ _) (by kernel_rfl) fun v1 h => ?_
 cases h; exact lq 8 (by kernel_rfl)

def operator_typeOf (a0 : Int) : Option (Int) := (bif (a0 == 66) then (some 1) else (bif (a0 == 73) then (some 2) else (bif (a0 == 84) then (some 3) else (bif (a0 == 86) then (some 4) else (bif (a0 == 76) then (some 5) else (bif (a0 == 83) then (some 6) else (bif (a0 == 77) then (some 7) else (some 8))))))))
theorem operator_typeOf_ok (a0 : Int) (r : Int) (h : operator_typeOf a0 = some r) : PCall Try.prog 200 [eU8 a0] (eI (r)) := by
 unfold operator_typeOf at h
 refine pcl [.one .keep] Try.func200 (by kernel_rfl) (by kernel_rfl) (by kernel_rfl) ?_
 refine cd 15 h (by kernel_rfl) (fun h => ?_) fun h => ?_
 ·cases h; exact lq 5 (by kernel_rfl)
 refine cd 5 h (by kernel_rfl) (fun h => ?_) fun h => ?_
 ·cases h; exact lq 5 (by kernel_rfl)
 refine cd 5 h (by kernel_rfl) (fun h => ?_) fun h => ?_
 ·cases h; exact lq 5 (by kernel_rfl)
 refine cd 5 h (by kernel_rfl) (fun h => ?_) fun h => ?_
 ·cases h; exact lq 5 (by kernel_rfl)
 refine cd 5 h (by kernel_rfl) (fun h => ?_) fun h => ?_
 ·cases h; exact lq 5 (by kernel_rfl)
 refine cd 5 h (by kernel_rfl) (fun h => ?_) fun h => ?_
 ·cases h; exact lq 5 (by kernel_rfl)
 refine cd 5 h (by kernel_rfl) (fun h => ?_) fun h => ?_
 ·cases h; exact lq 5 (by kernel_rfl)
 cases h; exact lq 6 (by kernel_rfl)
end Go.Proofs.Ytaeicmnimjfbaaa
