/- Typed programs and what computes them. -/
import Derived.Test.YtaeicmnimjfbaaaTT
set_option linter.unusedVariables false
set_option linter.unusedSimpArgs false
set_option maxRecDepth 100000
namespace Go.Proofs.Ytaeicmnimjfbaaa
open Go Go.RowKit Go.Proofs
attribute [local irreducible] NStep StepA EStep LeSt
def value_OfText (a0 : ByteArray) : Option (Va) := (some (Va.mk (3) (0) (a0) (([] : List Va))))
theorem value_OfText_ok (a0 : ByteArray) (r : Va) (h : value_OfText a0 = some r) : PCall Try.prog 62 [eS a0] (eVa (r)) := by
 unfold value_OfText at h
 refine pcl [.ag [.keep, .keep, .keep, .sl 4]] Try.func62 (by kernel_rfl) (by kernel_rfl) (by kernel_rfl) ?_
 cases h; exact lq 11 (by kernel_rfl)

def value_unused_m0 (a0 : Va) : List (Nat × AObj) := [(1, (.box 65 [(fI (a0.type)), (fI (a0.num)), (fS (a0.text)), (.fz ((eL 4 eVaR) (a0.items)))]))]
def value_unused (a0 : Va) : Option (Bool) := (Option.bind ((bif (a0.type == 1) then (some ((a0.type == 1))) else (bif (a0.type == 2) then (some ((a0.type == 2))) else (some ((a0.type == 4))))) : Option ((Bool))) fun (v2 : (Bool)) => (bif v2 then (Option.bind ((bif (a0.text.toList == (⟨#[]⟩ : ByteArray).toList) then (some (((List.length a0.items : Int) == 0))) else (some (false))) : Option ((Bool))) fun (v4 : (Bool)) => (some v4)) else (Option.bind ((bif (a0.type == 3) then (some ((a0.type == 3))) else (some ((a0.type == 8)))) : Option ((Bool))) fun (v6 : (Bool)) => (bif v6 then (Option.bind ((bif (a0.num == 0) then (some (((List.length a0.items : Int) == 0))) else (some (false))) : Option ((Bool))) fun (v8 : (Bool)) => (some v8)) else (Option.bind ((bif (a0.num == 0) then (some ((a0.text.toList == (⟨#[]⟩ : ByteArray).toList))) else (some (false))) : Option ((Bool))) fun (v10 : (Bool)) => (some v10))))))
theorem value_unused_ok (a0 : Va) (r : Bool) (h : value_unused a0 = some r) : PCall Try.prog 163 [eVa a0] (eB (r)) := by
 unfold value_unused at h
 refine pcl [.one .keep] Try.func163 (by kernel_rfl) (by kernel_rfl) (by kernel_rfl) ?_
 refine jn1 13 .normal (fun v2 => ⟨38, [(1, (.ref 1 0 0)), (4, (fI (a0.type))), (5, (fB (v2)))], (value_unused_m0 a0), [1], []⟩) h (by kernel_rfl) (fun v2 h => ?_) fun v2 h => ?_
 ·refine cd 5 h (by kernel_rfl) (fun h => ?_) fun h => ?_
  ·cases h; exact lj 1 (by kernel_rfl)
  refine cd 5 h (by kernel_rfl) (fun h => ?_) fun h => ?_
  ·cases h; exact lj 1 (by kernel_rfl)
  cases h; exact lj 4 (by kernel_rfl)
 refine cd 0 h (by kernel_rfl) (fun h => ?_) fun h => ?_
 ·refine jn1 1 .normal (fun v4 => ⟨38, [(2, (fB (v4)))], [], [], []⟩) h (by kernel_rfl) (fun v4 h => ?_) fun v4 h => ?_
  ·refine gd 5 h (by kernel_rfl) (fun h => ?_) fun h => ?_
   ·cases h; exact lj 7 (by kernel_rfl)
   cases h; exact lj 7 (by kernel_rfl)
  cases h; exact lq 1 (by kernel_rfl)
 refine jn1 1 .normal (fun v6 => ⟨38, [(1, (.ref 1 0 0)), (18, (fB (v6)))], (value_unused_m0 a0), [1], []⟩) h (by kernel_rfl) (fun v6 h => ?_) fun v6 h => ?_
 ·refine cd 5 h (by kernel_rfl) (fun h => ?_) fun h => ?_
  ·cases h; exact lj 1 (by kernel_rfl)
  cases h; exact lj 4 (by kernel_rfl)
 refine cd 0 h (by kernel_rfl) (fun h => ?_) fun h => ?_
 ·refine jn1 1 .normal (fun v8 => ⟨38, [(2, (fB (v8)))], [], [], []⟩) h (by kernel_rfl) (fun v8 h => ?_) fun v8 h => ?_
  ·refine gd 5 h (by kernel_rfl) (fun h => ?_) fun h => ?_
   ·cases h; exact lj 7 (by kernel_rfl)
   cases h; exact lj 7 (by kernel_rfl)
  cases h; exact lq 1 (by kernel_rfl)
 refine jn1 2 .normal (fun v10 => ⟨38, [(2, (fB (v10)))], [], [], []⟩) h (by kernel_rfl) (fun v10 h => ?_) fun v10 h => ?_
 ·refine gd 5 h (by kernel_rfl) (fun h => ?_) fun h => ?_
  ·cases h; exact lj 6 (by kernel_rfl)
  cases h; exact lj 6 (by kernel_rfl)
 cases h; exact lq 1 (by kernel_rfl)

def value_ranged (a0 : Int) (a1 : Int) (a2 : Int) : Option (Int) := (Option.bind ((bif (decide (a0 < a1)) then (some (true)) else (some ((decide (a2 < a0))))) : Option ((Bool))) fun (v2 : (Bool)) => (bif v2 then (some 1) else (some 0)))
theorem value_ranged_ok (a0 : Int) (a1 : Int) (a2 : Int) (r : Int) (h : value_ranged a0 a1 a2 = some r) : PCall Try.prog 164 [eI a0, eI a1, eI a2] (eI (r)) := by
 unfold value_ranged at h
 refine pcl [.one .keep] Try.func164 (by kernel_rfl) (by kernel_rfl) (by kernel_rfl) ?_
 refine jn1 6 .normal (fun v2 => ⟨15, [(14, (fB (v2)))], [], [], []⟩) h (by kernel_rfl) (fun v2 h => ?_) fun v2 h => ?_
 ·refine gd 5 h (by kernel_rfl) (fun h => ?_) fun h => ?_
  ·cases h; exact lj 5 (by kernel_rfl)
  cases h; exact lj 5 (by kernel_rfl)
 refine cd 0 h (by kernel_rfl) (fun h => ?_) fun h => ?_
 ·cases h; exact lq 5 (by kernel_rfl)
 cases h; exact lq 6 (by kernel_rfl)

def value_printed_l1 (a0 : ByteArray) (v1 : (Int)) : Option (((Int)) ⊕ (((Unit) ⊕ (Bool)))) := (bif (decide (v1 < (a0.size : Int))) then (Option.bind ((Option.bind (byt a0 v1) fun v2 => (bif (decide (v2 < 32)) then (some (true)) else (Option.bind (byt a0 v1) fun v3 => (some ((decide (126 < v3))))))) : Option ((Bool))) fun (v5 : (Bool)) => (bif v5 then (some (.inr (.inr false))) else (some (.inl ((w64 (v1 + 1))))))) else (some (.inr (.inl ()))))
def value_printed (a0 : ByteArray) : Option (Bool) := (Option.bind (loopN (value_printed_l1 a0) fuel (0)) fun (v6 : ((Unit) ⊕ (Bool))) => Sum.elim (fun v7 => (some true)) (fun v8 => (some v8)) v6)
theorem value_printed_ok (a0 : ByteArray) (r : Bool) (h : value_printed a0 = some r) : PCall Try.prog 187 [eS a0] (eB (r)) := by
 unfold value_printed at h
 refine pcl [.one .keep] Try.func187 (by kernel_rfl) (by kernel_rfl) (by kernel_rfl) ?_
 refine lpx 10 (fun v1 => ⟨20, [(0, (fS (a0))), (3, (fI (v1)))], [], [], []⟩) (fun v6 e st => Sum.elim (fun p => e = .exit 0 ∧ LeSt st ⟨20, [], [], [], []⟩) (fun p => e = .ret ∧ retX TT st Try.f187.results.toList [.one .keep] = some (eB (p))) v6) h (by kernel_rfl) (le_a (by kernel_rfl)) (fun v1 r h => ?_) fun v6 h e st' hq => ?_
 ·unfold value_printed_l1 at h
  refine cd 8 h (by kernel_rfl) (fun h => ?_) fun h => ?_
  ·refine jn1 4 .normal (fun v5 => ⟨20, [(0, (fS (a0))), (3, (fI (v1))), (19, (fB (v5)))], [], [], []⟩) h (by kernel_rfl) (fun v5 h => ?_) fun v5 h => ?_
   ·refine byx 3 h (by kernel_rfl) fun v2 h => ?_
    refine gd 2 h (by kernel_rfl) (fun h => ?_) fun h => ?_
    ·cases h; exact lj 6 (by kernel_rfl)
    refine byx 2 h (by kernel_rfl) fun v3 h => ?_
    cases h; exact lj 3 (by kernel_rfl)
   refine cd 0 h (by kernel_rfl) (fun h => ?_) fun h => ?_
   ·cases h; exact lor 5 (by kernel_rfl)
   cases h; exact lj 6 (by kernel_rfl)
  cases h; exact lo 1 (by kernel_rfl)
 rcases v6 with v7 | v8
 ·try simp only [Sum.elim_inl, Sum.elim_inr] at h
  obtain ⟨rfl, hle⟩ := hq
  refine ⟨_, hle, ?_⟩
  cases h; exact lq 5 (by kernel_rfl)
 ·try simp only [Sum.elim_inl, Sum.elim_inr] at h
  obtain ⟨rfl, hret⟩ := hq
  refine ⟨_, LeSt.refl, ?_⟩
  cases h; exact lv hret

def value_sized (a0 : ByteArray) (a1 : Int) (a2 : Int) : Option (Int) := (Option.bind ((bif (decide ((a0.size : Int) < a1)) then (some (true)) else (some ((decide (a2 < (a0.size : Int)))))) : Option ((Bool))) fun (v2 : (Bool)) => (bif v2 then (some 2) else (Option.bind (value_printed (a0)) fun v3 => (bif (!v3) then (some 1) else (some 0)))))
theorem value_sized_ok (a0 : ByteArray) (a1 : Int) (a2 : Int) (r : Int) (h : value_sized a0 a1 a2 = some r) : PCall Try.prog 165 [eS a0, eI a1, eI a2] (eI (r)) := by
 unfold value_sized at h
 refine pcl [.one .keep] Try.func165 (by kernel_rfl) (by kernel_rfl) (by kernel_rfl) ?_
 refine jn1 6 .normal (fun v2 => ⟨20, [(0, (fS (a0))), (16, (fB (v2)))], [], [], []⟩) h (by kernel_rfl) (fun v2 h => ?_) fun v2 h => ?_
 ·refine gd 6 h (by kernel_rfl) (fun h => ?_) fun h => ?_
  ·cases h; exact lj 6 (by kernel_rfl)
  cases h; exact lj 6 (by kernel_rfl)
 refine cd 0 h (by kernel_rfl) (fun h => ?_) fun h => ?_
 ·cases h; exact lq 5 (by kernel_rfl)
 refine cl 5 h (value_printed_ok _) (by kernel_rfl) fun v3 h => ?_
 refine cd 2 h (by kernel_rfl) (fun h => ?_) fun h => ?_
 ·cases h; exact lq 5 (by kernel_rfl)
 cases h; exact lq 6 (by kernel_rfl)

def value_Check_m0 (a0 : Va) : List (Nat × AObj) := [(1, (.box 65 [(fI (a0.type)), (fI (a0.num)), (fS (a0.text)), (.fz ((eL 4 eVaR) (a0.items)))]))]
def value_Check_b (r128 : (Va) → Option (Int)) (r166 : (List Va) → (Int) → Option (Int)) (r167 : (List Va) → Option (Int)) (a0 : Va) : Option (Int) := (Option.bind ((bif (decide (a0.type < 1)) then (some (true)) else (some ((decide (8 < a0.type))))) : Option ((Bool))) fun (v2 : (Bool)) => (bif v2 then (some 3) else (Option.bind (value_unused (a0)) fun v3 => (bif (!v3) then (some 4) else (Option.bind ((Option.bind ((Option.bind ((Option.bind ((bif (a0.type == 1) then (Option.bind (value_ranged (a0.num) (0) (1)) fun v4 => (some (.inr (.inr (.inr (.inr (.inr v4))))))) else (bif (a0.type == 2) then (Option.bind (value_ranged (a0.num) ((-1000000)) (1000000)) fun v5 => (some (.inr (.inr (.inr (.inr (.inr v5))))))) else (bif (a0.type == 4) then (Option.bind (value_ranged (a0.num) (0) (255)) fun v6 => (some (.inr (.inr (.inr (.inr (.inr v6))))))) else (bif (a0.type == 8) then (some (.inl ())) else (bif (a0.type == 3) then (some (.inr (.inr (.inl ())))) else (bif (a0.type == 5) then (some (.inr (.inr (.inr (.inl ()))))) else (bif (a0.type == 6) then (some (.inr (.inr (.inr (.inr (.inl ())))))) else (some (.inr (.inl ())))))))))) : Option (((Unit) ⊕ (((Unit) ⊕ (((Unit) ⊕ (((Unit) ⊕ (((Unit) ⊕ (Int)))))))))))) fun (v7 : ((Unit) ⊕ (((Unit) ⊕ (((Unit) ⊕ (((Unit) ⊕ (((Unit) ⊕ (Int))))))))))) => Sum.elim (fun v8 => (some (.inl (1, 40)))) (Sum.elim (fun v9 => (some (.inr (.inl ())))) (Sum.elim (fun v10 => (some (.inl (0, 64)))) (Sum.elim (fun v11 => (some (.inr (.inr (.inl ()))))) (Sum.elim (fun v12 => (some (.inr (.inr (.inr (.inl ())))))) (fun v13 => (some (.inr (.inr (.inr (.inr v13)))))))))) v7) : Option ((((Int) × (Int)) ⊕ (((Unit) ⊕ (((Unit) ⊕ (((Unit) ⊕ (Int)))))))))) fun (v14 : (((Int) × (Int)) ⊕ (((Unit) ⊕ (((Unit) ⊕ (((Unit) ⊕ (Int))))))))) => Sum.elim (fun v15 => (Option.bind (value_sized (a0.text) (v15.1) (v15.2)) fun v16 => (some (.inr (.inr (.inr v16)))))) (Sum.elim (fun v17 => (some (.inr (.inl ())))) (Sum.elim (fun v18 => (some (.inl ()))) (Sum.elim (fun v19 => (some (.inr (.inr (.inl ()))))) (fun v20 => (some (.inr (.inr (.inr v20)))))))) v14) : Option (((Unit) ⊕ (((Unit) ⊕ (((Unit) ⊕ (Int)))))))) fun (v21 : ((Unit) ⊕ (((Unit) ⊕ (((Unit) ⊕ (Int))))))) => Sum.elim (fun v22 => (some (.inl (2)))) (Sum.elim (fun v23 => (some (.inr (.inl ())))) (Sum.elim (fun v24 => (some (.inl (3)))) (fun v25 => (some (.inr (.inr v25)))))) v21) : Option ((((Int)) ⊕ (((Unit) ⊕ (Int)))))) fun (v26 : (((Int)) ⊕ (((Unit) ⊕ (Int))))) => Sum.elim (fun v27 => (Option.bind (r166 (a0.items) (v27)) fun v28 => (some v28))) (Sum.elim (fun v29 => (Option.bind (r167 (a0.items)) fun v30 => (some v30))) (fun v31 => (some v31))) v26)))))
theorem value_Check_b_ok (r128 : (Va) → Option (Int)) (r166 : (List Va) → (Int) → Option (Int)) (r167 : (List Va) → Option (Int)) (ih128 : ∀ (x0 : Va) r, r128 x0 = some r → PCall Try.prog 128 [eVa x0] (eI (r))) (ih166 : ∀ (x0 : List Va) (x1 : Int) r, r166 x0 x1 = some r → PCall Try.prog 166 [(eL 4 eVaR) x0, eI x1] (eI (r))) (ih167 : ∀ (x0 : List Va) r, r167 x0 = some r → PCall Try.prog 167 [(eL 4 eVaR) x0] (eI (r))) (a0 : Va) (r : Int) (h : value_Check_b r128 r166 r167 a0 = some r) : PCall Try.prog 128 [eVa a0] (eI (r)) := by
 unfold value_Check_b at h
 refine pcl [.one .keep] Try.func128 (by kernel_rfl) (by kernel_rfl) (by kernel_rfl) ?_
 refine jn1 7 .normal (fun v2 => ⟨54, [(1, (.ref 1 0 0)), (13, (fB (v2)))], (value_Check_m0 a0), [1], []⟩) h (by kernel_rfl) (fun v2 h => ?_) fun v2 h => ?_
 ·refine gd 5 h (by kernel_rfl) (fun h => ?_) fun h => ?_
  ·cases h; exact lj 5 (by kernel_rfl)
  cases h; exact lj 5 (by kernel_rfl)
 refine cd 0 h (by kernel_rfl) (fun h => ?_) fun h => ?_
 ·cases h; exact lq 5 (by kernel_rfl)
 refine cl 5 h (value_unused_ok _) (by kernel_rfl) fun v3 h => ?_
 refine cd 2 h (by kernel_rfl) (fun h => ?_) fun h => ?_
 ·cases h; exact lq 5 (by kernel_rfl)
 refine jnQ 15 (fun v26 e st => Sum.elim (fun p => e = .normal ∧ LeSt st ⟨54, [(1, (.ref 1 0 0)), (5, (fI (p)))], (value_Check_m0 a0), [1], []⟩) (Sum.elim (fun p => e = .exit 0 ∧ LeSt st ⟨54, [(1, (.ref 1 0 0))], (value_Check_m0 a0), [1], []⟩) (fun p => e = .ret ∧ retX TT st Try.f128.results.toList [.one .keep] = some (eI (p)))) v26) h (by kernel_rfl) (fun v26 h => ?_) fun v26 h e st' hq => ?_
 ·refine jnQ 1 (fun v21 e st => Sum.elim (fun p => e = .normal ∧ LeSt st ⟨54, [(1, (.ref 1 0 0)), (5, (fI (2)))], (value_Check_m0 a0), [1], []⟩) (Sum.elim (fun p => e = .exit 0 ∧ LeSt st ⟨54, [(1, (.ref 1 0 0))], (value_Check_m0 a0), [1], []⟩) (Sum.elim (fun p => e = .exit 7 ∧ LeSt st ⟨54, [(1, (.ref 1 0 0)), (5, (fI (3)))], (value_Check_m0 a0), [1], []⟩) (fun p => e = .ret ∧ retX TT st Try.f128.results.toList [.one .keep] = some (eI (p))))) v21) h (by kernel_rfl) (fun v21 h => ?_) fun v21 h e st' hq => ?_
  ·refine jnQ 3 (fun v14 e st => Sum.elim (fun p => e = .normal ∧ LeSt st ⟨54, [(1, (.ref 1 0 0)), (3, (fI (p.1))), (4, (fI (p.2)))], (value_Check_m0 a0), [1], []⟩) (Sum.elim (fun p => e = .exit 0 ∧ LeSt st ⟨54, [(1, (.ref 1 0 0))], (value_Check_m0 a0), [1], []⟩) (Sum.elim (fun p => e = .exit 6 ∧ LeSt st ⟨54, [(1, (.ref 1 0 0))], (value_Check_m0 a0), [1], []⟩) (Sum.elim (fun p => e = .exit 7 ∧ LeSt st ⟨54, [(1, (.ref 1 0 0)), (5, (fI (3)))], (value_Check_m0 a0), [1], []⟩) (fun p => e = .ret ∧ retX TT st Try.f128.results.toList [.one .keep] = some (eI (p)))))) v14) h (by kernel_rfl) (fun v14 h => ?_) fun v14 h e st' hq => ?_
   ·refine jnQ 1 (fun v7 e st => Sum.elim (fun p => e = .normal ∧ LeSt st ⟨54, [(1, (.ref 1 0 0)), (3, (fI (1))), (4, (fI (40)))], (value_Check_m0 a0), [1], []⟩) (Sum.elim (fun p => e = .exit 0 ∧ LeSt st ⟨54, [(1, (.ref 1 0 0))], (value_Check_m0 a0), [1], []⟩) (Sum.elim (fun p => e = .exit 5 ∧ LeSt st ⟨54, [(1, (.ref 1 0 0)), (3, (fI (0))), (4, (fI (64)))], (value_Check_m0 a0), [1], []⟩) (Sum.elim (fun p => e = .exit 6 ∧ LeSt st ⟨54, [(1, (.ref 1 0 0))], (value_Check_m0 a0), [1], []⟩) (Sum.elim (fun p => e = .exit 7 ∧ LeSt st ⟨54, [(1, (.ref 1 0 0)), (5, (fI (3)))], (value_Check_m0 a0), [1], []⟩) (fun p => e = .ret ∧ retX TT st Try.f128.results.toList [.one .keep] = some (eI (p))))))) v7) h (by kernel_rfl) (fun v7 h => ?_) fun v7 h e st' hq => ?_
    ·refine cd 15 h (by kernel_rfl) (fun h => ?_) fun h => ?_
     ·refine cl 6 h (value_ranged_ok _ _ _) (by kernel_rfl) fun v4 h => ?_
      cases h; exact lr 3 (by kernel_rfl)
     refine cd 7 h (by kernel_rfl) (fun h => ?_) fun h => ?_
     ·refine cl 6 h (value_ranged_ok _ _ _) (by kernel_rfl) fun v5 h => ?_
      cases h; exact lr 3 (by kernel_rfl)
     refine cd 7 h (by kernel_rfl) (fun h => ?_) fun h => ?_
     ·refine cl 6 h (value_ranged_ok _ _ _) (by kernel_rfl) fun v6 h => ?_
      cases h; exact lr 3 (by kernel_rfl)
     refine cd 7 h (by kernel_rfl) (fun h => ?_) fun h => ?_
     ·cases h; exact lj 5 (by kernel_rfl)
     refine cd 7 h (by kernel_rfl) (fun h => ?_) fun h => ?_
     ·cases h; exact lj 1 (by kernel_rfl)
     refine cd 7 h (by kernel_rfl) (fun h => ?_) fun h => ?_
     ·cases h; exact lj 1 (by kernel_rfl)
     refine cd 6 h (by kernel_rfl) (fun h => ?_) fun h => ?_
     ·cases h; exact lj 1 (by kernel_rfl)
     cases h; exact lj 2 (by kernel_rfl)
    rcases v7 with v8 | (v9 | (v10 | (v11 | (v12 | v13))))
    ·try simp only [Sum.elim_inl, Sum.elim_inr] at h
     obtain ⟨rfl, hle⟩ := hq
     refine ⟨_, hle, ?_⟩
     cases h; exact lj 0 (by kernel_rfl)
    ·try simp only [Sum.elim_inl, Sum.elim_inr] at h
     obtain ⟨rfl, hle⟩ := hq
     refine ⟨_, hle, ?_⟩
     cases h; exact lj 0 (by kernel_rfl)
    ·try simp only [Sum.elim_inl, Sum.elim_inr] at h
     obtain ⟨rfl, hle⟩ := hq
     refine ⟨_, hle, ?_⟩
     cases h; exact lj 0 (by kernel_rfl)
    ·try simp only [Sum.elim_inl, Sum.elim_inr] at h
     obtain ⟨rfl, hle⟩ := hq
     refine ⟨_, hle, ?_⟩
     cases h; exact lj 0 (by kernel_rfl)
    ·try simp only [Sum.elim_inl, Sum.elim_inr] at h
     obtain ⟨rfl, hle⟩ := hq
     refine ⟨_, hle, ?_⟩
     cases h; exact lj 0 (by kernel_rfl)
    ·try simp only [Sum.elim_inl, Sum.elim_inr] at h
     obtain ⟨rfl, hret⟩ := hq
     refine ⟨_, LeSt.refl, ?_⟩
     cases h; exact lvr hret
   rcases v14 with v15 | (v17 | (v18 | (v19 | v20)))
   ·try simp only [Sum.elim_inl, Sum.elim_inr] at h
    obtain ⟨rfl, hle⟩ := hq
    refine ⟨_, hle, ?_⟩
    refine cl 7 h (value_sized_ok _ _ _) (by kernel_rfl) fun v16 h => ?_
    cases h; exact lr 3 (by kernel_rfl)
   ·try simp only [Sum.elim_inl, Sum.elim_inr] at h
    obtain ⟨rfl, hle⟩ := hq
    refine ⟨_, hle, ?_⟩
    cases h; exact lj 0 (by kernel_rfl)
   ·try simp only [Sum.elim_inl, Sum.elim_inr] at h
    obtain ⟨rfl, hle⟩ := hq
    refine ⟨_, hle, ?_⟩
    cases h; exact lj 3 (by kernel_rfl)
   ·try simp only [Sum.elim_inl, Sum.elim_inr] at h
    obtain ⟨rfl, hle⟩ := hq
    refine ⟨_, hle, ?_⟩
    cases h; exact lj 0 (by kernel_rfl)
   ·try simp only [Sum.elim_inl, Sum.elim_inr] at h
    obtain ⟨rfl, hret⟩ := hq
    refine ⟨_, LeSt.refl, ?_⟩
    cases h; exact lvr hret
  rcases v21 with v22 | (v23 | (v24 | v25))
  ·try simp only [Sum.elim_inl, Sum.elim_inr] at h
   obtain ⟨rfl, hle⟩ := hq
   refine ⟨_, hle, ?_⟩
   cases h; exact lj 0 (by kernel_rfl)
  ·try simp only [Sum.elim_inl, Sum.elim_inr] at h
   obtain ⟨rfl, hle⟩ := hq
   refine ⟨_, hle, ?_⟩
   cases h; exact lj 0 (by kernel_rfl)
  ·try simp only [Sum.elim_inl, Sum.elim_inr] at h
   obtain ⟨rfl, hle⟩ := hq
   refine ⟨_, hle, ?_⟩
   cases h; exact lj 0 (by kernel_rfl)
  ·try simp only [Sum.elim_inl, Sum.elim_inr] at h
   obtain ⟨rfl, hret⟩ := hq
   refine ⟨_, LeSt.refl, ?_⟩
   cases h; exact lvr hret
 rcases v26 with v27 | (v29 | v31)
 ·try simp only [Sum.elim_inl, Sum.elim_inr] at h
  obtain ⟨rfl, hle⟩ := hq
  refine ⟨_, hle, ?_⟩
  refine cl 6 h (ih166 _ _) (by kernel_rfl) fun v28 h => ?_
  cases h; exact lq 3 (by kernel_rfl)
 ·try simp only [Sum.elim_inl, Sum.elim_inr] at h
  obtain ⟨rfl, hle⟩ := hq
  refine ⟨_, hle, ?_⟩
  refine cl 4 h (ih167 _) (by kernel_rfl) fun v30 h => ?_
  cases h; exact lq 3 (by kernel_rfl)
 ·try simp only [Sum.elim_inl, Sum.elim_inr] at h
  obtain ⟨rfl, hret⟩ := hq
  refine ⟨_, LeSt.refl, ?_⟩
  cases h; exact lv hret
def value_elements_l1 (a0 : List Va) (a1 : Int) (r128 : (Va) → Option (Int)) (v1 : (Int)) : Option (((Int)) ⊕ (((Unit) ⊕ (Int)))) := (bif (decide (v1 < (List.length a0 : Int))) then (Option.bind (idx a0 v1) fun v2 => (bif (v2.type != a1) then (some (.inr (.inr 3))) else (Option.bind (r128 (v2)) fun v3 => (bif (v3 != 0) then (some (.inr (.inr v3))) else (some (.inl ((w64 (v1 + 1))))))))) else (some (.inr (.inl ()))))
def value_elements_b (r128 : (Va) → Option (Int)) (r166 : (List Va) → (Int) → Option (Int)) (r167 : (List Va) → Option (Int)) (a0 : List Va) (a1 : Int) : Option (Int) := (bif (decide (16 < (List.length a0 : Int))) then (some 2) else (Option.bind (loopN (value_elements_l1 a0 a1 r128) fuel (0)) fun (v4 : ((Unit) ⊕ (Int))) => Sum.elim (fun v5 => (some 0)) (fun v6 => (some v6)) v4))
theorem value_elements_b_ok (r128 : (Va) → Option (Int)) (r166 : (List Va) → (Int) → Option (Int)) (r167 : (List Va) → Option (Int)) (ih128 : ∀ (x0 : Va) r, r128 x0 = some r → PCall Try.prog 128 [eVa x0] (eI (r))) (ih166 : ∀ (x0 : List Va) (x1 : Int) r, r166 x0 x1 = some r → PCall Try.prog 166 [(eL 4 eVaR) x0, eI x1] (eI (r))) (ih167 : ∀ (x0 : List Va) r, r167 x0 = some r → PCall Try.prog 167 [(eL 4 eVaR) x0] (eI (r))) (a0 : List Va) (a1 : Int) (r : Int) (h : value_elements_b r128 r166 r167 a0 a1 = some r) : PCall Try.prog 166 [(eL 4 eVaR) a0, eI a1] (eI (r)) := by
 unfold value_elements_b at h
 refine pcl [.one .keep] Try.func166 (by kernel_rfl) (by kernel_rfl) (by kernel_rfl) ?_
 refine cd 11 h (by kernel_rfl) (fun h => ?_) fun h => ?_
 ·cases h; exact lq 5 (by kernel_rfl)
 refine lpx 9 (fun v1 => ⟨27, [(1, (fI (a1))), (11, (.fz ((eL 4 eVaR) (a0)))), (12, (fI ((List.length a0 : Int)))), (13, (fI (v1)))], [], [], []⟩) (fun v4 e st => Sum.elim (fun p => e = .exit 0 ∧ LeSt st ⟨27, [], [], [], []⟩) (fun p => e = .ret ∧ retX TT st Try.f166.results.toList [.one .keep] = some (eI (p))) v4) h (by kernel_rfl) (le_a (by kernel_rfl)) (fun v1 r h => ?_) fun v4 h e st' hq => ?_
 ·unfold value_elements_l1 at h
  refine cd 5 h (by kernel_rfl) (fun h => ?_) fun h => ?_
  ·refine ix nVaR 5 h (by kernel_rfl) fun v2 h => ?_
   refine cd 12 h (by kernel_rfl) (fun h => ?_) fun h => ?_
   ·cases h; exact lor 5 (by kernel_rfl)
   refine cl 4 h (ih128 _) (by kernel_rfl) fun v3 h => ?_
   refine cd 7 h (by kernel_rfl) (fun h => ?_) fun h => ?_
   ·cases h; exact lor 6 (by kernel_rfl)
   cases h; exact lj 5 (by kernel_rfl)
  cases h; exact lo 1 (by kernel_rfl)
 rcases v4 with v5 | v6
 ·try simp only [Sum.elim_inl, Sum.elim_inr] at h
  obtain ⟨rfl, hle⟩ := hq
  refine ⟨_, hle, ?_⟩
  cases h; exact lq 5 (by kernel_rfl)
 ·try simp only [Sum.elim_inl, Sum.elim_inr] at h
  obtain ⟨rfl, hret⟩ := hq
  refine ⟨_, LeSt.refl, ?_⟩
  cases h; exact lv hret
def value_rows_l1 (a0 : List Va) (r128 : (Va) → Option (Int)) (v1 : (Int)) : Option (((Int)) ⊕ (((Unit) ⊕ (Int)))) := (bif (decide (v1 < (List.length a0 : Int))) then (Option.bind (idx a0 v1) fun v2 => (bif (v2.type != 6) then (some (.inr (.inr 3))) else (Option.bind ((bif (decide ((List.length v2.items : Int) < 1)) then (some (true)) else (bif (decide (8 < (List.length v2.items : Int))) then (some (true)) else (Option.bind (idx a0 0) fun v3 => (some (((List.length v2.items : Int) != (List.length v3.items : Int))))))) : Option ((Bool))) fun (v5 : (Bool)) => (bif v5 then (some (.inr (.inr 2))) else (Option.bind (r128 (v2)) fun v6 => (bif (v6 != 0) then (some (.inr (.inr v6))) else (some (.inl ((w64 (v1 + 1))))))))))) else (some (.inr (.inl ()))))
def value_rows_b (r128 : (Va) → Option (Int)) (r166 : (List Va) → (Int) → Option (Int)) (r167 : (List Va) → Option (Int)) (a0 : List Va) : Option (Int) := (bif (decide (8 < (List.length a0 : Int))) then (some 2) else (Option.bind (loopN (value_rows_l1 a0 r128) fuel (0)) fun (v7 : ((Unit) ⊕ (Int))) => Sum.elim (fun v8 => (some 0)) (fun v9 => (some v9)) v7))
theorem value_rows_b_ok (r128 : (Va) → Option (Int)) (r166 : (List Va) → (Int) → Option (Int)) (r167 : (List Va) → Option (Int)) (ih128 : ∀ (x0 : Va) r, r128 x0 = some r → PCall Try.prog 128 [eVa x0] (eI (r))) (ih166 : ∀ (x0 : List Va) (x1 : Int) r, r166 x0 x1 = some r → PCall Try.prog 166 [(eL 4 eVaR) x0, eI x1] (eI (r))) (ih167 : ∀ (x0 : List Va) r, r167 x0 = some r → PCall Try.prog 167 [(eL 4 eVaR) x0] (eI (r))) (a0 : List Va) (r : Int) (h : value_rows_b r128 r166 r167 a0 = some r) : PCall Try.prog 167 [(eL 4 eVaR) a0] (eI (r)) := by
 unfold value_rows_b at h
 refine pcl [.one .keep] Try.func167 (by kernel_rfl) (by kernel_rfl) (by kernel_rfl) ?_
 refine cd 11 h (by kernel_rfl) (fun h => ?_) fun h => ?_
 ·cases h; exact lq 5 (by kernel_rfl)
 refine lpx 9 (fun v1 => ⟨45, [(0, (.fz ((eL 4 eVaR) (a0)))), (9, (.fz ((eL 4 eVaR) (a0)))), (10, (fI ((List.length a0 : Int)))), (11, (fI (v1)))], [], [], []⟩) (fun v7 e st => Sum.elim (fun p => e = .exit 0 ∧ LeSt st ⟨45, [], [], [], []⟩) (fun p => e = .ret ∧ retX TT st Try.f167.results.toList [.one .keep] = some (eI (p))) v7) h (by kernel_rfl) (le_a (by kernel_rfl)) (fun v1 r h => ?_) fun v7 h e st' hq => ?_
 ·unfold value_rows_l1 at h
  refine cd 5 h (by kernel_rfl) (fun h => ?_) fun h => ?_
  ·refine ix nVaR 5 h (by kernel_rfl) fun v2 h => ?_
   refine cd 11 h (by kernel_rfl) (fun h => ?_) fun h => ?_
   ·cases h; exact lor 5 (by kernel_rfl)
   refine jn1 3 .normal (fun v5 => ⟨45, [(0, (.fz ((eL 4 eVaR) (a0)))), (4, (.ref 1 0 0)), (9, (.fz ((eL 4 eVaR) (a0)))), (10, (fI ((List.length a0 : Int)))), (11, (fI (v1))), (38, (fB (v5)))], [(1, (.box 65 [(fI (v2.type)), (fI (v2.num)), (fS (v2.text)), (.fz ((eL 4 eVaR) (v2.items)))]))], [1], []⟩) h (by kernel_rfl) (fun v5 h => ?_) fun v5 h => ?_
   ·refine dw 0 19 (by kernel_rfl) ?_
    refine gd 5 h (by kernel_rfl) (fun h => ?_) fun h => ?_
    ·cases h; exact lj 18 (by kernel_rfl)
    refine gd 6 h (by kernel_rfl) (fun h => ?_) fun h => ?_
    ·cases h; exact lj 12 (by kernel_rfl)
    refine ix nVaR 4 h (by kernel_rfl) fun v3 h => ?_
    cases h; exact lj 7 (by kernel_rfl)
   refine cd 0 h (by kernel_rfl) (fun h => ?_) fun h => ?_
   ·cases h; exact lor 5 (by kernel_rfl)
   refine cl 4 h (ih128 _) (by kernel_rfl) fun v6 h => ?_
   refine cd 7 h (by kernel_rfl) (fun h => ?_) fun h => ?_
   ·cases h; exact lor 6 (by kernel_rfl)
   cases h; exact lj 5 (by kernel_rfl)
  cases h; exact lo 1 (by kernel_rfl)
 rcases v7 with v8 | v9
 ·try simp only [Sum.elim_inl, Sum.elim_inr] at h
  obtain ⟨rfl, hle⟩ := hq
  refine ⟨_, hle, ?_⟩
  cases h; exact lq 5 (by kernel_rfl)
 ·try simp only [Sum.elim_inl, Sum.elim_inr] at h
  obtain ⟨rfl, hret⟩ := hq
  refine ⟨_, LeSt.refl, ?_⟩
  cases h; exact lv hret
def value_Check_all : Nat → ((Va) → Option (Int)) × ((List Va) → (Int) → Option (Int)) × ((List Va) → Option (Int))
  | 0 => (fun _ => none, fun _ _ => none, fun _ => none)
  | n + 1 => (value_Check_b ((value_Check_all n).1) ((value_Check_all n).2.1) ((value_Check_all n).2.2), value_elements_b ((value_Check_all n).1) ((value_Check_all n).2.1) ((value_Check_all n).2.2), value_rows_b ((value_Check_all n).1) ((value_Check_all n).2.1) ((value_Check_all n).2.2))
def value_Check (n : Nat) : (Va) → Option (Int) := (value_Check_all n).1
def value_elements (n : Nat) : (List Va) → (Int) → Option (Int) := (value_Check_all n).2.1
def value_rows (n : Nat) : (List Va) → Option (Int) := (value_Check_all n).2.2
theorem value_Check_all_ok : ∀ n : Nat, (∀ (x0 : Va) r, value_Check n x0 = some r → PCall Try.prog 128 [eVa x0] (eI (r))) ∧ (∀ (x0 : List Va) (x1 : Int) r, value_elements n x0 x1 = some r → PCall Try.prog 166 [(eL 4 eVaR) x0, eI x1] (eI (r))) ∧ (∀ (x0 : List Va) r, value_rows n x0 = some r → PCall Try.prog 167 [(eL 4 eVaR) x0] (eI (r)))
  | 0 => ⟨(fun _ _ h => nomatch h), (fun _ _ _ h => nomatch h), (fun _ _ h => nomatch h)⟩
  | n + 1 => ⟨(value_Check_b_ok _ _ _ ((value_Check_all_ok n).1) ((value_Check_all_ok n).2.1) ((value_Check_all_ok n).2.2)), (value_elements_b_ok _ _ _ ((value_Check_all_ok n).1) ((value_Check_all_ok n).2.1) ((value_Check_all_ok n).2.2)), (value_rows_b_ok _ _ _ ((value_Check_all_ok n).1) ((value_Check_all_ok n).2.1) ((value_Check_all_ok n).2.2))⟩
theorem value_Check_ok (n : Nat) : ∀ (x0 : Va) r, value_Check n x0 = some r → PCall Try.prog 128 [eVa x0] (eI (r)) := (value_Check_all_ok n).1
theorem value_elements_ok (n : Nat) : ∀ (x0 : List Va) (x1 : Int) r, value_elements n x0 x1 = some r → PCall Try.prog 166 [(eL 4 eVaR) x0, eI x1] (eI (r)) := (value_Check_all_ok n).2.1
theorem value_rows_ok (n : Nat) : ∀ (x0 : List Va) r, value_rows n x0 = some r → PCall Try.prog 167 [(eL 4 eVaR) x0] (eI (r)) := (value_Check_all_ok n).2.2

def value_Compare_m0 (a0 : Va) (a1 : Va) : List (Nat × AObj) := [(1, (.box 65 [(fI (a0.type)), (fI (a0.num)), (fS (a0.text)), (.fz ((eL 4 eVaR) (a0.items)))])), (2, (.box 65 [(fI (a1.type)), (fI (a1.num)), (fS (a1.text)), (.fz ((eL 4 eVaR) (a1.items)))]))]
def value_Compare_l1 (a0 : Va) (a1 : Va) (r168 : (Va) → (Va) → Option (Int)) (v1 : (Int)) : Option (((Int)) ⊕ (((Unit) ⊕ (Int)))) := (bif (decide (v1 < (List.length a0.items : Int))) then (Option.bind (idx a0.items v1) fun v2 => (bif (v1 == (List.length a1.items : Int)) then (some (.inr (.inr 1))) else (Option.bind (idx a1.items v1) fun v3 => (Option.bind (r168 (v2) (v3)) fun v4 => (bif (v4 != 0) then (some (.inr (.inr v4))) else (some (.inl ((w64 (v1 + 1)))))))))) else (some (.inr (.inl ()))))
def value_Compare_b (r168 : (Va) → (Va) → Option (Int)) (a0 : Va) (a1 : Va) : Option (Int) := (bif (decide (a0.type < a1.type)) then (some (-1)) else (bif (decide (a1.type < a0.type)) then (some 1) else (bif (decide (a0.num < a1.num)) then (some (-1)) else (bif (decide (a1.num < a0.num)) then (some 1) else (bif (Op.bytesLess a0.text.toList a1.text.toList) then (some (-1)) else (bif (!((Op.bytesLess a0.text.toList a1.text.toList) || (a0.text.toList == a1.text.toList))) then (some 1) else (Option.bind (loopN (value_Compare_l1 a0 a1 r168) fuel (0)) fun (v5 : ((Unit) ⊕ (Int))) => Sum.elim (fun v6 => (bif (decide ((List.length a0.items : Int) < (List.length a1.items : Int))) then (some (-1)) else (some 0))) (fun v7 => (some v7)) v5)))))))
theorem value_Compare_b_ok (r168 : (Va) → (Va) → Option (Int)) (ih168 : ∀ (x0 : Va) (x1 : Va) r, r168 x0 x1 = some r → PCall Try.prog 168 [eVa x0, eVa x1] (eI (r))) (a0 : Va) (a1 : Va) (r : Int) (h : value_Compare_b r168 a0 a1 = some r) : PCall Try.prog 168 [eVa a0, eVa a1] (eI (r)) := by
 unfold value_Compare_b at h
 refine pcl [.one .keep] Try.func168 (by kernel_rfl) (by kernel_rfl) (by kernel_rfl) ?_
 refine cd 17 h (by kernel_rfl) (fun h => ?_) fun h => ?_
 ·cases h; exact lq 5 (by kernel_rfl)
 refine cd 9 h (by kernel_rfl) (fun h => ?_) fun h => ?_
 ·cases h; exact lq 5 (by kernel_rfl)
 refine cd 9 h (by kernel_rfl) (fun h => ?_) fun h => ?_
 ·cases h; exact lq 5 (by kernel_rfl)
 refine cd 9 h (by kernel_rfl) (fun h => ?_) fun h => ?_
 ·cases h; exact lq 5 (by kernel_rfl)
 refine cd 9 h (by kernel_rfl) (fun h => ?_) fun h => ?_
 ·cases h; exact lq 5 (by kernel_rfl)
 refine cd 9 h (by kernel_rfl) (fun h => ?_) fun h => ?_
 ·cases h; exact lq 5 (by kernel_rfl)
 refine lpx 10 (fun v1 => ⟨75, [(2, (.ref 1 0 0)), (3, (.ref 2 0 0)), (45, (.fz ((eL 4 eVaR) (a0.items)))), (46, (fI ((List.length a0.items : Int)))), (47, (fI (v1)))], (value_Compare_m0 a0 a1), [2, 1], []⟩) (fun v5 e st => Sum.elim (fun p => e = .exit 1 ∧ LeSt st ⟨75, [(2, (.ref 1 0 0)), (3, (.ref 2 0 0))], (value_Compare_m0 a0 a1), [2, 1], []⟩) (fun p => e = .ret ∧ retX TT st Try.f168.results.toList [.one .keep] = some (eI (p))) v5) h (by kernel_rfl) (le_a (by kernel_rfl)) (fun v1 r h => ?_) fun v5 h e st' hq => ?_
 ·unfold value_Compare_l1 at h
  refine cd 5 h (by kernel_rfl) (fun h => ?_) fun h => ?_
  ·refine ix nVaR 6 h (by kernel_rfl) fun v2 h => ?_
   refine cd 14 h (by kernel_rfl) (fun h => ?_) fun h => ?_
   ·cases h; exact lor 5 (by kernel_rfl)
   refine dw 2 6 (by kernel_rfl) ?_
   refine ix nVaR 4 h (by kernel_rfl) fun v3 h => ?_
   refine cl 2 h (ih168 _ _) (by kernel_rfl) fun v4 h => ?_
   refine cd 7 h (by kernel_rfl) (fun h => ?_) fun h => ?_
   ·cases h; exact lor 6 (by kernel_rfl)
   cases h; exact lj 5 (by kernel_rfl)
  cases h; exact lo 1 (by kernel_rfl)
 rcases v5 with v6 | v7
 ·try simp only [Sum.elim_inl, Sum.elim_inr] at h
  obtain ⟨rfl, hle⟩ := hq
  refine ⟨_, hle, ?_⟩
  refine cd 11 h (by kernel_rfl) (fun h => ?_) fun h => ?_
  ·cases h; exact lq 5 (by kernel_rfl)
  cases h; exact lq 6 (by kernel_rfl)
 ·try simp only [Sum.elim_inl, Sum.elim_inr] at h
  obtain ⟨rfl, hret⟩ := hq
  refine ⟨_, LeSt.refl, ?_⟩
  cases h; exact lv hret
def value_Compare : Nat → (Va) → (Va) → Option (Int)
  | 0 => fun _ _ => none
  | n + 1 => value_Compare_b (value_Compare n)
theorem value_Compare_ok : ∀ (n : Nat) (x0 : Va) (x1 : Va) r, value_Compare n x0 x1 = some r → PCall Try.prog 168 [eVa x0, eVa x1] (eI (r))
  | 0, _, _, _, h => by cases h
  | n + 1, x0, x1, r, h => value_Compare_b_ok (value_Compare n) (value_Compare_ok n) x0 x1 r h

def value_Equal (a0 : Va) (a1 : Va) : Option (Bool) := (Option.bind (value_Compare fuel (a0) (a1)) fun v1 => (some (v1 == 0)))
theorem value_Equal_ok (a0 : Va) (a1 : Va) (r : Bool) (h : value_Equal a0 a1 = some r) : PCall Try.prog 129 [eVa a0, eVa a1] (eB (r)) := by
 unfold value_Equal at h
 refine pcl [.one .keep] Try.func129 (by kernel_rfl) (by kernel_rfl) (by kernel_rfl) ?_
 refine cl 10 h (value_Compare_ok _ _ _) (by kernel_rfl) fun v1 h => ?_
 cases h; exact lq 4 (by kernel_rfl)

def languages_checked_l1 (v2 : Va) (v4 : List Va) (v5 : (Int)) : Option (((Int)) ⊕ (((Unit) ⊕ (Int)))) := (bif (decide (v5 < (List.length v4 : Int))) then (Option.bind (idx v4 v5) fun v6 => (Option.bind (value_Equal (v6) (v2)) fun v7 => (bif v7 then (some (.inr (.inr 6))) else (some (.inl ((w64 (v5 + 1)))))))) else (some (.inr (.inl ()))))
def languages_checked_l2 (a0 : List Va) (v1 : (Int)) : Option (((Int)) ⊕ (((Unit) ⊕ (Int)))) := (bif (decide (v1 < (List.length a0 : Int))) then (Option.bind (idx a0 v1) fun v2 => (Option.bind (value_Check fuel (v2)) fun v3 => (bif (v3 != 0) then (some (.inr (.inr v3))) else (Option.bind (cutL a0 0 v1) fun v4 => (Option.bind (loopN (languages_checked_l1 v2 v4) fuel (0)) fun (v8 : ((Unit) ⊕ (Int))) => Sum.elim (fun v9 => (some (.inl ((w64 (v1 + 1)))))) (fun v10 => (some (.inr (.inr v10)))) v8))))) else (some (.inr (.inl ()))))
def languages_checked (a0 : List Va) : Option (Int) := (bif (decide (16 < (List.length a0 : Int))) then (some 2) else (Option.bind (loopN (languages_checked_l2 a0) fuel (0)) fun (v11 : ((Unit) ⊕ (Int))) => Sum.elim (fun v12 => (some 0)) (fun v13 => (some v13)) v11))
theorem languages_checked_ok (a0 : List Va) (r : Int) (h : languages_checked a0 = some r) : PCall Try.prog 63 [(eL 4 eVaR) a0] (eI (r)) := by
 unfold languages_checked at h
 refine pcl [.one .keep] Try.func63 (by kernel_rfl) (by kernel_rfl) (by kernel_rfl) ?_
 refine cd 11 h (by kernel_rfl) (fun h => ?_) fun h => ?_
 ·cases h; exact lq 5 (by kernel_rfl)
 refine lpx 9 (fun v1 => ⟨36, [(0, (.fz ((eL 4 eVaR) (a0)))), (11, (.fz ((eL 4 eVaR) (a0)))), (12, (fI ((List.length a0 : Int)))), (13, (fI (v1)))], [], [], []⟩) (fun v11 e st => Sum.elim (fun p => e = .exit 0 ∧ LeSt st ⟨36, [], [], [], []⟩) (fun p => e = .ret ∧ retX TT st Try.f63.results.toList [.one .keep] = some (eI (p))) v11) h (by kernel_rfl) (le_a (by kernel_rfl)) (fun v1 r h => ?_) fun v11 h e st' hq => ?_
 ·unfold languages_checked_l2 at h
  refine cd 5 h (by kernel_rfl) (fun h => ?_) fun h => ?_
  ·refine ix nVaR 6 h (by kernel_rfl) fun v2 h => ?_
   refine cl 9 h (value_Check_ok _ _) (by kernel_rfl) fun v3 h => ?_
   refine cd 7 h (by kernel_rfl) (fun h => ?_) fun h => ?_
   ·cases h; exact lor 6 (by kernel_rfl)
   obtain ⟨v4, hv4, h⟩ := Option.bind_eq_some_iff.1 h
   refine nst 5 (s_cutL (t := 63) (x := (.tmp 23)) (lo := none) (hi := (some (.tmp 24))) (d := tt63) (e := 65) (de := tt65) (size := 4) (enc := eVaR) (xs := a0) (l := none) (h := (some v1)) hv4 tt_ok (by kernel_rfl) (by kernel_rfl) (by kernel_rfl) (by kernel_rfl) (by kernel_rfl) (by kernel_rfl) (by kernel_rfl) (by kernel_rfl)) (by kernel_rfl) ?_
   refine lpx 4 (fun v5 => ⟨36, [(0, (.fz ((eL 4 eVaR) (a0)))), (4, (.ref 1 0 0)), (11, (.fz ((eL 4 eVaR) (a0)))), (12, (fI ((List.length a0 : Int)))), (13, (fI (v1))), (25, (.fz ((eL 4 eVaR) (v4)))), (26, (fI ((List.length v4 : Int)))), (27, (fI (v5)))], [(1, (.box 65 [(fI (v2.type)), (fI (v2.num)), (fS (v2.text)), (.fz ((eL 4 eVaR) (v2.items)))]))], [1], []⟩) (fun v8 e st => Sum.elim (fun p => e = .exit 2 ∧ LeSt st ⟨36, [(0, (.fz ((eL 4 eVaR) (a0)))), (11, (.fz ((eL 4 eVaR) (a0)))), (12, (fI ((List.length a0 : Int)))), (13, (fI (v1)))], [], [], []⟩) (fun p => e = .ret ∧ retX TT st Try.f63.results.toList [.one .keep] = some (eI (p))) v8) h (by kernel_rfl) (le_a (by kernel_rfl)) (fun v5 r h => ?_) fun v8 h e st' hq => ?_
   ·unfold languages_checked_l1 at h
    refine cd 5 h (by kernel_rfl) (fun h => ?_) fun h => ?_
    ·refine ix nVaR 5 h (by kernel_rfl) fun v6 h => ?_
     refine cl 8 h (value_Equal_ok _ _) (by kernel_rfl) fun v7 h => ?_
     refine cd 1 h (by kernel_rfl) (fun h => ?_) fun h => ?_
     ·cases h; exact lor 5 (by kernel_rfl)
     cases h; exact lj 5 (by kernel_rfl)
    cases h; exact lo 1 (by kernel_rfl)
   rcases v8 with v9 | v10
   ·try simp only [Sum.elim_inl, Sum.elim_inr] at h
    obtain ⟨rfl, hle⟩ := hq
    refine ⟨_, hle, ?_⟩
    cases h; exact lj 4 (by kernel_rfl)
   ·try simp only [Sum.elim_inl, Sum.elim_inr] at h
    obtain ⟨rfl, hret⟩ := hq
    refine ⟨_, LeSt.refl, ?_⟩
    cases h; exact lvo hret
  cases h; exact lo 1 (by kernel_rfl)
 rcases v11 with v12 | v13
 ·try simp only [Sum.elim_inl, Sum.elim_inr] at h
  obtain ⟨rfl, hle⟩ := hq
  refine ⟨_, hle, ?_⟩
  cases h; exact lq 5 (by kernel_rfl)
 ·try simp only [Sum.elim_inl, Sum.elim_inr] at h
  obtain ⟨rfl, hret⟩ := hq
  refine ⟨_, LeSt.refl, ?_⟩
  cases h; exact lv hret

def value_OfInt (a0 : Int) : Option (Va) := (some (Va.mk (2) (a0) ((⟨#[]⟩ : ByteArray)) (([] : List Va))))
theorem value_OfInt_ok (a0 : Int) (r : Va) (h : value_OfInt a0 = some r) : PCall Try.prog 130 [eI a0] (eVa (r)) := by
 unfold value_OfInt at h
 refine pcl [.ag [.keep, .keep, .keep, .sl 4]] Try.func130 (by kernel_rfl) (by kernel_rfl) (by kernel_rfl) ?_
 cases h; exact lq 11 (by kernel_rfl)

def languages_integers_l1 (a0 : List Int) (v1 : (Int) × (List Va)) : Option (((Int) × (List Va)) ⊕ ((List Va))) := (bif (decide (v1.1 < (List.length a0 : Int))) then (Option.bind (idx a0 v1.1) fun v2 => (Option.bind (value_OfInt (v2)) fun v3 => (Option.bind (app 56 v1.2 ([v3] : List (Va))) fun v4 => (some (.inl ((w64 (v1.1 + 1)), v4)))))) else (some (.inr (v1.2))))
def languages_integers (a0 : List Int) : Option (List Va) := (Option.bind (loopN (languages_integers_l1 a0) fuel (0, ([] : List (Va)))) fun (v6 : (List Va)) => (some v6))
theorem languages_integers_ok (a0 : List Int) (r : List Va) (h : languages_integers a0 = some r) : PCall Try.prog 64 [(eL 1 eI) a0] ((eL 4 eVaR) (r)) := by
 unfold languages_integers at h
 refine pcl [.one (.sl 4)] Try.func64 (by kernel_rfl) (by kernel_rfl) (by kernel_rfl) ?_
 refine wle 16 (le_nilrow (e := 65) (size := 4) (t := 3) (id := 1) (by decide) (by kernel_rfl) (by kernel_rfl)) (by kernel_rfl) ?_
 refine lp1 0 (fun v1 => ⟨19, [(3, (.row 1 (List.length (v1.2)))), (6, (.fz ((eL 1 eI) (a0)))), (7, (fI ((List.length a0 : Int)))), (8, (fI (v1.1)))], [(1, (.frow 65 4 (List.map eVaR (v1.2))))], [1], []⟩) (.exit 0) (fun v6 => ⟨19, [(3, (.row 1 (List.length (v6))))], [(1, (.frow 65 4 (List.map eVaR (v6))))], [1], []⟩) h (by kernel_rfl) (by kernel_rfl) (fun v1 r h => ?_) fun v6 h => ?_
 ·unfold languages_integers_l1 at h
  refine cd 5 h (by kernel_rfl) (fun h => ?_) fun h => ?_
  ·refine ix nI 5 h (by kernel_rfl) fun v2 h => ?_
   refine cl 6 h (value_OfInt_ok _) (by kernel_rfl) fun v3 h => ?_
   refine wle 1 (le_eq (t := 15) (x := .lim 4 1 [eVa (v3)]) (y := .lim 4 1 (List.map eVaR ([v3] : List (Va)))) (by kernel_rfl) (by simp only [List.map, eVaR_eq])) (by kernel_rfl) ?_
   refine ap nVaR 0 h (by kernel_rfl) fun v4 h => ?_
   cases h; exact lj 6 (by kernel_rfl)
  cases h; exact lo 1 (by kernel_rfl)
 refine wle 5 (le_freeze (t := 2) (id := 1) (n := List.length (v6)) (e := 65) (size := 4) (xs := List.map eVaR (v6)) (by kernel_rfl) (by kernel_rfl) (by simp)) (by kernel_rfl) ?_
 cases h; exact lq 1 (by kernel_rfl)

structure S_languages_writer where
  f_Language : La
def eS_languages_writer (x : S_languages_writer) : FV := .agg [eS (x.f_Language.name), (eL 1 eI) (x.f_Language.inputs), (eL 2 eSy) (x.f_Language.symbols), (eL 9 eRu) (x.f_Language.rules)]
def nS_languages_writer : En S_languages_writer := ⟨eS_languages_writer, 4, fun x => (eS_languages_writer x).cells, fun _ => rfl, fun _ => rfl⟩
def languages_begin_h (a0 : ByteArray) (a1 : Int) (a2 : List Sy) : Option (Unit) := (some ())
theorem languages_begin_h_ok (a0 : ByteArray) (a1 : Int) (a2 : List Sy) (r : Unit) (h : languages_begin_h a0 a1 a2 = some r) : HCall Try.prog 65 ([(fS (a0)), (fI (a1)), (.fz ((eL 2 eSy) (a2)))] ++ []) [] [] (.ret (.ref 1 0 0)) [(1, (.box 83 [(fS (a0)), (.lim 1 (List.length (([a1] : List (Int)))) (List.map eI (([a1] : List (Int))))), (.fz ((eL 2 eSy) (a2))), (.row 2 (List.length (([] : List (Ru)))))])), (2, (.frow 67 9 (List.map eRu (([] : List (Ru))))))] [1, 2] := by
 unfold languages_begin_h at h
 refine hcx (gi := 0) Try.func65 (by kernel_rfl) (by kernel_rfl) (by kernel_rfl) (by kernel_rfl) (by kernel_rfl) (by kernel_rfl) (by kernel_rfl) (by kernel_rfl) ?_
 intro p0 q0 w0
 refine wle 13 (le_nilcell (e := 67) (size := 9) (id2 := 1) (j := 3) (id := 2) (e2 := 83) (cells := [(fS (a0)), (.lim 1 (List.length (([a1] : List (Int)))) (List.map eI (([a1] : List (Int))))), (.fz ((eL 2 eSy) (a2))), (.fz (.atom (.slice none 0 0)))]) (by kernel_rfl) (by kernel_rfl) (by kernel_rfl) (by kernel_rfl)) (by kernel_rfl) ?_
 obtain rfl := Option.some.inj h; exact lh 3 ⟨14, [(6, (.ref 1 0 0))], [(0, (.was p0 [] q0 w0)), (1, (.box 83 [(fS (a0)), (.lim 1 (List.length (([a1] : List (Int)))) (List.map eI (([a1] : List (Int))))), (.fz ((eL 2 eSy) (a2))), (.row 2 (List.length (([] : List (Ru)))))])), (2, (.frow 67 9 (List.map eRu (([] : List (Ru))))))], [0, 1, 2], []⟩ (le_a (by kernel_rfl)) rfl rfl (by kernel_rfl) (by kernel_rfl)

def languages_writer_input_h (a0 : ByteArray) (a1 : List Int) (a2 : List Sy) (a3 : List Ru) (a4 : Int) : Option ((List Ru)) := (Option.bind (app 120 a3 ([(Ru.mk (a4) (1) (0) ((Va.mk (0) (0) ((⟨#[]⟩ : ByteArray)) (([] : List Va)))) ((⟨#[]⟩ : ByteArray)) (([] : List Int)))] : List (Ru))) fun v1 => (some (v1)))
theorem languages_writer_input_h_ok (a0 : ByteArray) (a1 : List Int) (a2 : List Sy) (a3 : List Ru) (a4 : Int) (r : (List Ru)) (h : languages_writer_input_h a0 a1 a2 a3 a4 = some r) : HCall Try.prog 66 ([(.ref 1 0 0), (fI (a4))] ++ []) [(1, (.box 83 [(fS (a0)), (.fz ((eL 1 eI) (a1))), (.fz ((eL 2 eSy) (a2))), (.row 2 (List.length (a3)))])), (2, (.frow 67 9 (List.map eRu (a3))))] [1, 2] (.ret (.fz (.tup []))) [(1, (.box 83 [(fS (a0)), (.fz ((eL 1 eI) (a1))), (.fz ((eL 2 eSy) (a2))), (.row 2 (List.length (r)))])), (2, (.frow 67 9 (List.map eRu (r))))] [1, 2] := by
 unfold languages_writer_input_h at h
 refine hcx (gi := 0) Try.func66 (by kernel_rfl) (by kernel_rfl) (by kernel_rfl) (by kernel_rfl) (by kernel_rfl) (by kernel_rfl) (by kernel_rfl) (by kernel_rfl) ?_
 intro p0 q0 w0
 refine wle 9 ((le_a (by kernel_rfl) : LeSt _ ⟨17, [(4, (.ref 1 0 0)), (9, (.row 2 (List.length (a3)))), (11, (.fz (eRu ((Ru.mk (a4) (1) (0) ((Va.mk (0) (0) ((⟨#[]⟩ : ByteArray)) (([] : List Va)))) ((⟨#[]⟩ : ByteArray)) (([] : List Int)))))))], [(0, (.was p0 [1, 2] q0 w0)), (1, (.box 83 [(fS (a0)), (.fz ((eL 1 eI) (a1))), (.fz ((eL 2 eSy) (a2))), (.row 2 (List.length (a3)))])), (2, (.frow 67 9 (List.map eRu (a3))))], [0, 1, 2], []⟩)) (by kernel_rfl) ?_
 refine ap nRu 1 h (by kernel_rfl) fun v1 h => ?_
 obtain rfl := Option.some.inj h; exact lh 5 ⟨17, [], [(0, (.was p0 [1, 2] q0 w0)), (1, (.box 83 [(fS (a0)), (.fz ((eL 1 eI) (a1))), (.fz ((eL 2 eSy) (a2))), (.row 2 (List.length (v1)))])), (2, (.frow 67 9 (List.map eRu (v1))))], [0, 1, 2], []⟩ (le_a (by kernel_rfl)) rfl rfl (by kernel_rfl) (by kernel_rfl)

def languages_writer_constants_h_l1 (a4 : Int) (a5 : List Va) (v1 : (Int) × (List Ru)) : Option (((Int) × (List Ru)) ⊕ ((List Ru))) := (bif (decide (v1.1 < (List.length a5 : Int))) then (Option.bind (idx a5 v1.1) fun v2 => (Option.bind (app 120 v1.2 ([(Ru.mk (a4) (2) (0) (v2) ((⟨#[]⟩ : ByteArray)) (([] : List Int)))] : List (Ru))) fun v3 => (some (.inl ((w64 (v1.1 + 1)), v3))))) else (some (.inr (v1.2))))
def languages_writer_constants_h (a0 : ByteArray) (a1 : List Int) (a2 : List Sy) (a3 : List Ru) (a4 : Int) (a5 : List Va) : Option ((List Ru)) := (Option.bind (loopN (languages_writer_constants_h_l1 a4 a5) fuel (0, a3)) fun (v5 : (List Ru)) => (some (v5)))
theorem languages_writer_constants_h_ok (a0 : ByteArray) (a1 : List Int) (a2 : List Sy) (a3 : List Ru) (a4 : Int) (a5 : List Va) (r : (List Ru)) (h : languages_writer_constants_h a0 a1 a2 a3 a4 a5 = some r) : HCall Try.prog 67 ([(.ref 1 0 0), (fI (a4)), (.fz ((eL 4 eVaR) (a5)))] ++ []) [(1, (.box 83 [(fS (a0)), (.fz ((eL 1 eI) (a1))), (.fz ((eL 2 eSy) (a2))), (.row 2 (List.length (a3)))])), (2, (.frow 67 9 (List.map eRu (a3))))] [1, 2] (.ret (.fz (.tup []))) [(1, (.box 83 [(fS (a0)), (.fz ((eL 1 eI) (a1))), (.fz ((eL 2 eSy) (a2))), (.row 2 (List.length (r)))])), (2, (.frow 67 9 (List.map eRu (r))))] [1, 2] := by
 unfold languages_writer_constants_h at h
 refine hcx (gi := 0) Try.func67 (by kernel_rfl) (by kernel_rfl) (by kernel_rfl) (by kernel_rfl) (by kernel_rfl) (by kernel_rfl) (by kernel_rfl) (by kernel_rfl) ?_
 intro p0 q0 w0
 refine lp1 7 (fun v1 => ⟨29, [(0, (.ref 1 0 0)), (1, (fI (a4))), (8, (.fz ((eL 4 eVaR) (a5)))), (9, (fI ((List.length a5 : Int)))), (10, (fI (v1.1)))], [(0, (.was p0 [1, 2] q0 w0)), (1, (.box 83 [(fS (a0)), (.fz ((eL 1 eI) (a1))), (.fz ((eL 2 eSy) (a2))), (.row 2 (List.length (v1.2)))])), (2, (.frow 67 9 (List.map eRu (v1.2))))], [0, 1, 2], []⟩) (.exit 0) (fun v5 => ⟨29, [], [(0, (.was p0 [1, 2] q0 w0)), (1, (.box 83 [(fS (a0)), (.fz ((eL 1 eI) (a1))), (.fz ((eL 2 eSy) (a2))), (.row 2 (List.length (v5)))])), (2, (.frow 67 9 (List.map eRu (v5))))], [0, 1, 2], []⟩) h (by kernel_rfl) (by kernel_rfl) (fun v1 r h => ?_) fun v5 h => ?_
 ·unfold languages_writer_constants_h_l1 at h
  refine cd 5 h (by kernel_rfl) (fun h => ?_) fun h => ?_
  ·refine ix nVaR 5 h (by kernel_rfl) fun v2 h => ?_
   refine dz 4 11 [10] [2] (List.range 4) (by kernel_rfl) ?_
   refine nst 9 (nstep_co (st' := ⟨29, [(22, (.fz (eRu ((Ru.mk (a4) (2) (0) (v2) ((⟨#[]⟩ : ByteArray)) (([] : List Int)))))))], [], [], []⟩) (ids := []) (ts := [(22, (.ag [.keep, .keep, .keep, .keep, .keep, .keep, .sl 4, .keep, .sl 1]))]) (by kernel_rfl) (nstep_ok (c := .lim 9 1 [eRu ((Ru.mk (a4) (2) (0) (v2) ((⟨#[]⟩ : ByteArray)) (([] : List Int))))]) tt_ok (by kernel_rfl))) (by kernel_rfl) ?_
   refine apZ nRu 0 h (by kernel_rfl) (by kernel_rfl) (fun _ => by kernel_rfl) fun v3 h => ?_
   cases h; exact lj 10 (by kernel_rfl)
  cases h; exact lo 1 (by kernel_rfl)
 obtain rfl := Option.some.inj h; exact lh 0 ⟨29, [], [(0, (.was p0 [1, 2] q0 w0)), (1, (.box 83 [(fS (a0)), (.fz ((eL 1 eI) (a1))), (.fz ((eL 2 eSy) (a2))), (.row 2 (List.length (v5)))])), (2, (.frow 67 9 (List.map eRu (v5))))], [0, 1, 2], []⟩ (le_a (by kernel_rfl)) rfl rfl (by kernel_rfl) (by kernel_rfl)

def languages_writer_ops_h_l1 (a4 : Int) (a5 : List Int) (a6 : List ByteArray) (v1 : (Int) × (List Ru)) : Option (((Int) × (List Ru)) ⊕ ((List Ru))) := (bif (decide (v1.1 < (List.length a6 : Int))) then (Option.bind (idx a6 v1.1) fun v2 => (Option.bind (app 8 [] a5) fun v3 => (Option.bind (app 120 v1.2 ([(Ru.mk (a4) (3) (0) ((Va.mk (0) (0) ((⟨#[]⟩ : ByteArray)) (([] : List Va)))) (v2) (v3))] : List (Ru))) fun v4 => (some (.inl ((w64 (v1.1 + 1)), v4)))))) else (some (.inr (v1.2))))
def languages_writer_ops_h (a0 : ByteArray) (a1 : List Int) (a2 : List Sy) (a3 : List Ru) (a4 : Int) (a5 : List Int) (a6 : List ByteArray) : Option ((List Ru)) := (Option.bind (loopN (languages_writer_ops_h_l1 a4 a5 a6) fuel (0, a3)) fun (v6 : (List Ru)) => (some (v6)))
theorem languages_writer_ops_h_ok (a0 : ByteArray) (a1 : List Int) (a2 : List Sy) (a3 : List Ru) (a4 : Int) (a5 : List Int) (a6 : List ByteArray) (r : (List Ru)) (h : languages_writer_ops_h a0 a1 a2 a3 a4 a5 a6 = some r) : HCall Try.prog 68 ([(.ref 1 0 0), (fI (a4)), (.fz ((eL 1 eI) (a5))), (.fz ((eL 1 eS) (a6)))] ++ []) [(1, (.box 83 [(fS (a0)), (.fz ((eL 1 eI) (a1))), (.fz ((eL 2 eSy) (a2))), (.row 2 (List.length (a3)))])), (2, (.frow 67 9 (List.map eRu (a3))))] [1, 2] (.ret (.fz (.tup []))) [(1, (.box 83 [(fS (a0)), (.fz ((eL 1 eI) (a1))), (.fz ((eL 2 eSy) (a2))), (.row 2 (List.length (r)))])), (2, (.frow 67 9 (List.map eRu (r))))] [1, 2] := by
 unfold languages_writer_ops_h at h
 refine hcx (gi := 0) Try.func68 (by kernel_rfl) (by kernel_rfl) (by kernel_rfl) (by kernel_rfl) (by kernel_rfl) (by kernel_rfl) (by kernel_rfl) (by kernel_rfl) ?_
 intro p0 q0 w0
 refine lp1 7 (fun v1 => ⟨33, [(0, (.ref 1 0 0)), (1, (fI (a4))), (2, (.fz ((eL 1 eI) (a5)))), (10, (.fz ((eL 1 eS) (a6)))), (11, (fI ((List.length a6 : Int)))), (12, (fI (v1.1)))], [(0, (.was p0 [1, 2] q0 w0)), (1, (.box 83 [(fS (a0)), (.fz ((eL 1 eI) (a1))), (.fz ((eL 2 eSy) (a2))), (.row 2 (List.length (v1.2)))])), (2, (.frow 67 9 (List.map eRu (v1.2))))], [0, 1, 2], []⟩) (.exit 0) (fun v6 => ⟨33, [], [(0, (.was p0 [1, 2] q0 w0)), (1, (.box 83 [(fS (a0)), (.fz ((eL 1 eI) (a1))), (.fz ((eL 2 eSy) (a2))), (.row 2 (List.length (v6)))])), (2, (.frow 67 9 (List.map eRu (v6))))], [0, 1, 2], []⟩) h (by kernel_rfl) (by kernel_rfl) (fun v1 r h => ?_) fun v6 h => ?_
 ·unfold languages_writer_ops_h_l1 at h
  refine cd 5 h (by kernel_rfl) (fun h => ?_) fun h => ?_
  ·refine ix nS 5 h (by kernel_rfl) fun v2 h => ?_
   refine dz 3 13 [12] [2] (List.range 3) (by kernel_rfl) ?_
   obtain ⟨v3, hv3, h⟩ := Option.bind_eq_some_iff.1 h
   refine nst 9 (s_clone (t := 23) (X := (.const (.slice none 0 0))) (Y := (.tmp 24)) (d := tt23) (e := 3) (de := tt3) (enc := eI) (ys := a5) (m := List.length a5) hv3 tt_ok (by kernel_rfl) (by kernel_rfl) (by kernel_rfl) (by kernel_rfl) (by kernel_rfl) (by kernel_rfl) (by kernel_rfl) (by kernel_rfl) (.inl (by kernel_rfl))) (by kernel_rfl) ?_
   refine nst 1 (nstep_co (st' := ⟨33, [(26, (.fz (eRu ((Ru.mk (a4) (3) (0) ((Va.mk (0) (0) ((⟨#[]⟩ : ByteArray)) (([] : List Va)))) (v2) (v3))))))], [], [], []⟩) (ids := []) (ts := [(26, (.ag [.keep, .keep, .keep, .keep, .keep, .keep, .sl 4, .keep, .sl 1]))]) (by kernel_rfl) (nstep_ok (c := .lim 9 1 [eRu ((Ru.mk (a4) (3) (0) ((Va.mk (0) (0) ((⟨#[]⟩ : ByteArray)) (([] : List Va)))) (v2) (v3)))]) tt_ok (by kernel_rfl))) (by kernel_rfl) ?_
   refine apZ nRu 0 h (by kernel_rfl) (by kernel_rfl) (fun _ => by kernel_rfl) fun v4 h => ?_
   cases h; exact lj 10 (by kernel_rfl)
  cases h; exact lo 1 (by kernel_rfl)
 obtain rfl := Option.some.inj h; exact lh 0 ⟨33, [], [(0, (.was p0 [1, 2] q0 w0)), (1, (.box 83 [(fS (a0)), (.fz ((eL 1 eI) (a1))), (.fz ((eL 2 eSy) (a2))), (.row 2 (List.length (v6)))])), (2, (.frow 67 9 (List.map eRu (v6))))], [0, 1, 2], []⟩ (le_a (by kernel_rfl)) rfl rfl (by kernel_rfl) (by kernel_rfl)

def languages_Strings_l1 (a0 : List ByteArray) (v1 : (Int) × (List Va)) : Option (((Int) × (List Va)) ⊕ ((List Va))) := (bif (decide (v1.1 < (List.length a0 : Int))) then (Option.bind (idx a0 v1.1) fun v2 => (Option.bind (value_OfText (v2)) fun v3 => (Option.bind (app 56 v1.2 ([v3] : List (Va))) fun v4 => (some (.inl ((w64 (v1.1 + 1)), v4)))))) else (some (.inr (v1.2))))
def languages_Strings (a0 : List ByteArray) (a1 : List Int) : Option ((La) × (Int)) := (Option.bind (loopN (languages_Strings_l1 a0) fuel (0, ([] : List (Va)))) fun (v6 : (List Va)) => (Option.bind (languages_checked (v6)) fun v7 => (bif (v7 != 0) then (some ((La.mk ((⟨#[]⟩ : ByteArray)) (([] : List Int)) (([] : List Sy)) (([] : List Ru))), v7)) else (Option.bind (languages_integers (a1)) fun v8 => (Option.bind (languages_checked (v8)) fun v9 => (bif (v9 != 0) then (some ((La.mk ((⟨#[]⟩ : ByteArray)) (([] : List Int)) (([] : List Sy)) (([] : List Ru))), v9)) else (Option.bind (languages_begin_h ((⟨#[115, 116, 114, 105, 110, 103, 115]⟩ : ByteArray)) (3) (([(Sy.mk ((⟨#[116, 101, 120, 116]⟩ : ByteArray)) (3)), (Sy.mk ((⟨#[110, 117, 109, 98, 101, 114]⟩ : ByteArray)) (2))] : List (Sy)))) fun v10 => (Option.bind (languages_writer_input_h (((⟨#[115, 116, 114, 105, 110, 103, 115]⟩ : ByteArray))) (([(3)] : List (Int))) ((([(Sy.mk ((⟨#[116, 101, 120, 116]⟩ : ByteArray)) (3)), (Sy.mk ((⟨#[110, 117, 109, 98, 101, 114]⟩ : ByteArray)) (2))] : List (Sy)))) (([] : List (Ru))) (0)) fun v11 => (Option.bind (languages_writer_constants_h ((((⟨#[115, 116, 114, 105, 110, 103, 115]⟩ : ByteArray)))) ((([(3)] : List (Int)))) (((([(Sy.mk ((⟨#[116, 101, 120, 116]⟩ : ByteArray)) (3)), (Sy.mk ((⟨#[110, 117, 109, 98, 101, 114]⟩ : ByteArray)) (2))] : List (Sy))))) (v11) (0) (v6)) fun v12 => (Option.bind (languages_writer_ops_h (((((⟨#[115, 116, 114, 105, 110, 103, 115]⟩ : ByteArray))))) (((([(3)] : List (Int))))) ((((([(Sy.mk ((⟨#[116, 101, 120, 116]⟩ : ByteArray)) (3)), (Sy.mk ((⟨#[110, 117, 109, 98, 101, 114]⟩ : ByteArray)) (2))] : List (Sy)))))) (v12) (0) (([0, 0] : List (Int))) (([(⟨#[99, 111, 110, 99, 97, 116]⟩ : ByteArray)] : List (ByteArray)))) fun v13 => (Option.bind (languages_writer_ops_h ((((((⟨#[115, 116, 114, 105, 110, 103, 115]⟩ : ByteArray)))))) ((((([(3)] : List (Int)))))) (((((([(Sy.mk ((⟨#[116, 101, 120, 116]⟩ : ByteArray)) (3)), (Sy.mk ((⟨#[110, 117, 109, 98, 101, 114]⟩ : ByteArray)) (2))] : List (Sy))))))) (v13) (0) (([0] : List (Int))) (([(⟨#[117, 112, 112, 101, 114]⟩ : ByteArray), (⟨#[108, 111, 119, 101, 114]⟩ : ByteArray), (⟨#[116, 114, 105, 109]⟩ : ByteArray)] : List (ByteArray)))) fun v14 => (Option.bind (languages_writer_ops_h (((((((⟨#[115, 116, 114, 105, 110, 103, 115]⟩ : ByteArray))))))) (((((([(3)] : List (Int))))))) ((((((([(Sy.mk ((⟨#[116, 101, 120, 116]⟩ : ByteArray)) (3)), (Sy.mk ((⟨#[110, 117, 109, 98, 101, 114]⟩ : ByteArray)) (2))] : List (Sy)))))))) (v14) (0) (([0, 1] : List (Int))) (([(⟨#[119, 111, 114, 100]⟩ : ByteArray), (⟨#[99, 104, 97, 114]⟩ : ByteArray), (⟨#[114, 101, 112, 101, 97, 116]⟩ : ByteArray)] : List (ByteArray)))) fun v15 => (Option.bind (languages_writer_ops_h ((((((((⟨#[115, 116, 114, 105, 110, 103, 115]⟩ : ByteArray)))))))) ((((((([(3)] : List (Int)))))))) (((((((([(Sy.mk ((⟨#[116, 101, 120, 116]⟩ : ByteArray)) (3)), (Sy.mk ((⟨#[110, 117, 109, 98, 101, 114]⟩ : ByteArray)) (2))] : List (Sy))))))))) (v15) (0) (([0, 1, 1] : List (Int))) (([(⟨#[115, 108, 105, 99, 101]⟩ : ByteArray)] : List (ByteArray)))) fun v16 => (Option.bind (languages_writer_ops_h (((((((((⟨#[115, 116, 114, 105, 110, 103, 115]⟩ : ByteArray))))))))) (((((((([(3)] : List (Int))))))))) ((((((((([(Sy.mk ((⟨#[116, 101, 120, 116]⟩ : ByteArray)) (3)), (Sy.mk ((⟨#[110, 117, 109, 98, 101, 114]⟩ : ByteArray)) (2))] : List (Sy)))))))))) (v16) (0) (([0, 0, 0] : List (Int))) (([(⟨#[114, 101, 112, 108, 97, 99, 101]⟩ : ByteArray)] : List (ByteArray)))) fun v17 => (Option.bind (languages_integers (a1)) fun v18 => (Option.bind (languages_writer_constants_h ((((((((((⟨#[115, 116, 114, 105, 110, 103, 115]⟩ : ByteArray)))))))))) ((((((((([(3)] : List (Int)))))))))) (((((((((([(Sy.mk ((⟨#[116, 101, 120, 116]⟩ : ByteArray)) (3)), (Sy.mk ((⟨#[110, 117, 109, 98, 101, 114]⟩ : ByteArray)) (2))] : List (Sy))))))))))) (v17) (1) (v18)) fun v19 => (Option.bind (languages_writer_ops_h (((((((((((⟨#[115, 116, 114, 105, 110, 103, 115]⟩ : ByteArray))))))))))) (((((((((([(3)] : List (Int))))))))))) ((((((((((([(Sy.mk ((⟨#[116, 101, 120, 116]⟩ : ByteArray)) (3)), (Sy.mk ((⟨#[110, 117, 109, 98, 101, 114]⟩ : ByteArray)) (2))] : List (Sy)))))))))))) (v19) (1) (([0] : List (Int))) (([(⟨#[108, 101, 110]⟩ : ByteArray)] : List (ByteArray)))) fun v20 => (Option.bind (languages_writer_ops_h ((((((((((((⟨#[115, 116, 114, 105, 110, 103, 115]⟩ : ByteArray)))))))))))) ((((((((((([(3)] : List (Int)))))))))))) (((((((((((([(Sy.mk ((⟨#[116, 101, 120, 116]⟩ : ByteArray)) (3)), (Sy.mk ((⟨#[110, 117, 109, 98, 101, 114]⟩ : ByteArray)) (2))] : List (Sy))))))))))))) (v20) (1) (([0, 0] : List (Int))) (([(⟨#[102, 105, 110, 100]⟩ : ByteArray)] : List (ByteArray)))) fun v21 => (some ((La.mk (((((((((((((⟨#[115, 116, 114, 105, 110, 103, 115]⟩ : ByteArray))))))))))))) (((((((((((([(3)] : List (Int))))))))))))) ((((((((((((([(Sy.mk ((⟨#[116, 101, 120, 116]⟩ : ByteArray)) (3)), (Sy.mk ((⟨#[110, 117, 109, 98, 101, 114]⟩ : ByteArray)) (2))] : List (Sy)))))))))))))) (v21)), 0))))))))))))))))))))
theorem languages_Strings_ok (a0 : List ByteArray) (a1 : List Int) (r : (La) × (Int)) (h : languages_Strings a0 a1 = some r) : PCall Try.prog 24 [(eL 1 eS) a0, (eL 1 eI) a1] (.tup [eLa (r.1), eI (r.2)]) := by
 unfold languages_Strings at h
 refine pcl [.ag [.keep, .sl 1, .sl 2, .sl 9], .one .keep] Try.func24 (by kernel_rfl) (by kernel_rfl) (by kernel_rfl) ?_
 refine wle 17 (le_nilrow (e := 65) (size := 4) (t := 6) (id := 2) (by decide) (by kernel_rfl) (by kernel_rfl)) (by kernel_rfl) ?_
 refine lp1 0 (fun v1 => ⟨82, [(1, (.fz ((eL 1 eI) (a1)))), (4, (.ref 1 0 0)), (6, (.row 2 (List.length (v1.2)))), (12, (.fz ((eL 1 eS) (a0)))), (13, (fI ((List.length a0 : Int)))), (14, (fI (v1.1)))], [(1, (.box 27 [(fS ((⟨#[]⟩ : ByteArray))), (.fz (.atom (.slice none 0 0))), (.fz (.atom (.slice none 0 0))), (.fz (.atom (.slice none 0 0)))])), (2, (.frow 65 4 (List.map eVaR (v1.2))))], [2, 1], []⟩) (.exit 0) (fun v6 => ⟨82, [(1, (.fz ((eL 1 eI) (a1)))), (4, (.ref 1 0 0)), (6, (.row 2 (List.length (v6))))], [(1, (.box 27 [(fS ((⟨#[]⟩ : ByteArray))), (.fz (.atom (.slice none 0 0))), (.fz (.atom (.slice none 0 0))), (.fz (.atom (.slice none 0 0)))])), (2, (.frow 65 4 (List.map eVaR (v6))))], [2, 1], []⟩) h (by kernel_rfl) (by kernel_rfl) (fun v1 r h => ?_) fun v6 h => ?_
 ·unfold languages_Strings_l1 at h
  refine cd 5 h (by kernel_rfl) (fun h => ?_) fun h => ?_
  ·refine ix nS 5 h (by kernel_rfl) fun v2 h => ?_
   refine cl 6 h (value_OfText_ok _) (by kernel_rfl) fun v3 h => ?_
   refine wle 1 (le_eq (t := 21) (x := .lim 4 1 [eVa (v3)]) (y := .lim 4 1 (List.map eVaR ([v3] : List (Va)))) (by kernel_rfl) (by simp only [List.map, eVaR_eq])) (by kernel_rfl) ?_
   refine ap nVaR 0 h (by kernel_rfl) fun v4 h => ?_
   cases h; exact lj 6 (by kernel_rfl)
  cases h; exact lo 1 (by kernel_rfl)
 refine wle 4 (le_freezeTs (id := 2) (n := List.length (v6)) (e := 65) (size := 4) (xs := List.map eVaR (v6)) [6, 24] ⟨by kernel_rfl, by kernel_rfl, trivial⟩ (by kernel_rfl) (by simp)) (by kernel_rfl) ?_
 refine cl 0 h (languages_checked_ok _) (by kernel_rfl) fun v7 h => ?_
 refine cd 7 h (by kernel_rfl) (fun h => ?_) fun h => ?_
 ·cases h; exact lq 8 (by kernel_rfl)
 refine cl 5 h (languages_integers_ok _) (by kernel_rfl) fun v8 h => ?_
 refine cl 0 h (languages_checked_ok _) (by kernel_rfl) fun v9 h => ?_
 refine cd 7 h (by kernel_rfl) (fun h => ?_) fun h => ?_
 ·cases h; exact lq 8 (by kernel_rfl)
 refine hcl 6 [.one .keep, .one .keep, (.one (.sl 2))] [] [(1, 3), (2, 4)] [] h (languages_begin_h_ok _ _ _) (fun _ => by kernel_rfl) fun v10 h => ?_
 refine wle 5 ((le_a (by kernel_rfl) : LeSt _ ⟨82, [(1, (.fz ((eL 1 eI) (a1)))), (4, (.ref 1 0 0)), (6, (.fz ((eL 4 eVaR) (v6)))), (11, (.ref 3 0 0)), (41, (.ref 3 0 0))], [(1, (.box 27 [(fS ((⟨#[]⟩ : ByteArray))), (.fz (.atom (.slice none 0 0))), (.fz (.atom (.slice none 0 0))), (.fz (.atom (.slice none 0 0)))])), (3, (.box 83 [(fS (((⟨#[115, 116, 114, 105, 110, 103, 115]⟩ : ByteArray)))), (.fz ((eL 1 eI) (([(3)] : List (Int))))), (.fz ((eL 2 eSy) ((([(Sy.mk ((⟨#[116, 101, 120, 116]⟩ : ByteArray)) (3)), (Sy.mk ((⟨#[110, 117, 109, 98, 101, 114]⟩ : ByteArray)) (2))] : List (Sy)))))), (.row 4 (List.length (([] : List (Ru)))))])), (4, (.frow 67 9 (List.map eRu (([] : List (Ru))))))], [3, 4, 1], []⟩)) (by kernel_rfl) ?_
 refine hcl 0 [.one .keep, .one .keep] [(3, 1), (4, 2)] [(1, 3), (2, 4)] [1, 2] h (languages_writer_input_h_ok _ _ _ _ _) (fun _ => by kernel_rfl) fun v11 h => ?_
 refine hcl 5 [.one .keep, .one .keep, .one .keep] [(3, 1), (4, 2)] [(1, 3), (2, 4)] [1, 2] h (languages_writer_constants_h_ok _ _ _ _ _ _) (fun _ => by kernel_rfl) fun v12 h => ?_
 refine hcl 6 [.one .keep, .one .keep, (.one (.sl 1)), (.one (.sl 1))] [(3, 1), (4, 2)] [(1, 3), (2, 4)] [1, 2] h (languages_writer_ops_h_ok _ _ _ _ _ _ _) (fun _ => by kernel_rfl) fun v13 h => ?_
 refine hcl 6 [.one .keep, .one .keep, (.one (.sl 1)), (.one (.sl 1))] [(3, 1), (4, 2)] [(1, 3), (2, 4)] [1, 2] h (languages_writer_ops_h_ok _ _ _ _ _ _ _) (fun _ => by kernel_rfl) fun v14 h => ?_
 refine hcl 6 [.one .keep, .one .keep, (.one (.sl 1)), (.one (.sl 1))] [(3, 1), (4, 2)] [(1, 3), (2, 4)] [1, 2] h (languages_writer_ops_h_ok _ _ _ _ _ _ _) (fun _ => by kernel_rfl) fun v15 h => ?_
 refine hcl 6 [.one .keep, .one .keep, (.one (.sl 1)), (.one (.sl 1))] [(3, 1), (4, 2)] [(1, 3), (2, 4)] [1, 2] h (languages_writer_ops_h_ok _ _ _ _ _ _ _) (fun _ => by kernel_rfl) fun v16 h => ?_
 refine hcl 6 [.one .keep, .one .keep, (.one (.sl 1)), (.one (.sl 1))] [(3, 1), (4, 2)] [(1, 3), (2, 4)] [1, 2] h (languages_writer_ops_h_ok _ _ _ _ _ _ _) (fun _ => by kernel_rfl) fun v17 h => ?_
 refine cl 5 h (languages_integers_ok _) (by kernel_rfl) fun v18 h => ?_
 refine hcl 0 [.one .keep, .one .keep, .one .keep] [(3, 1), (4, 2)] [(1, 3), (2, 4)] [1, 2] h (languages_writer_constants_h_ok _ _ _ _ _ _) (fun _ => by kernel_rfl) fun v19 h => ?_
 refine hcl 6 [.one .keep, .one .keep, (.one (.sl 1)), (.one (.sl 1))] [(3, 1), (4, 2)] [(1, 3), (2, 4)] [1, 2] h (languages_writer_ops_h_ok _ _ _ _ _ _ _) (fun _ => by kernel_rfl) fun v20 h => ?_
 refine hcl 6 [.one .keep, .one .keep, (.one (.sl 1)), (.one (.sl 1))] [(3, 1), (4, 2)] [(1, 3), (2, 4)] [1, 2] h (languages_writer_ops_h_ok _ _ _ _ _ _ _) (fun _ => by kernel_rfl) fun v21 h => ?_
 refine wle 10 (le_freezeCell (e2 := 27) (id2 := 1) (j := 3) (id := 4) (n := List.length (v21)) (e := 67) (size := 9) (xs := List.map eRu (v21)) (cells := [(fS (((((((((((((⟨#[115, 116, 114, 105, 110, 103, 115]⟩ : ByteArray)))))))))))))), (.fz ((eL 1 eI) (((((((((((([(3)] : List (Int))))))))))))))), (.fz ((eL 2 eSy) ((((((((((((([(Sy.mk ((⟨#[116, 101, 120, 116]⟩ : ByteArray)) (3)), (Sy.mk ((⟨#[110, 117, 109, 98, 101, 114]⟩ : ByteArray)) (2))] : List (Sy)))))))))))))))), (.row 4 (List.length (v21)))]) (by kernel_rfl) (by kernel_rfl) (by kernel_rfl) (by simp)) (by kernel_rfl) ?_
 cases h; exact lq 1 (by kernel_rfl)

def value_OfPattern (a0 : ByteArray) : Option (Va) := (some (Va.mk (8) (0) (a0) (([] : List Va))))
theorem value_OfPattern_ok (a0 : ByteArray) (r : Va) (h : value_OfPattern a0 = some r) : PCall Try.prog 77 [eS a0] (eVa (r)) := by
 unfold value_OfPattern at h
 refine pcl [.ag [.keep, .keep, .keep, .sl 4]] Try.func77 (by kernel_rfl) (by kernel_rfl) (by kernel_rfl) ?_
 cases h; exact lq 11 (by kernel_rfl)

def pattern_inside (a0 : Int) : Option (Bool) := (Option.bind ((bif (decide (32 ≤ a0)) then (some ((decide (a0 ≤ 126)))) else (some (false))) : Option ((Bool))) fun (v2 : (Bool)) => (some v2))
theorem pattern_inside_ok (a0 : Int) (r : Bool) (h : pattern_inside a0 = some r) : PCall Try.prog 132 [eU8 a0] (eB (r)) := by
 unfold pattern_inside at h
 refine pcl [.one .keep] Try.func132 (by kernel_rfl) (by kernel_rfl) (by kernel_rfl) ?_
 refine jn1 5 .normal (fun v2 => ⟨9, [(2, (fB (v2)))], [], [], []⟩) h (by kernel_rfl) (fun v2 h => ?_) fun v2 h => ?_
 ·refine gd 4 h (by kernel_rfl) (fun h => ?_) fun h => ?_
  ·cases h; exact lj 5 (by kernel_rfl)
  cases h; exact lj 5 (by kernel_rfl)
 cases h; exact lq 1 (by kernel_rfl)

def internal_stringslite_IndexByte (a0 : ByteArray) (a1 : Int) : Option (Int) := (some (Lib.indexByte (ByteArray.data a0).toList (Int.toNat a1).toUInt8))
theorem internal_stringslite_IndexByte_ok (a0 : ByteArray) (a1 : Int) (r : Int) (h : internal_stringslite_IndexByte a0 a1 = some r) : PCall Try.prog 188 [eS a0, eU8 a1] (eI (r)) := by
 unfold internal_stringslite_IndexByte at h
 refine pcl [.one .keep] Try.func188 (by kernel_rfl) (by kernel_rfl) (by kernel_rfl) ?_
 refine nst 8 (s_idxByte (f := 192) (ts := #[9, 5]) (X := (.tmp 5)) (Y := (.tmp 6)) (fn := Try.f192) (s := a0) (c := a1) (by kernel_rfl) Try.func192 (by kernel_rfl) (by kernel_rfl) (by kernel_rfl) (by kernel_rfl) (by kernel_rfl) (by kernel_rfl)) (by kernel_rfl) ?_
 cases h; exact lq 3 (by kernel_rfl)

def strings_IndexByte (a0 : ByteArray) (a1 : Int) : Option (Int) := (Option.bind (internal_stringslite_IndexByte (a0) (a1)) fun v1 => (some v1))
theorem strings_IndexByte_ok (a0 : ByteArray) (a1 : Int) (r : Int) (h : strings_IndexByte a0 a1 = some r) : PCall Try.prog 173 [eS a0, eU8 a1] (eI (r)) := by
 unfold strings_IndexByte at h
 refine pcl [.one .keep] Try.func173 (by kernel_rfl) (by kernel_rfl) (by kernel_rfl) ?_
 refine cl 8 h (internal_stringslite_IndexByte_ok _ _) (by kernel_rfl) fun v1 h => ?_
 cases h; exact lq 3 (by kernel_rfl)

def pattern_special (a0 : Int) : Option (Bool) := (Option.bind (strings_IndexByte ((⟨#[40, 41, 91, 93, 46, 42, 124, 92]⟩ : ByteArray)) (a0)) fun v1 => (some (decide (0 ≤ v1))))
theorem pattern_special_ok (a0 : Int) (r : Bool) (h : pattern_special a0 = some r) : PCall Try.prog 133 [eU8 a0] (eB (r)) := by
 unfold pattern_special at h
 refine pcl [.one .keep] Try.func133 (by kernel_rfl) (by kernel_rfl) (by kernel_rfl) ?_
 refine cl 7 h (strings_IndexByte_ok _ _) (by kernel_rfl) fun v1 h => ?_
 cases h; exact lq 4 (by kernel_rfl)

def strings_Builder_copyCheck_h (a0 : List Int) : Option (Unit) := (some ())
theorem strings_Builder_copyCheck_h_ok (a0 : List Int) (r : Unit) (h : strings_Builder_copyCheck_h a0 = some r) : HCall Try.prog 174 ([(.ref 1 0 0)] ++ []) [(1, (.box 138 [(.opt 1), (.row 2 (List.length (a0)))])), (2, (.frow 5 1 (List.map eU8 (a0))))] [1, 2] (.ret (.fz (.tup []))) [(1, (.box 138 [(.opt 1), (.row 2 (List.length (a0)))])), (2, (.frow 5 1 (List.map eU8 (a0))))] [1, 2] := by
 unfold strings_Builder_copyCheck_h at h
 refine hcx (gi := 0) Try.func174 (by kernel_rfl) (by kernel_rfl) (by kernel_rfl) (by kernel_rfl) (by kernel_rfl) (by kernel_rfl) (by kernel_rfl) (by kernel_rfl) ?_
 intro p0 q0 w0
 refine opc 0 (id := 1) (e := 138) (cells := [(.row 2 (List.length (a0)))]) (by kernel_rfl) (by kernel_rfl) ?_ ?_
 ·refine nst 6 (n_nilnil (t := 135) (x := (.tmp 5)) (y := (.const (.pointer none))) (yt := 135) (te := 138) false (by kernel_rfl) (by kernel_rfl) (by kernel_rfl) (by kernel_rfl)) (by kernel_rfl) ?_
  refine nst 5 (n_tounsafe (src := 135) (t := 179) (x := (.tmp 8)) (te := 138) (id := 1) (j := Try.t138) (e := 138) (cells := [(.fz (.atom (.pointer none))), (.row 2 (List.length (a0)))]) (by kernel_rfl) (by kernel_rfl) (by kernel_rfl) (by kernel_rfl) (by kernel_rfl) (by kernel_rfl) (by kernel_rfl) (by kernel_rfl)) (by kernel_rfl) ?_
  refine nst 0 (n_noescape (f := 189) (ts := #[179]) (X := (.tmp 9)) (fn := Try.f189) (by kernel_rfl) Try.func189 (by kernel_rfl) (by kernel_rfl) (by kernel_rfl) (by kernel_rfl)) (by kernel_rfl) ?_
  refine nst 0 (n_fromunsafe (src := 179) (t := 135) (x := (.tmp 10)) (u := 138) (id := 1) (j := Try.t138) (e := 138) (cells := [(.fz (.atom (.pointer none))), (.row 2 (List.length (a0)))]) (by kernel_rfl) (by kernel_rfl) (by kernel_rfl) (by kernel_rfl) (by kernel_rfl) (by kernel_rfl) (by kernel_rfl)) (by kernel_rfl) ?_
  obtain rfl := Option.some.inj h; exact lh 4 ⟨20, [], [(0, (.was p0 [1, 2] q0 w0)), (1, (.box 138 [(.opt 1), (.row 2 (List.length (a0)))])), (2, (.frow 5 1 (List.map eU8 (a0))))], [0, 1, 2], []⟩ (LeSt.trans (le_optcell (id := 1) (e2 := 138) (cells := [(.ref 1 0 0), (.row 2 (List.length (a0)))]) (cells' := [.opt 1, (.row 2 (List.length (a0)))]) (by kernel_rfl) (by kernel_rfl)) (le_a (by kernel_rfl))) rfl rfl (by kernel_rfl) (by kernel_rfl)
 ·refine nst 6 (n_ptrnil (t := 135) (x := (.tmp 5)) (y := (.const (.pointer none))) (yt := 135) (te := 138) (id := 1) (off := 0) (e := 138) (cells := [(.ref 1 0 0), (.row 2 (List.length (a0)))]) false (by kernel_rfl) (by kernel_rfl) (by kernel_rfl) (by kernel_rfl) (by kernel_rfl)) (by kernel_rfl) ?_
  refine nst 9 (n_ptrsame (t := 135) (x := (.tmp 17)) (y := (.tmp 18)) (yt := 135) (te := 138) (id := 1) (off := 0) (j := Try.t138) (e := 138) (cells := [(.ref 1 0 0), (.row 2 (List.length (a0)))]) true (by kernel_rfl) (by kernel_rfl) (by kernel_rfl) (by kernel_rfl) (by kernel_rfl) (by kernel_rfl)) (by kernel_rfl) ?_
  obtain rfl := Option.some.inj h; exact lh 3 ⟨20, [], [(0, (.was p0 [1, 2] q0 w0)), (1, (.box 138 [(.opt 1), (.row 2 (List.length (a0)))])), (2, (.frow 5 1 (List.map eU8 (a0))))], [0, 1, 2], []⟩ (LeSt.trans (le_optcell (id := 1) (e2 := 138) (cells := [(.ref 1 0 0), (.row 2 (List.length (a0)))]) (cells' := [.opt 1, (.row 2 (List.length (a0)))]) (by kernel_rfl) (by kernel_rfl)) (le_a (by kernel_rfl))) rfl rfl (by kernel_rfl) (by kernel_rfl)

def strings_Builder_WriteByte_h (a0 : List Int) (a1 : Int) : Option ((List Int)) := (Option.bind (strings_Builder_copyCheck_h (a0)) fun v1 => (Option.bind (app 1 a0 ([a1] : List (Int))) fun v2 => (some (v2))))
theorem strings_Builder_WriteByte_h_ok (a0 : List Int) (a1 : Int) (r : (List Int)) (h : strings_Builder_WriteByte_h a0 a1 = some r) : HCall Try.prog 134 ([(.ref 1 0 0), (.fz (eU8 (a1)))] ++ []) [(1, (.box 138 [(.opt 1), (.row 2 (List.length (a0)))])), (2, (.frow 5 1 (List.map eU8 (a0))))] [1, 2] (.ret (.fz (.atom .nilIface))) [(1, (.box 138 [(.opt 1), (.row 2 (List.length (r)))])), (2, (.frow 5 1 (List.map eU8 (r))))] [1, 2] := by
 unfold strings_Builder_WriteByte_h at h
 refine hcx (gi := 0) Try.func134 (by kernel_rfl) (by kernel_rfl) (by kernel_rfl) (by kernel_rfl) (by kernel_rfl) (by kernel_rfl) (by kernel_rfl) (by kernel_rfl) ?_
 intro p0 q0 w0
 refine hcl 7 [.one .keep] [(1, 1), (2, 2)] [(1, 1), (2, 2)] [1, 2] h (strings_Builder_copyCheck_h_ok _) (fun _ => by kernel_rfl) fun v1 h => ?_
 refine ap nU8 10 h (by kernel_rfl) fun v2 h => ?_
 obtain rfl := Option.some.inj h; exact lh 9 ⟨17, [(4, (.fz (.atom .nilIface)))], [(0, (.was p0 [1, 2] q0 w0)), (1, (.box 138 [(.opt 1), (.row 2 (List.length (v2)))])), (2, (.frow 5 1 (List.map eU8 (v2))))], [0, 1, 2], []⟩ (le_a (by kernel_rfl)) rfl rfl (by kernel_rfl) (by kernel_rfl)

def strings_Builder_Len_h (a0 : List Int) : Option (Unit) := (some ())
theorem strings_Builder_Len_h_ok (a0 : List Int) (r : Unit) (h : strings_Builder_Len_h a0 = some r) : HCall Try.prog 135 ([(.ref 1 0 0)] ++ []) [(1, (.box 138 [(.opt 1), (.row 2 (List.length (a0)))])), (2, (.frow 5 1 (List.map eU8 (a0))))] [1, 2] (.ret (fI ((List.length (a0) : Int)))) [(1, (.box 138 [(.opt 1), (.row 2 (List.length (a0)))])), (2, (.frow 5 1 (List.map eU8 (a0))))] [1, 2] := by
 unfold strings_Builder_Len_h at h
 refine hcx (gi := 0) Try.func135 (by kernel_rfl) (by kernel_rfl) (by kernel_rfl) (by kernel_rfl) (by kernel_rfl) (by kernel_rfl) (by kernel_rfl) (by kernel_rfl) ?_
 intro p0 q0 w0
 refine nst 10 (n_len_row (t := 136) (x := (.tmp 6)) (d := tt136) (id := 2) (e2 := 5) (e := 5) (size := 1) (n := List.length (a0)) (xs := List.map eU8 (a0)) tt_ok (by kernel_rfl) (by kernel_rfl) rfl (by kernel_rfl) (by kernel_rfl) (by simp)) (by kernel_rfl) ?_
 obtain rfl := Option.some.inj h; exact lh 3 ⟨8, [(2, (fI ((List.length (a0) : Int))))], [(0, (.was p0 [1, 2] q0 w0)), (1, (.box 138 [(.opt 1), (.row 2 (List.length (a0)))])), (2, (.frow 5 1 (List.map eU8 (a0))))], [0, 1, 2], []⟩ (le_a (by kernel_rfl)) rfl rfl (by kernel_rfl) (by kernel_rfl)

def strings_Builder_String_h (a0 : List Int) : Option (Unit) := (some ())
theorem strings_Builder_String_h_ok (a0 : List Int) (r : Unit) (h : strings_Builder_String_h a0 = some r) : HCall Try.prog 136 ([(.ref 1 0 0)] ++ []) [(1, (.box 138 [(.opt 1), (.row 2 (List.length (a0)))])), (2, (.frow 5 1 (List.map eU8 (a0))))] [1, 2] (.ret (fS ((toBA a0)))) [(1, (.box 138 [(.opt 1), (.row 2 0)]))] [1, 2] := by
 unfold strings_Builder_String_h at h
 refine hcx (gi := 0) Try.func136 (by kernel_rfl) (by kernel_rfl) (by kernel_rfl) (by kernel_rfl) (by kernel_rfl) (by kernel_rfl) (by kernel_rfl) (by kernel_rfl) ?_
 intro p0 q0 w0
 refine dw 5 10 (by kernel_rfl) ?_
 refine nst 4 (n_sliceData (x := (.tmp 6)) (ts := #[136]) (id := 2) (e' := 5) (e := 5) (size := 1) (n := List.length (a0)) (xs := List.map eU8 (a0)) (by kernel_rfl) (by kernel_rfl) (by kernel_rfl) (by kernel_rfl) (by simp)) (by kernel_rfl) ?_
 refine nst 4 (n_len_row (t := 136) (x := (.tmp 11)) (d := tt136) (id := 2) (e2 := 5) (e := 5) (size := 1) (n := List.length (a0)) (xs := List.map eU8 (a0)) tt_ok (by kernel_rfl) (by kernel_rfl) rfl (by kernel_rfl) (by kernel_rfl) (by simp)) (by kernel_rfl) ?_
 refine sst 1 (s_unsafeString (x := (.tmp 7)) (y := (.tmp 12)) (pt := 167) (it := 3) (e := 5) (id := 2) (xs := a0) (by kernel_rfl) (by kernel_rfl) (by kernel_rfl) (by kernel_rfl) (by kernel_rfl) rfl (by kernel_rfl)) (by kernel_rfl) ?_
 refine wle 0 ((le_co (ids := [0, 1, 2]) (ts := [(12, .one .keep), (13, .one .keep)]) (os := [(0, []), (1, [.keep, .zr])]) (by kernel_rfl) : LeSt _ ⟨14, [(12, (fI ((List.length (a0) : Int)))), (13, (fS ((toBA a0))))], [(0, (.was p0 [1, 2] q0 w0)), (1, (.box 138 [(.opt 1), (.row 2 0)]))], [0, 1, 2], []⟩)) (by kernel_rfl) ?_
 obtain rfl := Option.some.inj h; exact lh 3 ⟨14, [(2, (fS ((toBA a0))))], [(0, (.was p0 [1, 2] q0 w0)), (1, (.box 138 [(.opt 1), (.row 2 0)]))], [0, 1, 2], []⟩ (le_a (by kernel_rfl)) rfl rfl (by kernel_rfl) (by kernel_rfl)

def pattern_Literal_l1 (a0 : ByteArray) (v1 : (Int) × (List Int)) : Option (((Int) × (List Int)) ⊕ ((((List Int)) ⊕ (ByteArray)))) := (bif (decide (v1.1 < (a0.size : Int))) then (Option.bind (byt a0 v1.1) fun v2 => (Option.bind (pattern_inside (v2)) fun v3 => (bif (!v3) then (some (.inr (.inr (⟨#[]⟩ : ByteArray)))) else (Option.bind ((Option.bind (byt a0 v1.1) fun v4 => (Option.bind (pattern_special (v4)) fun v5 => (bif v5 then (Option.bind (strings_Builder_WriteByte_h (v1.2) (92)) fun v6 => (some (v6))) else (some (v1.2))))) : Option ((List Int))) fun (v8 : (List Int)) => (Option.bind (byt a0 v1.1) fun v9 => (Option.bind (strings_Builder_WriteByte_h (v8) (v9)) fun v10 => (some (.inl ((w64 (v1.1 + 1)), v10))))))))) else (some (.inr (.inl (v1.2)))))
def pattern_Literal (a0 : ByteArray) : Option (ByteArray) := (bif (a0.toList == (⟨#[]⟩ : ByteArray).toList) then (some (⟨#[40, 41]⟩ : ByteArray)) else (Option.bind (loopN (pattern_Literal_l1 a0) fuel (0, ([] : List (Int)))) fun (v11 : (((List Int)) ⊕ (ByteArray))) => Sum.elim (fun v12 => (Option.bind (strings_Builder_Len_h (v12)) fun v13 => (bif (decide (40 < (List.length ((v12)) : Int))) then (some (⟨#[]⟩ : ByteArray)) else (Option.bind (strings_Builder_String_h (v12)) fun v14 => (some (toBA (v12))))))) (fun v15 => (some v15)) v11))
theorem pattern_Literal_ok (a0 : ByteArray) (r : ByteArray) (h : pattern_Literal a0 = some r) : PCall Try.prog 78 [eS a0] (eS (r)) := by
 unfold pattern_Literal at h
 refine pcl [.one .keep] Try.func78 (by kernel_rfl) (by kernel_rfl) (by kernel_rfl) ?_
 refine cd 10 h (by kernel_rfl) (fun h => ?_) fun h => ?_
 ·cases h; exact lq 5 (by kernel_rfl)
 refine wle 4 (le_nilcell (e := 5) (size := 1) (id2 := 1) (j := 1) (id := 2) (e2 := 138) (cells := [(.fz (.atom (.pointer none))), (.fz (.atom (.slice none 0 0)))]) (by kernel_rfl) (by kernel_rfl) (by kernel_rfl) (by kernel_rfl)) (by kernel_rfl) ?_
 refine wle 0 (le_optcell (id := 1) (e2 := 138) (cells := [(.fz (.atom (.pointer none))), (.row 2 (List.length (([] : List (Int)))))]) (cells' := [.opt 1, (.row 2 (List.length (([] : List (Int)))))]) (by kernel_rfl) (by kernel_rfl)) (by kernel_rfl) ?_
 refine lpx 9 (fun v1 => ⟨30, [(0, (fS (a0))), (3, (.ref 1 0 0)), (8, (fI ((a0.size : Int)))), (9, (fI (v1.1)))], [(1, (.box 138 [(.opt 1), (.row 2 (List.length (v1.2)))])), (2, (.frow 5 1 (List.map eU8 (v1.2))))], [2, 1], []⟩) (fun v11 e st => Sum.elim (fun p => e = .exit 0 ∧ LeSt st ⟨30, [(3, (.ref 1 0 0))], [(1, (.box 138 [(.opt 1), (.row 2 (List.length (p)))])), (2, (.frow 5 1 (List.map eU8 (p))))], [2, 1], []⟩) (fun p => e = .ret ∧ retX TT st Try.f78.results.toList [.one .keep] = some (eS (p))) v11) h (by kernel_rfl) (le_a (by kernel_rfl)) (fun v1 r h => ?_) fun v11 h e st' hq => ?_
 ·unfold pattern_Literal_l1 at h
  refine cd 5 h (by kernel_rfl) (fun h => ?_) fun h => ?_
  ·refine byx 13 h (by kernel_rfl) fun v2 h => ?_
   refine cl 0 h (pattern_inside_ok _) (by kernel_rfl) fun v3 h => ?_
   refine cd 2 h (by kernel_rfl) (fun h => ?_) fun h => ?_
   ·cases h; exact lor 5 (by kernel_rfl)
   refine jn1 2 .normal (fun v8 => ⟨30, [(0, (fS (a0))), (3, (.ref 1 0 0)), (4, (fI (v1.1))), (8, (fI ((a0.size : Int)))), (9, (fI (v1.1)))], [(1, (.box 138 [(.opt 1), (.row 2 (List.length (v8)))])), (2, (.frow 5 1 (List.map eU8 (v8))))], [2, 1], []⟩) h (by kernel_rfl) (fun v8 h => ?_) fun v8 h => ?_
   ·refine byx 4 h (by kernel_rfl) fun v4 h => ?_
    refine cl 0 h (pattern_special_ok _) (by kernel_rfl) fun v5 h => ?_
    refine cd 1 h (by kernel_rfl) (fun h => ?_) fun h => ?_
    ·refine hcl 1 [.one .keep, .one .keep] [(1, 1), (2, 2)] [(1, 1), (2, 2)] [1, 2] h (strings_Builder_WriteByte_h_ok _ _) (fun _ => by kernel_rfl) fun v6 h => ?_
     cases h; exact lj 1 (by kernel_rfl)
    cases h; exact lj 1 (by kernel_rfl)
   refine byx 3 h (by kernel_rfl) fun v9 h => ?_
   refine hcl 0 [.one .keep, .one .keep] [(1, 1), (2, 2)] [(1, 1), (2, 2)] [1, 2] h (strings_Builder_WriteByte_h_ok _ _) (fun _ => by kernel_rfl) fun v10 h => ?_
   cases h; exact lj 5 (by kernel_rfl)
  cases h; exact lo 1 (by kernel_rfl)
 rcases v11 with v12 | v15
 ·try simp only [Sum.elim_inl, Sum.elim_inr] at h
  obtain ⟨rfl, hle⟩ := hq
  refine ⟨_, hle, ?_⟩
  refine hcl 3 [.one .keep] [(1, 1), (2, 2)] [(1, 1), (2, 2)] [1, 2] h (strings_Builder_Len_h_ok _) (fun _ => by kernel_rfl) fun v13 h => ?_
  refine cd 2 h (by kernel_rfl) (fun h => ?_) fun h => ?_
  ·cases h; exact lq 5 (by kernel_rfl)
  refine hcl 3 [.one .keep] [(1, 1), (2, 2)] [(1, 1), (2, 2)] [1, 2] h (strings_Builder_String_h_ok _) (fun _ => by kernel_rfl) fun v14 h => ?_
  cases h; exact lq 3 (by kernel_rfl)
 ·try simp only [Sum.elim_inl, Sum.elim_inr] at h
  obtain ⟨rfl, hret⟩ := hq
  refine ⟨_, LeSt.refl, ?_⟩
  cases h; exact lv hret

def languages_Patterns_m0 (v3 : (Int) × (List Va)) : List (Nat × AObj) := [(1, (.box 27 [(fS ((⟨#[]⟩ : ByteArray))), (.fz (.atom (.slice none 0 0))), (.fz (.atom (.slice none 0 0))), (.fz (.atom (.slice none 0 0)))])), (2, (.frow 65 4 (List.map eVaR (v3.2))))]
def languages_Patterns_l1 (a0 : ByteArray) (v3 : (Int) × (List Va)) (v8 : (Int)) : Option (((Int)) ⊕ (((Unit) ⊕ ((La) × (Int))))) := (bif (decide (v8 < v3.1)) then (Option.bind (byt a0 v8) fun v9 => (Option.bind (byt a0 v3.1) fun v10 => (bif (v9 == v10) then (some (.inr (.inr ((La.mk ((⟨#[]⟩ : ByteArray)) (([] : List Int)) (([] : List Sy)) (([] : List Ru))), 6)))) else (some (.inl ((w64 (v8 + 1)))))))) else (some (.inr (.inl ()))))
def languages_Patterns_l2 (a0 : ByteArray) (v3 : (Int) × (List Va)) : Option (((Int) × (List Va)) ⊕ ((((List Va)) ⊕ ((La) × (Int))))) := (bif (decide (v3.1 < (a0.size : Int))) then (Option.bind ((Option.bind (byt a0 v3.1) fun v4 => (bif (decide (v4 < 32)) then (some (true)) else (Option.bind (byt a0 v3.1) fun v5 => (some ((decide (126 < v5))))))) : Option ((Bool))) fun (v7 : (Bool)) => (bif v7 then (some (.inr (.inr ((La.mk ((⟨#[]⟩ : ByteArray)) (([] : List Int)) (([] : List Sy)) (([] : List Ru))), 1)))) else (Option.bind (loopN (languages_Patterns_l1 a0 v3) fuel (0)) fun (v11 : ((Unit) ⊕ ((La) × (Int)))) => Sum.elim (fun v12 => (Option.bind (cutS a0 v3.1 (w64 (v3.1 + 1))) fun v13 => (Option.bind (pattern_Literal (v13)) fun v14 => (Option.bind (value_OfPattern (v14)) fun v15 => (Option.bind (app 56 v3.2 ([v15] : List (Va))) fun v16 => (some (.inl ((w64 (v3.1 + 1)), v16)))))))) (fun v17 => (some (.inr (.inr v17)))) v11))) else (some (.inr (.inl (v3.2)))))
def languages_Patterns (a0 : ByteArray) : Option ((La) × (Int)) := (Option.bind ((bif (decide ((a0.size : Int) < 1)) then (some (true)) else (some ((decide (16 < (a0.size : Int)))))) : Option ((Bool))) fun (v2 : (Bool)) => (bif v2 then (some ((La.mk ((⟨#[]⟩ : ByteArray)) (([] : List Int)) (([] : List Sy)) (([] : List Ru))), 2)) else (Option.bind (loopN (languages_Patterns_l2 a0) fuel (0, ([] : List (Va)))) fun (v18 : (((List Va)) ⊕ ((La) × (Int)))) => Sum.elim (fun v19 => (Option.bind (languages_begin_h ((⟨#[112, 97, 116, 116, 101, 114, 110, 115]⟩ : ByteArray)) (3) (([(Sy.mk ((⟨#[116, 101, 115, 116]⟩ : ByteArray)) (1)), (Sy.mk ((⟨#[116, 101, 120, 116]⟩ : ByteArray)) (3)), (Sy.mk ((⟨#[112, 97, 116, 116, 101, 114, 110]⟩ : ByteArray)) (8))] : List (Sy)))) fun v20 => (Option.bind (languages_writer_ops_h (((⟨#[112, 97, 116, 116, 101, 114, 110, 115]⟩ : ByteArray))) (([(3)] : List (Int))) ((([(Sy.mk ((⟨#[116, 101, 115, 116]⟩ : ByteArray)) (1)), (Sy.mk ((⟨#[116, 101, 120, 116]⟩ : ByteArray)) (3)), (Sy.mk ((⟨#[112, 97, 116, 116, 101, 114, 110]⟩ : ByteArray)) (8))] : List (Sy)))) (([] : List (Ru))) (0) (([1, 2] : List (Int))) (([(⟨#[109, 97, 116, 99, 104, 101, 115]⟩ : ByteArray)] : List (ByteArray)))) fun v21 => (Option.bind (languages_writer_input_h ((((⟨#[112, 97, 116, 116, 101, 114, 110, 115]⟩ : ByteArray)))) ((([(3)] : List (Int)))) (((([(Sy.mk ((⟨#[116, 101, 115, 116]⟩ : ByteArray)) (1)), (Sy.mk ((⟨#[116, 101, 120, 116]⟩ : ByteArray)) (3)), (Sy.mk ((⟨#[112, 97, 116, 116, 101, 114, 110]⟩ : ByteArray)) (8))] : List (Sy))))) (v21) (1)) fun v22 => (Option.bind (languages_writer_constants_h (((((⟨#[112, 97, 116, 116, 101, 114, 110, 115]⟩ : ByteArray))))) (((([(3)] : List (Int))))) ((((([(Sy.mk ((⟨#[116, 101, 115, 116]⟩ : ByteArray)) (1)), (Sy.mk ((⟨#[116, 101, 120, 116]⟩ : ByteArray)) (3)), (Sy.mk ((⟨#[112, 97, 116, 116, 101, 114, 110]⟩ : ByteArray)) (8))] : List (Sy)))))) (v22) (2) (v19)) fun v23 => (Option.bind (languages_writer_ops_h ((((((⟨#[112, 97, 116, 116, 101, 114, 110, 115]⟩ : ByteArray)))))) ((((([(3)] : List (Int)))))) (((((([(Sy.mk ((⟨#[116, 101, 115, 116]⟩ : ByteArray)) (1)), (Sy.mk ((⟨#[116, 101, 120, 116]⟩ : ByteArray)) (3)), (Sy.mk ((⟨#[112, 97, 116, 116, 101, 114, 110]⟩ : ByteArray)) (8))] : List (Sy))))))) (v23) (2) (([2, 2] : List (Int))) (([(⟨#[112, 99, 97, 116]⟩ : ByteArray), (⟨#[112, 97, 108, 116]⟩ : ByteArray)] : List (ByteArray)))) fun v24 => (Option.bind (languages_writer_ops_h (((((((⟨#[112, 97, 116, 116, 101, 114, 110, 115]⟩ : ByteArray))))))) (((((([(3)] : List (Int))))))) ((((((([(Sy.mk ((⟨#[116, 101, 115, 116]⟩ : ByteArray)) (1)), (Sy.mk ((⟨#[116, 101, 120, 116]⟩ : ByteArray)) (3)), (Sy.mk ((⟨#[112, 97, 116, 116, 101, 114, 110]⟩ : ByteArray)) (8))] : List (Sy)))))))) (v24) (2) (([2] : List (Int))) (([(⟨#[112, 115, 116, 97, 114]⟩ : ByteArray)] : List (ByteArray)))) fun v25 => (some ((La.mk ((((((((⟨#[112, 97, 116, 116, 101, 114, 110, 115]⟩ : ByteArray)))))))) ((((((([(3)] : List (Int)))))))) (((((((([(Sy.mk ((⟨#[116, 101, 115, 116]⟩ : ByteArray)) (1)), (Sy.mk ((⟨#[116, 101, 120, 116]⟩ : ByteArray)) (3)), (Sy.mk ((⟨#[112, 97, 116, 116, 101, 114, 110]⟩ : ByteArray)) (8))] : List (Sy))))))))) (v25)), 0))))))))) (fun v26 => (some v26)) v18)))
theorem languages_Patterns_ok (a0 : ByteArray) (r : (La) × (Int)) (h : languages_Patterns a0 = some r) : PCall Try.prog 26 [eS a0] (.tup [eLa (r.1), eI (r.2)]) := by
 unfold languages_Patterns at h
 refine pcl [.ag [.keep, .sl 1, .sl 2, .sl 9], .one .keep] Try.func26 (by kernel_rfl) (by kernel_rfl) (by kernel_rfl) ?_
 refine jn1 7 .normal (fun v2 => ⟨83, [(0, (fS (a0))), (2, (.ref 1 0 0)), (15, (fB (v2)))], [(1, (.box 27 [(fS ((⟨#[]⟩ : ByteArray))), (.fz (.atom (.slice none 0 0))), (.fz (.atom (.slice none 0 0))), (.fz (.atom (.slice none 0 0)))]))], [1], []⟩) h (by kernel_rfl) (fun v2 h => ?_) fun v2 h => ?_
 ·refine gd 5 h (by kernel_rfl) (fun h => ?_) fun h => ?_
  ·cases h; exact lj 5 (by kernel_rfl)
  cases h; exact lj 5 (by kernel_rfl)
 refine cd 0 h (by kernel_rfl) (fun h => ?_) fun h => ?_
 ·cases h; exact lq 7 (by kernel_rfl)
 refine wle 13 (le_nilrow (e := 65) (size := 4) (t := 4) (id := 2) (by decide) (by kernel_rfl) (by kernel_rfl)) (by kernel_rfl) ?_
 refine lpx 0 (fun v3 => ⟨83, [(0, (fS (a0))), (2, (.ref 1 0 0)), (4, (.row 2 (List.length (v3.2)))), (18, (fI ((a0.size : Int)))), (19, (fI (v3.1)))], (languages_Patterns_m0 v3), [2, 1], []⟩) (fun v18 e st => Sum.elim (fun p => e = .exit 0 ∧ LeSt st ⟨83, [(2, (.ref 1 0 0)), (4, (.row 2 (List.length (p))))], [(1, (.box 27 [(fS ((⟨#[]⟩ : ByteArray))), (.fz (.atom (.slice none 0 0))), (.fz (.atom (.slice none 0 0))), (.fz (.atom (.slice none 0 0)))])), (2, (.frow 65 4 (List.map eVaR (p))))], [2, 1], []⟩) (fun p => e = .ret ∧ retX TT st Try.f26.results.toList [.ag [.keep, .sl 1, .sl 2, .sl 9], .one .keep] = some (.tup [eLa (p.1), eI (p.2)])) v18) h (by kernel_rfl) (le_a (by kernel_rfl)) (fun v3 r h => ?_) fun v18 h e st' hq => ?_
 ·unfold languages_Patterns_l2 at h
  refine cd 5 h (by kernel_rfl) (fun h => ?_) fun h => ?_
  ·refine jn1 10 .normal (fun v7 => ⟨83, [(0, (fS (a0))), (2, (.ref 1 0 0)), (4, (.row 2 (List.length (v3.2)))), (5, (fI (v3.1))), (18, (fI ((a0.size : Int)))), (19, (fI (v3.1))), (31, (fB (v7)))], (languages_Patterns_m0 v3), [2, 1], []⟩) h (by kernel_rfl) (fun v7 h => ?_) fun v7 h => ?_
   ·refine byx 3 h (by kernel_rfl) fun v4 h => ?_
    refine gd 2 h (by kernel_rfl) (fun h => ?_) fun h => ?_
    ·cases h; exact lj 6 (by kernel_rfl)
    refine byx 2 h (by kernel_rfl) fun v5 h => ?_
    cases h; exact lj 3 (by kernel_rfl)
   refine cd 0 h (by kernel_rfl) (fun h => ?_) fun h => ?_
   ·cases h; exact lor 7 (by kernel_rfl)
   refine lpx 8 (fun v8 => ⟨83, [(0, (fS (a0))), (2, (.ref 1 0 0)), (4, (.row 2 (List.length (v3.2)))), (5, (fI (v3.1))), (18, (fI ((a0.size : Int)))), (19, (fI (v3.1))), (33, (fI (v3.1))), (34, (fI (v8)))], (languages_Patterns_m0 v3), [2, 1], []⟩) (fun v11 e st => Sum.elim (fun p => e = .exit 2 ∧ LeSt st ⟨83, [(0, (fS (a0))), (2, (.ref 1 0 0)), (4, (.row 2 (List.length (v3.2)))), (5, (fI (v3.1))), (18, (fI ((a0.size : Int)))), (19, (fI (v3.1)))], (languages_Patterns_m0 v3), [2, 1], []⟩) (fun p => e = .ret ∧ retX TT st Try.f26.results.toList [.ag [.keep, .sl 1, .sl 2, .sl 9], .one .keep] = some (.tup [eLa (p.1), eI (p.2)])) v11) h (by kernel_rfl) (le_a (by kernel_rfl)) (fun v8 r h => ?_) fun v11 h e st' hq => ?_
   ·unfold languages_Patterns_l1 at h
    refine cd 5 h (by kernel_rfl) (fun h => ?_) fun h => ?_
    ·refine dw 9 6 (by kernel_rfl) ?_
     refine byx 2 h (by kernel_rfl) fun v9 h => ?_
     refine byx 2 h (by kernel_rfl) fun v10 h => ?_
     refine cd 3 h (by kernel_rfl) (fun h => ?_) fun h => ?_
     ·cases h; exact lor 7 (by kernel_rfl)
     cases h; exact lj 5 (by kernel_rfl)
    cases h; exact lo 1 (by kernel_rfl)
   rcases v11 with v12 | v17
   ·try simp only [Sum.elim_inl, Sum.elim_inr] at h
    obtain ⟨rfl, hle⟩ := hq
    refine ⟨_, hle, ?_⟩
    obtain ⟨v13, hv13, h⟩ := Option.bind_eq_some_iff.1 h
    refine nst 6 (s_cutS (t := 9) (x := (.tmp 47)) (lo := (some (.tmp 48))) (hi := (some (.tmp 50))) (d := tt9) (s := a0) (l := (some v3.1)) (h := (some (w64 (v3.1 + 1)))) hv13 tt_ok (by kernel_rfl) (by kernel_rfl) (by kernel_rfl) (by kernel_rfl) (by kernel_rfl) (by kernel_rfl)) (by kernel_rfl) ?_
    refine cl 0 h (pattern_Literal_ok _) (by kernel_rfl) fun v14 h => ?_
    refine cl 0 h (value_OfPattern_ok _) (by kernel_rfl) fun v15 h => ?_
    refine wle 1 (le_eq (t := 54) (x := .lim 4 1 [eVa (v15)]) (y := .lim 4 1 (List.map eVaR ([v15] : List (Va)))) (by kernel_rfl) (by simp only [List.map, eVaR_eq])) (by kernel_rfl) ?_
    refine ap nVaR 0 h (by kernel_rfl) fun v16 h => ?_
    cases h; exact lj 6 (by kernel_rfl)
   ·try simp only [Sum.elim_inl, Sum.elim_inr] at h
    obtain ⟨rfl, hret⟩ := hq
    refine ⟨_, LeSt.refl, ?_⟩
    cases h; exact lvo hret
  cases h; exact lo 1 (by kernel_rfl)
 rcases v18 with v19 | v26
 ·try simp only [Sum.elim_inl, Sum.elim_inr] at h
  obtain ⟨rfl, hle⟩ := hq
  refine ⟨_, hle, ?_⟩
  refine hcl 6 [.one .keep, .one .keep, (.one (.sl 2))] [] [(1, 3), (2, 4)] [] h (languages_begin_h_ok _ _ _) (fun _ => by kernel_rfl) fun v20 h => ?_
  refine wle 7 ((le_a (by kernel_rfl) : LeSt _ ⟨83, [(2, (.ref 1 0 0)), (4, (.row 2 (List.length (v19)))), (7, (.ref 3 0 0)), (62, (.ref 3 0 0)), (63, (.lim 1 (List.length (([1, 2] : List (Int)))) (List.map eI (([1, 2] : List (Int)))))), (64, (.lim 1 (List.length (([(⟨#[109, 97, 116, 99, 104, 101, 115]⟩ : ByteArray)] : List (ByteArray)))) (List.map eS (([(⟨#[109, 97, 116, 99, 104, 101, 115]⟩ : ByteArray)] : List (ByteArray))))))], [(1, (.box 27 [(fS ((⟨#[]⟩ : ByteArray))), (.fz (.atom (.slice none 0 0))), (.fz (.atom (.slice none 0 0))), (.fz (.atom (.slice none 0 0)))])), (2, (.frow 65 4 (List.map eVaR (v19)))), (3, (.box 83 [(fS (((⟨#[112, 97, 116, 116, 101, 114, 110, 115]⟩ : ByteArray)))), (.fz ((eL 1 eI) (([(3)] : List (Int))))), (.fz ((eL 2 eSy) ((([(Sy.mk ((⟨#[116, 101, 115, 116]⟩ : ByteArray)) (1)), (Sy.mk ((⟨#[116, 101, 120, 116]⟩ : ByteArray)) (3)), (Sy.mk ((⟨#[112, 97, 116, 116, 101, 114, 110]⟩ : ByteArray)) (8))] : List (Sy)))))), (.row 4 (List.length (([] : List (Ru)))))])), (4, (.frow 67 9 (List.map eRu (([] : List (Ru))))))], [3, 4, 2, 1], []⟩)) (by kernel_rfl) ?_
  refine hcl 0 [.one .keep, .one .keep, (.one (.sl 1)), (.one (.sl 1))] [(3, 1), (4, 2)] [(1, 3), (2, 4)] [1, 2] h (languages_writer_ops_h_ok _ _ _ _ _ _ _) (fun _ => by kernel_rfl) fun v21 h => ?_
  refine hcl 4 [.one .keep, .one .keep] [(3, 1), (4, 2)] [(1, 3), (2, 4)] [1, 2] h (languages_writer_input_h_ok _ _ _ _ _) (fun _ => by kernel_rfl) fun v22 h => ?_
  refine wle 5 (le_freezeTs (id := 2) (n := List.length (v19)) (e := 65) (size := 4) (xs := List.map eVaR (v19)) [69] ⟨by kernel_rfl, trivial⟩ (by kernel_rfl) (by simp)) (by kernel_rfl) ?_
  refine hcl 0 [.one .keep, .one .keep, .one .keep] [(3, 1), (4, 2)] [(1, 3), (2, 4)] [1, 2] h (languages_writer_constants_h_ok _ _ _ _ _ _) (fun _ => by kernel_rfl) fun v23 h => ?_
  refine hcl 6 [.one .keep, .one .keep, (.one (.sl 1)), (.one (.sl 1))] [(3, 1), (4, 2)] [(1, 3), (2, 4)] [1, 2] h (languages_writer_ops_h_ok _ _ _ _ _ _ _) (fun _ => by kernel_rfl) fun v24 h => ?_
  refine hcl 6 [.one .keep, .one .keep, (.one (.sl 1)), (.one (.sl 1))] [(3, 1), (4, 2)] [(1, 3), (2, 4)] [1, 2] h (languages_writer_ops_h_ok _ _ _ _ _ _ _) (fun _ => by kernel_rfl) fun v25 h => ?_
  refine wle 10 (le_freezeCell (e2 := 27) (id2 := 1) (j := 3) (id := 4) (n := List.length (v25)) (e := 67) (size := 9) (xs := List.map eRu (v25)) (cells := [(fS ((((((((⟨#[112, 97, 116, 116, 101, 114, 110, 115]⟩ : ByteArray))))))))), (.fz ((eL 1 eI) ((((((([(3)] : List (Int)))))))))), (.fz ((eL 2 eSy) (((((((([(Sy.mk ((⟨#[116, 101, 115, 116]⟩ : ByteArray)) (1)), (Sy.mk ((⟨#[116, 101, 120, 116]⟩ : ByteArray)) (3)), (Sy.mk ((⟨#[112, 97, 116, 116, 101, 114, 110]⟩ : ByteArray)) (8))] : List (Sy))))))))))), (.row 4 (List.length (v25)))]) (by kernel_rfl) (by kernel_rfl) (by kernel_rfl) (by simp)) (by kernel_rfl) ?_
  cases h; exact lq 1 (by kernel_rfl)
 ·try simp only [Sum.elim_inl, Sum.elim_inr] at h
  obtain ⟨rfl, hret⟩ := hq
  refine ⟨_, LeSt.refl, ?_⟩
  cases h; exact lv hret

def languages_Lists (a0 : List Int) : Option ((La) × (Int)) := (Option.bind (languages_integers (a0)) fun v1 => (Option.bind (languages_checked (v1)) fun v2 => (bif (v2 != 0) then (some ((La.mk ((⟨#[]⟩ : ByteArray)) (([] : List Int)) (([] : List Sy)) (([] : List Ru))), v2)) else (Option.bind (languages_begin_h ((⟨#[108, 105, 115, 116, 115]⟩ : ByteArray)) (5) (([(Sy.mk ((⟨#[108, 105, 115, 116]⟩ : ByteArray)) (5)), (Sy.mk ((⟨#[110, 117, 109, 98, 101, 114]⟩ : ByteArray)) (2))] : List (Sy)))) fun v3 => (Option.bind (languages_writer_input_h (((⟨#[108, 105, 115, 116, 115]⟩ : ByteArray))) (([(5)] : List (Int))) ((([(Sy.mk ((⟨#[108, 105, 115, 116]⟩ : ByteArray)) (5)), (Sy.mk ((⟨#[110, 117, 109, 98, 101, 114]⟩ : ByteArray)) (2))] : List (Sy)))) (([] : List (Ru))) (0)) fun v4 => (Option.bind (languages_writer_ops_h ((((⟨#[108, 105, 115, 116, 115]⟩ : ByteArray)))) ((([(5)] : List (Int)))) (((([(Sy.mk ((⟨#[108, 105, 115, 116]⟩ : ByteArray)) (5)), (Sy.mk ((⟨#[110, 117, 109, 98, 101, 114]⟩ : ByteArray)) (2))] : List (Sy))))) (v4) (0) (([0, 1] : List (Int))) (([(⟨#[116, 97, 107, 101]⟩ : ByteArray), (⟨#[100, 114, 111, 112]⟩ : ByteArray), (⟨#[115, 104, 105, 102, 116]⟩ : ByteArray), (⟨#[115, 99, 97, 108, 101]⟩ : ByteArray), (⟨#[97, 98, 111, 118, 101]⟩ : ByteArray)] : List (ByteArray)))) fun v5 => (Option.bind (languages_writer_ops_h (((((⟨#[108, 105, 115, 116, 115]⟩ : ByteArray))))) (((([(5)] : List (Int))))) ((((([(Sy.mk ((⟨#[108, 105, 115, 116]⟩ : ByteArray)) (5)), (Sy.mk ((⟨#[110, 117, 109, 98, 101, 114]⟩ : ByteArray)) (2))] : List (Sy)))))) (v5) (0) (([0] : List (Int))) (([(⟨#[114, 101, 118, 101, 114, 115, 101]⟩ : ByteArray), (⟨#[115, 111, 114, 116]⟩ : ByteArray), (⟨#[117, 110, 105, 113, 117, 101]⟩ : ByteArray), (⟨#[101, 118, 101, 110]⟩ : ByteArray), (⟨#[114, 117, 110, 110, 105, 110, 103]⟩ : ByteArray)] : List (ByteArray)))) fun v6 => (Option.bind (languages_writer_ops_h ((((((⟨#[108, 105, 115, 116, 115]⟩ : ByteArray)))))) ((((([(5)] : List (Int)))))) (((((([(Sy.mk ((⟨#[108, 105, 115, 116]⟩ : ByteArray)) (5)), (Sy.mk ((⟨#[110, 117, 109, 98, 101, 114]⟩ : ByteArray)) (2))] : List (Sy))))))) (v6) (0) (([0, 0] : List (Int))) (([(⟨#[122, 105, 112]⟩ : ByteArray), (⟨#[97, 112, 112, 101, 110, 100]⟩ : ByteArray)] : List (ByteArray)))) fun v7 => (Option.bind (languages_integers (a0)) fun v8 => (Option.bind (languages_writer_constants_h (((((((⟨#[108, 105, 115, 116, 115]⟩ : ByteArray))))))) (((((([(5)] : List (Int))))))) ((((((([(Sy.mk ((⟨#[108, 105, 115, 116]⟩ : ByteArray)) (5)), (Sy.mk ((⟨#[110, 117, 109, 98, 101, 114]⟩ : ByteArray)) (2))] : List (Sy)))))))) (v7) (1) (v8)) fun v9 => (Option.bind (languages_writer_ops_h ((((((((⟨#[108, 105, 115, 116, 115]⟩ : ByteArray)))))))) ((((((([(5)] : List (Int)))))))) (((((((([(Sy.mk ((⟨#[108, 105, 115, 116]⟩ : ByteArray)) (5)), (Sy.mk ((⟨#[110, 117, 109, 98, 101, 114]⟩ : ByteArray)) (2))] : List (Sy))))))))) (v9) (1) (([0] : List (Int))) (([(⟨#[104, 101, 97, 100]⟩ : ByteArray), (⟨#[108, 97, 115, 116]⟩ : ByteArray), (⟨#[115, 117, 109]⟩ : ByteArray), (⟨#[109, 97, 120, 105, 109, 117, 109]⟩ : ByteArray), (⟨#[109, 105, 110, 105, 109, 117, 109]⟩ : ByteArray), (⟨#[108, 101, 110, 103, 116, 104]⟩ : ByteArray)] : List (ByteArray)))) fun v10 => (Option.bind (languages_writer_ops_h (((((((((⟨#[108, 105, 115, 116, 115]⟩ : ByteArray))))))))) (((((((([(5)] : List (Int))))))))) ((((((((([(Sy.mk ((⟨#[108, 105, 115, 116]⟩ : ByteArray)) (5)), (Sy.mk ((⟨#[110, 117, 109, 98, 101, 114]⟩ : ByteArray)) (2))] : List (Sy)))))))))) (v10) (1) (([0, 1] : List (Int))) (([(⟨#[101, 108, 101, 109, 101, 110, 116]⟩ : ByteArray), (⟨#[99, 111, 117, 110, 116]⟩ : ByteArray)] : List (ByteArray)))) fun v11 => (some ((La.mk ((((((((((⟨#[108, 105, 115, 116, 115]⟩ : ByteArray)))))))))) ((((((((([(5)] : List (Int)))))))))) (((((((((([(Sy.mk ((⟨#[108, 105, 115, 116]⟩ : ByteArray)) (5)), (Sy.mk ((⟨#[110, 117, 109, 98, 101, 114]⟩ : ByteArray)) (2))] : List (Sy))))))))))) (v11)), 0))))))))))))))
theorem languages_Lists_ok (a0 : List Int) (r : (La) × (Int)) (h : languages_Lists a0 = some r) : PCall Try.prog 28 [(eL 1 eI) a0] (.tup [eLa (r.1), eI (r.2)]) := by
 unfold languages_Lists at h
 refine pcl [.ag [.keep, .sl 1, .sl 2, .sl 9], .one .keep] Try.func28 (by kernel_rfl) (by kernel_rfl) (by kernel_rfl) ?_
 refine cl 9 h (languages_integers_ok _) (by kernel_rfl) fun v1 h => ?_
 refine cl 0 h (languages_checked_ok _) (by kernel_rfl) fun v2 h => ?_
 refine cd 7 h (by kernel_rfl) (fun h => ?_) fun h => ?_
 ·cases h; exact lq 8 (by kernel_rfl)
 refine hcl 6 [.one .keep, .one .keep, (.one (.sl 2))] [] [(1, 2), (2, 3)] [] h (languages_begin_h_ok _ _ _) (fun _ => by kernel_rfl) fun v3 h => ?_
 refine wle 5 ((le_a (by kernel_rfl) : LeSt _ ⟨47, [(0, (.fz ((eL 1 eI) (a0)))), (2, (.ref 1 0 0)), (5, (.ref 2 0 0)), (17, (.ref 2 0 0))], [(1, (.box 27 [(fS ((⟨#[]⟩ : ByteArray))), (.fz (.atom (.slice none 0 0))), (.fz (.atom (.slice none 0 0))), (.fz (.atom (.slice none 0 0)))])), (2, (.box 83 [(fS (((⟨#[108, 105, 115, 116, 115]⟩ : ByteArray)))), (.fz ((eL 1 eI) (([(5)] : List (Int))))), (.fz ((eL 2 eSy) ((([(Sy.mk ((⟨#[108, 105, 115, 116]⟩ : ByteArray)) (5)), (Sy.mk ((⟨#[110, 117, 109, 98, 101, 114]⟩ : ByteArray)) (2))] : List (Sy)))))), (.row 3 (List.length (([] : List (Ru)))))])), (3, (.frow 67 9 (List.map eRu (([] : List (Ru))))))], [2, 3, 1], []⟩)) (by kernel_rfl) ?_
 refine hcl 0 [.one .keep, .one .keep] [(2, 1), (3, 2)] [(1, 2), (2, 3)] [1, 2] h (languages_writer_input_h_ok _ _ _ _ _) (fun _ => by kernel_rfl) fun v4 h => ?_
 refine hcl 6 [.one .keep, .one .keep, (.one (.sl 1)), (.one (.sl 1))] [(2, 1), (3, 2)] [(1, 2), (2, 3)] [1, 2] h (languages_writer_ops_h_ok _ _ _ _ _ _ _) (fun _ => by kernel_rfl) fun v5 h => ?_
 refine hcl 6 [.one .keep, .one .keep, (.one (.sl 1)), (.one (.sl 1))] [(2, 1), (3, 2)] [(1, 2), (2, 3)] [1, 2] h (languages_writer_ops_h_ok _ _ _ _ _ _ _) (fun _ => by kernel_rfl) fun v6 h => ?_
 refine hcl 6 [.one .keep, .one .keep, (.one (.sl 1)), (.one (.sl 1))] [(2, 1), (3, 2)] [(1, 2), (2, 3)] [1, 2] h (languages_writer_ops_h_ok _ _ _ _ _ _ _) (fun _ => by kernel_rfl) fun v7 h => ?_
 refine cl 5 h (languages_integers_ok _) (by kernel_rfl) fun v8 h => ?_
 refine hcl 0 [.one .keep, .one .keep, .one .keep] [(2, 1), (3, 2)] [(1, 2), (2, 3)] [1, 2] h (languages_writer_constants_h_ok _ _ _ _ _ _) (fun _ => by kernel_rfl) fun v9 h => ?_
 refine hcl 6 [.one .keep, .one .keep, (.one (.sl 1)), (.one (.sl 1))] [(2, 1), (3, 2)] [(1, 2), (2, 3)] [1, 2] h (languages_writer_ops_h_ok _ _ _ _ _ _ _) (fun _ => by kernel_rfl) fun v10 h => ?_
 refine hcl 6 [.one .keep, .one .keep, (.one (.sl 1)), (.one (.sl 1))] [(2, 1), (3, 2)] [(1, 2), (2, 3)] [1, 2] h (languages_writer_ops_h_ok _ _ _ _ _ _ _) (fun _ => by kernel_rfl) fun v11 h => ?_
 refine wle 10 (le_freezeCell (e2 := 27) (id2 := 1) (j := 3) (id := 3) (n := List.length (v11)) (e := 67) (size := 9) (xs := List.map eRu (v11)) (cells := [(fS ((((((((((⟨#[108, 105, 115, 116, 115]⟩ : ByteArray))))))))))), (.fz ((eL 1 eI) ((((((((([(5)] : List (Int)))))))))))), (.fz ((eL 2 eSy) (((((((((([(Sy.mk ((⟨#[108, 105, 115, 116]⟩ : ByteArray)) (5)), (Sy.mk ((⟨#[110, 117, 109, 98, 101, 114]⟩ : ByteArray)) (2))] : List (Sy))))))))))))), (.row 3 (List.length (v11)))]) (by kernel_rfl) (by kernel_rfl) (by kernel_rfl) (by simp)) (by kernel_rfl) ?_
 cases h; exact lq 1 (by kernel_rfl)

def value_OfBits (a0 : Int) : Option (Va) := (some (Va.mk (4) (a0) ((⟨#[]⟩ : ByteArray)) (([] : List Va))))
theorem value_OfBits_ok (a0 : Int) (r : Va) (h : value_OfBits a0 = some r) : PCall Try.prog 81 [eI a0] (eVa (r)) := by
 unfold value_OfBits at h
 refine pcl [.ag [.keep, .keep, .keep, .sl 4]] Try.func81 (by kernel_rfl) (by kernel_rfl) (by kernel_rfl) ?_
 cases h; exact lq 11 (by kernel_rfl)
end Go.Proofs.Ytaeicmnimjfbaaa
