/- Typed programs and what computes them. -/
import Derived.Test.YtijkipikefpopaaDoorZ2
set_option linter.unusedVariables false
set_option linter.unusedSimpArgs false
set_option maxRecDepth 100000
namespace Go.Proofs.YtijkipikefpopaaDoor
open Go Go.RowKit Go.Proofs
attribute [local irreducible] NStep StepA EStep LeSt
def synthesisref02_integer_l1 (a0 : ByteArray) (v7 : (Int) × (Int)) : Option (((Int) × (Int)) ⊕ ((Int) × (Int))) := (Option.bind ((bif (decide (0 < v7.2)) then (Option.bind (synthesisref02_at (a0) (v7.1)) fun v8 => (bif (decide (48 ≤ v8)) then (Option.bind (synthesisref02_at (a0) (v7.1)) fun v9 => (bif (decide (v9 ≤ 57)) then (Option.bind (synthesisref02_at (a0) (v7.1)) fun v10 => (some ((decide ((w64 ((w64 (v7.2 * 10)) + (w64 (wu8 (v10 - 48))))) ≤ 1000000))))) else (some (false)))) else (some (false)))) else (some (false))) : Option ((Bool))) fun (v12 : (Bool)) => (bif v12 then (Option.bind (synthesisref02_at (a0) (v7.1)) fun v13 => (some (.inl ((w64 (v7.1 + 1)), (w64 ((w64 (v7.2 * 10)) + (w64 (wu8 (v13 - 48))))))))) else (some (.inr (v7.1, v7.2)))))
def synthesisref01_sign (a0 : Bool) : Option (Int) := (bif a0 then (some (-1)) else (some 1))
theorem synthesisref01_sign_ok (a0 : Bool) (r : Int) (h : synthesisref01_sign a0 = some r) : PCall Tryd.prog 65 [eB a0] (eI (r)) := by
 unfold synthesisref01_sign at h
 refine pcl [.one .keep] Tryd.func65 (by kernel_rfl) (by kernel_rfl) (by kernel_rfl) ?_
 refine cd 9 h (by kernel_rfl) (fun h => ?_) fun h => ?_
 ·cases h; exact lq 5 (by kernel_rfl)
 cases h; exact lq 6 (by kernel_rfl)

def synthesisref01_Compare_b (r32 : (Va) → (Va) → Option (Int)) (r66 : (List Va) → (List Va) → Option (Int)) (a0 : Va) (a1 : Va) : Option (Int) := (bif (a0.type != a1.type) then (Option.bind (synthesisref01_sign ((decide (a0.type < a1.type)))) fun v1 => (some v1)) else (bif (a0.num != a1.num) then (Option.bind (synthesisref01_sign ((decide (a0.num < a1.num)))) fun v2 => (some v2)) else (bif (!(a0.text.toList == a1.text.toList)) then (Option.bind (synthesisref01_sign ((Op.bytesLess a0.text.toList a1.text.toList))) fun v3 => (some v3)) else (Option.bind (r66 (a0.items) (a1.items)) fun v4 => (some v4)))))
theorem synthesisref01_Compare_b_ok (r32 : (Va) → (Va) → Option (Int)) (r66 : (List Va) → (List Va) → Option (Int)) (ih32 : ∀ (x0 : Va) (x1 : Va) r, r32 x0 x1 = some r → PCall Tryd.prog 32 [eVa x0, eVa x1] (eI (r))) (ih66 : ∀ (x0 : List Va) (x1 : List Va) r, r66 x0 x1 = some r → PCall Tryd.prog 66 [(eL 4 eVaR) x0, (eL 4 eVaR) x1] (eI (r))) (a0 : Va) (a1 : Va) (r : Int) (h : synthesisref01_Compare_b r32 r66 a0 a1 = some r) : PCall Tryd.prog 32 [eVa a0, eVa a1] (eI (r)) := by
 unfold synthesisref01_Compare_b at h
 refine pcl [.one .keep] Tryd.func32 (by kernel_rfl) (by kernel_rfl) (by kernel_rfl) ?_
 refine cd 17 h (by kernel_rfl) (fun h => ?_) fun h => ?_
 ·refine cl 7 h (synthesisref01_sign_ok _) (by kernel_rfl) fun v1 h => ?_
  cases h; exact lq 3 (by kernel_rfl)
 refine cd 9 h (by kernel_rfl) (fun h => ?_) fun h => ?_
 ·refine cl 7 h (synthesisref01_sign_ok _) (by kernel_rfl) fun v2 h => ?_
  cases h; exact lq 3 (by kernel_rfl)
 refine cd 9 h (by kernel_rfl) (fun h => ?_) fun h => ?_
 ·refine cl 7 h (synthesisref01_sign_ok _) (by kernel_rfl) fun v3 h => ?_
  cases h; exact lq 3 (by kernel_rfl)
 refine cl 7 h (ih66 _ _) (by kernel_rfl) fun v4 h => ?_
 cases h; exact lq 3 (by kernel_rfl)
def synthesisref01_CompareAll_l1 (a0 : List Va) (a1 : List Va) (r32 : (Va) → (Va) → Option (Int)) (v1 : (Int)) : Option (((Int)) ⊕ (((Unit) ⊕ (Int)))) := (Option.bind ((bif (decide (v1 < (List.length a0 : Int))) then (some ((decide (v1 < (List.length a1 : Int))))) else (some (false))) : Option ((Bool))) fun (v3 : (Bool)) => (bif v3 then (Option.bind (idx a0 v1) fun v4 => (Option.bind (idx a1 v1) fun v5 => (Option.bind (r32 (v4) (v5)) fun v6 => (bif (v6 != 0) then (some (.inr (.inr v6))) else (some (.inl ((w64 (v1 + 1))))))))) else (some (.inr (.inl ())))))
def synthesisref01_CompareAll_b (r32 : (Va) → (Va) → Option (Int)) (r66 : (List Va) → (List Va) → Option (Int)) (a0 : List Va) (a1 : List Va) : Option (Int) := (Option.bind (loopN (synthesisref01_CompareAll_l1 a0 a1 r32) fuel (0)) fun (v7 : ((Unit) ⊕ (Int))) => Sum.elim (fun v8 => (bif ((List.length a0 : Int) == (List.length a1 : Int)) then (some 0) else (Option.bind (synthesisref01_sign ((decide ((List.length a0 : Int) < (List.length a1 : Int))))) fun v9 => (some v9)))) (fun v10 => (some v10)) v7)
theorem synthesisref01_CompareAll_b_ok (r32 : (Va) → (Va) → Option (Int)) (r66 : (List Va) → (List Va) → Option (Int)) (ih32 : ∀ (x0 : Va) (x1 : Va) r, r32 x0 x1 = some r → PCall Tryd.prog 32 [eVa x0, eVa x1] (eI (r))) (ih66 : ∀ (x0 : List Va) (x1 : List Va) r, r66 x0 x1 = some r → PCall Tryd.prog 66 [(eL 4 eVaR) x0, (eL 4 eVaR) x1] (eI (r))) (a0 : List Va) (a1 : List Va) (r : Int) (h : synthesisref01_CompareAll_b r32 r66 a0 a1 = some r) : PCall Tryd.prog 66 [(eL 4 eVaR) a0, (eL 4 eVaR) a1] (eI (r)) := by
 unfold synthesisref01_CompareAll_b at h
 refine pcl [.one .keep] Tryd.func66 (by kernel_rfl) (by kernel_rfl) (by kernel_rfl) ?_
 refine lpx 10 (fun v1 => ⟨42, [(0, (.fz ((eL 4 eVaR) (a0)))), (1, (.fz ((eL 4 eVaR) (a1)))), (5, (fI (v1)))], [], [], []⟩) (fun v7 e st => Sum.elim (fun p => e = .exit 0 ∧ LeSt st ⟨42, [(0, (.fz ((eL 4 eVaR) (a0)))), (1, (.fz ((eL 4 eVaR) (a1))))], [], [], []⟩) (fun p => e = .ret ∧ retX TT st Tryd.f66.results.toList [.one .keep] = some (eI (p))) v7) h (by kernel_rfl) (le_a (by kernel_rfl)) (fun v1 r h => ?_) fun v7 h e st' hq => ?_
 ·unfold synthesisref01_CompareAll_l1 at h
  refine jn1 2 .normal (fun v3 => ⟨42, [(0, (.fz ((eL 4 eVaR) (a0)))), (1, (.fz ((eL 4 eVaR) (a1)))), (5, (fI (v1))), (16, (fB (v3)))], [], [], []⟩) h (by kernel_rfl) (fun v3 h => ?_) fun v3 h => ?_
  ·refine gd 6 h (by kernel_rfl) (fun h => ?_) fun h => ?_
   ·cases h; exact lj 6 (by kernel_rfl)
   cases h; exact lj 6 (by kernel_rfl)
  refine cd 0 h (by kernel_rfl) (fun h => ?_) fun h => ?_
  ·refine dw 4 8 (by kernel_rfl) ?_
   refine ix nVaR 2 h (by kernel_rfl) fun v4 h => ?_
   refine ix nVaR 3 h (by kernel_rfl) fun v5 h => ?_
   refine cl 2 h (ih32 _ _) (by kernel_rfl) fun v6 h => ?_
   refine cd 7 h (by kernel_rfl) (fun h => ?_) fun h => ?_
   ·cases h; exact lor 6 (by kernel_rfl)
   cases h; exact lj 6 (by kernel_rfl)
  cases h; exact lo 1 (by kernel_rfl)
 rcases v7 with v8 | v10
 ·try simp only [Sum.elim_inl, Sum.elim_inr] at h
  obtain ⟨rfl, hle⟩ := hq
  refine ⟨_, hle, ?_⟩
  refine cd 9 h (by kernel_rfl) (fun h => ?_) fun h => ?_
  ·cases h; exact lq 5 (by kernel_rfl)
  refine cl 8 h (synthesisref01_sign_ok _) (by kernel_rfl) fun v9 h => ?_
  cases h; exact lq 3 (by kernel_rfl)
 ·try simp only [Sum.elim_inl, Sum.elim_inr] at h
  obtain ⟨rfl, hret⟩ := hq
  refine ⟨_, LeSt.refl, ?_⟩
  cases h; exact lv hret
def synthesisref01_Compare_all : Nat → ((Va) → (Va) → Option (Int)) × ((List Va) → (List Va) → Option (Int))
  | 0 => (fun _ _ => none, fun _ _ => none)
  | n + 1 => (synthesisref01_Compare_b ((synthesisref01_Compare_all n).1) ((synthesisref01_Compare_all n).2), synthesisref01_CompareAll_b ((synthesisref01_Compare_all n).1) ((synthesisref01_Compare_all n).2))
def synthesisref01_Compare (n : Nat) : (Va) → (Va) → Option (Int) := (synthesisref01_Compare_all n).1
def synthesisref01_CompareAll (n : Nat) : (List Va) → (List Va) → Option (Int) := (synthesisref01_Compare_all n).2
theorem synthesisref01_Compare_all_ok : ∀ n : Nat, (∀ (x0 : Va) (x1 : Va) r, synthesisref01_Compare n x0 x1 = some r → PCall Tryd.prog 32 [eVa x0, eVa x1] (eI (r))) ∧ (∀ (x0 : List Va) (x1 : List Va) r, synthesisref01_CompareAll n x0 x1 = some r → PCall Tryd.prog 66 [(eL 4 eVaR) x0, (eL 4 eVaR) x1] (eI (r)))
  | 0 => ⟨(fun _ _ _ h => nomatch h), (fun _ _ _ h => nomatch h)⟩
  | n + 1 => ⟨(synthesisref01_Compare_b_ok _ _ ((synthesisref01_Compare_all_ok n).1) ((synthesisref01_Compare_all_ok n).2)), (synthesisref01_CompareAll_b_ok _ _ ((synthesisref01_Compare_all_ok n).1) ((synthesisref01_Compare_all_ok n).2))⟩
theorem synthesisref01_Compare_ok (n : Nat) : ∀ (x0 : Va) (x1 : Va) r, synthesisref01_Compare n x0 x1 = some r → PCall Tryd.prog 32 [eVa x0, eVa x1] (eI (r)) := (synthesisref01_Compare_all_ok n).1
def synthesisref01_Equal (a0 : Va) (a1 : Va) : Option (Bool) := (Option.bind (synthesisref01_Compare fuel (a0) (a1)) fun v1 => (some (v1 == 0)))
theorem synthesisref01_Equal_ok (a0 : Va) (a1 : Va) (r : Bool) (h : synthesisref01_Equal a0 a1 = some r) : PCall Tryd.prog 16 [eVa a0, eVa a1] (eB (r)) := by
 unfold synthesisref01_Equal at h
 refine pcl [.one .keep] Tryd.func16 (by kernel_rfl) (by kernel_rfl) (by kernel_rfl) ?_
 refine cl 10 h (synthesisref01_Compare_ok _ _ _) (by kernel_rfl) fun v1 h => ?_
 cases h; exact lq 4 (by kernel_rfl)

def synthesislaw02_smalls_l1 (a0 : List Va) (v1 : (Int)) : Option (((Int)) ⊕ (((Unit) ⊕ (Bool)))) := (bif (decide (v1 < (List.length a0 : Int))) then (Option.bind (idx a0 v1) fun v2 => (Option.bind (synthesislaw02_small fuel (v2) (5)) fun v3 => (bif (!v3) then (some (.inr (.inr false))) else (some (.inl ((w64 (v1 + 1)))))))) else (some (.inr (.inl ()))))
def synthesislaw02_smalls (a0 : List Va) : Option (Bool) := (bif (decide (30 < (List.length a0 : Int))) then (some false) else (Option.bind (loopN (synthesislaw02_smalls_l1 a0) fuel (0)) fun (v4 : ((Unit) ⊕ (Bool))) => Sum.elim (fun v5 => (some true)) (fun v6 => (some v6)) v4))
theorem synthesislaw02_smalls_ok (a0 : List Va) (r : Bool) (h : synthesislaw02_smalls a0 = some r) : PCall Tryd.prog 17 [(eL 4 eVaR) a0] (eB (r)) := by
 unfold synthesislaw02_smalls at h
 refine pcl [.one .keep] Tryd.func17 (by kernel_rfl) (by kernel_rfl) (by kernel_rfl) ?_
 refine cd 11 h (by kernel_rfl) (fun h => ?_) fun h => ?_
 ·cases h; exact lq 5 (by kernel_rfl)
 refine lpx 7 (fun v1 => ⟨19, [(0, (.fz ((eL 4 eVaR) (a0)))), (3, (fI (v1)))], [], [], []⟩) (fun v4 e st => Sum.elim (fun p => e = .exit 0 ∧ LeSt st ⟨19, [], [], [], []⟩) (fun p => e = .ret ∧ retX TT st Tryd.f17.results.toList [.one .keep] = some (eB (p))) v4) h (by kernel_rfl) (le_a (by kernel_rfl)) (fun v1 r h => ?_) fun v4 h e st' hq => ?_
 ·unfold synthesislaw02_smalls_l1 at h
  refine cd 8 h (by kernel_rfl) (fun h => ?_) fun h => ?_
  ·refine ix nVaR 7 h (by kernel_rfl) fun v2 h => ?_
   refine cl 1 h (synthesislaw02_small_ok _ _ _) (by kernel_rfl) fun v3 h => ?_
   refine cd 2 h (by kernel_rfl) (fun h => ?_) fun h => ?_
   ·cases h; exact lor 5 (by kernel_rfl)
   cases h; exact lj 6 (by kernel_rfl)
  cases h; exact lo 1 (by kernel_rfl)
 rcases v4 with v5 | v6
 ·try simp only [Sum.elim_inl, Sum.elim_inr] at h
  obtain ⟨rfl, hle⟩ := hq
  refine ⟨_, hle, ?_⟩
  cases h; exact lq 5 (by kernel_rfl)
 ·try simp only [Sum.elim_inl, Sum.elim_inr] at h
  obtain ⟨rfl, hret⟩ := hq
  refine ⟨_, LeSt.refl, ?_⟩
  cases h; exact lv hret

def synthesisref02_PrintAll_l1 (a0 : List Va) (v1 : (Int)) : Option (((Int)) ⊕ (((Unit) ⊕ ((ByteArray) × (Int))))) := (bif (decide (v1 < (List.length a0 : Int))) then (Option.bind (idx a0 v1) fun v2 => (Option.bind (synthesisref01_Check fuel (v2)) fun v3 => (bif (v3 != 0) then (some (.inr (.inr ((⟨#[]⟩ : ByteArray), v3)))) else (some (.inl ((w64 (v1 + 1)))))))) else (some (.inr (.inl ()))))
def synthesisref02_PrintAll (a0 : List Va) : Option ((ByteArray) × (Int)) := (Option.bind (loopN (synthesisref02_PrintAll_l1 a0) fuel (0)) fun (v4 : ((Unit) ⊕ ((ByteArray) × (Int)))) => Sum.elim (fun v5 => (Option.bind (synthesisref02_join fuel (a0)) fun v6 => (some (v6, 0)))) (fun v7 => (some v7)) v4)
def synthesislaw02_same_l1 (a0 : List Va) (a1 : List Va) (v1 : (Int)) : Option (((Int)) ⊕ (((Unit) ⊕ (Bool)))) := (bif (decide (v1 < (List.length a0 : Int))) then (Option.bind (idx a0 v1) fun v2 => (Option.bind (idx a1 v1) fun v3 => (Option.bind (synthesisref01_Equal (v2) (v3)) fun v4 => (bif (!v4) then (some (.inr (.inr false))) else (some (.inl ((w64 (v1 + 1))))))))) else (some (.inr (.inl ()))))
def synthesislaw02_same (a0 : List Va) (a1 : List Va) : Option (Bool) := (bif ((List.length a0 : Int) != (List.length a1 : Int)) then (some false) else (Option.bind (loopN (synthesislaw02_same_l1 a0 a1) fuel (0)) fun (v5 : ((Unit) ⊕ (Bool))) => Sum.elim (fun v6 => (some true)) (fun v7 => (some v7)) v5))
theorem synthesislaw02_same_ok (a0 : List Va) (a1 : List Va) (r : Bool) (h : synthesislaw02_same a0 a1 = some r) : PCall Tryd.prog 22 [(eL 4 eVaR) a0, (eL 4 eVaR) a1] (eB (r)) := by
 unfold synthesislaw02_same at h
 refine pcl [.one .keep] Tryd.func22 (by kernel_rfl) (by kernel_rfl) (by kernel_rfl) ?_
 refine cd 13 h (by kernel_rfl) (fun h => ?_) fun h => ?_
 ·cases h; exact lq 5 (by kernel_rfl)
 refine lpx 7 (fun v1 => ⟨27, [(0, (.fz ((eL 4 eVaR) (a0)))), (1, (.fz ((eL 4 eVaR) (a1)))), (5, (fI (v1)))], [], [], []⟩) (fun v5 e st => Sum.elim (fun p => e = .exit 0 ∧ LeSt st ⟨27, [], [], [], []⟩) (fun p => e = .ret ∧ retX TT st Tryd.f22.results.toList [.one .keep] = some (eB (p))) v5) h (by kernel_rfl) (le_a (by kernel_rfl)) (fun v1 r h => ?_) fun v5 h e st' hq => ?_
 ·unfold synthesislaw02_same_l1 at h
  refine cd 8 h (by kernel_rfl) (fun h => ?_) fun h => ?_
  ·refine dw 4 8 (by kernel_rfl) ?_
   refine ix nVaR 2 h (by kernel_rfl) fun v2 h => ?_
   refine ix nVaR 3 h (by kernel_rfl) fun v3 h => ?_
   refine cl 2 h (synthesisref01_Equal_ok _ _) (by kernel_rfl) fun v4 h => ?_
   refine cd 2 h (by kernel_rfl) (fun h => ?_) fun h => ?_
   ·cases h; exact lor 5 (by kernel_rfl)
   cases h; exact lj 6 (by kernel_rfl)
  cases h; exact lo 1 (by kernel_rfl)
 rcases v5 with v6 | v7
 ·try simp only [Sum.elim_inl, Sum.elim_inr] at h
  obtain ⟨rfl, hle⟩ := hq
  refine ⟨_, hle, ?_⟩
  cases h; exact lq 5 (by kernel_rfl)
 ·try simp only [Sum.elim_inl, Sum.elim_inr] at h
  obtain ⟨rfl, hret⟩ := hq
  refine ⟨_, LeSt.refl, ?_⟩
  cases h; exact lv hret

def synthesislaw02_LiteralBack_h (a0 : List Va) (a1 : ByteArray) : Option ((Bool)) := (Option.bind ((Option.bind (synthesislaw02_smalls (a0)) fun v1 => (bif (!v1) then (some (true)) else (bif (decide ((List.length a0 : Int) < 2)) then (some (true)) else (some ((decide (1000 < (a1.size : Int)))))))) : Option ((Bool))) fun (v3 : (Bool)) => (bif v3 then (Option.bind (synthesislaw02_awake_h ) fun v4 => (some (v4))) else (Option.bind (idx a0 0) fun v5 => (Option.bind (idx a0 1) fun v6 => (Option.bind (literal_Print_h (v5)) fun v7 => (Option.bind (literal_Print_h (v6)) fun v8 => (Option.bind ((bif (v7.2 == 0) then (Option.bind (literal_Parse (v7.1)) fun v9 => (Option.bind ((bif (v9.2.2 != 0) then (some (true)) else (Option.bind (synthesisref01_Equal (v9.1) (v5)) fun v10 => (bif (!v10) then (some (true)) else (bif (v8.2 == 0) then (Option.bind (synthesisref01_Equal (v5) (v6)) fun v11 => (some ((!((v7.1.toList == v8.1.toList) == v11))))) else (some (false)))))) : Option ((Bool))) fun (v13 : (Bool)) => (bif v13 then (some (.inr ())) else (some (.inl ()))))) else (some (.inl ()))) : Option (((Unit) ⊕ (Unit)))) fun (v14 : ((Unit) ⊕ (Unit))) => Sum.elim (fun v15 => (Option.bind (literal_PrintAll_h (a0)) fun v16 => (Option.bind ((bif (v16.2 == 0) then (Option.bind (literal_ParseAll (v16.1)) fun v17 => (Option.bind ((bif (v17.2.2 != 0) then (some (true)) else (Option.bind (synthesislaw02_same (v17.1) (a0)) fun v18 => (some ((!v18))))) : Option ((Bool))) fun (v20 : (Bool)) => (bif v20 then (some (.inr ())) else (some (.inl ()))))) else (some (.inl ()))) : Option (((Unit) ⊕ (Unit)))) fun (v21 : ((Unit) ⊕ (Unit))) => Sum.elim (fun v22 => (Option.bind (literal_Quote_h (a1)) fun v23 => (Option.bind (literal_Unquote (v23)) fun v24 => (Option.bind ((bif (v24.1.toList == a1.toList) then (bif (v24.2.1 == 0) then (bif (v24.2.2 == 0) then (Option.bind (synthesislaw02_awake_h ) fun v25 => (some (v25))) else (some (false))) else (some (false))) else (some (false))) : Option ((Bool))) fun (v27 : (Bool)) => (some (v27)))))) (fun v28 => (some (false))) v21))) (fun v29 => (some (false))) v14)))))))
theorem synthesislaw02_LiteralBack_h_ok (a0 : List Va) (a1 : ByteArray) (r : (Bool)) (h : synthesislaw02_LiteralBack_h a0 a1 = some r) : HCall Tryd.prog 7 ([(.fz ((eL 4 eVaR) (a0))), (fS (a1))] ++ []) [(1, (.glb GV))] [1] (.ret (fB (r))) [(1, (.glb GV))] [1] := by
 unfold synthesislaw02_LiteralBack_h at h
 refine hcx (gi := 0) Tryd.func7 (by kernel_rfl) (by kernel_rfl) (by kernel_rfl) (by kernel_rfl) (by kernel_rfl) (by kernel_rfl) (by kernel_rfl) (by kernel_rfl) ?_
 intro p0 q0 w0
 refine jn1 6 .normal (fun v3 => ⟨123, [(0, (.fz ((eL 4 eVaR) (a0)))), (1, (fS (a1))), (34, (fB (v3)))], [(0, (.was p0 [1] q0 w0)), (1, (.glb GV))], [0, 1], []⟩) h (by kernel_rfl) (fun v3 h => ?_) fun v3 h => ?_
 ·refine cl 2 h (synthesislaw02_smalls_ok _) (by kernel_rfl) fun v1 h => ?_
  refine gd 2 h (by kernel_rfl) (fun h => ?_) fun h => ?_
  ·cases h; exact lj 10 (by kernel_rfl)
  refine gd 5 h (by kernel_rfl) (fun h => ?_) fun h => ?_
  ·cases h; exact lj 5 (by kernel_rfl)
  cases h; exact lj 5 (by kernel_rfl)
 refine cd 0 h (by kernel_rfl) (fun h => ?_) fun h => ?_
 ·refine hcl 2 [] [(1, 1)] [(1, 1)] [1] h (synthesislaw02_awake_h_ok) (fun _ => by kernel_rfl) fun v4 h => ?_
  obtain rfl := Option.some.inj h; exact lh 3 ⟨123, [(4, (fB (v4)))], [(0, (.was p0 [1] q0 w0)), (1, (.glb GV))], [0, 1], []⟩ (le_a (by kernel_rfl)) rfl rfl (by kernel_rfl) (by kernel_rfl)
 refine dy 2 9 (List.range 6) (by kernel_rfl) ?_
 refine ix nVaR 1 h (by kernel_rfl) fun v5 h => ?_
 refine ix nVaR 2 h (by kernel_rfl) fun v6 h => ?_
 refine hcl 10 [.one .keep] [(1, 1)] [(1, 1)] [1] h (literal_Print_h_ok _) (fun _ => by kernel_rfl) fun v7 h => ?_
 refine hcl 9 [.one .keep] [(1, 1)] [(1, 1)] [1] h (literal_Print_h_ok _) (fun _ => by kernel_rfl) fun v8 h => ?_
 refine jnQ 7 (fun v14 e st => Sum.elim (fun p => e = .normal ∧ LeSt st ⟨123, [(0, (.fz ((eL 4 eVaR) (a0)))), (1, (fS (a1)))], [(0, (.was p0 [1] q0 w0)), (1, (.glb GV))], [0, 1], []⟩) (fun p => e = .ret ∧ LeSt st ⟨123, [(4, (fB (false)))], [(0, (.was p0 [1] q0 w0)), (1, (.glb GV))], [0, 1], []⟩) v14) h (by kernel_rfl) (fun v14 h => ?_) fun v14 h e st' hq => ?_
 ·refine cd 5 h (by kernel_rfl) (fun h => ?_) fun h => ?_
  ·refine cl 3 h (literal_Parse_ok _) (by kernel_rfl) fun v9 h => ?_
   refine jn1 10 .normal (fun v13 => ⟨123, [(0, (.fz ((eL 4 eVaR) (a0)))), (1, (fS (a1))), (80, (fB (v13)))], [(0, (.was p0 [1] q0 w0)), (1, (.glb GV))], [0, 1], []⟩) h (by kernel_rfl) (fun v13 h => ?_) fun v13 h => ?_
   ·refine gd 4 h (by kernel_rfl) (fun h => ?_) fun h => ?_
    ·cases h; exact lj 19 (by kernel_rfl)
    refine cl 2 h (synthesisref01_Equal_ok _ _) (by kernel_rfl) fun v10 h => ?_
    refine gd 3 h (by kernel_rfl) (fun h => ?_) fun h => ?_
    ·cases h; exact lj 13 (by kernel_rfl)
    refine gd 3 h (by kernel_rfl) (fun h => ?_) fun h => ?_
    ·refine cl 5 h (synthesisref01_Equal_ok _ _) (by kernel_rfl) fun v11 h => ?_
     cases h; exact lj 4 (by kernel_rfl)
    cases h; exact lj 10 (by kernel_rfl)
   refine cd 0 h (by kernel_rfl) (fun h => ?_) fun h => ?_
   ·cases h; exact lj 5 (by kernel_rfl)
   cases h; exact lj 1 (by kernel_rfl)
  cases h; exact lj 1 (by kernel_rfl)
 rcases v14 with v15 | v29
 ·try simp only [Sum.elim_inl, Sum.elim_inr] at h
  obtain ⟨rfl, hle⟩ := hq
  refine ⟨_, hle, ?_⟩
  refine hcl 3 [.one .keep] [(1, 1)] [(1, 1)] [1] h (literal_PrintAll_h_ok _) (fun _ => by kernel_rfl) fun v16 h => ?_
  refine jnQ 7 (fun v21 e st => Sum.elim (fun p => e = .normal ∧ LeSt st ⟨123, [(1, (fS (a1)))], [(0, (.was p0 [1] q0 w0)), (1, (.glb GV))], [0, 1], []⟩) (fun p => e = .ret ∧ LeSt st ⟨123, [(4, (fB (false)))], [(0, (.was p0 [1] q0 w0)), (1, (.glb GV))], [0, 1], []⟩) v21) h (by kernel_rfl) (fun v21 h => ?_) fun v21 h e st' hq => ?_
  ·refine cd 5 h (by kernel_rfl) (fun h => ?_) fun h => ?_
   ·refine cl 3 h (literal_ParseAll_ok _) (by kernel_rfl) fun v17 h => ?_
    refine jn1 9 .normal (fun v20 => ⟨123, [(1, (fS (a1))), (101, (fB (v20)))], [(0, (.was p0 [1] q0 w0)), (1, (.glb GV))], [0, 1], []⟩) h (by kernel_rfl) (fun v20 h => ?_) fun v20 h => ?_
    ·refine gd 4 h (by kernel_rfl) (fun h => ?_) fun h => ?_
     ·cases h; exact lj 6 (by kernel_rfl)
     refine cl 2 h (synthesislaw02_same_ok _ _) (by kernel_rfl) fun v18 h => ?_
     cases h; exact lj 3 (by kernel_rfl)
    refine cd 0 h (by kernel_rfl) (fun h => ?_) fun h => ?_
    ·cases h; exact lj 5 (by kernel_rfl)
    cases h; exact lj 1 (by kernel_rfl)
   cases h; exact lj 1 (by kernel_rfl)
  rcases v21 with v22 | v28
  ·try simp only [Sum.elim_inl, Sum.elim_inr] at h
   obtain ⟨rfl, hle⟩ := hq
   refine ⟨_, hle, ?_⟩
   refine hcl 3 [.one .keep] [(1, 1)] [(1, 1)] [1] h (literal_Quote_h_ok _) (fun _ => by kernel_rfl) fun v23 h => ?_
   refine cl 0 h (literal_Unquote_ok _) (by kernel_rfl) fun v24 h => ?_
   refine jn1 9 .normal (fun v27 => ⟨123, [(4, (fB (v27)))], [(0, (.was p0 [1] q0 w0)), (1, (.glb GV))], [0, 1], []⟩) h (by kernel_rfl) (fun v27 h => ?_) fun v27 h => ?_
   ·refine gd 5 h (by kernel_rfl) (fun h => ?_) fun h => ?_
    ·refine gd 4 h (by kernel_rfl) (fun h => ?_) fun h => ?_
     ·refine gd 4 h (by kernel_rfl) (fun h => ?_) fun h => ?_
      ·refine hcl 0 [] [(1, 1)] [(1, 1)] [1] h (synthesislaw02_awake_h_ok) (fun _ => by kernel_rfl) fun v25 h => ?_
       cases h; exact lj 3 (by kernel_rfl)
      cases h; exact lj 4 (by kernel_rfl)
     cases h; exact lj 8 (by kernel_rfl)
    cases h; exact lj 12 (by kernel_rfl)
   obtain rfl := Option.some.inj h; exact lh 1 ⟨123, [(4, (fB (v27)))], [(0, (.was p0 [1] q0 w0)), (1, (.glb GV))], [0, 1], []⟩ (le_a (by kernel_rfl)) rfl rfl (by kernel_rfl) (by kernel_rfl)
  ·try simp only [Sum.elim_inl, Sum.elim_inr] at h
   obtain ⟨rfl, hle⟩ := hq
   refine ⟨_, hle, ?_⟩
   obtain rfl := Option.some.inj h; exact lh 0 ⟨123, [(4, (fB (false)))], [(0, (.was p0 [1] q0 w0)), (1, (.glb GV))], [0, 1], []⟩ (le_a (by kernel_rfl)) rfl rfl (by kernel_rfl) (by kernel_rfl)
 ·try simp only [Sum.elim_inl, Sum.elim_inr] at h
  obtain ⟨rfl, hle⟩ := hq
  refine ⟨_, hle, ?_⟩
  obtain rfl := Option.some.inj h; exact lh 0 ⟨123, [(4, (fB (false)))], [(0, (.was p0 [1] q0 w0)), (1, (.glb GV))], [0, 1], []⟩ (le_a (by kernel_rfl)) rfl rfl (by kernel_rfl) (by kernel_rfl)

end Go.Proofs.YtijkipikefpopaaDoor
