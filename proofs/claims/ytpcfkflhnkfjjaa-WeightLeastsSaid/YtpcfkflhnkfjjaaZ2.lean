/- Typed programs and what computes them. -/
import Derived.Test.YtpcfkflhnkfjjaaZ1
set_option linter.unusedVariables false
set_option linter.unusedSimpArgs false
set_option maxRecDepth 100000
namespace Go.Proofs.Ytpcfkflhnkfjjaa
open Go Go.RowKit Go.Proofs
attribute [local irreducible] NStep StepA EStep LeSt
def term_derived_l1 (a0 : La) (a2 : Tm) (r68 : (La) → (Int) → (Tm) → Option (Int)) (v3 : Ru) (v4 : (Int)) : Option (((Int)) ⊕ (((Unit) ⊕ (Int)))) := (bif (decide (v4 < (List.length a2.args : Int))) then (Option.bind (idx a2.args v4) fun v5 => (Option.bind (idx v3.args v4) fun v6 => (Option.bind (r68 (a0) (v6) (v5)) fun v7 => (bif (v7 != 0) then (some (.inr (.inr v7))) else (some (.inl ((w64 (v4 + 1))))))))) else (some (.inr (.inl ()))))
def term_derived_b (r68 : (La) → (Int) → (Tm) → Option (Int)) (a0 : La) (a1 : Int) (a2 : Tm) : Option (Int) := (Option.bind ((bif (decide (a2.rule < 0)) then (some (true)) else (some ((decide ((List.length a0.rules : Int) ≤ a2.rule))))) : Option ((Bool))) fun (v2 : (Bool)) => (bif v2 then (some 1) else (Option.bind (idx a0.rules a2.rule) fun v3 => (bif (v3.symbol != a1) then (some 3) else (bif ((List.length a2.args : Int) != (List.length v3.args : Int)) then (some 4) else (Option.bind (loopN (term_derived_l1 a0 a2 r68 v3) fuel (0)) fun (v8 : ((Unit) ⊕ (Int))) => Sum.elim (fun v9 => (some 0)) (fun v10 => (some v10)) v8))))))
theorem term_derived_b_ok (r68 : (La) → (Int) → (Tm) → Option (Int)) (ih68 : ∀ (x0 : La) (x1 : Int) (x2 : Tm) r, r68 x0 x1 x2 = some r → PCall Try.prog 68 [eLa x0, eI x1, eTm x2] (eI (r))) (a0 : La) (a1 : Int) (a2 : Tm) (r : Int) (h : term_derived_b r68 a0 a1 a2 = some r) : PCall Try.prog 68 [eLa a0, eI a1, eTm a2] (eI (r)) := by
 unfold term_derived_b at h
 refine pcl [.one .keep] Try.func68 (by kernel_rfl) (by kernel_rfl) (by kernel_rfl) ?_
 refine jn1 8 .normal (fun v2 => ⟨59, [(1, (fI (a1))), (3, (.ref 1 0 0)), (5, (.ref 2 0 0)), (21, (fB (v2)))], [(1, (.box 26 [(fS (a0.name)), (.fz ((eL 1 eI) (a0.inputs))), (.fz ((eL 2 eSy) (a0.symbols))), (.fz ((eL 9 eRu) (a0.rules)))])), (2, (.box 35 [(fI (a2.rule)), (.fz ((eL 2 eTmR) (a2.args)))]))], [2, 1], []⟩) h (by kernel_rfl) (fun v2 h => ?_) fun v2 h => ?_
 ·refine gd 5 h (by kernel_rfl) (fun h => ?_) fun h => ?_
  ·cases h; exact lj 8 (by kernel_rfl)
  cases h; exact lj 8 (by kernel_rfl)
 refine cd 0 h (by kernel_rfl) (fun h => ?_) fun h => ?_
 ·cases h; exact lq 5 (by kernel_rfl)
 refine ix nRu 7 h (by kernel_rfl) fun v3 h => ?_
 refine cd 12 h (by kernel_rfl) (fun h => ?_) fun h => ?_
 ·cases h; exact lq 5 (by kernel_rfl)
 refine cd 12 h (by kernel_rfl) (fun h => ?_) fun h => ?_
 ·cases h; exact lq 5 (by kernel_rfl)
 refine lpx 10 (fun v4 => ⟨59, [(3, (.ref 1 0 0)), (7, (.ref 3 0 0)), (40, (.fz ((eL 2 eTmR) (a2.args)))), (41, (fI ((List.length a2.args : Int)))), (42, (fI (v4)))], [(1, (.box 26 [(fS (a0.name)), (.fz ((eL 1 eI) (a0.inputs))), (.fz ((eL 2 eSy) (a0.symbols))), (.fz ((eL 9 eRu) (a0.rules)))])), (3, (.box 55 [(fI (v3.symbol)), (fI (v3.kind)), (fI (v3.input)), (fI (v3.const.type)), (fI (v3.const.num)), (fS (v3.const.text)), (.fz ((eL 4 eVaR) (v3.const.items))), (fS (v3.op)), (.fz ((eL 1 eI) (v3.args)))]))], [3, 1], []⟩) (fun v8 e st => Sum.elim (fun p => e = .exit 0 ∧ LeSt st ⟨59, [], [], [], []⟩) (fun p => e = .ret ∧ retX TT st Try.f68.results.toList [.one .keep] = some (eI (p))) v8) h (by kernel_rfl) (le_a (by kernel_rfl)) (fun v4 r h => ?_) fun v8 h e st' hq => ?_
 ·unfold term_derived_l1 at h
  refine cd 5 h (by kernel_rfl) (fun h => ?_) fun h => ?_
  ·refine ix nTmR 6 h (by kernel_rfl) fun v5 h => ?_
   refine dw 6 7 (by kernel_rfl) ?_
   refine ix nI 4 h (by kernel_rfl) fun v6 h => ?_
   refine cl 3 h (ih68 _ _ _) (by kernel_rfl) fun v7 h => ?_
   refine cd 7 h (by kernel_rfl) (fun h => ?_) fun h => ?_
   ·cases h; exact lor 6 (by kernel_rfl)
   cases h; exact lj 5 (by kernel_rfl)
  cases h; exact lo 1 (by kernel_rfl)
 rcases v8 with v9 | v10
 ·try simp only [Sum.elim_inl, Sum.elim_inr] at h
  obtain ⟨rfl, hle⟩ := hq
  refine ⟨_, hle, ?_⟩
  cases h; exact lq 5 (by kernel_rfl)
 ·try simp only [Sum.elim_inl, Sum.elim_inr] at h
  obtain ⟨rfl, hret⟩ := hq
  refine ⟨_, LeSt.refl, ?_⟩
  cases h; exact lv hret
def term_derived : Nat → (La) → (Int) → (Tm) → Option (Int)
  | 0 => fun _ _ _ => none
  | n + 1 => term_derived_b (term_derived n)
theorem term_derived_ok : ∀ (n : Nat) (x0 : La) (x1 : Int) (x2 : Tm) r, term_derived n x0 x1 x2 = some r → PCall Try.prog 68 [eLa x0, eI x1, eTm x2] (eI (r))
  | 0, _, _, _, _, h => by cases h
  | n + 1, x0, x1, x2, r, h => term_derived_b_ok (term_derived n) (term_derived_ok n) x0 x1 x2 r h

def term_Check_m0 (a0 : La) (a2 : Tm) : List (Nat × AObj) := [(1, (.box 26 [(fS (a0.name)), (.fz ((eL 1 eI) (a0.inputs))), (.fz ((eL 2 eSy) (a0.symbols))), (.fz ((eL 9 eRu) (a0.rules)))])), (2, (.box 35 [(fI (a2.rule)), (.fz ((eL 2 eTmR) (a2.args)))]))]
def term_Check (a0 : La) (a1 : Int) (a2 : Tm) : Option (Int) := (Option.bind (grammar_Check (a0)) fun v1 => (bif (v1 != 0) then (some v1) else (Option.bind ((bif (decide (a1 < 0)) then (some (true)) else (some ((decide ((List.length a0.symbols : Int) ≤ a1))))) : Option ((Bool))) fun (v3 : (Bool)) => (bif v3 then (some 1) else (Option.bind ((Option.bind (term_within fuel (a2) (4096)) fun v4 => (bif (decide (v4 < 0)) then (some (true)) else (Option.bind (term_shallow fuel (a2) (32)) fun v5 => (some ((!v5)))))) : Option ((Bool))) fun (v7 : (Bool)) => (bif v7 then (some 2) else (Option.bind (term_derived fuel (a0) (a1) (a2)) fun v8 => (some v8))))))))
theorem term_Check_ok (a0 : La) (a1 : Int) (a2 : Tm) (r : Int) (h : term_Check a0 a1 a2 = some r) : PCall Try.prog 41 [eLa a0, eI a1, eTm a2] (eI (r)) := by
 unfold term_Check at h
 refine pcl [.one .keep] Try.func41 (by kernel_rfl) (by kernel_rfl) (by kernel_rfl) ?_
 refine cl 10 h (grammar_Check_ok _) (by kernel_rfl) fun v1 h => ?_
 refine cd 7 h (by kernel_rfl) (fun h => ?_) fun h => ?_
 ·cases h; exact lq 6 (by kernel_rfl)
 refine jn1 3 .normal (fun v3 => ⟨34, [(1, (fI (a1))), (3, (.ref 1 0 0)), (5, (.ref 2 0 0)), (21, (fB (v3)))], (term_Check_m0 a0 a2), [2, 1], []⟩) h (by kernel_rfl) (fun v3 h => ?_) fun v3 h => ?_
 ·refine gd 4 h (by kernel_rfl) (fun h => ?_) fun h => ?_
  ·cases h; exact lj 7 (by kernel_rfl)
  cases h; exact lj 7 (by kernel_rfl)
 refine cd 0 h (by kernel_rfl) (fun h => ?_) fun h => ?_
 ·cases h; exact lq 5 (by kernel_rfl)
 refine jn1 3 .normal (fun v7 => ⟨34, [(1, (fI (a1))), (3, (.ref 1 0 0)), (5, (.ref 2 0 0)), (29, (fB (v7)))], (term_Check_m0 a0 a2), [2, 1], []⟩) h (by kernel_rfl) (fun v7 h => ?_) fun v7 h => ?_
 ·refine cl 2 h (term_within_ok _ _ _) (by kernel_rfl) fun v4 h => ?_
  refine gd 2 h (by kernel_rfl) (fun h => ?_) fun h => ?_
  ·cases h; exact lj 5 (by kernel_rfl)
  refine cl 1 h (term_shallow_ok _ _ _) (by kernel_rfl) fun v5 h => ?_
  cases h; exact lj 3 (by kernel_rfl)
 refine cd 0 h (by kernel_rfl) (fun h => ?_) fun h => ?_
 ·cases h; exact lq 5 (by kernel_rfl)
 refine cl 6 h (term_derived_ok _ _ _ _) (by kernel_rfl) fun v8 h => ?_
 cases h; exact lq 3 (by kernel_rfl)

def grammar_Of_l1 (a0 : La) (a1 : Int) (v1 : (Int) × (List Int)) : Option (((Int) × (List Int)) ⊕ ((List Int))) := (bif (decide (v1.1 < (List.length a0.rules : Int))) then (Option.bind ((Option.bind (idx a0.rules v1.1) fun v2 => (bif (v2.symbol == a1) then (Option.bind (app 8 v1.2 ([v1.1] : List (Int))) fun v3 => (some (v3))) else (some (v1.2)))) : Option ((List Int))) fun (v5 : (List Int)) => (some (.inl ((w64 (v1.1 + 1)), v5)))) else (some (.inr (v1.2))))
def grammar_Of (a0 : La) (a1 : Int) : Option (List Int) := (Option.bind (loopN (grammar_Of_l1 a0 a1) fuel (0, ([] : List (Int)))) fun (v7 : (List Int)) => (some v7))
theorem grammar_Of_ok (a0 : La) (a1 : Int) (r : List Int) (h : grammar_Of a0 a1 = some r) : PCall Try.prog 43 [eLa a0, eI a1] ((eL 1 eI) (r)) := by
 unfold grammar_Of at h
 refine pcl [.one (.sl 1)] Try.func43 (by kernel_rfl) (by kernel_rfl) (by kernel_rfl) ?_
 refine wle 18 (le_nilrow (e := 3) (size := 1) (t := 5) (id := 2) (by decide) (by kernel_rfl) (by kernel_rfl)) (by kernel_rfl) ?_
 refine lp1 0 (fun v1 => ⟨26, [(1, (fI (a1))), (5, (.row 2 (List.length (v1.2)))), (9, (.fz ((eL 9 eRu) (a0.rules)))), (10, (fI ((List.length a0.rules : Int)))), (11, (fI (v1.1)))], [(2, (.frow 3 1 (List.map eI (v1.2))))], [2], []⟩) (.exit 0) (fun v7 => ⟨26, [(5, (.row 2 (List.length (v7))))], [(2, (.frow 3 1 (List.map eI (v7))))], [2], []⟩) h (by kernel_rfl) (by kernel_rfl) (fun v1 r h => ?_) fun v7 h => ?_
 ·unfold grammar_Of_l1 at h
  refine cd 5 h (by kernel_rfl) (fun h => ?_) fun h => ?_
  ·refine jn1 3 .normal (fun v5 => ⟨26, [(1, (fI (a1))), (5, (.row 2 (List.length (v5)))), (9, (.fz ((eL 9 eRu) (a0.rules)))), (10, (fI ((List.length a0.rules : Int)))), (11, (fI (v1.1)))], [(2, (.frow 3 1 (List.map eI (v5))))], [2], []⟩) h (by kernel_rfl) (fun v5 h => ?_) fun v5 h => ?_
   ·refine ix nRu 3 h (by kernel_rfl) fun v2 h => ?_
    refine cd 12 h (by kernel_rfl) (fun h => ?_) fun h => ?_
    ·refine ap nI 4 h (by kernel_rfl) fun v3 h => ?_
     cases h; exact lj 2 (by kernel_rfl)
    cases h; exact lj 1 (by kernel_rfl)
   cases h; exact lj 4 (by kernel_rfl)
  cases h; exact lo 1 (by kernel_rfl)
 refine wle 5 (le_freeze (t := 4) (id := 2) (n := List.length (v7)) (e := 3) (size := 1) (xs := List.map eI (v7)) (by kernel_rfl) (by kernel_rfl) (by simp)) (by kernel_rfl) ?_
 cases h; exact lq 1 (by kernel_rfl)

def weight_count_h_l1 (a1 : Tm) (r17 : (List Int) → (Tm) → Option ((List Int))) (v3 : (Int) × (List Int)) : Option (((Int) × (List Int)) ⊕ ((List Int))) := (bif (decide (v3.1 < (List.length a1.args : Int))) then (Option.bind (idx a1.args v3.1) fun v4 => (Option.bind (r17 (v3.2) (v4)) fun v5 => (Option.bind (sameL (v3.2) (v5)) fun _ => (some (.inl ((w64 (v3.1 + 1)), v5)))))) else (some (.inr (v3.2))))
def weight_count_h_b (r17 : (List Int) → (Tm) → Option ((List Int))) (a0 : List Int) (a1 : Tm) : Option ((List Int)) := (Option.bind (idx a0 a1.rule) fun v1 => (Option.bind (idx a0 a1.rule) fun v2 => (Option.bind (loopN (weight_count_h_l1 a1 r17) fuel (0, (List.set a0 (Int.toNat a1.rule) (w64 (v1 + 1))))) fun (v8 : (List Int)) => (some (v8)))))
theorem weight_count_h_b_ok (r17 : (List Int) → (Tm) → Option ((List Int))) (ih17 : ∀ (x0 : List Int) (x1 : Tm) r, r17 x0 x1 = some r → HCall Try.prog 42 ([(.row 1 (List.length (x0))), (.fz (eTm (x1)))] ++ []) [(1, (.frow 3 1 (List.map eI (x0))))] [1] (.ret (.fz (.tup []))) [(1, (.frow 3 1 (List.map eI (r))))] [1]) (a0 : List Int) (a1 : Tm) (r : (List Int)) (h : weight_count_h_b r17 a0 a1 = some r) : HCall Try.prog 42 ([(.row 1 (List.length (a0))), (.fz (eTm (a1)))] ++ []) [(1, (.frow 3 1 (List.map eI (a0))))] [1] (.ret (.fz (.tup []))) [(1, (.frow 3 1 (List.map eI (r))))] [1] := by
 unfold weight_count_h_b at h
 refine hcx (gi := 0) Try.func42 (by kernel_rfl) (by kernel_rfl) (by kernel_rfl) (by kernel_rfl) (by kernel_rfl) (by kernel_rfl) (by kernel_rfl) (by kernel_rfl) ?_
 intro p0 q0 w0
 obtain ⟨v1, hv1, h⟩ := Option.bind_eq_some_iff.1 h
 refine nst 9 (n_rowAddr (t := 22) (X := (.tmp 6)) (Y := (.tmp 8)) (id := 1) (k := .i64) (d := tt22) (e := 3) (de := tt3) (enc := eI) (xs := a0) (n := List.length (a0)) hv1 tt_ok (by kernel_rfl) (by kernel_rfl) (by kernel_rfl) (by kernel_rfl) (by kernel_rfl) (by kernel_rfl) (by kernel_rfl) rfl (by kernel_rfl)) (by kernel_rfl) ?_
 refine nst 0 (n_rowLoad (t := 3) (X := (.tmp 9)) (id := 1) (d := tt3) (enc := eI) (xs := a0) (x := v1) (i := a1.rule) (n := List.length (a0)) hv1 tt_ok (by kernel_rfl) (by kernel_rfl) (by kernel_rfl) (by kernel_rfl) (by kernel_rfl) rfl (fun _ => rfl)) (by kernel_rfl) ?_
 obtain ⟨v2, hv2, h⟩ := Option.bind_eq_some_iff.1 h
 refine nst 1 (n_rowAddr (t := 22) (X := (.tmp 6)) (Y := (.tmp 8)) (id := 1) (k := .i64) (d := tt22) (e := 3) (de := tt3) (enc := eI) (xs := a0) (n := List.length (a0)) hv2 tt_ok (by kernel_rfl) (by kernel_rfl) (by kernel_rfl) (by kernel_rfl) (by kernel_rfl) (by kernel_rfl) (by kernel_rfl) rfl (by kernel_rfl)) (by kernel_rfl) ?_
 refine sst 0 (e_rowStore (t := 3) (X := (.tmp 12)) (Y := (.tmp 11)) (id := 1) (d := tt3) (enc := eI) (xs := a0) (x := v2) (i := a1.rule) (y := (w64 (v1 + 1))) (n := List.length (a0)) hv2 tt_ok (by kernel_rfl) (by kernel_rfl) (by kernel_rfl) (by kernel_rfl) (by kernel_rfl) rfl (by kernel_rfl) (fun _ => ⟨_, rfl, rfl⟩)) (by kernel_rfl) ?_
 refine wle 0 (LeSt.trans (show LeSt _ ⟨24, [(0, (.row 1 (List.length (a0)))), (3, (.ref 2 0 0)), (6, (.row 1 (List.length (a0)))), (8, (fI (a1.rule))), (11, (fI ((w64 (v1 + 1)))))], [(0, (.was p0 [1] q0 w0)), (1, (.frow 3 1 (List.map eI ((List.set a0 (Int.toNat a1.rule) (w64 (v1 + 1))))))), (2, (.box 35 [(fI (a1.rule)), (.fz ((eL 2 eTmR) (a1.args)))]))], [2, 0, 1], []⟩ from le_a (by kernel_rfl)) (LeSt.trans (le_relen 1 (k := 2) (m := List.length (a0)) (n := List.length ((List.set a0 (Int.toNat a1.rule) (w64 (v1 + 1))))) (by kernel_rfl) (by simp)) (show LeSt _ ⟨24, [(0, (.row 1 (List.length ((List.set a0 (Int.toNat a1.rule) (w64 (v1 + 1))))))), (3, (.ref 2 0 0)), (6, (.row 1 (List.length ((List.set a0 (Int.toNat a1.rule) (w64 (v1 + 1))))))), (8, (fI (a1.rule))), (11, (fI ((w64 (v1 + 1)))))], [(0, (.was p0 [1] q0 w0)), (1, (.frow 3 1 (List.map eI ((List.set a0 (Int.toNat a1.rule) (w64 (v1 + 1))))))), (2, (.box 35 [(fI (a1.rule)), (.fz ((eL 2 eTmR) (a1.args)))]))], [2, 0, 1], []⟩ from le_a (by kernel_rfl)))) (by kernel_rfl) ?_
 refine lp1 9 (fun v3 => ⟨24, [(0, (.row 1 (List.length (v3.2)))), (14, (.fz ((eL 2 eTmR) (a1.args)))), (15, (fI ((List.length a1.args : Int)))), (16, (fI (v3.1)))], [(0, (.was p0 [1] q0 w0)), (1, (.frow 3 1 (List.map eI (v3.2))))], [0, 1], []⟩) (.exit 0) (fun v8 => ⟨24, [], [(0, (.was p0 [1] q0 w0)), (1, (.frow 3 1 (List.map eI (v8))))], [0, 1], []⟩) h (by kernel_rfl) (by kernel_rfl) (fun v3 r h => ?_) fun v8 h => ?_
 ·unfold weight_count_h_l1 at h
  refine cd 5 h (by kernel_rfl) (fun h => ?_) fun h => ?_
  ·refine ix nTmR 5 h (by kernel_rfl) fun v4 h => ?_
   refine hcl 7 [.one .keep, .one .keep] [(1, 1)] [(1, 1)] [1] h (ih17 _ _) (fun _ => by kernel_rfl) fun v5 h => ?_
   obtain ⟨_, hs6, h⟩ := Option.bind_eq_some_iff.1 h
   refine wle 0 (LeSt.trans (show LeSt _ ⟨24, [(0, (.row 1 (List.length (v3.2)))), (14, (.fz ((eL 2 eTmR) (a1.args)))), (15, (fI ((List.length a1.args : Int)))), (16, (fI (v3.1))), (20, (.row 1 (List.length (v3.2)))), (21, (.fz (eTm (v4))))], [(0, (.was p0 [1] q0 w0)), (1, (.frow 3 1 (List.map eI (v5))))], [0, 1], []⟩ from le_a (by kernel_rfl)) (LeSt.trans (le_relen 1 (k := 2) (m := List.length (v3.2)) (n := List.length (v5)) (by kernel_rfl) (sameL_some hs6)) (show LeSt _ ⟨24, [(0, (.row 1 (List.length (v5)))), (14, (.fz ((eL 2 eTmR) (a1.args)))), (15, (fI ((List.length a1.args : Int)))), (16, (fI (v3.1))), (20, (.row 1 (List.length (v5)))), (21, (.fz (eTm (v4))))], [(0, (.was p0 [1] q0 w0)), (1, (.frow 3 1 (List.map eI (v5))))], [0, 1], []⟩ from le_a (by kernel_rfl)))) (by kernel_rfl) ?_
   cases h; exact lj 5 (by kernel_rfl)
  cases h; exact lo 1 (by kernel_rfl)
 obtain rfl := Option.some.inj h; exact lh 0 ⟨24, [], [(0, (.was p0 [1] q0 w0)), (1, (.frow 3 1 (List.map eI (v8))))], [0, 1], []⟩ (le_a (by kernel_rfl)) rfl rfl (by kernel_rfl) (by kernel_rfl)
def weight_count_h : Nat → (List Int) → (Tm) → Option ((List Int))
  | 0 => fun _ _ => none
  | n + 1 => weight_count_h_b (weight_count_h n)
theorem weight_count_h_ok : ∀ n : Nat, ∀ (x0 : List Int) (x1 : Tm) r, weight_count_h n x0 x1 = some r → HCall Try.prog 42 ([(.row 1 (List.length (x0))), (.fz (eTm (x1)))] ++ []) [(1, (.frow 3 1 (List.map eI (x0))))] [1] (.ret (.fz (.tup []))) [(1, (.frow 3 1 (List.map eI (r))))] [1]
  | 0 => fun _ _ _ h => by cases h
  | n + 1 => fun a0 a1 r h => weight_count_h_b_ok (weight_count_h n) (weight_count_h_ok n) a0 a1 r h

def weight_Learn_m0 (a0 : La) (v12 : List Int) (v13 : (Int) × (List Int)) : List (Nat × AObj) := [(1, (.box 26 [(fS (a0.name)), (.fz ((eL 1 eI) (a0.inputs))), (.fz ((eL 2 eSy) (a0.symbols))), (.fz ((eL 9 eRu) (a0.rules)))])), (2, (.frow 3 1 (List.map eI (v12)))), (3, (.frow 3 1 (List.map eI (v13.2))))]
def weight_Learn_l1 (v12 : (List Int)) (v15 : List Int) (v16 : (Int) × (Int) × (Int)) : Option (((Int) × (Int) × (Int)) ⊕ ((Int) × (Int))) := (bif (decide (v16.2.2 < (List.length v15 : Int))) then (Option.bind (idx v15 v16.2.2) fun v17 => (Option.bind (idx v12 v17) fun v18 => (some (.inl ((w64 (v16.1 + v18)), (w64 (v16.2.1 + 1)), (w64 (v16.2.2 + 1))))))) else (some (.inr (v16.1, v16.2.1))))
def weight_Learn_l2 (a0 : La) (v12 : (List Int)) (v13 : (Int) × (List Int)) : Option (((Int) × (List Int)) ⊕ ((List Int))) := (bif (decide (v13.1 < (List.length a0.rules : Int))) then (Option.bind (idx a0.rules v13.1) fun v14 => (Option.bind (grammar_Of (a0) (v14.symbol)) fun v15 => (Option.bind (loopN (weight_Learn_l1 v12 v15) fuel (0, 0, 0)) fun (v20 : (Int) × (Int)) => (Option.bind (idx v12 v13.1) fun v21 => (Option.bind (quo .i64 (w64 (v20.1 + v20.2)) (w64 (v21 + 1))) fun v22 => (Option.bind (app 8 v13.2 ([(imin v22 1000)] : List (Int))) fun v23 => (some (.inl ((w64 (v13.1 + 1)), v23))))))))) else (some (.inr (v13.2))))
def weight_Learn_l3 (a0 : La) (a1 : List Tm) (v3 : (Int) × (List Int)) : Option (((Int) × (List Int)) ⊕ ((((List Int)) ⊕ ((List Int) × (Int))))) := (bif (decide (v3.1 < (List.length a1 : Int))) then (Option.bind (idx a1 v3.1) fun v4 => (Option.bind ((bif (decide (v4.rule < 0)) then (some (true)) else (some ((decide ((List.length a0.rules : Int) ≤ v4.rule))))) : Option ((Bool))) fun (v6 : (Bool)) => (bif v6 then (some (.inr (.inr (([] : List Int), 1)))) else (Option.bind (idx a0.rules v4.rule) fun v7 => (Option.bind (term_Check (a0) (v7.symbol) (v4)) fun v8 => (bif (v8 != 0) then (some (.inr (.inr (([] : List Int), v8)))) else (Option.bind (weight_count_h fuel (v3.2) (v4)) fun v9 => (Option.bind (sameL (v3.2) (v9)) fun _ => (some (.inl ((w64 (v3.1 + 1)), v9))))))))))) else (some (.inr (.inl (v3.2)))))
def weight_Learn (a0 : La) (a1 : List Tm) : Option ((List Int) × (Int)) := (Option.bind (grammar_Check (a0)) fun v1 => (bif (v1 != 0) then (some (([] : List Int), v1)) else (bif (decide (4096 < (List.length a1 : Int))) then (some (([] : List Int), 11)) else (Option.bind (mkL 8 0 (List.length a0.rules : Int)) fun v2 => (Option.bind (loopN (weight_Learn_l3 a0 a1) fuel (0, v2)) fun (v11 : (((List Int)) ⊕ ((List Int) × (Int)))) => Sum.elim (fun v12 => (Option.bind (loopN (weight_Learn_l2 a0 v12) fuel (0, ([] : List (Int)))) fun (v25 : (List Int)) => (some (v25, 0)))) (fun v26 => (some v26)) v11)))))
theorem weight_Learn_ok (a0 : La) (a1 : List Tm) (r : (List Int) × (Int)) (h : weight_Learn a0 a1 = some r) : PCall Try.prog 23 [eLa a0, (eL 2 eTmR) a1] (.tup [(eL 1 eI) (r.1), eI (r.2)]) := by
 unfold weight_Learn at h
 refine pcl [.one (.sl 1), .one .keep] Try.func23 (by kernel_rfl) (by kernel_rfl) (by kernel_rfl) ?_
 refine cl 10 h (grammar_Check_ok _) (by kernel_rfl) fun v1 h => ?_
 refine cd 7 h (by kernel_rfl) (fun h => ?_) fun h => ?_
 ·cases h; exact lq 7 (by kernel_rfl)
 refine cd 8 h (by kernel_rfl) (fun h => ?_) fun h => ?_
 ·cases h; exact lq 6 (by kernel_rfl)
 obtain ⟨v2, hv2, h⟩ := Option.bind_eq_some_iff.1 h
 refine sst 6 (s_make (t := 22) (X := (.tmp 28)) (Y := (.tmp 28)) (id := 2) (k := .i64) (k' := .i64) (d := tt22) (e := 3) (de := tt3) (enc := eI) (zv := .int .i64 0) hv2 (by kernel_rfl) tt_ok (by kernel_rfl) (by kernel_rfl) (by kernel_rfl) rfl rfl rfl rfl rfl (by kernel_rfl) (by kernel_rfl) (by kernel_rfl)) (by kernel_rfl) ?_
 refine lpx 10 (fun v3 => ⟨105, [(2, (.ref 1 0 0)), (7, (.row 2 (List.length (v3.2)))), (30, (.fz ((eL 2 eTmR) (a1)))), (31, (fI ((List.length a1 : Int)))), (32, (fI (v3.1)))], [(1, (.box 26 [(fS (a0.name)), (.fz ((eL 1 eI) (a0.inputs))), (.fz ((eL 2 eSy) (a0.symbols))), (.fz ((eL 9 eRu) (a0.rules)))])), (2, (.frow 3 1 (List.map eI (v3.2))))], [2, 1], []⟩) (fun v11 e st => Sum.elim (fun p => e = .exit 0 ∧ LeSt st ⟨105, [(2, (.ref 1 0 0)), (7, (.row 2 (List.length (p))))], [(1, (.box 26 [(fS (a0.name)), (.fz ((eL 1 eI) (a0.inputs))), (.fz ((eL 2 eSy) (a0.symbols))), (.fz ((eL 9 eRu) (a0.rules)))])), (2, (.frow 3 1 (List.map eI (p))))], [2, 1], []⟩) (fun p => e = .ret ∧ retX TT st Try.f23.results.toList [.one (.sl 1), .one .keep] = some (.tup [(eL 1 eI) (p.1), eI (p.2)])) v11) h (by kernel_rfl) (le_a (by kernel_rfl)) (fun v3 r h => ?_) fun v11 h e st' hq => ?_
 ·unfold weight_Learn_l3 at h
  refine cd 5 h (by kernel_rfl) (fun h => ?_) fun h => ?_
  ·refine ix nTmR 5 h (by kernel_rfl) fun v4 h => ?_
   refine jn1 6 .normal (fun v6 => ⟨105, [(2, (.ref 1 0 0)), (7, (.row 2 (List.length (v3.2)))), (9, (.ref 3 0 0)), (30, (.fz ((eL 2 eTmR) (a1)))), (31, (fI ((List.length a1 : Int)))), (32, (fI (v3.1))), (46, (fB (v6)))], [(1, (.box 26 [(fS (a0.name)), (.fz ((eL 1 eI) (a0.inputs))), (.fz ((eL 2 eSy) (a0.symbols))), (.fz ((eL 9 eRu) (a0.rules)))])), (2, (.frow 3 1 (List.map eI (v3.2)))), (3, (.box 35 [(fI (v4.rule)), (.fz ((eL 2 eTmR) (v4.args)))]))], [3, 2, 1], []⟩) h (by kernel_rfl) (fun v6 h => ?_) fun v6 h => ?_
   ·refine gd 5 h (by kernel_rfl) (fun h => ?_) fun h => ?_
    ·cases h; exact lj 8 (by kernel_rfl)
    cases h; exact lj 8 (by kernel_rfl)
   refine cd 0 h (by kernel_rfl) (fun h => ?_) fun h => ?_
   ·cases h; exact lor 6 (by kernel_rfl)
   refine dw 3 9 (by kernel_rfl) ?_
   refine ix nRu 5 h (by kernel_rfl) fun v7 h => ?_
   refine cl 4 h (term_Check_ok _ _ _) (by kernel_rfl) fun v8 h => ?_
   refine cd 7 h (by kernel_rfl) (fun h => ?_) fun h => ?_
   ·cases h; exact lor 7 (by kernel_rfl)
   refine hcl 4 [.one .keep, .one .keep] [(2, 1)] [(1, 2)] [1] h (weight_count_h_ok fuel _ _) (fun _ => by kernel_rfl) fun v9 h => ?_
   obtain ⟨_, hs10, h⟩ := Option.bind_eq_some_iff.1 h
   refine wle 0 (LeSt.trans (show LeSt _ ⟨105, [(2, (.ref 1 0 0)), (7, (.row 2 (List.length (v3.2)))), (30, (.fz ((eL 2 eTmR) (a1)))), (31, (fI ((List.length a1 : Int)))), (32, (fI (v3.1))), (60, (.row 2 (List.length (v3.2)))), (61, (.fz (eTm (v4))))], [(1, (.box 26 [(fS (a0.name)), (.fz ((eL 1 eI) (a0.inputs))), (.fz ((eL 2 eSy) (a0.symbols))), (.fz ((eL 9 eRu) (a0.rules)))])), (2, (.frow 3 1 (List.map eI (v9))))], [2, 1], []⟩ from le_a (by kernel_rfl)) (LeSt.trans (le_relen 2 (k := 2) (m := List.length (v3.2)) (n := List.length (v9)) (by kernel_rfl) (sameL_some hs10)) (show LeSt _ ⟨105, [(2, (.ref 1 0 0)), (7, (.row 2 (List.length (v9)))), (30, (.fz ((eL 2 eTmR) (a1)))), (31, (fI ((List.length a1 : Int)))), (32, (fI (v3.1))), (60, (.row 2 (List.length (v9)))), (61, (.fz (eTm (v4))))], [(1, (.box 26 [(fS (a0.name)), (.fz ((eL 1 eI) (a0.inputs))), (.fz ((eL 2 eSy) (a0.symbols))), (.fz ((eL 9 eRu) (a0.rules)))])), (2, (.frow 3 1 (List.map eI (v9))))], [2, 1], []⟩ from le_a (by kernel_rfl)))) (by kernel_rfl) ?_
   cases h; exact lj 5 (by kernel_rfl)
  cases h; exact lo 1 (by kernel_rfl)
 rcases v11 with v12 | v26
 ·try simp only [Sum.elim_inl, Sum.elim_inr] at h
  obtain ⟨rfl, hle⟩ := hq
  refine ⟨_, hle, ?_⟩
  refine wle 13 (le_nilrow (e := 3) (size := 1) (t := 11) (id := 3) (by decide) (by kernel_rfl) (by kernel_rfl)) (by kernel_rfl) ?_
  refine lp1 0 (fun v13 => ⟨105, [(2, (.ref 1 0 0)), (7, (.row 2 (List.length (v12)))), (11, (.row 3 (List.length (v13.2)))), (65, (.fz ((eL 9 eRu) (a0.rules)))), (66, (fI ((List.length a0.rules : Int)))), (67, (fI (v13.1)))], (weight_Learn_m0 a0 v12 v13), [3, 2, 1], []⟩) (.exit 2) (fun v25 => ⟨105, [(11, (.row 3 (List.length (v25))))], [(3, (.frow 3 1 (List.map eI (v25))))], [3], []⟩) h (by kernel_rfl) (by kernel_rfl) (fun v13 r h => ?_) fun v25 h => ?_
  ·unfold weight_Learn_l2 at h
   refine cd 5 h (by kernel_rfl) (fun h => ?_) fun h => ?_
   ·refine ix nRu 6 h (by kernel_rfl) fun v14 h => ?_
    refine cl 16 h (grammar_Of_ok _ _) (by kernel_rfl) fun v15 h => ?_
    refine lp1 4 (fun v16 => ⟨105, [(2, (.ref 1 0 0)), (7, (.row 2 (List.length (v12)))), (11, (.row 3 (List.length (v13.2)))), (12, (fI (v13.1))), (14, (fI (v16.1))), (15, (fI (v16.2.1))), (65, (.fz ((eL 9 eRu) (a0.rules)))), (66, (fI ((List.length a0.rules : Int)))), (67, (fI (v13.1))), (75, (.fz ((eL 1 eI) (v15)))), (76, (fI ((List.length v15 : Int)))), (77, (fI (v16.2.2)))], (weight_Learn_m0 a0 v12 v13), [3, 2, 1], []⟩) (.exit 4) (fun v20 => ⟨105, [(2, (.ref 1 0 0)), (7, (.row 2 (List.length (v12)))), (11, (.row 3 (List.length (v13.2)))), (12, (fI (v13.1))), (14, (fI (v20.1))), (15, (fI (v20.2))), (65, (.fz ((eL 9 eRu) (a0.rules)))), (66, (fI ((List.length a0.rules : Int)))), (67, (fI (v13.1)))], (weight_Learn_m0 a0 v12 v13), [3, 2, 1], []⟩) h (by kernel_rfl) (by kernel_rfl) (fun v16 r h => ?_) fun v20 h => ?_
    ·unfold weight_Learn_l1 at h
     refine cd 5 h (by kernel_rfl) (fun h => ?_) fun h => ?_
     ·refine ix nI 5 h (by kernel_rfl) fun v17 h => ?_
      obtain ⟨v18, hv18, h⟩ := Option.bind_eq_some_iff.1 h
      refine nst 8 (n_rowAddr (t := 22) (X := (.tmp 82)) (Y := (.tmp 83)) (id := 2) (k := .i64) (d := tt22) (e := 3) (de := tt3) (enc := eI) (xs := v12) (n := List.length (v12)) hv18 tt_ok (by kernel_rfl) (by kernel_rfl) (by kernel_rfl) (by kernel_rfl) (by kernel_rfl) (by kernel_rfl) (by kernel_rfl) rfl (by kernel_rfl)) (by kernel_rfl) ?_
      refine nst 0 (n_rowLoad (t := 3) (X := (.tmp 84)) (id := 2) (d := tt3) (enc := eI) (xs := v12) (x := v18) (i := v17) (n := List.length (v12)) hv18 tt_ok (by kernel_rfl) (by kernel_rfl) (by kernel_rfl) (by kernel_rfl) (by kernel_rfl) rfl (fun _ => rfl)) (by kernel_rfl) ?_
      cases h; exact lj 12 (by kernel_rfl)
     cases h; exact lo 1 (by kernel_rfl)
    obtain ⟨v21, hv21, h⟩ := Option.bind_eq_some_iff.1 h
    refine nst 7 (n_rowAddr (t := 22) (X := (.tmp 94)) (Y := (.tmp 95)) (id := 2) (k := .i64) (d := tt22) (e := 3) (de := tt3) (enc := eI) (xs := v12) (n := List.length (v12)) hv21 tt_ok (by kernel_rfl) (by kernel_rfl) (by kernel_rfl) (by kernel_rfl) (by kernel_rfl) (by kernel_rfl) (by kernel_rfl) rfl (by kernel_rfl)) (by kernel_rfl) ?_
    refine nst 0 (n_rowLoad (t := 3) (X := (.tmp 96)) (id := 2) (d := tt3) (enc := eI) (xs := v12) (x := v21) (i := v13.1) (n := List.length (v12)) hv21 tt_ok (by kernel_rfl) (by kernel_rfl) (by kernel_rfl) (by kernel_rfl) (by kernel_rfl) rfl (fun _ => rfl)) (by kernel_rfl) ?_
    obtain ⟨v22, hv22, h⟩ := Option.bind_eq_some_iff.1 h
    refine nst 1 (s_quo (t := 3) (x := (.tmp 93)) (y := (.tmp 98)) (yt := 3) (k := .i64) (m := (w64 (v20.1 + v20.2))) (n := (w64 (v21 + 1))) hv22 (by kernel_rfl) (by kernel_rfl) (by kernel_rfl)) (by kernel_rfl) ?_
    refine ap nI 2 h (by kernel_rfl) fun v23 h => ?_
    cases h; exact lj 6 (by kernel_rfl)
   cases h; exact lo 1 (by kernel_rfl)
  refine wle 6 (le_freeze (t := 4) (id := 3) (n := List.length (v25)) (e := 3) (size := 1) (xs := List.map eI (v25)) (by kernel_rfl) (by kernel_rfl) (by simp)) (by kernel_rfl) ?_
  cases h; exact lq 1 (by kernel_rfl)
 ·try simp only [Sum.elim_inl, Sum.elim_inr] at h
  obtain ⟨rfl, hret⟩ := hq
  refine ⟨_, LeSt.refl, ?_⟩
  cases h; exact lv hret

def synthesislaw38_awake_m0 : List (Nat × AObj) := [(1, (.box 26 [(fS ((⟨#[110]⟩ : ByteArray))), (.lim 1 (List.length (([2] : List (Int)))) (List.map eI (([2] : List (Int))))), (.lim 2 (List.length (([(Sy.mk ((⟨#[83]⟩ : ByteArray)) (2))] : List (Sy)))) (List.map eSy (([(Sy.mk ((⟨#[83]⟩ : ByteArray)) (2))] : List (Sy))))), (.lim 9 (List.length (([(Ru.mk (0) (1) (0) ((Va.mk (0) (0) ((⟨#[]⟩ : ByteArray)) (([] : List Va)))) ((⟨#[]⟩ : ByteArray)) (([] : List Int))), (Ru.mk (0) (3) (0) ((Va.mk (0) (0) ((⟨#[]⟩ : ByteArray)) (([] : List Va)))) ((⟨#[97, 100, 100]⟩ : ByteArray)) (([0, 0] : List (Int))))] : List (Ru)))) (List.map eRu (([(Ru.mk (0) (1) (0) ((Va.mk (0) (0) ((⟨#[]⟩ : ByteArray)) (([] : List Va)))) ((⟨#[]⟩ : ByteArray)) (([] : List Int))), (Ru.mk (0) (3) (0) ((Va.mk (0) (0) ((⟨#[]⟩ : ByteArray)) (([] : List Va)))) ((⟨#[97, 100, 100]⟩ : ByteArray)) (([0, 0] : List (Int))))] : List (Ru)))))])), (2, (.box 35 [(fI (1)), (.lim 2 (List.length (([(Tm.mk (0) (([] : List Tm))), (Tm.mk (0) (([] : List Tm)))] : List (Tm)))) (List.map eTmR (([(Tm.mk (0) (([] : List Tm))), (Tm.mk (0) (([] : List Tm)))] : List (Tm)))))]))]
def synthesislaw38_awake_m1 : List (Nat × AObj) := [(1, (.box 26 [(fS ((⟨#[110]⟩ : ByteArray))), (.lim 1 (List.length (([2] : List (Int)))) (List.map eI (([2] : List (Int))))), (.lim 2 (List.length (([(Sy.mk ((⟨#[83]⟩ : ByteArray)) (2))] : List (Sy)))) (List.map eSy (([(Sy.mk ((⟨#[83]⟩ : ByteArray)) (2))] : List (Sy))))), (.lim 9 (List.length (([(Ru.mk (0) (1) (0) ((Va.mk (0) (0) ((⟨#[]⟩ : ByteArray)) (([] : List Va)))) ((⟨#[]⟩ : ByteArray)) (([] : List Int))), (Ru.mk (0) (3) (0) ((Va.mk (0) (0) ((⟨#[]⟩ : ByteArray)) (([] : List Va)))) ((⟨#[97, 100, 100]⟩ : ByteArray)) (([0, 0] : List (Int))))] : List (Ru)))) (List.map eRu (([(Ru.mk (0) (1) (0) ((Va.mk (0) (0) ((⟨#[]⟩ : ByteArray)) (([] : List Va)))) ((⟨#[]⟩ : ByteArray)) (([] : List Int))), (Ru.mk (0) (3) (0) ((Va.mk (0) (0) ((⟨#[]⟩ : ByteArray)) (([] : List Va)))) ((⟨#[97, 100, 100]⟩ : ByteArray)) (([0, 0] : List (Int))))] : List (Ru)))))]))]
def synthesislaw38_awake  : Option (Bool) := (Option.bind (weight_Cost fuel (([1, 5] : List (Int))) ((Tm.mk (1) (([(Tm.mk (0) (([] : List Tm))), (Tm.mk (0) (([] : List Tm)))] : List (Tm)))))) fun v1 => (Option.bind (weight_Least ((La.mk ((⟨#[110]⟩ : ByteArray)) (([2] : List (Int))) (([(Sy.mk ((⟨#[83]⟩ : ByteArray)) (2))] : List (Sy))) (([(Ru.mk (0) (1) (0) ((Va.mk (0) (0) ((⟨#[]⟩ : ByteArray)) (([] : List Va)))) ((⟨#[]⟩ : ByteArray)) (([] : List Int))), (Ru.mk (0) (3) (0) ((Va.mk (0) (0) ((⟨#[]⟩ : ByteArray)) (([] : List Va)))) ((⟨#[97, 100, 100]⟩ : ByteArray)) (([0, 0] : List (Int))))] : List (Ru))))) (([1, 5] : List (Int))) (0) (3)) fun v2 => (Option.bind (weight_Learn ((La.mk ((⟨#[110]⟩ : ByteArray)) (([2] : List (Int))) (([(Sy.mk ((⟨#[83]⟩ : ByteArray)) (2))] : List (Sy))) (([(Ru.mk (0) (1) (0) ((Va.mk (0) (0) ((⟨#[]⟩ : ByteArray)) (([] : List Va)))) ((⟨#[]⟩ : ByteArray)) (([] : List Int))), (Ru.mk (0) (3) (0) ((Va.mk (0) (0) ((⟨#[]⟩ : ByteArray)) (([] : List Va)))) ((⟨#[97, 100, 100]⟩ : ByteArray)) (([0, 0] : List (Int))))] : List (Ru))))) (([(Tm.mk (1) (([(Tm.mk (0) (([] : List Tm))), (Tm.mk (0) (([] : List Tm)))] : List (Tm))))] : List (Tm)))) fun v3 => (Option.bind (weight_Uniform ((La.mk ((⟨#[110]⟩ : ByteArray)) (([2] : List (Int))) (([(Sy.mk ((⟨#[83]⟩ : ByteArray)) (2))] : List (Sy))) (([(Ru.mk (0) (1) (0) ((Va.mk (0) (0) ((⟨#[]⟩ : ByteArray)) (([] : List Va)))) ((⟨#[]⟩ : ByteArray)) (([] : List Int))), (Ru.mk (0) (3) (0) ((Va.mk (0) (0) ((⟨#[]⟩ : ByteArray)) (([] : List Va)))) ((⟨#[97, 100, 100]⟩ : ByteArray)) (([0, 0] : List (Int))))] : List (Ru)))))) fun v4 => (Option.bind ((bif (v1.2 != 0) then (some (true)) else (bif (v2.2 != 0) then (some (true)) else (bif (v3.2 != 0) then (some (true)) else (bif ((List.length v3.1 : Int) != 2) then (some (true)) else (some (((List.length v4 : Int) != 2))))))) : Option ((Bool))) fun (v6 : (Bool)) => (bif v6 then (some false) else (Option.bind ((Option.bind (weight_Check ((La.mk ((⟨#[110]⟩ : ByteArray)) (([2] : List (Int))) (([(Sy.mk ((⟨#[83]⟩ : ByteArray)) (2))] : List (Sy))) (([(Ru.mk (0) (1) (0) ((Va.mk (0) (0) ((⟨#[]⟩ : ByteArray)) (([] : List Va)))) ((⟨#[]⟩ : ByteArray)) (([] : List Int))), (Ru.mk (0) (3) (0) ((Va.mk (0) (0) ((⟨#[]⟩ : ByteArray)) (([] : List Va)))) ((⟨#[97, 100, 100]⟩ : ByteArray)) (([0, 0] : List (Int))))] : List (Ru))))) (([1, 5] : List (Int)))) fun v7 => (bif (v7 == 0) then (bif (v1.1 == 7) then (bif (v2.1 == 1) then (Option.bind (idx v3.1 0) fun v8 => (bif (v8 == 1) then (Option.bind (idx v3.1 1) fun v9 => (bif (v9 == 2) then (Option.bind (idx v4 1) fun v10 => (bif (v10 == 1) then (Option.bind (weight_Compare (([1, 5] : List (Int))) ((Tm.mk (1) (([(Tm.mk (0) (([] : List Tm))), (Tm.mk (0) (([] : List Tm)))] : List (Tm))))) ((Tm.mk (0) (([] : List Tm))))) fun v11 => (some ((v11 == 1)))) else (some (false)))) else (some (false)))) else (some (false)))) else (some (false))) else (some (false))) else (some (false)))) : Option ((Bool))) fun (v13 : (Bool)) => (some v13))))))))
theorem synthesislaw38_awake_ok  (r : Bool) (h : synthesislaw38_awake  = some r) : PCall Try.prog 10 [] (eB (r)) := by
 unfold synthesislaw38_awake at h
 refine pcl [.one .keep] Try.func10 (by kernel_rfl) (by kernel_rfl) (by kernel_rfl) ?_
 refine wle 12 ((le_a (by kernel_rfl) : LeSt _ ⟨102, [(11, (.lim 1 (List.length (([2] : List (Int)))) (List.map eI (([2] : List (Int)))))), (13, (.lim 2 (List.length (([(Sy.mk ((⟨#[83]⟩ : ByteArray)) (2))] : List (Sy)))) (List.map eSy (([(Sy.mk ((⟨#[83]⟩ : ByteArray)) (2))] : List (Sy)))))), (14, (.fz (eRu ((Ru.mk (0) (1) (0) ((Va.mk (0) (0) ((⟨#[]⟩ : ByteArray)) (([] : List Va)))) ((⟨#[]⟩ : ByteArray)) (([] : List Int))))))), (16, (.agg [(fI (0)), (fI (3)), (fI (0)), (fI (0)), (fI (0)), (fS ((⟨#[]⟩ : ByteArray))), (.fz (.atom (.slice none 0 0))), (fS ((⟨#[97, 100, 100]⟩ : ByteArray))), (.lim 1 (List.length (([0, 0] : List (Int)))) (List.map eI (([0, 0] : List (Int)))))]))], [], [], []⟩)) (by kernel_rfl) ?_
 refine wle 0 ((le_a (by kernel_rfl) : LeSt _ ⟨102, [(11, (.lim 1 (List.length (([2] : List (Int)))) (List.map eI (([2] : List (Int)))))), (13, (.lim 2 (List.length (([(Sy.mk ((⟨#[83]⟩ : ByteArray)) (2))] : List (Sy)))) (List.map eSy (([(Sy.mk ((⟨#[83]⟩ : ByteArray)) (2))] : List (Sy)))))), (14, (.fz (eRu ((Ru.mk (0) (1) (0) ((Va.mk (0) (0) ((⟨#[]⟩ : ByteArray)) (([] : List Va)))) ((⟨#[]⟩ : ByteArray)) (([] : List Int))))))), (16, (.fz (eRu ((Ru.mk (0) (3) (0) ((Va.mk (0) (0) ((⟨#[]⟩ : ByteArray)) (([] : List Va)))) ((⟨#[97, 100, 100]⟩ : ByteArray)) (([0, 0] : List (Int))))))))], [], [], []⟩)) (by kernel_rfl) ?_
 refine wle 9 ((le_a (by kernel_rfl) : LeSt _ ⟨102, [(1, (.ref 1 0 0)), (19, (.fz (eTm ((Tm.mk (0) (([] : List Tm))))))), (20, (.fz (.agg [(eI (0)), (.atom (.slice none 0 0))])))], (synthesislaw38_awake_m1), [1], []⟩)) (by kernel_rfl) ?_
 refine wle 0 ((le_a (by kernel_rfl) : LeSt _ ⟨102, [(1, (.ref 1 0 0)), (19, (.fz (eTm ((Tm.mk (0) (([] : List Tm))))))), (20, (.fz (eTm ((Tm.mk (0) (([] : List Tm)))))))], (synthesislaw38_awake_m1), [1], []⟩)) (by kernel_rfl) ?_
 refine wle 1 (le_eq (t := 21) (x := .lim 2 2 [eTm ((Tm.mk (0) (([] : List Tm)))), eTm ((Tm.mk (0) (([] : List Tm))))]) (y := .lim 2 2 (List.map eTmR ([(Tm.mk (0) (([] : List Tm))), (Tm.mk (0) (([] : List Tm)))] : List (Tm)))) (by kernel_rfl) (by simp only [List.map, eTmR_eq])) (by kernel_rfl) ?_
 refine cl 13 h (weight_Cost_ok _ _ _) (by kernel_rfl) fun v1 h => ?_
 refine cl 10 h (weight_Least_ok _ _ _ _) (by kernel_rfl) fun v2 h => ?_
 refine wle 10 ((le_a (by kernel_rfl) : LeSt _ ⟨102, [(1, (.ref 1 0 0)), (2, (.ref 2 0 0)), (3, (.lim 1 (List.length (([1, 5] : List (Int)))) (List.map eI (([1, 5] : List (Int)))))), (4, (fI (v1.1))), (5, (fI (v1.2))), (6, (fI (v2.1))), (7, (fI (v2.2))), (37, (.agg [(fS ((⟨#[110]⟩ : ByteArray))), (.lim 1 (List.length (([2] : List (Int)))) (List.map eI (([2] : List (Int))))), (.lim 2 (List.length (([(Sy.mk ((⟨#[83]⟩ : ByteArray)) (2))] : List (Sy)))) (List.map eSy (([(Sy.mk ((⟨#[83]⟩ : ByteArray)) (2))] : List (Sy))))), (.lim 9 (List.length (([(Ru.mk (0) (1) (0) ((Va.mk (0) (0) ((⟨#[]⟩ : ByteArray)) (([] : List Va)))) ((⟨#[]⟩ : ByteArray)) (([] : List Int))), (Ru.mk (0) (3) (0) ((Va.mk (0) (0) ((⟨#[]⟩ : ByteArray)) (([] : List Va)))) ((⟨#[97, 100, 100]⟩ : ByteArray)) (([0, 0] : List (Int))))] : List (Ru)))) (List.map eRu (([(Ru.mk (0) (1) (0) ((Va.mk (0) (0) ((⟨#[]⟩ : ByteArray)) (([] : List Va)))) ((⟨#[]⟩ : ByteArray)) (([] : List Int))), (Ru.mk (0) (3) (0) ((Va.mk (0) (0) ((⟨#[]⟩ : ByteArray)) (([] : List Va)))) ((⟨#[97, 100, 100]⟩ : ByteArray)) (([0, 0] : List (Int))))] : List (Ru)))))])), (38, (.fz (eTm ((Tm.mk (1) (([(Tm.mk (0) (([] : List Tm))), (Tm.mk (0) (([] : List Tm)))] : List (Tm))))))))], (synthesislaw38_awake_m0), [2, 1], []⟩)) (by kernel_rfl) ?_
 refine wle 1 (le_eq (t := 39) (x := .lim 2 1 [eTm ((Tm.mk (1) (([(Tm.mk (0) (([] : List Tm))), (Tm.mk (0) (([] : List Tm)))] : List (Tm)))))]) (y := .lim 2 1 (List.map eTmR ([(Tm.mk (1) (([(Tm.mk (0) (([] : List Tm))), (Tm.mk (0) (([] : List Tm)))] : List (Tm))))] : List (Tm)))) (by kernel_rfl) (by simp only [List.map, eTmR_eq])) (by kernel_rfl) ?_
 refine cl 0 h (weight_Learn_ok _ _) (by kernel_rfl) fun v3 h => ?_
 refine cl 9 h (weight_Uniform_ok _) (by kernel_rfl) fun v4 h => ?_
 refine jn1 4 .normal (fun v6 => ⟨102, [(1, (.ref 1 0 0)), (2, (.ref 2 0 0)), (3, (.lim 1 (List.length (([1, 5] : List (Int)))) (List.map eI (([1, 5] : List (Int)))))), (4, (fI (v1.1))), (6, (fI (v2.1))), (8, (.fz ((eL 1 eI) (v3.1)))), (10, (.fz ((eL 1 eI) (v4)))), (64, (fB (v6)))], (synthesislaw38_awake_m0), [2, 1], []⟩) h (by kernel_rfl) (fun v6 h => ?_) fun v6 h => ?_
 ·refine gd 4 h (by kernel_rfl) (fun h => ?_) fun h => ?_
  ·cases h; exact lj 18 (by kernel_rfl)
  refine gd 4 h (by kernel_rfl) (fun h => ?_) fun h => ?_
  ·cases h; exact lj 14 (by kernel_rfl)
  refine gd 4 h (by kernel_rfl) (fun h => ?_) fun h => ?_
  ·cases h; exact lj 10 (by kernel_rfl)
  refine gd 5 h (by kernel_rfl) (fun h => ?_) fun h => ?_
  ·cases h; exact lj 5 (by kernel_rfl)
  cases h; exact lj 5 (by kernel_rfl)
 refine cd 0 h (by kernel_rfl) (fun h => ?_) fun h => ?_
 ·cases h; exact lq 5 (by kernel_rfl)
 refine jn1 2 .normal (fun v13 => ⟨102, [(0, (fB (v13)))], [], [], []⟩) h (by kernel_rfl) (fun v13 h => ?_) fun v13 h => ?_
 ·refine cl 3 h (weight_Check_ok _ _) (by kernel_rfl) fun v7 h => ?_
  refine gd 2 h (by kernel_rfl) (fun h => ?_) fun h => ?_
  ·refine gd 4 h (by kernel_rfl) (fun h => ?_) fun h => ?_
   ·refine gd 4 h (by kernel_rfl) (fun h => ?_) fun h => ?_
    ·refine ix nI 1 h (by kernel_rfl) fun v8 h => ?_
     refine gd 4 h (by kernel_rfl) (fun h => ?_) fun h => ?_
     ·refine ix nI 1 h (by kernel_rfl) fun v9 h => ?_
      refine gd 4 h (by kernel_rfl) (fun h => ?_) fun h => ?_
      ·refine ix nI 1 h (by kernel_rfl) fun v10 h => ?_
       refine gd 4 h (by kernel_rfl) (fun h => ?_) fun h => ?_
       ·refine cl 3 h (weight_Compare_ok _ _ _) (by kernel_rfl) fun v11 h => ?_
        cases h; exact lj 4 (by kernel_rfl)
       cases h; exact lj 8 (by kernel_rfl)
      cases h; exact lj 14 (by kernel_rfl)
     cases h; exact lj 20 (by kernel_rfl)
    cases h; exact lj 26 (by kernel_rfl)
   cases h; exact lj 30 (by kernel_rfl)
  cases h; exact lj 34 (by kernel_rfl)
 cases h; exact lq 1 (by kernel_rfl)

def synthesisref11_Name_l1 (a0 : ByteArray) (v1 : (Int)) : Option (((Int)) ⊕ (((Unit) ⊕ (Bool)))) := (bif (decide (v1 < (a0.size : Int))) then (Option.bind ((Option.bind (byt a0 v1) fun v2 => (bif (decide (97 ≤ v2)) then (Option.bind (byt a0 v1) fun v3 => (bif (decide (v3 ≤ 122)) then (some (true)) else (Option.bind (byt a0 v1) fun v4 => (bif (decide (65 ≤ v4)) then (Option.bind (byt a0 v1) fun v5 => (some ((decide (v5 ≤ 90))))) else (some (false)))))) else (Option.bind (byt a0 v1) fun v6 => (bif (decide (65 ≤ v6)) then (Option.bind (byt a0 v1) fun v7 => (some ((decide (v7 ≤ 90))))) else (some (false)))))) : Option ((Bool))) fun (v9 : (Bool)) => (Option.bind ((bif (!v9) then (bif (v1 == 0) then (some (true)) else (Option.bind (byt a0 v1) fun v10 => (bif (v10 != 45) then (Option.bind (byt a0 v1) fun v11 => (bif (decide (v11 < 48)) then (some (true)) else (Option.bind (byt a0 v1) fun v12 => (some ((decide (57 < v12))))))) else (some (false))))) else (some (false))) : Option ((Bool))) fun (v14 : (Bool)) => (bif v14 then (some (.inr (.inr false))) else (some (.inl ((w64 (v1 + 1)))))))) else (some (.inr (.inl ()))))
def synthesisref11_Name (a0 : ByteArray) : Option (Bool) := (Option.bind (loopN (synthesisref11_Name_l1 a0) fuel (0)) fun (v15 : ((Unit) ⊕ (Bool))) => Sum.elim (fun v16 => (Option.bind ((bif (decide (1 ≤ (a0.size : Int))) then (some ((decide ((a0.size : Int) ≤ 24)))) else (some (false))) : Option ((Bool))) fun (v18 : (Bool)) => (some v18))) (fun v19 => (some v19)) v15)
theorem synthesisref11_Name_ok (a0 : ByteArray) (r : Bool) (h : synthesisref11_Name a0 = some r) : PCall Try.prog 55 [eS a0] (eB (r)) := by
 unfold synthesisref11_Name at h
 refine pcl [.one .keep] Try.func55 (by kernel_rfl) (by kernel_rfl) (by kernel_rfl) ?_
 refine lpx 10 (fun v1 => ⟨65, [(0, (fS (a0))), (3, (fI (v1)))], [], [], []⟩) (fun v15 e st => Sum.elim (fun p => e = .exit 0 ∧ LeSt st ⟨65, [(0, (fS (a0)))], [], [], []⟩) (fun p => e = .ret ∧ retX TT st Try.f55.results.toList [.one .keep] = some (eB (p))) v15) h (by kernel_rfl) (le_a (by kernel_rfl)) (fun v1 r h => ?_) fun v15 h e st' hq => ?_
 ·unfold synthesisref11_Name_l1 at h
  refine cd 8 h (by kernel_rfl) (fun h => ?_) fun h => ?_
  ·refine jn1 4 .normal (fun v9 => ⟨65, [(0, (fS (a0))), (3, (fI (v1))), (4, (fB (v9)))], [], [], []⟩) h (by kernel_rfl) (fun v9 h => ?_) fun v9 h => ?_
   ·refine byx 3 h (by kernel_rfl) fun v2 h => ?_
    refine gd 2 h (by kernel_rfl) (fun h => ?_) fun h => ?_
    ·refine byx 2 h (by kernel_rfl) fun v3 h => ?_
     refine gd 3 h (by kernel_rfl) (fun h => ?_) fun h => ?_
     ·cases h; exact lj 13 (by kernel_rfl)
     refine byx 2 h (by kernel_rfl) fun v4 h => ?_
     refine gd 2 h (by kernel_rfl) (fun h => ?_) fun h => ?_
     ·refine byx 2 h (by kernel_rfl) fun v5 h => ?_
      cases h; exact lj 5 (by kernel_rfl)
     cases h; exact lj 8 (by kernel_rfl)
    refine byx 8 h (by kernel_rfl) fun v6 h => ?_
    refine gd 2 h (by kernel_rfl) (fun h => ?_) fun h => ?_
    ·refine byx 2 h (by kernel_rfl) fun v7 h => ?_
     cases h; exact lj 5 (by kernel_rfl)
    cases h; exact lj 8 (by kernel_rfl)
   refine jn1 1 .normal (fun v14 => ⟨65, [(0, (fS (a0))), (3, (fI (v1))), (56, (fB (v14)))], [], [], []⟩) h (by kernel_rfl) (fun v14 h => ?_) fun v14 h => ?_
   ·refine gd 4 h (by kernel_rfl) (fun h => ?_) fun h => ?_
    ·refine gd 3 h (by kernel_rfl) (fun h => ?_) fun h => ?_
     ·cases h; exact lj 19 (by kernel_rfl)
     refine byx 2 h (by kernel_rfl) fun v10 h => ?_
     refine gd 2 h (by kernel_rfl) (fun h => ?_) fun h => ?_
     ·refine byx 2 h (by kernel_rfl) fun v11 h => ?_
      refine gd 2 h (by kernel_rfl) (fun h => ?_) fun h => ?_
      ·cases h; exact lj 9 (by kernel_rfl)
      refine byx 2 h (by kernel_rfl) fun v12 h => ?_
      cases h; exact lj 6 (by kernel_rfl)
     cases h; exact lj 14 (by kernel_rfl)
    cases h; exact lj 22 (by kernel_rfl)
   refine cd 0 h (by kernel_rfl) (fun h => ?_) fun h => ?_
   ·cases h; exact lor 5 (by kernel_rfl)
   cases h; exact lj 6 (by kernel_rfl)
  cases h; exact lo 1 (by kernel_rfl)
 rcases v15 with v16 | v19
 ·try simp only [Sum.elim_inl, Sum.elim_inr] at h
  obtain ⟨rfl, hle⟩ := hq
  refine ⟨_, hle, ?_⟩
  refine jn1 1 .normal (fun v18 => ⟨65, [(2, (fB (v18)))], [], [], []⟩) h (by kernel_rfl) (fun v18 h => ?_) fun v18 h => ?_
  ·refine gd 5 h (by kernel_rfl) (fun h => ?_) fun h => ?_
   ·cases h; exact lj 6 (by kernel_rfl)
   cases h; exact lj 6 (by kernel_rfl)
  cases h; exact lq 1 (by kernel_rfl)
 ·try simp only [Sum.elim_inl, Sum.elim_inr] at h
  obtain ⟨rfl, hret⟩ := hq
  refine ⟨_, LeSt.refl, ?_⟩
  cases h; exact lv hret

def synthesisref11_typed (a0 : Int) : Option (Bool) := (Option.bind ((bif (decide (1 ≤ a0)) then (some ((decide (a0 ≤ 8)))) else (some (false))) : Option ((Bool))) fun (v2 : (Bool)) => (some v2))
theorem synthesisref11_typed_ok (a0 : Int) (r : Bool) (h : synthesisref11_typed a0 = some r) : PCall Try.prog 56 [eI a0] (eB (r)) := by
 unfold synthesisref11_typed at h
 refine pcl [.one .keep] Try.func56 (by kernel_rfl) (by kernel_rfl) (by kernel_rfl) ?_
 refine jn1 5 .normal (fun v2 => ⟨9, [(2, (fB (v2)))], [], [], []⟩) h (by kernel_rfl) (fun v2 h => ?_) fun v2 h => ?_
 ·refine gd 4 h (by kernel_rfl) (fun h => ?_) fun h => ?_
  ·cases h; exact lj 5 (by kernel_rfl)
  cases h; exact lj 5 (by kernel_rfl)
 cases h; exact lq 1 (by kernel_rfl)

def synthesisref01_sign (a0 : Bool) : Option (Int) := (bif a0 then (some (-1)) else (some 1))
theorem synthesisref01_sign_ok (a0 : Bool) (r : Int) (h : synthesisref01_sign a0 = some r) : PCall Try.prog 104 [eB a0] (eI (r)) := by
 unfold synthesisref01_sign at h
 refine pcl [.one .keep] Try.func104 (by kernel_rfl) (by kernel_rfl) (by kernel_rfl) ?_
 refine cd 9 h (by kernel_rfl) (fun h => ?_) fun h => ?_
 ·cases h; exact lq 5 (by kernel_rfl)
 cases h; exact lq 6 (by kernel_rfl)

def synthesisref01_Compare_b (r98 : (Va) → (Va) → Option (Int)) (r105 : (List Va) → (List Va) → Option (Int)) (a0 : Va) (a1 : Va) : Option (Int) := (bif (a0.type != a1.type) then (Option.bind (synthesisref01_sign ((decide (a0.type < a1.type)))) fun v1 => (some v1)) else (bif (a0.num != a1.num) then (Option.bind (synthesisref01_sign ((decide (a0.num < a1.num)))) fun v2 => (some v2)) else (bif (!(a0.text.toList == a1.text.toList)) then (Option.bind (synthesisref01_sign ((Op.bytesLess a0.text.toList a1.text.toList))) fun v3 => (some v3)) else (Option.bind (r105 (a0.items) (a1.items)) fun v4 => (some v4)))))
theorem synthesisref01_Compare_b_ok (r98 : (Va) → (Va) → Option (Int)) (r105 : (List Va) → (List Va) → Option (Int)) (ih98 : ∀ (x0 : Va) (x1 : Va) r, r98 x0 x1 = some r → PCall Try.prog 98 [eVa x0, eVa x1] (eI (r))) (ih105 : ∀ (x0 : List Va) (x1 : List Va) r, r105 x0 x1 = some r → PCall Try.prog 105 [(eL 4 eVaR) x0, (eL 4 eVaR) x1] (eI (r))) (a0 : Va) (a1 : Va) (r : Int) (h : synthesisref01_Compare_b r98 r105 a0 a1 = some r) : PCall Try.prog 98 [eVa a0, eVa a1] (eI (r)) := by
 unfold synthesisref01_Compare_b at h
 refine pcl [.one .keep] Try.func98 (by kernel_rfl) (by kernel_rfl) (by kernel_rfl) ?_
 refine cd 17 h (by kernel_rfl) (fun h => ?_) fun h => ?_
 ·refine cl 7 h (synthesisref01_sign_ok _) (by kernel_rfl) fun v1 h => ?_
  cases h; exact lq 3 (by kernel_rfl)
 refine cd 9 h (by kernel_rfl) (fun h => ?_) fun h => ?_
 ·refine cl 7 h (synthesisref01_sign_ok _) (by kernel_rfl) fun v2 h => ?_
  cases h; exact lq 3 (by kernel_rfl)
 refine cd 9 h (by kernel_rfl) (fun h => ?_) fun h => ?_
 ·refine cl 7 h (synthesisref01_sign_ok _) (by kernel_rfl) fun v3 h => ?_
  cases h; exact lq 3 (by kernel_rfl)
 refine cl 7 h (ih105 _ _) (by kernel_rfl) fun v4 h => ?_
 cases h; exact lq 3 (by kernel_rfl)
def synthesisref01_CompareAll_l1 (a0 : List Va) (a1 : List Va) (r98 : (Va) → (Va) → Option (Int)) (v1 : (Int)) : Option (((Int)) ⊕ (((Unit) ⊕ (Int)))) := (Option.bind ((bif (decide (v1 < (List.length a0 : Int))) then (some ((decide (v1 < (List.length a1 : Int))))) else (some (false))) : Option ((Bool))) fun (v3 : (Bool)) => (bif v3 then (Option.bind (idx a0 v1) fun v4 => (Option.bind (idx a1 v1) fun v5 => (Option.bind (r98 (v4) (v5)) fun v6 => (bif (v6 != 0) then (some (.inr (.inr v6))) else (some (.inl ((w64 (v1 + 1))))))))) else (some (.inr (.inl ())))))
def synthesisref01_CompareAll_b (r98 : (Va) → (Va) → Option (Int)) (r105 : (List Va) → (List Va) → Option (Int)) (a0 : List Va) (a1 : List Va) : Option (Int) := (Option.bind (loopN (synthesisref01_CompareAll_l1 a0 a1 r98) fuel (0)) fun (v7 : ((Unit) ⊕ (Int))) => Sum.elim (fun v8 => (bif ((List.length a0 : Int) == (List.length a1 : Int)) then (some 0) else (Option.bind (synthesisref01_sign ((decide ((List.length a0 : Int) < (List.length a1 : Int))))) fun v9 => (some v9)))) (fun v10 => (some v10)) v7)
theorem synthesisref01_CompareAll_b_ok (r98 : (Va) → (Va) → Option (Int)) (r105 : (List Va) → (List Va) → Option (Int)) (ih98 : ∀ (x0 : Va) (x1 : Va) r, r98 x0 x1 = some r → PCall Try.prog 98 [eVa x0, eVa x1] (eI (r))) (ih105 : ∀ (x0 : List Va) (x1 : List Va) r, r105 x0 x1 = some r → PCall Try.prog 105 [(eL 4 eVaR) x0, (eL 4 eVaR) x1] (eI (r))) (a0 : List Va) (a1 : List Va) (r : Int) (h : synthesisref01_CompareAll_b r98 r105 a0 a1 = some r) : PCall Try.prog 105 [(eL 4 eVaR) a0, (eL 4 eVaR) a1] (eI (r)) := by
 unfold synthesisref01_CompareAll_b at h
 refine pcl [.one .keep] Try.func105 (by kernel_rfl) (by kernel_rfl) (by kernel_rfl) ?_
 refine lpx 10 (fun v1 => ⟨42, [(0, (.fz ((eL 4 eVaR) (a0)))), (1, (.fz ((eL 4 eVaR) (a1)))), (5, (fI (v1)))], [], [], []⟩) (fun v7 e st => Sum.elim (fun p => e = .exit 0 ∧ LeSt st ⟨42, [(0, (.fz ((eL 4 eVaR) (a0)))), (1, (.fz ((eL 4 eVaR) (a1))))], [], [], []⟩) (fun p => e = .ret ∧ retX TT st Try.f105.results.toList [.one .keep] = some (eI (p))) v7) h (by kernel_rfl) (le_a (by kernel_rfl)) (fun v1 r h => ?_) fun v7 h e st' hq => ?_
 ·unfold synthesisref01_CompareAll_l1 at h
  refine jn1 2 .normal (fun v3 => ⟨42, [(0, (.fz ((eL 4 eVaR) (a0)))), (1, (.fz ((eL 4 eVaR) (a1)))), (5, (fI (v1))), (16, (fB (v3)))], [], [], []⟩) h (by kernel_rfl) (fun v3 h => ?_) fun v3 h => ?_
  ·refine gd 6 h (by kernel_rfl) (fun h => ?_) fun h => ?_
   ·cases h; exact lj 6 (by kernel_rfl)
   cases h; exact lj 6 (by kernel_rfl)
  refine cd 0 h (by kernel_rfl) (fun h => ?_) fun h => ?_
  ·refine dw 4 8 (by kernel_rfl) ?_
   refine ix nVaR 2 h (by kernel_rfl) fun v4 h => ?_
   refine ix nVaR 3 h (by kernel_rfl) fun v5 h => ?_
   refine cl 2 h (ih98 _ _) (by kernel_rfl) fun v6 h => ?_
   refine cd 7 h (by kernel_rfl) (fun h => ?_) fun h => ?_
   ·cases h; exact lor 6 (by kernel_rfl)
   cases h; exact lj 6 (by kernel_rfl)
  cases h; exact lo 1 (by kernel_rfl)
 rcases v7 with v8 | v10
 ·try simp only [Sum.elim_inl, Sum.elim_inr] at h
  obtain ⟨rfl, hle⟩ := hq
  refine ⟨_, hle, ?_⟩
  refine cd 9 h (by kernel_rfl) (fun h => ?_) fun h => ?_
  ·cases h; exact lq 5 (by kernel_rfl)
  refine cl 8 h (synthesisref01_sign_ok _) (by kernel_rfl) fun v9 h => ?_
  cases h; exact lq 3 (by kernel_rfl)
 ·try simp only [Sum.elim_inl, Sum.elim_inr] at h
  obtain ⟨rfl, hret⟩ := hq
  refine ⟨_, LeSt.refl, ?_⟩
  cases h; exact lv hret
def synthesisref01_Compare_all : Nat → ((Va) → (Va) → Option (Int)) × ((List Va) → (List Va) → Option (Int))
  | 0 => (fun _ _ => none, fun _ _ => none)
  | n + 1 => (synthesisref01_Compare_b ((synthesisref01_Compare_all n).1) ((synthesisref01_Compare_all n).2), synthesisref01_CompareAll_b ((synthesisref01_Compare_all n).1) ((synthesisref01_Compare_all n).2))
def synthesisref01_Compare (n : Nat) : (Va) → (Va) → Option (Int) := (synthesisref01_Compare_all n).1
def synthesisref01_CompareAll (n : Nat) : (List Va) → (List Va) → Option (Int) := (synthesisref01_Compare_all n).2
theorem synthesisref01_Compare_all_ok : ∀ n : Nat, (∀ (x0 : Va) (x1 : Va) r, synthesisref01_Compare n x0 x1 = some r → PCall Try.prog 98 [eVa x0, eVa x1] (eI (r))) ∧ (∀ (x0 : List Va) (x1 : List Va) r, synthesisref01_CompareAll n x0 x1 = some r → PCall Try.prog 105 [(eL 4 eVaR) x0, (eL 4 eVaR) x1] (eI (r)))
  | 0 => ⟨(fun _ _ _ h => nomatch h), (fun _ _ _ h => nomatch h)⟩
  | n + 1 => ⟨(synthesisref01_Compare_b_ok _ _ ((synthesisref01_Compare_all_ok n).1) ((synthesisref01_Compare_all_ok n).2)), (synthesisref01_CompareAll_b_ok _ _ ((synthesisref01_Compare_all_ok n).1) ((synthesisref01_Compare_all_ok n).2))⟩
theorem synthesisref01_Compare_ok (n : Nat) : ∀ (x0 : Va) (x1 : Va) r, synthesisref01_Compare n x0 x1 = some r → PCall Try.prog 98 [eVa x0, eVa x1] (eI (r)) := (synthesisref01_Compare_all_ok n).1
def synthesisref01_Equal (a0 : Va) (a1 : Va) : Option (Bool) := (Option.bind (synthesisref01_Compare fuel (a0) (a1)) fun v1 => (some (v1 == 0)))
theorem synthesisref01_Equal_ok (a0 : Va) (a1 : Va) (r : Bool) (h : synthesisref01_Equal a0 a1 = some r) : PCall Try.prog 81 [eVa a0, eVa a1] (eB (r)) := by
 unfold synthesisref01_Equal at h
 refine pcl [.one .keep] Try.func81 (by kernel_rfl) (by kernel_rfl) (by kernel_rfl) ?_
 refine cl 10 h (synthesisref01_Compare_ok _ _ _) (by kernel_rfl) fun v1 h => ?_
 cases h; exact lq 4 (by kernel_rfl)

def synthesisref11_zero (a0 : Ru) : Option (Bool) := (Option.bind (synthesisref01_Equal (a0.const) ((Va.mk (0) (0) ((⟨#[]⟩ : ByteArray)) (([] : List Va))))) fun v1 => (bif (a0.kind == 1) then (Option.bind ((bif v1 then (bif (a0.op.toList == (⟨#[]⟩ : ByteArray).toList) then (some (((List.length a0.args : Int) == 0))) else (some (false))) else (some (false))) : Option ((Bool))) fun (v3 : (Bool)) => (some v3)) else (bif (a0.kind == 2) then (Option.bind ((bif (a0.input == 0) then (bif (a0.op.toList == (⟨#[]⟩ : ByteArray).toList) then (some (((List.length a0.args : Int) == 0))) else (some (false))) else (some (false))) : Option ((Bool))) fun (v5 : (Bool)) => (some v5)) else (Option.bind ((bif (a0.input == 0) then (some (v1)) else (some (false))) : Option ((Bool))) fun (v7 : (Bool)) => (some v7)))))
theorem synthesisref11_zero_ok (a0 : Ru) (r : Bool) (h : synthesisref11_zero a0 = some r) : PCall Try.prog 78 [eRu a0] (eB (r)) := by
 unfold synthesisref11_zero at h
 refine pcl [.one .keep] Try.func78 (by kernel_rfl) (by kernel_rfl) (by kernel_rfl) ?_
 refine cl 10 h (synthesisref01_Equal_ok _ _) (by kernel_rfl) fun v1 h => ?_
 refine cd 14 h (by kernel_rfl) (fun h => ?_) fun h => ?_
 ·refine jn1 1 .normal (fun v3 => ⟨46, [(2, (fB (v3)))], [], [], []⟩) h (by kernel_rfl) (fun v3 h => ?_) fun v3 h => ?_
  ·refine gd 3 h (by kernel_rfl) (fun h => ?_) fun h => ?_
   ·refine gd 5 h (by kernel_rfl) (fun h => ?_) fun h => ?_
    ·cases h; exact lj 7 (by kernel_rfl)
    cases h; exact lj 7 (by kernel_rfl)
   cases h; exact lj 12 (by kernel_rfl)
  cases h; exact lq 1 (by kernel_rfl)
 refine cd 5 h (by kernel_rfl) (fun h => ?_) fun h => ?_
 ·refine jn1 1 .normal (fun v5 => ⟨46, [(2, (fB (v5)))], [], [], []⟩) h (by kernel_rfl) (fun v5 h => ?_) fun v5 h => ?_
  ·refine gd 5 h (by kernel_rfl) (fun h => ?_) fun h => ?_
   ·refine gd 5 h (by kernel_rfl) (fun h => ?_) fun h => ?_
    ·cases h; exact lj 7 (by kernel_rfl)
    cases h; exact lj 7 (by kernel_rfl)
   cases h; exact lj 12 (by kernel_rfl)
  cases h; exact lq 1 (by kernel_rfl)
 refine jn1 2 .normal (fun v7 => ⟨46, [(2, (fB (v7)))], [], [], []⟩) h (by kernel_rfl) (fun v7 h => ?_) fun v7 h => ?_
 ·refine gd 5 h (by kernel_rfl) (fun h => ?_) fun h => ?_
  ·cases h; exact lj 4 (by kernel_rfl)
  cases h; exact lj 4 (by kernel_rfl)
 cases h; exact lq 1 (by kernel_rfl)

def synthesisref01_within (a0 : Int) (a1 : Int) (a2 : Int) : Option (Int) := (Option.bind ((bif (decide (a0 < a1)) then (some (true)) else (some ((decide (a2 < a0))))) : Option ((Bool))) fun (v2 : (Bool)) => (bif v2 then (some 1) else (some 0)))
theorem synthesisref01_within_ok (a0 : Int) (a1 : Int) (a2 : Int) (r : Int) (h : synthesisref01_within a0 a1 a2 = some r) : PCall Try.prog 93 [eI a0, eI a1, eI a2] (eI (r)) := by
 unfold synthesisref01_within at h
 refine pcl [.one .keep] Try.func93 (by kernel_rfl) (by kernel_rfl) (by kernel_rfl) ?_
 refine jn1 6 .normal (fun v2 => ⟨15, [(14, (fB (v2)))], [], [], []⟩) h (by kernel_rfl) (fun v2 h => ?_) fun v2 h => ?_
 ·refine gd 5 h (by kernel_rfl) (fun h => ?_) fun h => ?_
  ·cases h; exact lj 5 (by kernel_rfl)
  cases h; exact lj 5 (by kernel_rfl)
 refine cd 0 h (by kernel_rfl) (fun h => ?_) fun h => ?_
 ·cases h; exact lq 5 (by kernel_rfl)
 cases h; exact lq 6 (by kernel_rfl)

def synthesisref01_plain_l1 (a0 : ByteArray) (v3 : (Int)) : Option (((Int)) ⊕ (((Unit) ⊕ (Int)))) := (bif (decide (v3 < (a0.size : Int))) then (Option.bind ((Option.bind (byt a0 v3) fun v4 => (bif (decide (v4 < 32)) then (some (true)) else (Option.bind (byt a0 v3) fun v5 => (some ((decide (126 < v5))))))) : Option ((Bool))) fun (v7 : (Bool)) => (bif v7 then (some (.inr (.inr 1))) else (some (.inl ((w64 (v3 + 1))))))) else (some (.inr (.inl ()))))
def synthesisref01_plain (a0 : ByteArray) (a1 : Int) (a2 : Int) : Option (Int) := (Option.bind ((bif (decide ((a0.size : Int) < a1)) then (some (true)) else (some ((decide (a2 < (a0.size : Int)))))) : Option ((Bool))) fun (v2 : (Bool)) => (bif v2 then (some 2) else (Option.bind (loopN (synthesisref01_plain_l1 a0) fuel (0)) fun (v8 : ((Unit) ⊕ (Int))) => Sum.elim (fun v9 => (some 0)) (fun v10 => (some v10)) v8)))
theorem synthesisref01_plain_ok (a0 : ByteArray) (a1 : Int) (a2 : Int) (r : Int) (h : synthesisref01_plain a0 a1 a2 = some r) : PCall Try.prog 94 [eS a0, eI a1, eI a2] (eI (r)) := by
 unfold synthesisref01_plain at h
 refine pcl [.one .keep] Try.func94 (by kernel_rfl) (by kernel_rfl) (by kernel_rfl) ?_
 refine jn1 6 .normal (fun v2 => ⟨34, [(0, (fS (a0))), (17, (fB (v2)))], [], [], []⟩) h (by kernel_rfl) (fun v2 h => ?_) fun v2 h => ?_
 ·refine gd 6 h (by kernel_rfl) (fun h => ?_) fun h => ?_
  ·cases h; exact lj 6 (by kernel_rfl)
  cases h; exact lj 6 (by kernel_rfl)
 refine cd 0 h (by kernel_rfl) (fun h => ?_) fun h => ?_
 ·cases h; exact lq 5 (by kernel_rfl)
 refine lpx 7 (fun v3 => ⟨34, [(0, (fS (a0))), (7, (fI (v3)))], [], [], []⟩) (fun v8 e st => Sum.elim (fun p => e = .exit 0 ∧ LeSt st ⟨34, [], [], [], []⟩) (fun p => e = .ret ∧ retX TT st Try.f94.results.toList [.one .keep] = some (eI (p))) v8) h (by kernel_rfl) (le_a (by kernel_rfl)) (fun v3 r h => ?_) fun v8 h e st' hq => ?_
 ·unfold synthesisref01_plain_l1 at h
  refine cd 8 h (by kernel_rfl) (fun h => ?_) fun h => ?_
  ·refine jn1 4 .normal (fun v7 => ⟨34, [(0, (fS (a0))), (7, (fI (v3))), (33, (fB (v7)))], [], [], []⟩) h (by kernel_rfl) (fun v7 h => ?_) fun v7 h => ?_
   ·refine byx 3 h (by kernel_rfl) fun v4 h => ?_
    refine gd 2 h (by kernel_rfl) (fun h => ?_) fun h => ?_
    ·cases h; exact lj 6 (by kernel_rfl)
    refine byx 2 h (by kernel_rfl) fun v5 h => ?_
    cases h; exact lj 3 (by kernel_rfl)
   refine cd 0 h (by kernel_rfl) (fun h => ?_) fun h => ?_
   ·cases h; exact lor 5 (by kernel_rfl)
   cases h; exact lj 6 (by kernel_rfl)
  cases h; exact lo 1 (by kernel_rfl)
 rcases v8 with v9 | v10
 ·try simp only [Sum.elim_inl, Sum.elim_inr] at h
  obtain ⟨rfl, hle⟩ := hq
  refine ⟨_, hle, ?_⟩
  cases h; exact lq 5 (by kernel_rfl)
 ·try simp only [Sum.elim_inl, Sum.elim_inr] at h
  obtain ⟨rfl, hret⟩ := hq
  refine ⟨_, LeSt.refl, ?_⟩
  cases h; exact lv hret

def synthesisref01_Check_m0 (a0 : Va) : List (Nat × AObj) := [(1, (.box 53 [(fI (a0.type)), (fI (a0.num)), (fS (a0.text)), (.fz ((eL 4 eVaR) (a0.items)))]))]
def synthesisref01_Check_b (r79 : (Va) → Option (Int)) (r95 : (List Va) → (Int) → Option (Int)) (r96 : (List Va) → Option (Int)) (a0 : Va) : Option (Int) := (Option.bind ((bif (decide (a0.type < 1)) then (some (true)) else (some ((decide (8 < a0.type))))) : Option ((Bool))) fun (v2 : (Bool)) => (bif v2 then (some 3) else (Option.bind ((bif (a0.type == 1) then (some (true)) else (bif (a0.type == 2) then (some (true)) else (some ((a0.type == 4))))) : Option ((Bool))) fun (v4 : (Bool)) => (Option.bind ((bif (a0.type == 3) then (some (true)) else (some ((a0.type == 8)))) : Option ((Bool))) fun (v6 : (Bool)) => (Option.bind ((bif (!v4) then (bif (a0.num != 0) then (some (true)) else (bif (!v6) then (bif (!(a0.text.toList == (⟨#[]⟩ : ByteArray).toList)) then (some (true)) else (bif v4 then (some ((decide (0 < (List.length a0.items : Int))))) else (bif v6 then (some ((decide (0 < (List.length a0.items : Int))))) else (some (false))))) else (bif v4 then (some ((decide (0 < (List.length a0.items : Int))))) else (bif v6 then (some ((decide (0 < (List.length a0.items : Int))))) else (some (false)))))) else (bif (!v6) then (bif (!(a0.text.toList == (⟨#[]⟩ : ByteArray).toList)) then (some (true)) else (bif v4 then (some ((decide (0 < (List.length a0.items : Int))))) else (bif v6 then (some ((decide (0 < (List.length a0.items : Int))))) else (some (false))))) else (bif v4 then (some ((decide (0 < (List.length a0.items : Int))))) else (bif v6 then (some ((decide (0 < (List.length a0.items : Int))))) else (some (false)))))) : Option ((Bool))) fun (v8 : (Bool)) => (bif v8 then (some 4) else (bif (a0.type == 1) then (Option.bind (synthesisref01_within (a0.num) (0) (1)) fun v9 => (some v9)) else (bif (a0.type == 2) then (Option.bind (synthesisref01_within (a0.num) ((-1000000)) (1000000)) fun v10 => (some v10)) else (bif (a0.type == 4) then (Option.bind (synthesisref01_within (a0.num) (0) (255)) fun v11 => (some v11)) else (bif (a0.type == 3) then (Option.bind (synthesisref01_plain (a0.text) (0) (64)) fun v12 => (some v12)) else (bif (a0.type == 8) then (Option.bind (synthesisref01_plain (a0.text) (1) (40)) fun v13 => (some v13)) else (bif (a0.type == 5) then (Option.bind (r95 (a0.items) (2)) fun v14 => (some v14)) else (bif (a0.type == 6) then (Option.bind (r95 (a0.items) (3)) fun v15 => (some v15)) else (Option.bind (r96 (a0.items)) fun v16 => (some v16)))))))))))))))
theorem synthesisref01_Check_b_ok (r79 : (Va) → Option (Int)) (r95 : (List Va) → (Int) → Option (Int)) (r96 : (List Va) → Option (Int)) (ih79 : ∀ (x0 : Va) r, r79 x0 = some r → PCall Try.prog 79 [eVa x0] (eI (r))) (ih95 : ∀ (x0 : List Va) (x1 : Int) r, r95 x0 x1 = some r → PCall Try.prog 95 [(eL 4 eVaR) x0, eI x1] (eI (r))) (ih96 : ∀ (x0 : List Va) r, r96 x0 = some r → PCall Try.prog 96 [(eL 4 eVaR) x0] (eI (r))) (a0 : Va) (r : Int) (h : synthesisref01_Check_b r79 r95 r96 a0 = some r) : PCall Try.prog 79 [eVa a0] (eI (r)) := by
 unfold synthesisref01_Check_b at h
 refine pcl [.one .keep] Try.func79 (by kernel_rfl) (by kernel_rfl) (by kernel_rfl) ?_
 refine jn1 7 .normal (fun v2 => ⟨102, [(1, (.ref 1 0 0)), (12, (fB (v2)))], (synthesisref01_Check_m0 a0), [1], []⟩) h (by kernel_rfl) (fun v2 h => ?_) fun v2 h => ?_
 ·refine gd 5 h (by kernel_rfl) (fun h => ?_) fun h => ?_
  ·cases h; exact lj 5 (by kernel_rfl)
  cases h; exact lj 5 (by kernel_rfl)
 refine cd 0 h (by kernel_rfl) (fun h => ?_) fun h => ?_
 ·cases h; exact lq 5 (by kernel_rfl)
 refine jn1 2 .normal (fun v4 => ⟨102, [(1, (.ref 1 0 0)), (3, (fB (v4)))], (synthesisref01_Check_m0 a0), [1], []⟩) h (by kernel_rfl) (fun v4 h => ?_) fun v4 h => ?_
 ·refine gd 5 h (by kernel_rfl) (fun h => ?_) fun h => ?_
  ·cases h; exact lj 11 (by kernel_rfl)
  refine gd 5 h (by kernel_rfl) (fun h => ?_) fun h => ?_
  ·cases h; exact lj 6 (by kernel_rfl)
  cases h; exact lj 6 (by kernel_rfl)
 refine jn1 1 .normal (fun v6 => ⟨102, [(1, (.ref 1 0 0)), (3, (fB (v4))), (4, (fB (v6)))], (synthesisref01_Check_m0 a0), [1], []⟩) h (by kernel_rfl) (fun v6 h => ?_) fun v6 h => ?_
 ·refine gd 5 h (by kernel_rfl) (fun h => ?_) fun h => ?_
  ·cases h; exact lj 6 (by kernel_rfl)
  cases h; exact lj 6 (by kernel_rfl)
 refine jn1 2 .normal (fun v8 => ⟨102, [(1, (.ref 1 0 0)), (61, (fB (v8)))], (synthesisref01_Check_m0 a0), [1], []⟩) h (by kernel_rfl) (fun v8 h => ?_) fun v8 h => ?_
 ·refine gd 4 h (by kernel_rfl) (fun h => ?_) fun h => ?_
  ·refine gd 5 h (by kernel_rfl) (fun h => ?_) fun h => ?_
   ·cases h; exact lj 21 (by kernel_rfl)
   refine gd 3 h (by kernel_rfl) (fun h => ?_) fun h => ?_
   ·refine gd 6 h (by kernel_rfl) (fun h => ?_) fun h => ?_
    ·cases h; exact lj 12 (by kernel_rfl)
    refine gd 2 h (by kernel_rfl) (fun h => ?_) fun h => ?_
    ·cases h; exact lj 10 (by kernel_rfl)
    refine gd 3 h (by kernel_rfl) (fun h => ?_) fun h => ?_
    ·cases h; exact lj 7 (by kernel_rfl)
    cases h; exact lj 7 (by kernel_rfl)
   refine gd 8 h (by kernel_rfl) (fun h => ?_) fun h => ?_
   ·cases h; exact lj 10 (by kernel_rfl)
   refine gd 3 h (by kernel_rfl) (fun h => ?_) fun h => ?_
   ·cases h; exact lj 7 (by kernel_rfl)
   cases h; exact lj 7 (by kernel_rfl)
  refine gd 8 h (by kernel_rfl) (fun h => ?_) fun h => ?_
  ·refine gd 6 h (by kernel_rfl) (fun h => ?_) fun h => ?_
   ·cases h; exact lj 12 (by kernel_rfl)
   refine gd 2 h (by kernel_rfl) (fun h => ?_) fun h => ?_
   ·cases h; exact lj 10 (by kernel_rfl)
   refine gd 3 h (by kernel_rfl) (fun h => ?_) fun h => ?_
   ·cases h; exact lj 7 (by kernel_rfl)
   cases h; exact lj 7 (by kernel_rfl)
  refine gd 8 h (by kernel_rfl) (fun h => ?_) fun h => ?_
  ·cases h; exact lj 10 (by kernel_rfl)
  refine gd 3 h (by kernel_rfl) (fun h => ?_) fun h => ?_
  ·cases h; exact lj 7 (by kernel_rfl)
  cases h; exact lj 7 (by kernel_rfl)
 refine cd 0 h (by kernel_rfl) (fun h => ?_) fun h => ?_
 ·cases h; exact lq 5 (by kernel_rfl)
 refine cd 13 h (by kernel_rfl) (fun h => ?_) fun h => ?_
 ·refine cl 4 h (synthesisref01_within_ok _ _ _) (by kernel_rfl) fun v9 h => ?_
  cases h; exact lq 3 (by kernel_rfl)
 refine cd 5 h (by kernel_rfl) (fun h => ?_) fun h => ?_
 ·refine cl 4 h (synthesisref01_within_ok _ _ _) (by kernel_rfl) fun v10 h => ?_
  cases h; exact lq 3 (by kernel_rfl)
 refine cd 5 h (by kernel_rfl) (fun h => ?_) fun h => ?_
 ·refine cl 4 h (synthesisref01_within_ok _ _ _) (by kernel_rfl) fun v11 h => ?_
  cases h; exact lq 3 (by kernel_rfl)
 refine cd 5 h (by kernel_rfl) (fun h => ?_) fun h => ?_
 ·refine cl 4 h (synthesisref01_plain_ok _ _ _) (by kernel_rfl) fun v12 h => ?_
  cases h; exact lq 3 (by kernel_rfl)
 refine cd 5 h (by kernel_rfl) (fun h => ?_) fun h => ?_
 ·refine cl 4 h (synthesisref01_plain_ok _ _ _) (by kernel_rfl) fun v13 h => ?_
  cases h; exact lq 3 (by kernel_rfl)
 refine cd 5 h (by kernel_rfl) (fun h => ?_) fun h => ?_
 ·refine cl 4 h (ih95 _ _) (by kernel_rfl) fun v14 h => ?_
  cases h; exact lq 3 (by kernel_rfl)
 refine cd 5 h (by kernel_rfl) (fun h => ?_) fun h => ?_
 ·refine cl 4 h (ih95 _ _) (by kernel_rfl) fun v15 h => ?_
  cases h; exact lq 3 (by kernel_rfl)
 refine cl 5 h (ih96 _) (by kernel_rfl) fun v16 h => ?_
 cases h; exact lq 3 (by kernel_rfl)
def synthesisref01_elements_l1 (a0 : List Va) (a1 : Int) (r79 : (Va) → Option (Int)) (v1 : (Int)) : Option (((Int)) ⊕ (((Unit) ⊕ (Int)))) := (bif (decide (v1 < (List.length a0 : Int))) then (Option.bind (idx a0 v1) fun v2 => (bif (v2.type != a1) then (some (.inr (.inr 3))) else (Option.bind (idx a0 v1) fun v3 => (Option.bind (r79 (v3)) fun v4 => (bif (v4 != 0) then (some (.inr (.inr v4))) else (some (.inl ((w64 (v1 + 1)))))))))) else (some (.inr (.inl ()))))
def synthesisref01_elements_b (r79 : (Va) → Option (Int)) (r95 : (List Va) → (Int) → Option (Int)) (r96 : (List Va) → Option (Int)) (a0 : List Va) (a1 : Int) : Option (Int) := (bif (decide (16 < (List.length a0 : Int))) then (some 2) else (Option.bind (loopN (synthesisref01_elements_l1 a0 a1 r79) fuel (0)) fun (v5 : ((Unit) ⊕ (Int))) => Sum.elim (fun v6 => (some 0)) (fun v7 => (some v7)) v5))
theorem synthesisref01_elements_b_ok (r79 : (Va) → Option (Int)) (r95 : (List Va) → (Int) → Option (Int)) (r96 : (List Va) → Option (Int)) (ih79 : ∀ (x0 : Va) r, r79 x0 = some r → PCall Try.prog 79 [eVa x0] (eI (r))) (ih95 : ∀ (x0 : List Va) (x1 : Int) r, r95 x0 x1 = some r → PCall Try.prog 95 [(eL 4 eVaR) x0, eI x1] (eI (r))) (ih96 : ∀ (x0 : List Va) r, r96 x0 = some r → PCall Try.prog 96 [(eL 4 eVaR) x0] (eI (r))) (a0 : List Va) (a1 : Int) (r : Int) (h : synthesisref01_elements_b r79 r95 r96 a0 a1 = some r) : PCall Try.prog 95 [(eL 4 eVaR) a0, eI a1] (eI (r)) := by
 unfold synthesisref01_elements_b at h
 refine pcl [.one .keep] Try.func95 (by kernel_rfl) (by kernel_rfl) (by kernel_rfl) ?_
 refine cd 11 h (by kernel_rfl) (fun h => ?_) fun h => ?_
 ·cases h; exact lq 5 (by kernel_rfl)
 refine lpx 7 (fun v1 => ⟨31, [(0, (.fz ((eL 4 eVaR) (a0)))), (1, (fI (a1))), (5, (fI (v1)))], [], [], []⟩) (fun v5 e st => Sum.elim (fun p => e = .exit 0 ∧ LeSt st ⟨31, [], [], [], []⟩) (fun p => e = .ret ∧ retX TT st Try.f95.results.toList [.one .keep] = some (eI (p))) v5) h (by kernel_rfl) (le_a (by kernel_rfl)) (fun v1 r h => ?_) fun v5 h e st' hq => ?_
 ·unfold synthesisref01_elements_l1 at h
  refine cd 8 h (by kernel_rfl) (fun h => ?_) fun h => ?_
  ·refine ix nVaR 8 h (by kernel_rfl) fun v2 h => ?_
   refine cd 5 h (by kernel_rfl) (fun h => ?_) fun h => ?_
   ·cases h; exact lor 5 (by kernel_rfl)
   refine ix nVaR 5 h (by kernel_rfl) fun v3 h => ?_
   refine cl 1 h (ih79 _) (by kernel_rfl) fun v4 h => ?_
   refine cd 7 h (by kernel_rfl) (fun h => ?_) fun h => ?_
   ·cases h; exact lor 6 (by kernel_rfl)
   cases h; exact lj 6 (by kernel_rfl)
  cases h; exact lo 1 (by kernel_rfl)
 rcases v5 with v6 | v7
 ·try simp only [Sum.elim_inl, Sum.elim_inr] at h
  obtain ⟨rfl, hle⟩ := hq
  refine ⟨_, hle, ?_⟩
  cases h; exact lq 5 (by kernel_rfl)
 ·try simp only [Sum.elim_inl, Sum.elim_inr] at h
  obtain ⟨rfl, hret⟩ := hq
  refine ⟨_, LeSt.refl, ?_⟩
  cases h; exact lv hret
def synthesisref01_rows_l1 (a0 : List Va) (r79 : (Va) → Option (Int)) (v1 : (Int)) : Option (((Int)) ⊕ (((Unit) ⊕ (Int)))) := (bif (decide (v1 < (List.length a0 : Int))) then (Option.bind (idx a0 v1) fun v2 => (bif (v2.type != 6) then (some (.inr (.inr 3))) else (Option.bind (idx a0 v1) fun v3 => (Option.bind ((bif (decide ((List.length v3.items : Int) < 1)) then (some (true)) else (bif (decide (8 < (List.length v3.items : Int))) then (some (true)) else (Option.bind (idx a0 0) fun v4 => (some (((List.length v3.items : Int) != (List.length v4.items : Int))))))) : Option ((Bool))) fun (v6 : (Bool)) => (bif v6 then (some (.inr (.inr 2))) else (Option.bind (idx a0 v1) fun v7 => (Option.bind (r79 (v7)) fun v8 => (bif (v8 != 0) then (some (.inr (.inr v8))) else (some (.inl ((w64 (v1 + 1))))))))))))) else (some (.inr (.inl ()))))
def synthesisref01_rows_b (r79 : (Va) → Option (Int)) (r95 : (List Va) → (Int) → Option (Int)) (r96 : (List Va) → Option (Int)) (a0 : List Va) : Option (Int) := (bif (decide (8 < (List.length a0 : Int))) then (some 2) else (Option.bind (loopN (synthesisref01_rows_l1 a0 r79) fuel (0)) fun (v9 : ((Unit) ⊕ (Int))) => Sum.elim (fun v10 => (some 0)) (fun v11 => (some v11)) v9))
theorem synthesisref01_rows_b_ok (r79 : (Va) → Option (Int)) (r95 : (List Va) → (Int) → Option (Int)) (r96 : (List Va) → Option (Int)) (ih79 : ∀ (x0 : Va) r, r79 x0 = some r → PCall Try.prog 79 [eVa x0] (eI (r))) (ih95 : ∀ (x0 : List Va) (x1 : Int) r, r95 x0 x1 = some r → PCall Try.prog 95 [(eL 4 eVaR) x0, eI x1] (eI (r))) (ih96 : ∀ (x0 : List Va) r, r96 x0 = some r → PCall Try.prog 96 [(eL 4 eVaR) x0] (eI (r))) (a0 : List Va) (r : Int) (h : synthesisref01_rows_b r79 r95 r96 a0 = some r) : PCall Try.prog 96 [(eL 4 eVaR) a0] (eI (r)) := by
 unfold synthesisref01_rows_b at h
 refine pcl [.one .keep] Try.func96 (by kernel_rfl) (by kernel_rfl) (by kernel_rfl) ?_
 refine cd 11 h (by kernel_rfl) (fun h => ?_) fun h => ?_
 ·cases h; exact lq 5 (by kernel_rfl)
 refine lpx 7 (fun v1 => ⟨50, [(0, (.fz ((eL 4 eVaR) (a0)))), (3, (fI (v1)))], [], [], []⟩) (fun v9 e st => Sum.elim (fun p => e = .exit 0 ∧ LeSt st ⟨50, [], [], [], []⟩) (fun p => e = .ret ∧ retX TT st Try.f96.results.toList [.one .keep] = some (eI (p))) v9) h (by kernel_rfl) (le_a (by kernel_rfl)) (fun v1 r h => ?_) fun v9 h e st' hq => ?_
 ·unfold synthesisref01_rows_l1 at h
  refine cd 8 h (by kernel_rfl) (fun h => ?_) fun h => ?_
  ·refine ix nVaR 8 h (by kernel_rfl) fun v2 h => ?_
   refine cd 4 h (by kernel_rfl) (fun h => ?_) fun h => ?_
   ·cases h; exact lor 5 (by kernel_rfl)
   refine ix nVaR 6 h (by kernel_rfl) fun v3 h => ?_
   refine jn1 6 .normal (fun v6 => ⟨50, [(0, (.fz ((eL 4 eVaR) (a0)))), (3, (fI (v1))), (41, (fB (v6)))], [], [], []⟩) h (by kernel_rfl) (fun v6 h => ?_) fun v6 h => ?_
   ·refine gd 4 h (by kernel_rfl) (fun h => ?_) fun h => ?_
    ·cases h; exact lj 13 (by kernel_rfl)
    refine gd 4 h (by kernel_rfl) (fun h => ?_) fun h => ?_
    ·cases h; exact lj 9 (by kernel_rfl)
    refine ix nVaR 2 h (by kernel_rfl) fun v4 h => ?_
    cases h; exact lj 6 (by kernel_rfl)
   refine cd 0 h (by kernel_rfl) (fun h => ?_) fun h => ?_
   ·cases h; exact lor 5 (by kernel_rfl)
   refine ix nVaR 5 h (by kernel_rfl) fun v7 h => ?_
   refine cl 1 h (ih79 _) (by kernel_rfl) fun v8 h => ?_
   refine cd 7 h (by kernel_rfl) (fun h => ?_) fun h => ?_
   ·cases h; exact lor 6 (by kernel_rfl)
   cases h; exact lj 6 (by kernel_rfl)
  cases h; exact lo 1 (by kernel_rfl)
 rcases v9 with v10 | v11
 ·try simp only [Sum.elim_inl, Sum.elim_inr] at h
  obtain ⟨rfl, hle⟩ := hq
  refine ⟨_, hle, ?_⟩
  cases h; exact lq 5 (by kernel_rfl)
 ·try simp only [Sum.elim_inl, Sum.elim_inr] at h
  obtain ⟨rfl, hret⟩ := hq
  refine ⟨_, LeSt.refl, ?_⟩
  cases h; exact lv hret
def synthesisref01_Check_all : Nat → ((Va) → Option (Int)) × ((List Va) → (Int) → Option (Int)) × ((List Va) → Option (Int))
  | 0 => (fun _ => none, fun _ _ => none, fun _ => none)
  | n + 1 => (synthesisref01_Check_b ((synthesisref01_Check_all n).1) ((synthesisref01_Check_all n).2.1) ((synthesisref01_Check_all n).2.2), synthesisref01_elements_b ((synthesisref01_Check_all n).1) ((synthesisref01_Check_all n).2.1) ((synthesisref01_Check_all n).2.2), synthesisref01_rows_b ((synthesisref01_Check_all n).1) ((synthesisref01_Check_all n).2.1) ((synthesisref01_Check_all n).2.2))
def synthesisref01_Check (n : Nat) : (Va) → Option (Int) := (synthesisref01_Check_all n).1
def synthesisref01_elements (n : Nat) : (List Va) → (Int) → Option (Int) := (synthesisref01_Check_all n).2.1
def synthesisref01_rows (n : Nat) : (List Va) → Option (Int) := (synthesisref01_Check_all n).2.2
theorem synthesisref01_Check_all_ok : ∀ n : Nat, (∀ (x0 : Va) r, synthesisref01_Check n x0 = some r → PCall Try.prog 79 [eVa x0] (eI (r))) ∧ (∀ (x0 : List Va) (x1 : Int) r, synthesisref01_elements n x0 x1 = some r → PCall Try.prog 95 [(eL 4 eVaR) x0, eI x1] (eI (r))) ∧ (∀ (x0 : List Va) r, synthesisref01_rows n x0 = some r → PCall Try.prog 96 [(eL 4 eVaR) x0] (eI (r)))
  | 0 => ⟨(fun _ _ h => nomatch h), (fun _ _ _ h => nomatch h), (fun _ _ h => nomatch h)⟩
  | n + 1 => ⟨(synthesisref01_Check_b_ok _ _ _ ((synthesisref01_Check_all_ok n).1) ((synthesisref01_Check_all_ok n).2.1) ((synthesisref01_Check_all_ok n).2.2)), (synthesisref01_elements_b_ok _ _ _ ((synthesisref01_Check_all_ok n).1) ((synthesisref01_Check_all_ok n).2.1) ((synthesisref01_Check_all_ok n).2.2)), (synthesisref01_rows_b_ok _ _ _ ((synthesisref01_Check_all_ok n).1) ((synthesisref01_Check_all_ok n).2.1) ((synthesisref01_Check_all_ok n).2.2))⟩
theorem synthesisref01_Check_ok (n : Nat) : ∀ (x0 : Va) r, synthesisref01_Check n x0 = some r → PCall Try.prog 79 [eVa x0] (eI (r)) := (synthesisref01_Check_all_ok n).1
structure S_ar3_str where
  f_0 : ByteArray
  f_1 : ByteArray
  f_2 : ByteArray
def eS_ar3_str (x : S_ar3_str) : FV := .agg [eS (x.f_0), eS (x.f_1), eS (x.f_2)]
def nS_ar3_str : En S_ar3_str := ⟨eS_ar3_str, 3, fun x => (eS_ar3_str x).cells, fun _ => rfl, fun _ => rfl⟩
def synthesisref09_catalog (a0 : ByteArray) : Option (List S_ar3_str) := (bif (a0.toList == (⟨#[108, 111, 103, 105, 99]⟩ : ByteArray).toList) then (some ([(S_ar3_str.mk ((⟨#[97, 110, 100]⟩ : ByteArray)) ((⟨#[66, 66]⟩ : ByteArray)) ((⟨#[66]⟩ : ByteArray))), (S_ar3_str.mk ((⟨#[111, 114]⟩ : ByteArray)) ((⟨#[66, 66]⟩ : ByteArray)) ((⟨#[66]⟩ : ByteArray))), (S_ar3_str.mk ((⟨#[110, 111, 116]⟩ : ByteArray)) ((⟨#[66]⟩ : ByteArray)) ((⟨#[66]⟩ : ByteArray))), (S_ar3_str.mk ((⟨#[105, 102, 105, 110, 116]⟩ : ByteArray)) ((⟨#[66, 73, 73]⟩ : ByteArray)) ((⟨#[73]⟩ : ByteArray))), (S_ar3_str.mk ((⟨#[105, 102, 116, 101, 120, 116]⟩ : ByteArray)) ((⟨#[66, 84, 84]⟩ : ByteArray)) ((⟨#[84]⟩ : ByteArray))), (S_ar3_str.mk ((⟨#[105, 102, 98, 105, 116, 115]⟩ : ByteArray)) ((⟨#[66, 86, 86]⟩ : ByteArray)) ((⟨#[86]⟩ : ByteArray)))] : List (S_ar3_str))) else (bif (a0.toList == (⟨#[110, 117, 109, 98, 101, 114, 115]⟩ : ByteArray).toList) then (some ([(S_ar3_str.mk ((⟨#[97, 100, 100]⟩ : ByteArray)) ((⟨#[73, 73]⟩ : ByteArray)) ((⟨#[73]⟩ : ByteArray))), (S_ar3_str.mk ((⟨#[115, 117, 98]⟩ : ByteArray)) ((⟨#[73, 73]⟩ : ByteArray)) ((⟨#[73]⟩ : ByteArray))), (S_ar3_str.mk ((⟨#[109, 117, 108]⟩ : ByteArray)) ((⟨#[73, 73]⟩ : ByteArray)) ((⟨#[73]⟩ : ByteArray))), (S_ar3_str.mk ((⟨#[110, 101, 103]⟩ : ByteArray)) ((⟨#[73]⟩ : ByteArray)) ((⟨#[73]⟩ : ByteArray))), (S_ar3_str.mk ((⟨#[109, 105, 110]⟩ : ByteArray)) ((⟨#[73, 73]⟩ : ByteArray)) ((⟨#[73]⟩ : ByteArray))), (S_ar3_str.mk ((⟨#[109, 97, 120]⟩ : ByteArray)) ((⟨#[73, 73]⟩ : ByteArray)) ((⟨#[73]⟩ : ByteArray))), (S_ar3_str.mk ((⟨#[101, 113, 105, 110, 116]⟩ : ByteArray)) ((⟨#[73, 73]⟩ : ByteArray)) ((⟨#[66]⟩ : ByteArray))), (S_ar3_str.mk ((⟨#[108, 101, 115, 115]⟩ : ByteArray)) ((⟨#[73, 73]⟩ : ByteArray)) ((⟨#[66]⟩ : ByteArray)))] : List (S_ar3_str))) else (bif (a0.toList == (⟨#[116, 101, 120, 116, 115]⟩ : ByteArray).toList) then (some ([(S_ar3_str.mk ((⟨#[99, 111, 110, 99, 97, 116]⟩ : ByteArray)) ((⟨#[84, 84]⟩ : ByteArray)) ((⟨#[84]⟩ : ByteArray))), (S_ar3_str.mk ((⟨#[115, 108, 105, 99, 101]⟩ : ByteArray)) ((⟨#[84, 73, 73]⟩ : ByteArray)) ((⟨#[84]⟩ : ByteArray))), (S_ar3_str.mk ((⟨#[108, 101, 110]⟩ : ByteArray)) ((⟨#[84]⟩ : ByteArray)) ((⟨#[73]⟩ : ByteArray))), (S_ar3_str.mk ((⟨#[117, 112, 112, 101, 114]⟩ : ByteArray)) ((⟨#[84]⟩ : ByteArray)) ((⟨#[84]⟩ : ByteArray))), (S_ar3_str.mk ((⟨#[108, 111, 119, 101, 114]⟩ : ByteArray)) ((⟨#[84]⟩ : ByteArray)) ((⟨#[84]⟩ : ByteArray))), (S_ar3_str.mk ((⟨#[116, 114, 105, 109]⟩ : ByteArray)) ((⟨#[84]⟩ : ByteArray)) ((⟨#[84]⟩ : ByteArray))), (S_ar3_str.mk ((⟨#[102, 105, 110, 100]⟩ : ByteArray)) ((⟨#[84, 84]⟩ : ByteArray)) ((⟨#[73]⟩ : ByteArray))), (S_ar3_str.mk ((⟨#[114, 101, 112, 108, 97, 99, 101]⟩ : ByteArray)) ((⟨#[84, 84, 84]⟩ : ByteArray)) ((⟨#[84]⟩ : ByteArray))), (S_ar3_str.mk ((⟨#[119, 111, 114, 100]⟩ : ByteArray)) ((⟨#[84, 73]⟩ : ByteArray)) ((⟨#[84]⟩ : ByteArray))), (S_ar3_str.mk ((⟨#[99, 104, 97, 114]⟩ : ByteArray)) ((⟨#[84, 73]⟩ : ByteArray)) ((⟨#[84]⟩ : ByteArray))), (S_ar3_str.mk ((⟨#[114, 101, 112, 101, 97, 116]⟩ : ByteArray)) ((⟨#[84, 73]⟩ : ByteArray)) ((⟨#[84]⟩ : ByteArray))), (S_ar3_str.mk ((⟨#[115, 104, 111, 119]⟩ : ByteArray)) ((⟨#[73]⟩ : ByteArray)) ((⟨#[84]⟩ : ByteArray))), (S_ar3_str.mk ((⟨#[114, 101, 97, 100]⟩ : ByteArray)) ((⟨#[84]⟩ : ByteArray)) ((⟨#[73]⟩ : ByteArray))), (S_ar3_str.mk ((⟨#[101, 113, 116, 101, 120, 116]⟩ : ByteArray)) ((⟨#[84, 84]⟩ : ByteArray)) ((⟨#[66]⟩ : ByteArray))), (S_ar3_str.mk ((⟨#[115, 112, 108, 105, 116]⟩ : ByteArray)) ((⟨#[84, 84]⟩ : ByteArray)) ((⟨#[83]⟩ : ByteArray))), (S_ar3_str.mk ((⟨#[106, 111, 105, 110]⟩ : ByteArray)) ((⟨#[83, 84]⟩ : ByteArray)) ((⟨#[84]⟩ : ByteArray))), (S_ar3_str.mk ((⟨#[105, 116, 101, 109]⟩ : ByteArray)) ((⟨#[83, 73]⟩ : ByteArray)) ((⟨#[84]⟩ : ByteArray))), (S_ar3_str.mk ((⟨#[115, 111, 114, 116, 116, 101, 120, 116, 115]⟩ : ByteArray)) ((⟨#[83]⟩ : ByteArray)) ((⟨#[83]⟩ : ByteArray))), (S_ar3_str.mk ((⟨#[114, 101, 118, 116, 101, 120, 116, 115]⟩ : ByteArray)) ((⟨#[83]⟩ : ByteArray)) ((⟨#[83]⟩ : ByteArray)))] : List (S_ar3_str))) else (bif (a0.toList == (⟨#[112, 97, 116, 116, 101, 114, 110, 115]⟩ : ByteArray).toList) then (some ([(S_ar3_str.mk ((⟨#[115, 116, 97, 114, 116]⟩ : ByteArray)) ((⟨#[84, 80, 73]⟩ : ByteArray)) ((⟨#[73]⟩ : ByteArray))), (S_ar3_str.mk ((⟨#[101, 110, 100]⟩ : ByteArray)) ((⟨#[84, 80, 73]⟩ : ByteArray)) ((⟨#[73]⟩ : ByteArray))), (S_ar3_str.mk ((⟨#[101, 120, 116, 114, 97, 99, 116]⟩ : ByteArray)) ((⟨#[84, 80, 73]⟩ : ByteArray)) ((⟨#[84]⟩ : ByteArray))), (S_ar3_str.mk ((⟨#[101, 114, 97, 115, 101]⟩ : ByteArray)) ((⟨#[84, 80]⟩ : ByteArray)) ((⟨#[84]⟩ : ByteArray))), (S_ar3_str.mk ((⟨#[111, 99, 99, 117, 114, 115]⟩ : ByteArray)) ((⟨#[84, 80]⟩ : ByteArray)) ((⟨#[73]⟩ : ByteArray))), (S_ar3_str.mk ((⟨#[109, 97, 116, 99, 104, 101, 115]⟩ : ByteArray)) ((⟨#[84, 80]⟩ : ByteArray)) ((⟨#[66]⟩ : ByteArray))), (S_ar3_str.mk ((⟨#[112, 108, 105, 116]⟩ : ByteArray)) ((⟨#[84]⟩ : ByteArray)) ((⟨#[80]⟩ : ByteArray))), (S_ar3_str.mk ((⟨#[112, 99, 97, 116]⟩ : ByteArray)) ((⟨#[80, 80]⟩ : ByteArray)) ((⟨#[80]⟩ : ByteArray))), (S_ar3_str.mk ((⟨#[112, 97, 108, 116]⟩ : ByteArray)) ((⟨#[80, 80]⟩ : ByteArray)) ((⟨#[80]⟩ : ByteArray))), (S_ar3_str.mk ((⟨#[112, 115, 116, 97, 114]⟩ : ByteArray)) ((⟨#[80]⟩ : ByteArray)) ((⟨#[80]⟩ : ByteArray)))] : List (S_ar3_str))) else (bif (a0.toList == (⟨#[108, 105, 115, 116, 115]⟩ : ByteArray).toList) then (some ([(S_ar3_str.mk ((⟨#[104, 101, 97, 100]⟩ : ByteArray)) ((⟨#[76]⟩ : ByteArray)) ((⟨#[73]⟩ : ByteArray))), (S_ar3_str.mk ((⟨#[108, 97, 115, 116]⟩ : ByteArray)) ((⟨#[76]⟩ : ByteArray)) ((⟨#[73]⟩ : ByteArray))), (S_ar3_str.mk ((⟨#[116, 97, 107, 101]⟩ : ByteArray)) ((⟨#[76, 73]⟩ : ByteArray)) ((⟨#[76]⟩ : ByteArray))), (S_ar3_str.mk ((⟨#[100, 114, 111, 112]⟩ : ByteArray)) ((⟨#[76, 73]⟩ : ByteArray)) ((⟨#[76]⟩ : ByteArray))), (S_ar3_str.mk ((⟨#[114, 101, 118, 101, 114, 115, 101]⟩ : ByteArray)) ((⟨#[76]⟩ : ByteArray)) ((⟨#[76]⟩ : ByteArray))), (S_ar3_str.mk ((⟨#[115, 111, 114, 116]⟩ : ByteArray)) ((⟨#[76]⟩ : ByteArray)) ((⟨#[76]⟩ : ByteArray))), (S_ar3_str.mk ((⟨#[117, 110, 105, 113, 117, 101]⟩ : ByteArray)) ((⟨#[76]⟩ : ByteArray)) ((⟨#[76]⟩ : ByteArray))), (S_ar3_str.mk ((⟨#[115, 117, 109]⟩ : ByteArray)) ((⟨#[76]⟩ : ByteArray)) ((⟨#[73]⟩ : ByteArray))), (S_ar3_str.mk ((⟨#[115, 104, 105, 102, 116]⟩ : ByteArray)) ((⟨#[76, 73]⟩ : ByteArray)) ((⟨#[76]⟩ : ByteArray))), (S_ar3_str.mk ((⟨#[115, 99, 97, 108, 101]⟩ : ByteArray)) ((⟨#[76, 73]⟩ : ByteArray)) ((⟨#[76]⟩ : ByteArray))), (S_ar3_str.mk ((⟨#[97, 98, 111, 118, 101]⟩ : ByteArray)) ((⟨#[76, 73]⟩ : ByteArray)) ((⟨#[76]⟩ : ByteArray))), (S_ar3_str.mk ((⟨#[101, 118, 101, 110]⟩ : ByteArray)) ((⟨#[76]⟩ : ByteArray)) ((⟨#[76]⟩ : ByteArray))), (S_ar3_str.mk ((⟨#[122, 105, 112]⟩ : ByteArray)) ((⟨#[76, 76]⟩ : ByteArray)) ((⟨#[76]⟩ : ByteArray))), (S_ar3_str.mk ((⟨#[97, 112, 112, 101, 110, 100]⟩ : ByteArray)) ((⟨#[76, 76]⟩ : ByteArray)) ((⟨#[76]⟩ : ByteArray))), (S_ar3_str.mk ((⟨#[101, 108, 101, 109, 101, 110, 116]⟩ : ByteArray)) ((⟨#[76, 73]⟩ : ByteArray)) ((⟨#[73]⟩ : ByteArray))), (S_ar3_str.mk ((⟨#[99, 111, 117, 110, 116]⟩ : ByteArray)) ((⟨#[76, 73]⟩ : ByteArray)) ((⟨#[73]⟩ : ByteArray))), (S_ar3_str.mk ((⟨#[109, 97, 120, 105, 109, 117, 109]⟩ : ByteArray)) ((⟨#[76]⟩ : ByteArray)) ((⟨#[73]⟩ : ByteArray))), (S_ar3_str.mk ((⟨#[109, 105, 110, 105, 109, 117, 109]⟩ : ByteArray)) ((⟨#[76]⟩ : ByteArray)) ((⟨#[73]⟩ : ByteArray))), (S_ar3_str.mk ((⟨#[114, 117, 110, 110, 105, 110, 103]⟩ : ByteArray)) ((⟨#[76]⟩ : ByteArray)) ((⟨#[76]⟩ : ByteArray))), (S_ar3_str.mk ((⟨#[108, 101, 110, 103, 116, 104]⟩ : ByteArray)) ((⟨#[76]⟩ : ByteArray)) ((⟨#[73]⟩ : ByteArray)))] : List (S_ar3_str))) else (bif (a0.toList == (⟨#[116, 97, 98, 108, 101, 115]⟩ : ByteArray).toList) then (some ([(S_ar3_str.mk ((⟨#[116, 114, 97, 110, 115, 112, 111, 115, 101]⟩ : ByteArray)) ((⟨#[77]⟩ : ByteArray)) ((⟨#[77]⟩ : ByteArray))), (S_ar3_str.mk ((⟨#[114, 111, 119]⟩ : ByteArray)) ((⟨#[77, 73]⟩ : ByteArray)) ((⟨#[83]⟩ : ByteArray))), (S_ar3_str.mk ((⟨#[99, 111, 108, 117, 109, 110]⟩ : ByteArray)) ((⟨#[77, 73]⟩ : ByteArray)) ((⟨#[83]⟩ : ByteArray))), (S_ar3_str.mk ((⟨#[100, 114, 111, 112, 114, 111, 119]⟩ : ByteArray)) ((⟨#[77, 73]⟩ : ByteArray)) ((⟨#[77]⟩ : ByteArray))), (S_ar3_str.mk ((⟨#[100, 114, 111, 112, 99, 111, 108, 117, 109, 110]⟩ : ByteArray)) ((⟨#[77, 73]⟩ : ByteArray)) ((⟨#[77]⟩ : ByteArray))), (S_ar3_str.mk ((⟨#[115, 111, 114, 116, 116, 97, 98, 108, 101]⟩ : ByteArray)) ((⟨#[77, 73]⟩ : ByteArray)) ((⟨#[77]⟩ : ByteArray))), (S_ar3_str.mk ((⟨#[102, 105, 108, 108]⟩ : ByteArray)) ((⟨#[77]⟩ : ByteArray)) ((⟨#[77]⟩ : ByteArray))), (S_ar3_str.mk ((⟨#[117, 110, 112, 105, 118, 111, 116]⟩ : ByteArray)) ((⟨#[77, 73]⟩ : ByteArray)) ((⟨#[77]⟩ : ByteArray))), (S_ar3_str.mk ((⟨#[112, 105, 118, 111, 116]⟩ : ByteArray)) ((⟨#[77]⟩ : ByteArray)) ((⟨#[77]⟩ : ByteArray))), (S_ar3_str.mk ((⟨#[99, 101, 108, 108]⟩ : ByteArray)) ((⟨#[77, 73, 73]⟩ : ByteArray)) ((⟨#[84]⟩ : ByteArray))), (S_ar3_str.mk ((⟨#[115, 116, 97, 99, 107]⟩ : ByteArray)) ((⟨#[77, 77]⟩ : ByteArray)) ((⟨#[77]⟩ : ByteArray))), (S_ar3_str.mk ((⟨#[98, 101, 115, 105, 100, 101]⟩ : ByteArray)) ((⟨#[77, 77]⟩ : ByteArray)) ((⟨#[77]⟩ : ByteArray))), (S_ar3_str.mk ((⟨#[115, 112, 108, 105, 116, 99, 111, 108, 117, 109, 110]⟩ : ByteArray)) ((⟨#[77, 73, 84]⟩ : ByteArray)) ((⟨#[77]⟩ : ByteArray)))] : List (S_ar3_str))) else (some ([(S_ar3_str.mk ((⟨#[98, 97, 110, 100]⟩ : ByteArray)) ((⟨#[86, 86]⟩ : ByteArray)) ((⟨#[86]⟩ : ByteArray))), (S_ar3_str.mk ((⟨#[98, 111, 114]⟩ : ByteArray)) ((⟨#[86, 86]⟩ : ByteArray)) ((⟨#[86]⟩ : ByteArray))), (S_ar3_str.mk ((⟨#[98, 120, 111, 114]⟩ : ByteArray)) ((⟨#[86, 86]⟩ : ByteArray)) ((⟨#[86]⟩ : ByteArray))), (S_ar3_str.mk ((⟨#[98, 110, 111, 116]⟩ : ByteArray)) ((⟨#[86]⟩ : ByteArray)) ((⟨#[86]⟩ : ByteArray))), (S_ar3_str.mk ((⟨#[98, 97, 100, 100]⟩ : ByteArray)) ((⟨#[86, 86]⟩ : ByteArray)) ((⟨#[86]⟩ : ByteArray))), (S_ar3_str.mk ((⟨#[98, 115, 117, 98]⟩ : ByteArray)) ((⟨#[86, 86]⟩ : ByteArray)) ((⟨#[86]⟩ : ByteArray))), (S_ar3_str.mk ((⟨#[98, 109, 117, 108]⟩ : ByteArray)) ((⟨#[86, 86]⟩ : ByteArray)) ((⟨#[86]⟩ : ByteArray))), (S_ar3_str.mk ((⟨#[98, 108, 101, 102, 116]⟩ : ByteArray)) ((⟨#[86, 73]⟩ : ByteArray)) ((⟨#[86]⟩ : ByteArray))), (S_ar3_str.mk ((⟨#[98, 114, 105, 103, 104, 116]⟩ : ByteArray)) ((⟨#[86, 73]⟩ : ByteArray)) ((⟨#[86]⟩ : ByteArray))), (S_ar3_str.mk ((⟨#[98, 97, 114, 105, 116, 104]⟩ : ByteArray)) ((⟨#[86, 73]⟩ : ByteArray)) ((⟨#[86]⟩ : ByteArray))), (S_ar3_str.mk ((⟨#[111, 110, 101, 115]⟩ : ByteArray)) ((⟨#[86]⟩ : ByteArray)) ((⟨#[73]⟩ : ByteArray))), (S_ar3_str.mk ((⟨#[101, 113, 98, 105, 116, 115]⟩ : ByteArray)) ((⟨#[86, 86]⟩ : ByteArray)) ((⟨#[66]⟩ : ByteArray)))] : List (S_ar3_str)))))))))
theorem synthesisref09_catalog_ok (a0 : ByteArray) (r : List S_ar3_str) (h : synthesisref09_catalog a0 = some r) : PCall Try.prog 102 [eS a0] ((eL 3 eS_ar3_str) (r)) := by
 unfold synthesisref09_catalog at h
 refine pcl [.one (.sl 3)] Try.func102 (by kernel_rfl) (by kernel_rfl) (by kernel_rfl) ?_
 refine cd 15 h (by kernel_rfl) (fun h => ?_) fun h => ?_
 ·cases h; exact lq 12 (by kernel_rfl)
 refine cd 5 h (by kernel_rfl) (fun h => ?_) fun h => ?_
 ·cases h; exact lq 14 (by kernel_rfl)
 refine cd 5 h (by kernel_rfl) (fun h => ?_) fun h => ?_
 ·cases h; exact lq 25 (by kernel_rfl)
 refine cd 5 h (by kernel_rfl) (fun h => ?_) fun h => ?_
 ·cases h; exact lq 16 (by kernel_rfl)
 refine cd 5 h (by kernel_rfl) (fun h => ?_) fun h => ?_
 ·cases h; exact lq 26 (by kernel_rfl)
 refine cd 5 h (by kernel_rfl) (fun h => ?_) fun h => ?_
 ·cases h; exact lq 19 (by kernel_rfl)
 cases h; exact lq 19 (by kernel_rfl)

def synthesisref09_families  : Option (List ByteArray) := (some ([(⟨#[108, 111, 103, 105, 99]⟩ : ByteArray), (⟨#[110, 117, 109, 98, 101, 114, 115]⟩ : ByteArray), (⟨#[116, 101, 120, 116, 115]⟩ : ByteArray), (⟨#[112, 97, 116, 116, 101, 114, 110, 115]⟩ : ByteArray), (⟨#[108, 105, 115, 116, 115]⟩ : ByteArray), (⟨#[116, 97, 98, 108, 101, 115]⟩ : ByteArray), (⟨#[98, 105, 116, 115]⟩ : ByteArray)] : List (ByteArray)))
theorem synthesisref09_families_ok  (r : List ByteArray) (h : synthesisref09_families  = some r) : PCall Try.prog 107 [] ((eL 1 eS) (r)) := by
 unfold synthesisref09_families at h
 refine pcl [.one (.sl 1)] Try.func107 (by kernel_rfl) (by kernel_rfl) (by kernel_rfl) ?_
 cases h; exact lq 10 (by kernel_rfl)

def synthesisref09_Family_l1 (a0 : ByteArray) (v3 : ByteArray) (v4 : List S_ar3_str) (v5 : (Int)) : Option (((Int)) ⊕ (((Unit) ⊕ (ByteArray)))) := (bif (decide (v5 < (List.length v4 : Int))) then (Option.bind (idx v4 v5) fun v6 => (bif (v6.f_0.toList == a0.toList) then (some (.inr (.inr v3))) else (some (.inl ((w64 (v5 + 1))))))) else (some (.inr (.inl ()))))
def synthesisref09_Family_l2 (a0 : ByteArray) (v1 : List ByteArray) (v2 : (Int)) : Option (((Int)) ⊕ (((Unit) ⊕ (ByteArray)))) := (bif (decide (v2 < (List.length v1 : Int))) then (Option.bind (idx v1 v2) fun v3 => (Option.bind (synthesisref09_catalog (v3)) fun v4 => (Option.bind (loopN (synthesisref09_Family_l1 a0 v3 v4) fuel (0)) fun (v7 : ((Unit) ⊕ (ByteArray))) => Sum.elim (fun v8 => (some (.inl ((w64 (v2 + 1)))))) (fun v9 => (some (.inr (.inr v9)))) v7))) else (some (.inr (.inl ()))))
def synthesisref09_Family (a0 : ByteArray) : Option (ByteArray) := (Option.bind (synthesisref09_families ) fun v1 => (Option.bind (loopN (synthesisref09_Family_l2 a0 v1) fuel (0)) fun (v10 : ((Unit) ⊕ (ByteArray))) => Sum.elim (fun v11 => (some (⟨#[]⟩ : ByteArray))) (fun v12 => (some v12)) v10))
theorem synthesisref09_Family_ok (a0 : ByteArray) (r : ByteArray) (h : synthesisref09_Family a0 = some r) : PCall Try.prog 101 [eS a0] (eS (r)) := by
 unfold synthesisref09_Family at h
 refine pcl [.one .keep] Try.func101 (by kernel_rfl) (by kernel_rfl) (by kernel_rfl) ?_
 refine cl 7 h (synthesisref09_families_ok) (by kernel_rfl) fun v1 h => ?_
 refine lpx 4 (fun v2 => ⟨27, [(0, (fS (a0))), (7, (.fz ((eL 1 eS) (v1)))), (8, (fI ((List.length v1 : Int)))), (9, (fI (v2)))], [], [], []⟩) (fun v10 e st => Sum.elim (fun p => e = .exit 0 ∧ LeSt st ⟨27, [], [], [], []⟩) (fun p => e = .ret ∧ retX TT st Try.f101.results.toList [.one .keep] = some (eS (p))) v10) h (by kernel_rfl) (le_a (by kernel_rfl)) (fun v2 r h => ?_) fun v10 h e st' hq => ?_
 ·unfold synthesisref09_Family_l2 at h
  refine cd 5 h (by kernel_rfl) (fun h => ?_) fun h => ?_
  ·refine ix nS 5 h (by kernel_rfl) fun v3 h => ?_
   refine cl 6 h (synthesisref09_catalog_ok _) (by kernel_rfl) fun v4 h => ?_
   refine lpx 4 (fun v5 => ⟨27, [(0, (fS (a0))), (4, (fS (v3))), (7, (.fz ((eL 1 eS) (v1)))), (8, (fI ((List.length v1 : Int)))), (9, (fI (v2))), (14, (.fz ((eL 3 eS_ar3_str) (v4)))), (15, (fI ((List.length v4 : Int)))), (16, (fI (v5)))], [], [], []⟩) (fun v7 e st => Sum.elim (fun p => e = .exit 2 ∧ LeSt st ⟨27, [(0, (fS (a0))), (7, (.fz ((eL 1 eS) (v1)))), (8, (fI ((List.length v1 : Int)))), (9, (fI (v2)))], [], [], []⟩) (fun p => e = .ret ∧ retX TT st Try.f101.results.toList [.one .keep] = some (eS (p))) v7) h (by kernel_rfl) (le_a (by kernel_rfl)) (fun v5 r h => ?_) fun v7 h e st' hq => ?_
   ·unfold synthesisref09_Family_l1 at h
    refine cd 5 h (by kernel_rfl) (fun h => ?_) fun h => ?_
    ·refine ix nS_ar3_str 5 h (by kernel_rfl) fun v6 h => ?_
     refine cd 11 h (by kernel_rfl) (fun h => ?_) fun h => ?_
     ·cases h; exact lor 6 (by kernel_rfl)
     cases h; exact lj 5 (by kernel_rfl)
    cases h; exact lo 1 (by kernel_rfl)
   rcases v7 with v8 | v9
   ·try simp only [Sum.elim_inl, Sum.elim_inr] at h
    obtain ⟨rfl, hle⟩ := hq
    refine ⟨_, hle, ?_⟩
    cases h; exact lj 4 (by kernel_rfl)
   ·try simp only [Sum.elim_inl, Sum.elim_inr] at h
    obtain ⟨rfl, hret⟩ := hq
    refine ⟨_, LeSt.refl, ?_⟩
    cases h; exact lvo hret
  cases h; exact lo 1 (by kernel_rfl)
 rcases v10 with v11 | v12
 ·try simp only [Sum.elim_inl, Sum.elim_inr] at h
  obtain ⟨rfl, hle⟩ := hq
  refine ⟨_, hle, ?_⟩
  cases h; exact lq 5 (by kernel_rfl)
 ·try simp only [Sum.elim_inl, Sum.elim_inr] at h
  obtain ⟨rfl, hret⟩ := hq
  refine ⟨_, LeSt.refl, ?_⟩
  cases h; exact lv hret

def synthesisref09_letter_l1 (a0 : Int) (v1 : (Int)) : Option (((Int)) ⊕ (((Unit) ⊕ (Int)))) := (bif (decide (v1 < ((⟨#[66, 73, 84, 86, 76, 83, 77, 80]⟩ : ByteArray).size : Int))) then (Option.bind (byt (⟨#[66, 73, 84, 86, 76, 83, 77, 80]⟩ : ByteArray) v1) fun v2 => (bif (v2 == a0) then (some (.inr (.inr (w64 (v1 + 1))))) else (some (.inl ((w64 (v1 + 1))))))) else (some (.inr (.inl ()))))
def synthesisref09_letter (a0 : Int) : Option (Int) := (Option.bind (loopN (synthesisref09_letter_l1 a0) fuel (0)) fun (v3 : ((Unit) ⊕ (Int))) => Sum.elim (fun v4 => (some 0)) (fun v5 => (some v5)) v3)
theorem synthesisref09_letter_ok (a0 : Int) (r : Int) (h : synthesisref09_letter a0 = some r) : PCall Try.prog 103 [eU8 a0] (eI (r)) := by
 unfold synthesisref09_letter at h
 refine pcl [.one .keep] Try.func103 (by kernel_rfl) (by kernel_rfl) (by kernel_rfl) ?_
 refine lpx 14 (fun v1 => ⟨18, [(0, (.fz (eU8 (a0)))), (3, (fS ((⟨#[66, 73, 84, 86, 76, 83, 77, 80]⟩ : ByteArray)))), (4, (fI (v1)))], [], [], []⟩) (fun v3 e st => Sum.elim (fun p => e = .exit 0 ∧ LeSt st ⟨18, [], [], [], []⟩) (fun p => e = .ret ∧ retX TT st Try.f103.results.toList [.one .keep] = some (eI (p))) v3) h (by kernel_rfl) (le_a (by kernel_rfl)) (fun v1 r h => ?_) fun v3 h e st' hq => ?_
 ·unfold synthesisref09_letter_l1 at h
  refine cd 8 h (by kernel_rfl) (fun h => ?_) fun h => ?_
  ·refine byx 7 h (by kernel_rfl) fun v2 h => ?_
   refine cd 3 h (by kernel_rfl) (fun h => ?_) fun h => ?_
   ·cases h; exact lor 7 (by kernel_rfl)
   cases h; exact lj 6 (by kernel_rfl)
  cases h; exact lo 1 (by kernel_rfl)
 rcases v3 with v4 | v5
 ·try simp only [Sum.elim_inl, Sum.elim_inr] at h
  obtain ⟨rfl, hle⟩ := hq
  refine ⟨_, hle, ?_⟩
  cases h; exact lq 5 (by kernel_rfl)
 ·try simp only [Sum.elim_inl, Sum.elim_inr] at h
  obtain ⟨rfl, hret⟩ := hq
  refine ⟨_, LeSt.refl, ?_⟩
  cases h; exact lv hret

def synthesisref09_Find_l1 (v4 : S_ar3_str) (v7 : (Int) × (List Int)) : Option (((Int) × (List Int)) ⊕ ((List Int))) := (bif (decide (v7.1 < (v4.f_1.size : Int))) then (Option.bind (byt v4.f_1 v7.1) fun v8 => (Option.bind (synthesisref09_letter (v8)) fun v9 => (Option.bind (app 8 v7.2 ([v9] : List (Int))) fun v10 => (some (.inl ((w64 (v7.1 + 1)), v10)))))) else (some (.inr (v7.2))))
def synthesisref09_Find_l2 (a0 : ByteArray) (v2 : List S_ar3_str) (v3 : (Int)) : Option (((Int)) ⊕ (((Unit) ⊕ ((S_api_Operator) × (Bool))))) := (bif (decide (v3 < (List.length v2 : Int))) then (Option.bind (idx v2 v3) fun v4 => (bif (v4.f_0.toList == a0.toList) then (Option.bind (byt v4.f_2 0) fun v5 => (Option.bind (synthesisref09_letter (v5)) fun v6 => (Option.bind (loopN (synthesisref09_Find_l1 v4) fuel (0, ([] : List (Int)))) fun (v12 : (List Int)) => (some (.inr (.inr ((S_api_Operator.mk (a0) (v12) (v6)), true))))))) else (some (.inl ((w64 (v3 + 1))))))) else (some (.inr (.inl ()))))
def synthesisref09_Find (a0 : ByteArray) : Option ((S_api_Operator) × (Bool)) := (Option.bind (synthesisref09_Family (a0)) fun v1 => (bif (v1.toList == (⟨#[]⟩ : ByteArray).toList) then (some ((S_api_Operator.mk ((⟨#[]⟩ : ByteArray)) (([] : List Int)) (0)), false)) else (Option.bind (synthesisref09_catalog (v1)) fun v2 => (Option.bind (loopN (synthesisref09_Find_l2 a0 v2) fuel (0)) fun (v13 : ((Unit) ⊕ ((S_api_Operator) × (Bool)))) => Sum.elim (fun v14 => (some ((S_api_Operator.mk ((⟨#[]⟩ : ByteArray)) (([] : List Int)) (0)), false))) (fun v15 => (some v15)) v13))))
theorem synthesisref09_Find_ok (a0 : ByteArray) (r : (S_api_Operator) × (Bool)) (h : synthesisref09_Find a0 = some r) : PCall Try.prog 97 [eS a0] (.tup [eS_api_Operator (r.1), eB (r.2)]) := by
 unfold synthesisref09_Find at h
 refine pcl [.ag [.keep, .sl 1, .keep], .one .keep] Try.func97 (by kernel_rfl) (by kernel_rfl) (by kernel_rfl) ?_
 refine cl 8 h (synthesisref09_Family_ok _) (by kernel_rfl) fun v1 h => ?_
 refine cd 8 h (by kernel_rfl) (fun h => ?_) fun h => ?_
 ·cases h; exact lq 7 (by kernel_rfl)
 refine cl 5 h (synthesisref09_catalog_ok _) (by kernel_rfl) fun v2 h => ?_
 refine lpx 4 (fun v3 => ⟨51, [(0, (fS (a0))), (2, (.ref 1 0 0)), (15, (.fz ((eL 3 eS_ar3_str) (v2)))), (16, (fI ((List.length v2 : Int)))), (17, (fI (v3)))], [(1, (.box 90 [(fS ((⟨#[]⟩ : ByteArray))), (.fz (.atom (.slice none 0 0))), (fI (0))]))], [1], []⟩) (fun v13 e st => Sum.elim (fun p => e = .exit 0 ∧ LeSt st ⟨51, [(2, (.ref 1 0 0))], [(1, (.box 90 [(fS ((⟨#[]⟩ : ByteArray))), (.fz (.atom (.slice none 0 0))), (fI (0))]))], [1], []⟩) (fun p => e = .ret ∧ retX TT st Try.f97.results.toList [.ag [.keep, .sl 1, .keep], .one .keep] = some (.tup [eS_api_Operator (p.1), eB (p.2)])) v13) h (by kernel_rfl) (le_a (by kernel_rfl)) (fun v3 r h => ?_) fun v13 h e st' hq => ?_
 ·unfold synthesisref09_Find_l2 at h
  refine cd 5 h (by kernel_rfl) (fun h => ?_) fun h => ?_
  ·refine ix nS_ar3_str 5 h (by kernel_rfl) fun v4 h => ?_
   refine cd 11 h (by kernel_rfl) (fun h => ?_) fun h => ?_
   ·refine byx 5 h (by kernel_rfl) fun v5 h => ?_
    refine cl 0 h (synthesisref09_letter_ok _) (by kernel_rfl) fun v6 h => ?_
    refine wle 10 (le_nilcell (e2 := 90) (e := 3) (size := 1) (id2 := 3) (j := 1) (id := 4) (cells := [(fS (a0)), (.fz (.atom (.slice none 0 0))), (fI (v6))]) (by kernel_rfl) (by kernel_rfl) (by kernel_rfl) (by kernel_rfl)) (by kernel_rfl) ?_
    refine lp1 0 (fun v7 => ⟨51, [(2, (.ref 1 0 0)), (6, (.ref 2 0 0)), (7, (.ref 3 0 0)), (8, (fI (v7.1)))], [(1, (.box 90 [(fS ((⟨#[]⟩ : ByteArray))), (.fz (.atom (.slice none 0 0))), (fI (0))])), (2, (.box 117 [(fS (v4.f_0)), (fS (v4.f_1)), (fS (v4.f_2))])), (3, (.box 90 [(fS (a0)), (.row 4 (List.length (v7.2))), (fI (v6))])), (4, (.frow 3 1 (List.map eI (v7.2))))], [4, 3, 2, 1], []⟩) (.exit 2) (fun v12 => ⟨51, [(2, (.ref 1 0 0)), (7, (.ref 3 0 0))], [(1, (.box 90 [(fS ((⟨#[]⟩ : ByteArray))), (.fz (.atom (.slice none 0 0))), (fI (0))])), (3, (.box 90 [(fS (a0)), (.row 4 (List.length (v12))), (fI (v6))])), (4, (.frow 3 1 (List.map eI (v12))))], [4, 3, 1], []⟩) h (by kernel_rfl) (by kernel_rfl) (fun v7 r h => ?_) fun v12 h => ?_
    ·unfold synthesisref09_Find_l1 at h
     refine cd 9 h (by kernel_rfl) (fun h => ?_) fun h => ?_
     ·refine dw 3 8 (by kernel_rfl) ?_
      refine byx 5 h (by kernel_rfl) fun v8 h => ?_
      refine cl 0 h (synthesisref09_letter_ok _) (by kernel_rfl) fun v9 h => ?_
      refine ap nI 2 h (by kernel_rfl) fun v10 h => ?_
      cases h; exact lj 8 (by kernel_rfl)
     cases h; exact lo 1 (by kernel_rfl)
    refine wle 6 (le_freezeCell (e2 := 90) (id2 := 1) (j := 1) (id := 4) (n := List.length (v12)) (e := 3) (size := 1) (xs := List.map eI (v12)) (cells := [(fS (a0)), (.row 4 (List.length (v12))), (fI (v6))]) (by kernel_rfl) (by kernel_rfl) (by kernel_rfl) (by simp)) (by kernel_rfl) ?_
    cases h; exact lor 1 (by kernel_rfl)
   cases h; exact lj 5 (by kernel_rfl)
  cases h; exact lo 1 (by kernel_rfl)
 rcases v13 with v14 | v15
 ·try simp only [Sum.elim_inl, Sum.elim_inr] at h
  obtain ⟨rfl, hle⟩ := hq
  refine ⟨_, hle, ?_⟩
  cases h; exact lq 7 (by kernel_rfl)
 ·try simp only [Sum.elim_inl, Sum.elim_inr] at h
  obtain ⟨rfl, hret⟩ := hq
  refine ⟨_, LeSt.refl, ?_⟩
  cases h; exact lv hret
end Go.Proofs.Ytpcfkflhnkfjjaa
