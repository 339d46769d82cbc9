/- Typed programs and what computes them. -/
import Derived.Test.YtijkipikefpopaaDoorZ2
set_option linter.unusedVariables false
set_option linter.unusedSimpArgs false
set_option maxRecDepth 100000
namespace Go.Proofs.YtijkipikefpopaaDoor
open Go Go.RowKit Go.Proofs
attribute [local irreducible] NStep StepA EStep LeSt
def synthesisref02_quoted_l1 (a0 : ByteArray) (a2 : Int) (a3 : Int) (a4 : Bool) (v2 : (Int) × (ByteArray)) : Option (((Int) × (ByteArray)) ⊕ ((ByteArray) × (Int) × (Bool))) := (Option.bind ((Option.bind (synthesisref02_at (a0) (v2.1)) fun v3 => (Option.bind ((bif (v3 == 34) then (some ((decide (a2 ≤ (v2.2.size : Int))))) else (some (false))) : Option ((Bool))) fun (v5 : (Bool)) => (bif v5 then (some (.inr (.inr (v2.2, (w64 (v2.1 + 1)), true)))) else (Option.bind ((bif ((v2.2.size : Int) == a3) then (some (true)) else (bif (decide (v3 < 32)) then (some (true)) else (bif (decide (126 < v3)) then (some (true)) else (some ((v3 == 34)))))) : Option ((Bool))) fun (v7 : (Bool)) => (bif v7 then (some (.inr (.inr ((⟨#[]⟩ : ByteArray), v2.1, false)))) else (bif (v3 != 92) then (Option.bind (cutS a0 v2.1 (w64 (v2.1 + 1))) fun v8 => (Option.bind (cat v2.2 v8) fun v9 => (some (.inr (.inl ((w64 (v2.1 + 1)), v9)))))) else (Option.bind (synthesisref02_at (a0) ((w64 (v2.1 + 1)))) fun v10 => (Option.bind ((bif (v10 == 34) then (some (true)) else (some ((v10 == 92)))) : Option ((Bool))) fun (v12 : (Bool)) => (bif v12 then (Option.bind (cutS a0 (w64 (v2.1 + 1)) (w64 ((w64 (v2.1 + 1)) + 1))) fun v13 => (Option.bind (cat v2.2 v13) fun v14 => (some (.inr (.inl ((w64 ((w64 (v2.1 + 1)) + 1)), v14)))))) else (Option.bind ((bif (!a4) then (some (true)) else (some ((v10 != 120)))) : Option ((Bool))) fun (v16 : (Bool)) => (bif v16 then (some (.inr (.inr ((⟨#[]⟩ : ByteArray), (w64 (v2.1 + 1)), false)))) else (Option.bind (synthesisref02_at (a0) ((w64 ((w64 (v2.1 + 1)) + 1)))) fun v17 => (Option.bind (synthesisref02_digit (v17)) fun v18 => (Option.bind ((bif (decide (v18 < 0)) then (some (true)) else (bif (decide (2 ≤ v18)) then (some ((decide (v18 ≤ 6)))) else (some (false)))) : Option ((Bool))) fun (v20 : (Bool)) => (bif v20 then (some (.inr (.inr ((⟨#[]⟩ : ByteArray), (w64 ((w64 (v2.1 + 1)) + 1)), false)))) else (Option.bind (synthesisref02_at (a0) ((w64 ((w64 ((w64 (v2.1 + 1)) + 1)) + 1)))) fun v21 => (Option.bind (synthesisref02_digit (v21)) fun v22 => (Option.bind ((bif (decide (v22 < 0)) then (some (true)) else (bif (v18 == 7) then (some ((decide (v22 < 15)))) else (some (false)))) : Option ((Bool))) fun (v24 : (Bool)) => (bif v24 then (some (.inr (.inr ((⟨#[]⟩ : ByteArray), (w64 ((w64 ((w64 (v2.1 + 1)) + 1)) + 1)), false)))) else (Option.bind (cat v2.2 (toBA ([(wu8 (w64 ((w64 (v18 * 16)) + v22)))] : List (Int)))) fun v25 => (some (.inl (v25))))))))))))))))))))))) : Option ((((ByteArray)) ⊕ ((((Int) × (ByteArray)) ⊕ ((ByteArray) × (Int) × (Bool))))))) fun (v26 : (((ByteArray)) ⊕ ((((Int) × (ByteArray)) ⊕ ((ByteArray) × (Int) × (Bool)))))) => Sum.elim (fun v27 => (some (.inl ((w64 ((w64 ((w64 ((w64 (v2.1 + 1)) + 1)) + 1)) + 1)), v27)))) (Sum.elim (fun v28 => (some (.inl (v28.1, v28.2)))) (fun v29 => (some (.inr v29)))) v26)
def synthesisref02_quoted (a0 : ByteArray) (a1 : Int) (a2 : Int) (a3 : Int) (a4 : Bool) : Option ((ByteArray) × (Int) × (Bool)) := (Option.bind (synthesisref02_at (a0) (a1)) fun v1 => (bif (v1 != 34) then (some ((⟨#[]⟩ : ByteArray), a1, false)) else (Option.bind (loopN (synthesisref02_quoted_l1 a0 a2 a3 a4) fuel ((w64 (a1 + 1)), (⟨#[]⟩ : ByteArray))) fun (v31 : (ByteArray) × (Int) × (Bool)) => (some v31))))
theorem synthesisref02_quoted_ok (a0 : ByteArray) (a1 : Int) (a2 : Int) (a3 : Int) (a4 : Bool) (r : (ByteArray) × (Int) × (Bool)) (h : synthesisref02_quoted a0 a1 a2 a3 a4 = some r) : PCall Tryd.prog 43 [eS a0, eI a1, eI a2, eI a3, eB a4] (.tup [eS (r.1), eI (r.2.1), eB (r.2.2)]) := by
 unfold synthesisref02_quoted at h
 refine pcl [.one .keep, .one .keep, .one .keep] Tryd.func43 (by kernel_rfl) (by kernel_rfl) (by kernel_rfl) ?_
 refine cl 11 h (synthesisref02_at_ok _ _) (by kernel_rfl) fun v1 h => ?_
 refine cd 2 h (by kernel_rfl) (fun h => ?_) fun h => ?_
 ·cases h; exact lq 8 (by kernel_rfl)
 refine lpx 12 (fun v2 => ⟨141, [(0, (fS (a0))), (1, (fI (v2.1))), (2, (fI (a2))), (3, (fI (a3))), (4, (fB (a4))), (13, (fS (v2.2)))], [], [], []⟩) (fun v31 e st => e = .ret ∧ retX TT st Tryd.f43.results.toList [.one .keep, .one .keep, .one .keep] = some (.tup [eS (v31.1), eI (v31.2.1), eB (v31.2.2)])) h (by kernel_rfl) (le_a (by kernel_rfl)) (fun v2 r h => ?_) fun v31 h e st' hq => ?_
 ·unfold synthesisref02_quoted_l1 at h
  refine jnQ 1 (fun v26 e st => Sum.elim (fun p => e = .normal ∧ LeSt st ⟨141, [(0, (fS (a0))), (1, (fI ((w64 ((w64 ((w64 ((w64 (v2.1 + 1)) + 1)) + 1)) + 1))))), (2, (fI (a2))), (3, (fI (a3))), (4, (fB (a4))), (13, (fS (p)))], [], [], []⟩) (Sum.elim (fun p => e = .exit 1 ∧ LeSt st ⟨141, [(0, (fS (a0))), (1, (fI (p.1))), (2, (fI (a2))), (3, (fI (a3))), (4, (fB (a4))), (13, (fS (p.2)))], [], [], []⟩) (fun p => e = .ret ∧ retX TT st Tryd.f43.results.toList [.one .keep, .one .keep, .one .keep] = some (.tup [eS (p.1), eI (p.2.1), eB (p.2.2)]))) v26) h (by kernel_rfl) (fun v26 h => ?_) fun v26 h e st' hq => ?_
  ·refine cl 4 h (synthesisref02_at_ok _ _) (by kernel_rfl) fun v3 h => ?_
   refine jn1 5 .normal (fun v5 => ⟨141, [(0, (fS (a0))), (1, (fI (v2.1))), (2, (fI (a2))), (3, (fI (a3))), (4, (fB (a4))), (13, (fS (v2.2))), (14, (.fz (eU8 (v3)))), (27, (fB (v5)))], [], [], []⟩) h (by kernel_rfl) (fun v5 h => ?_) fun v5 h => ?_
   ·refine gd 4 h (by kernel_rfl) (fun h => ?_) fun h => ?_
    ·cases h; exact lj 7 (by kernel_rfl)
    cases h; exact lj 7 (by kernel_rfl)
   refine cd 0 h (by kernel_rfl) (fun h => ?_) fun h => ?_
   ·cases h; exact lr 10 (by kernel_rfl)
   refine jn1 1 .normal (fun v7 => ⟨141, [(0, (fS (a0))), (1, (fI (v2.1))), (2, (fI (a2))), (3, (fI (a3))), (4, (fB (a4))), (13, (fS (v2.2))), (14, (.fz (eU8 (v3)))), (39, (fB (v7)))], [], [], []⟩) h (by kernel_rfl) (fun v7 h => ?_) fun v7 h => ?_
   ·refine gd 6 h (by kernel_rfl) (fun h => ?_) fun h => ?_
    ·cases h; exact lj 13 (by kernel_rfl)
    refine gd 4 h (by kernel_rfl) (fun h => ?_) fun h => ?_
    ·cases h; exact lj 9 (by kernel_rfl)
    refine gd 4 h (by kernel_rfl) (fun h => ?_) fun h => ?_
    ·cases h; exact lj 5 (by kernel_rfl)
    cases h; exact lj 5 (by kernel_rfl)
   refine cd 0 h (by kernel_rfl) (fun h => ?_) fun h => ?_
   ·cases h; exact lr 8 (by kernel_rfl)
   refine cd 6 h (by kernel_rfl) (fun h => ?_) fun h => ?_
   ·obtain ⟨v8, hv8, h⟩ := Option.bind_eq_some_iff.1 h
    refine nst 7 (s_cutS (t := 9) (x := (.tmp 61)) (lo := (some (.tmp 62))) (hi := (some (.tmp 64))) (d := tt9) (s := a0) (l := (some v2.1)) (h := (some (w64 (v2.1 + 1)))) hv8 tt_ok (by kernel_rfl) (by kernel_rfl) (by kernel_rfl) (by kernel_rfl) (by kernel_rfl) (by kernel_rfl)) (by kernel_rfl) ?_
    obtain ⟨v9, hv9, h⟩ := Option.bind_eq_some_iff.1 h
    refine nst 0 (s_cat (t := 9) (X := (.tmp 60)) (Y := (.tmp 65)) (yt := 9) (s := v2.2) (u := v8) hv9 (by kernel_rfl) (by kernel_rfl) (by kernel_rfl)) (by kernel_rfl) ?_
    cases h; exact lj 9 (by kernel_rfl)
   refine cl 11 h (synthesisref02_at_ok _ _) (by kernel_rfl) fun v10 h => ?_
   refine jn1 4 .normal (fun v12 => ⟨141, [(0, (fS (a0))), (1, (fI ((w64 (v2.1 + 1))))), (2, (fI (a2))), (3, (fI (a3))), (4, (fB (a4))), (13, (fS (v2.2))), (14, (.fz (eU8 (v10)))), (79, (fB (v12)))], [], [], []⟩) h (by kernel_rfl) (fun v12 h => ?_) fun v12 h => ?_
   ·refine gd 4 h (by kernel_rfl) (fun h => ?_) fun h => ?_
    ·cases h; exact lj 4 (by kernel_rfl)
    cases h; exact lj 4 (by kernel_rfl)
   refine cd 0 h (by kernel_rfl) (fun h => ?_) fun h => ?_
   ·obtain ⟨v13, hv13, h⟩ := Option.bind_eq_some_iff.1 h
    refine nst 7 (s_cutS (t := 9) (x := (.tmp 81)) (lo := (some (.tmp 82))) (hi := (some (.tmp 84))) (d := tt9) (s := a0) (l := (some (w64 (v2.1 + 1)))) (h := (some (w64 ((w64 (v2.1 + 1)) + 1)))) hv13 tt_ok (by kernel_rfl) (by kernel_rfl) (by kernel_rfl) (by kernel_rfl) (by kernel_rfl) (by kernel_rfl)) (by kernel_rfl) ?_
    obtain ⟨v14, hv14, h⟩ := Option.bind_eq_some_iff.1 h
    refine nst 0 (s_cat (t := 9) (X := (.tmp 80)) (Y := (.tmp 85)) (yt := 9) (s := v2.2) (u := v13) hv14 (by kernel_rfl) (by kernel_rfl) (by kernel_rfl)) (by kernel_rfl) ?_
    cases h; exact lj 9 (by kernel_rfl)
   refine jn1 3 .normal (fun v16 => ⟨141, [(0, (fS (a0))), (1, (fI ((w64 (v2.1 + 1))))), (2, (fI (a2))), (3, (fI (a3))), (4, (fB (a4))), (13, (fS (v2.2))), (94, (fB (v16)))], [], [], []⟩) h (by kernel_rfl) (fun v16 h => ?_) fun v16 h => ?_
   ·refine gd 4 h (by kernel_rfl) (fun h => ?_) fun h => ?_
    ·cases h; exact lj 4 (by kernel_rfl)
    cases h; exact lj 4 (by kernel_rfl)
   refine cd 0 h (by kernel_rfl) (fun h => ?_) fun h => ?_
   ·cases h; exact lr 8 (by kernel_rfl)
   refine cl 11 h (synthesisref02_at_ok _ _) (by kernel_rfl) fun v17 h => ?_
   refine cl 0 h (synthesisref02_digit_ok _) (by kernel_rfl) fun v18 h => ?_
   refine jn1 4 .normal (fun v20 => ⟨141, [(0, (fS (a0))), (1, (fI ((w64 ((w64 (v2.1 + 1)) + 1))))), (2, (fI (a2))), (3, (fI (a3))), (4, (fB (a4))), (13, (fS (v2.2))), (15, (fI (v18))), (111, (fB (v20)))], [], [], []⟩) h (by kernel_rfl) (fun v20 h => ?_) fun v20 h => ?_
   ·refine gd 4 h (by kernel_rfl) (fun h => ?_) fun h => ?_
    ·cases h; exact lj 8 (by kernel_rfl)
    refine gd 3 h (by kernel_rfl) (fun h => ?_) fun h => ?_
    ·cases h; exact lj 5 (by kernel_rfl)
    cases h; exact lj 5 (by kernel_rfl)
   refine cd 0 h (by kernel_rfl) (fun h => ?_) fun h => ?_
   ·cases h; exact lr 8 (by kernel_rfl)
   refine cl 11 h (synthesisref02_at_ok _ _) (by kernel_rfl) fun v21 h => ?_
   refine cl 0 h (synthesisref02_digit_ok _) (by kernel_rfl) fun v22 h => ?_
   refine jn1 4 .normal (fun v24 => ⟨141, [(0, (fS (a0))), (1, (fI ((w64 ((w64 ((w64 (v2.1 + 1)) + 1)) + 1))))), (2, (fI (a2))), (3, (fI (a3))), (4, (fB (a4))), (13, (fS (v2.2))), (15, (fI (v18))), (16, (fI (v22))), (128, (fB (v24)))], [], [], []⟩) h (by kernel_rfl) (fun v24 h => ?_) fun v24 h => ?_
   ·refine gd 4 h (by kernel_rfl) (fun h => ?_) fun h => ?_
    ·cases h; exact lj 8 (by kernel_rfl)
    refine gd 3 h (by kernel_rfl) (fun h => ?_) fun h => ?_
    ·cases h; exact lj 5 (by kernel_rfl)
    cases h; exact lj 5 (by kernel_rfl)
   refine cd 0 h (by kernel_rfl) (fun h => ?_) fun h => ?_
   ·cases h; exact lr 8 (by kernel_rfl)
   refine nst 15 (s_b2s (sr := 56) (t := 9) (x := (.tmp 138)) (e := 5) (de := tt5) (ds := tt56) (d := tt9) (xs := ([(wu8 (w64 ((w64 (v18 * 16)) + v22)))] : List (Int))) tt_ok (by kernel_rfl) (by kernel_rfl) rfl (by kernel_rfl) rfl (by kernel_rfl) rfl (by kernel_rfl)) (by kernel_rfl) ?_
   obtain ⟨v25, hv25, h⟩ := Option.bind_eq_some_iff.1 h
   refine nst 0 (s_cat (t := 9) (X := (.tmp 132)) (Y := (.tmp 139)) (yt := 9) (s := v2.2) (u := (toBA ([(wu8 (w64 ((w64 (v18 * 16)) + v22)))] : List (Int)))) hv25 (by kernel_rfl) (by kernel_rfl) (by kernel_rfl)) (by kernel_rfl) ?_
   cases h; exact lj 2 (by kernel_rfl)
  rcases v26 with v27 | (v28 | v29)
  ·try simp only [Sum.elim_inl, Sum.elim_inr] at h
   obtain ⟨rfl, hle⟩ := hq
   refine ⟨_, hle, ?_⟩
   cases h; exact lj 0 (by kernel_rfl)
  ·try simp only [Sum.elim_inl, Sum.elim_inr] at h
   obtain ⟨rfl, hle⟩ := hq
   refine ⟨_, hle, ?_⟩
   cases h; exact lj 0 (by kernel_rfl)
  ·try simp only [Sum.elim_inl, Sum.elim_inr] at h
   obtain ⟨rfl, hret⟩ := hq
   refine ⟨_, LeSt.refl, ?_⟩
   cases h; exact lvo hret
 obtain ⟨rfl, hret⟩ := hq
 refine ⟨_, LeSt.refl, ?_⟩
 cases h; exact lv hret

def synthesisref02_integer_m0 : List (Nat × AObj) := [(1, (.box 24 [(fI (0)), (fI (0)), (fS ((⟨#[]⟩ : ByteArray))), (.fz (.atom (.slice none 0 0)))]))]
def synthesisref02_integer_l1 (a0 : ByteArray) (v7 : (Int) × (Int)) : Option (((Int) × (Int)) ⊕ ((Int) × (Int))) := (Option.bind ((bif (decide (0 < v7.2)) then (Option.bind (synthesisref02_at (a0) (v7.1)) fun v8 => (bif (decide (48 ≤ v8)) then (Option.bind (synthesisref02_at (a0) (v7.1)) fun v9 => (bif (decide (v9 ≤ 57)) then (Option.bind (synthesisref02_at (a0) (v7.1)) fun v10 => (some ((decide ((w64 ((w64 (v7.2 * 10)) + (w64 (wu8 (v10 - 48))))) ≤ 1000000))))) else (some (false)))) else (some (false)))) else (some (false))) : Option ((Bool))) fun (v12 : (Bool)) => (bif v12 then (Option.bind (synthesisref02_at (a0) (v7.1)) fun v13 => (some (.inl ((w64 (v7.1 + 1)), (w64 ((w64 (v7.2 * 10)) + (w64 (wu8 (v13 - 48))))))))) else (some (.inr (v7.1, v7.2)))))
def synthesisref02_integer (a0 : ByteArray) (a1 : Int) : Option ((Va) × (Int) × (Bool)) := (Option.bind (synthesisref02_at (a0) (a1)) fun v1 => (Option.bind ((bif (v1 == 45) then (some ((w64 (a1 + 1)))) else (some (a1))) : Option ((Int))) fun (v3 : (Int)) => (Option.bind (synthesisref02_at (a0) (v3)) fun v4 => (Option.bind ((bif (decide (v4 < 48)) then (some (true)) else (bif (decide (57 < v4)) then (some (true)) else (bif (v1 == 45) then (some ((v4 == 48))) else (some (false))))) : Option ((Bool))) fun (v6 : (Bool)) => (bif v6 then (some ((Va.mk (0) (0) ((⟨#[]⟩ : ByteArray)) (([] : List Va))), v3, false)) else (Option.bind (loopN (synthesisref02_integer_l1 a0) fuel ((w64 (v3 + 1)), (w64 (wu8 (v4 - 48))))) fun (v15 : (Int) × (Int)) => (Option.bind ((bif (v1 == 45) then (some ((w64 (0 - v15.2)))) else (some (v15.2))) : Option ((Int))) fun (v17 : (Int)) => (some ((Va.mk (2) (v17) ((⟨#[]⟩ : ByteArray)) (([] : List Va))), v15.1, true)))))))))
theorem synthesisref02_integer_ok (a0 : ByteArray) (a1 : Int) (r : (Va) × (Int) × (Bool)) (h : synthesisref02_integer a0 a1 = some r) : PCall Tryd.prog 63 [eS a0, eI a1] (.tup [eVa (r.1), eI (r.2.1), eB (r.2.2)]) := by
 unfold synthesisref02_integer at h
 refine pcl [.ag [.keep, .keep, .keep, .sl 4], .one .keep, .one .keep] Tryd.func63 (by kernel_rfl) (by kernel_rfl) (by kernel_rfl) ?_
 refine cl 10 h (synthesisref02_at_ok _ _) (by kernel_rfl) fun v1 h => ?_
 refine jn1 4 .normal (fun v3 => ⟨81, [(0, (fS (a0))), (1, (fI (v3))), (4, (.ref 1 0 0)), (7, (fB ((v1 == 45))))], (synthesisref02_integer_m0), [1], []⟩) h (by kernel_rfl) (fun v3 h => ?_) fun v3 h => ?_
 ·refine cd 4 h (by kernel_rfl) (fun h => ?_) fun h => ?_
  ·cases h; exact lj 5 (by kernel_rfl)
  cases h; exact lj 1 (by kernel_rfl)
 refine cl 4 h (synthesisref02_at_ok _ _) (by kernel_rfl) fun v4 h => ?_
 refine jn1 4 .normal (fun v6 => ⟨81, [(0, (fS (a0))), (1, (fI (v3))), (4, (.ref 1 0 0)), (7, (fB ((v1 == 45)))), (8, (.fz (eU8 (v4)))), (32, (fB (v6)))], (synthesisref02_integer_m0), [1], []⟩) h (by kernel_rfl) (fun v6 h => ?_) fun v6 h => ?_
 ·refine gd 4 h (by kernel_rfl) (fun h => ?_) fun h => ?_
  ·cases h; exact lj 11 (by kernel_rfl)
  refine gd 4 h (by kernel_rfl) (fun h => ?_) fun h => ?_
  ·cases h; exact lj 7 (by kernel_rfl)
  refine gd 2 h (by kernel_rfl) (fun h => ?_) fun h => ?_
  ·cases h; exact lj 5 (by kernel_rfl)
  cases h; exact lj 5 (by kernel_rfl)
 refine cd 0 h (by kernel_rfl) (fun h => ?_) fun h => ?_
 ·cases h; exact lq 9 (by kernel_rfl)
 refine lp1 16 (fun v7 => ⟨81, [(0, (fS (a0))), (1, (fI (v7.1))), (4, (.ref 1 0 0)), (7, (fB ((v1 == 45)))), (9, (fI (v7.2)))], (synthesisref02_integer_m0), [1], []⟩) (.exit 0) (fun v15 => ⟨81, [(1, (fI (v15.1))), (4, (.ref 1 0 0)), (7, (fB ((v1 == 45)))), (9, (fI (v15.2)))], (synthesisref02_integer_m0), [1], []⟩) h (by kernel_rfl) (by kernel_rfl) (fun v7 r h => ?_) fun v15 h => ?_
 ·unfold synthesisref02_integer_l1 at h
  refine jn1 2 .normal (fun v12 => ⟨81, [(0, (fS (a0))), (1, (fI (v7.1))), (4, (.ref 1 0 0)), (7, (fB ((v1 == 45)))), (9, (fI (v7.2))), (64, (fB (v12)))], (synthesisref02_integer_m0), [1], []⟩) h (by kernel_rfl) (fun v12 h => ?_) fun v12 h => ?_
  ·refine gd 4 h (by kernel_rfl) (fun h => ?_) fun h => ?_
   ·refine cl 2 h (synthesisref02_at_ok _ _) (by kernel_rfl) fun v8 h => ?_
    refine gd 3 h (by kernel_rfl) (fun h => ?_) fun h => ?_
    ·refine cl 2 h (synthesisref02_at_ok _ _) (by kernel_rfl) fun v9 h => ?_
     refine gd 3 h (by kernel_rfl) (fun h => ?_) fun h => ?_
     ·refine cl 4 h (synthesisref02_at_ok _ _) (by kernel_rfl) fun v10 h => ?_
      cases h; exact lj 6 (by kernel_rfl)
     cases h; exact lj 11 (by kernel_rfl)
    cases h; exact lj 17 (by kernel_rfl)
   cases h; exact lj 23 (by kernel_rfl)
  refine cd 0 h (by kernel_rfl) (fun h => ?_) fun h => ?_
  ·refine cl 8 h (synthesisref02_at_ok _ _) (by kernel_rfl) fun v13 h => ?_
   cases h; exact lj 10 (by kernel_rfl)
  cases h; exact lo 1 (by kernel_rfl)
 refine jn1 1 .normal (fun v17 => ⟨81, [(1, (fI (v15.1))), (4, (.ref 1 0 0)), (9, (fI (v17)))], (synthesisref02_integer_m0), [1], []⟩) h (by kernel_rfl) (fun v17 h => ?_) fun v17 h => ?_
 ·refine cd 4 h (by kernel_rfl) (fun h => ?_) fun h => ?_
  ·cases h; exact lj 5 (by kernel_rfl)
  cases h; exact lj 1 (by kernel_rfl)
 cases h; exact lq 10 (by kernel_rfl)

def synthesisref02_element_b (r61 : (ByteArray) → (Int) → (Int) → (Int) → Option ((Va) × (Int) × (Bool))) (r62 : (ByteArray) → (Int) → (Int) → (Int) → (Int) → (Int) → Option ((List Va) × (Int) × (Bool))) (a0 : ByteArray) (a1 : Int) (a2 : Int) (a3 : Int) : Option ((Va) × (Int) × (Bool)) := (bif (a2 == 2) then (Option.bind (synthesisref02_integer (a0) (a1)) fun v1 => (some (v1.1, v1.2.1, v1.2.2))) else (bif (a2 == 3) then (Option.bind (synthesisref02_quoted (a0) (a1) (0) (64) (false)) fun v2 => (some ((Va.mk (3) (0) (v2.1) (([] : List Va))), v2.2.1, v2.2.2))) else (Option.bind (synthesisref02_at (a0) (a1)) fun v3 => (bif (v3 != 123) then (some ((Va.mk (0) (0) ((⟨#[]⟩ : ByteArray)) (([] : List Va))), a1, false)) else (Option.bind ((bif (a3 == 0) then (some (1, 8)) else (some (0, 16))) : Option ((Int) × (Int))) fun (v5 : (Int) × (Int)) => (Option.bind ((bif (decide (0 < a3)) then (some (a3, a3)) else (some (v5.1, v5.2))) : Option ((Int) × (Int))) fun (v7 : (Int) × (Int)) => (Option.bind (r62 (a0) ((w64 (a1 + 1))) (3) (v7.1) (v7.2) (125)) fun v8 => (some ((Va.mk (6) (0) ((⟨#[]⟩ : ByteArray)) (v8.1)), v8.2.1, v8.2.2)))))))))
theorem synthesisref02_element_b_ok (r61 : (ByteArray) → (Int) → (Int) → (Int) → Option ((Va) × (Int) × (Bool))) (r62 : (ByteArray) → (Int) → (Int) → (Int) → (Int) → (Int) → Option ((List Va) × (Int) × (Bool))) (ih61 : ∀ (x0 : ByteArray) (x1 : Int) (x2 : Int) (x3 : Int) r, r61 x0 x1 x2 x3 = some r → PCall Tryd.prog 61 [eS x0, eI x1, eI x2, eI x3] (.tup [eVa (r.1), eI (r.2.1), eB (r.2.2)])) (ih62 : ∀ (x0 : ByteArray) (x1 : Int) (x2 : Int) (x3 : Int) (x4 : Int) (x5 : Int) r, r62 x0 x1 x2 x3 x4 x5 = some r → PCall Tryd.prog 62 [eS x0, eI x1, eI x2, eI x3, eI x4, eU8 x5] (.tup [(eL 4 eVaR) (r.1), eI (r.2.1), eB (r.2.2)])) (a0 : ByteArray) (a1 : Int) (a2 : Int) (a3 : Int) (r : (Va) × (Int) × (Bool)) (h : synthesisref02_element_b r61 r62 a0 a1 a2 a3 = some r) : PCall Tryd.prog 61 [eS a0, eI a1, eI a2, eI a3] (.tup [eVa (r.1), eI (r.2.1), eB (r.2.2)]) := by
 unfold synthesisref02_element_b at h
 refine pcl [.ag [.keep, .keep, .keep, .sl 4], .one .keep, .one .keep] Tryd.func61 (by kernel_rfl) (by kernel_rfl) (by kernel_rfl) ?_
 refine cd 17 h (by kernel_rfl) (fun h => ?_) fun h => ?_
 ·refine cl 4 h (synthesisref02_integer_ok _ _) (by kernel_rfl) fun v1 h => ?_
  cases h; exact lq 8 (by kernel_rfl)
 refine cd 5 h (by kernel_rfl) (fun h => ?_) fun h => ?_
 ·refine cl 4 h (synthesisref02_quoted_ok _ _ _ _ _) (by kernel_rfl) fun v2 h => ?_
  cases h; exact lq 19 (by kernel_rfl)
 refine cl 6 h (synthesisref02_at_ok _ _) (by kernel_rfl) fun v3 h => ?_
 refine cd 2 h (by kernel_rfl) (fun h => ?_) fun h => ?_
 ·cases h; exact lq 9 (by kernel_rfl)
 refine jn1 7 .normal (fun v5 => ⟨67, [(0, (fS (a0))), (1, (fI (a1))), (3, (fI (a3))), (8, (.ref 1 0 0)), (14, (fI (v5.1))), (15, (fI (v5.2)))], [(1, (.box 24 [(fI (0)), (fI (0)), (fS ((⟨#[]⟩ : ByteArray))), (.fz (.atom (.slice none 0 0)))]))], [1], []⟩) h (by kernel_rfl) (fun v5 h => ?_) fun v5 h => ?_
 ·refine cd 5 h (by kernel_rfl) (fun h => ?_) fun h => ?_
  ·cases h; exact lj 4 (by kernel_rfl)
  cases h; exact lj 1 (by kernel_rfl)
 refine jn1 1 .normal (fun v7 => ⟨67, [(0, (fS (a0))), (1, (fI (a1))), (8, (.ref 1 0 0)), (14, (fI (v7.1))), (15, (fI (v7.2)))], [(1, (.box 24 [(fI (0)), (fI (0)), (fS ((⟨#[]⟩ : ByteArray))), (.fz (.atom (.slice none 0 0)))]))], [1], []⟩) h (by kernel_rfl) (fun v7 h => ?_) fun v7 h => ?_
 ·refine cd 5 h (by kernel_rfl) (fun h => ?_) fun h => ?_
  ·cases h; exact lj 6 (by kernel_rfl)
  cases h; exact lj 1 (by kernel_rfl)
 refine cl 7 h (ih62 _ _ _ _ _ _) (by kernel_rfl) fun v8 h => ?_
 cases h; exact lq 19 (by kernel_rfl)
def synthesisref02_list_l1 (a0 : ByteArray) (a2 : Int) (a3 : Int) (a4 : Int) (a5 : Int) (r61 : (ByteArray) → (Int) → (Int) → (Int) → Option ((Va) × (Int) × (Bool))) (v1 : (Int) × (List Va)) : Option (((Int) × (List Va)) ⊕ ((List Va) × (Int) × (Bool))) := (Option.bind ((Option.bind (synthesisref02_at (a0) (v1.1)) fun v2 => (bif (v2 == a5) then (some ((decide (a3 ≤ (List.length (v1.2) : Int))))) else (some (false)))) : Option ((Bool))) fun (v4 : (Bool)) => (bif v4 then (some (.inr (v1.2, (w64 (v1.1 + 1)), true))) else (bif ((List.length (v1.2) : Int) == a4) then (some (.inr (([] : List Va), v1.1, false))) else (Option.bind ((bif (decide (0 < (List.length (v1.2) : Int))) then (Option.bind (synthesisref02_word (a0) (v1.1) ((⟨#[44, 32]⟩ : ByteArray))) fun v5 => (bif (!v5.2) then (some (.inr (([] : List Va), v5.1, false))) else (some (.inl (v5.1))))) else (some (.inl (v1.1)))) : Option ((((Int)) ⊕ ((List Va) × (Int) × (Bool))))) fun (v6 : (((Int)) ⊕ ((List Va) × (Int) × (Bool)))) => Sum.elim (fun v7 => (Option.bind ((bif (decide (0 < (List.length (v1.2) : Int))) then (Option.bind (idx v1.2 0) fun v8 => (some ((List.length v8.items : Int)))) else (some (0))) : Option ((Int))) fun (v10 : (Int)) => (Option.bind (r61 (a0) (v7) (a2) (v10)) fun v11 => (bif (!v11.2.2) then (some (.inr (([] : List Va), v11.2.1, false))) else (Option.bind (app 56 v1.2 ([v11.1] : List (Va))) fun v12 => (some (.inl (v11.2.1, v12)))))))) (fun v13 => (some (.inr v13))) v6))))
def synthesisref02_list_b (r61 : (ByteArray) → (Int) → (Int) → (Int) → Option ((Va) × (Int) × (Bool))) (r62 : (ByteArray) → (Int) → (Int) → (Int) → (Int) → (Int) → Option ((List Va) × (Int) × (Bool))) (a0 : ByteArray) (a1 : Int) (a2 : Int) (a3 : Int) (a4 : Int) (a5 : Int) : Option ((List Va) × (Int) × (Bool)) := (Option.bind (loopN (synthesisref02_list_l1 a0 a2 a3 a4 a5 r61) fuel (a1, ([] : List (Va)))) fun (v15 : (List Va) × (Int) × (Bool)) => (some v15))
theorem synthesisref02_list_b_ok (r61 : (ByteArray) → (Int) → (Int) → (Int) → Option ((Va) × (Int) × (Bool))) (r62 : (ByteArray) → (Int) → (Int) → (Int) → (Int) → (Int) → Option ((List Va) × (Int) × (Bool))) (ih61 : ∀ (x0 : ByteArray) (x1 : Int) (x2 : Int) (x3 : Int) r, r61 x0 x1 x2 x3 = some r → PCall Tryd.prog 61 [eS x0, eI x1, eI x2, eI x3] (.tup [eVa (r.1), eI (r.2.1), eB (r.2.2)])) (ih62 : ∀ (x0 : ByteArray) (x1 : Int) (x2 : Int) (x3 : Int) (x4 : Int) (x5 : Int) r, r62 x0 x1 x2 x3 x4 x5 = some r → PCall Tryd.prog 62 [eS x0, eI x1, eI x2, eI x3, eI x4, eU8 x5] (.tup [(eL 4 eVaR) (r.1), eI (r.2.1), eB (r.2.2)])) (a0 : ByteArray) (a1 : Int) (a2 : Int) (a3 : Int) (a4 : Int) (a5 : Int) (r : (List Va) × (Int) × (Bool)) (h : synthesisref02_list_b r61 r62 a0 a1 a2 a3 a4 a5 = some r) : PCall Tryd.prog 62 [eS a0, eI a1, eI a2, eI a3, eI a4, eU8 a5] (.tup [(eL 4 eVaR) (r.1), eI (r.2.1), eB (r.2.2)]) := by
 unfold synthesisref02_list_b at h
 refine pcl [.one (.sl 4), .one .keep, .one .keep] Tryd.func62 (by kernel_rfl) (by kernel_rfl) (by kernel_rfl) ?_
 refine wle 11 (le_nilrow (e := 24) (size := 4) (t := 15) (id := 1) (by decide) (by kernel_rfl) (by kernel_rfl)) (by kernel_rfl) ?_
 refine lpx 0 (fun v1 => ⟨79, [(0, (fS (a0))), (1, (fI (v1.1))), (2, (fI (a2))), (3, (fI (a3))), (4, (fI (a4))), (5, (.fz (eU8 (a5)))), (15, (.row 1 (List.length (v1.2))))], [(1, (.frow 24 4 (List.map eVaR (v1.2))))], [1], []⟩) (fun v15 e st => e = .ret ∧ retX TT st Tryd.f62.results.toList [.one (.sl 4), .one .keep, .one .keep] = some (.tup [(eL 4 eVaR) (v15.1), eI (v15.2.1), eB (v15.2.2)])) h (by kernel_rfl) (le_a (by kernel_rfl)) (fun v1 r h => ?_) fun v15 h e st' hq => ?_
 ·unfold synthesisref02_list_l1 at h
  refine jn1 3 .normal (fun v4 => ⟨79, [(0, (fS (a0))), (1, (fI (v1.1))), (2, (fI (a2))), (3, (fI (a3))), (4, (fI (a4))), (5, (.fz (eU8 (a5)))), (15, (.row 1 (List.length (v1.2)))), (32, (fB (v4)))], [(1, (.frow 24 4 (List.map eVaR (v1.2))))], [1], []⟩) h (by kernel_rfl) (fun v4 h => ?_) fun v4 h => ?_
  ·refine cl 3 h (synthesisref02_at_ok _ _) (by kernel_rfl) fun v2 h => ?_
   refine gd 3 h (by kernel_rfl) (fun h => ?_) fun h => ?_
   ·refine nst 1 (n_len_row (t := 22) (x := (.tmp 28)) (d := tt22) (id := 1) (e2 := 24) (e := 24) (size := 4) (n := List.length (v1.2)) (xs := List.map eVaR (v1.2)) tt_ok (by kernel_rfl) (by kernel_rfl) rfl (by kernel_rfl) (by kernel_rfl) (by simp)) (by kernel_rfl) ?_
    cases h; exact lj 4 (by kernel_rfl)
   cases h; exact lj 6 (by kernel_rfl)
  refine cd 0 h (by kernel_rfl) (fun h => ?_) fun h => ?_
  ·refine wle 9 (le_freeze (t := 12) (id := 1) (n := List.length (v1.2)) (e := 24) (size := 4) (xs := List.map eVaR (v1.2)) (by kernel_rfl) (by kernel_rfl) (by simp)) (by kernel_rfl) ?_
   cases h; exact lor 1 (by kernel_rfl)
  refine nst 5 (n_len_row (t := 22) (x := (.tmp 36)) (d := tt22) (id := 1) (e2 := 24) (e := 24) (size := 4) (n := List.length (v1.2)) (xs := List.map eVaR (v1.2)) tt_ok (by kernel_rfl) (by kernel_rfl) rfl (by kernel_rfl) (by kernel_rfl) (by simp)) (by kernel_rfl) ?_
  refine cd 3 h (by kernel_rfl) (fun h => ?_) fun h => ?_
  ·cases h; exact lor 8 (by kernel_rfl)
  refine jnQ 2 (fun v6 e st => Sum.elim (fun p => e = .normal ∧ LeSt st ⟨79, [(0, (fS (a0))), (1, (fI (p))), (2, (fI (a2))), (3, (fI (a3))), (4, (fI (a4))), (5, (.fz (eU8 (a5)))), (15, (.row 1 (List.length (v1.2))))], [(1, (.frow 24 4 (List.map eVaR (v1.2))))], [1], []⟩) (fun p => e = .ret ∧ retX TT st Tryd.f62.results.toList [.one (.sl 4), .one .keep, .one .keep] = some (.tup [(eL 4 eVaR) (p.1), eI (p.2.1), eB (p.2.2)])) v6) h (by kernel_rfl) (fun v6 h => ?_) fun v6 h e st' hq => ?_
  ·refine nst 3 (n_len_row (t := 22) (x := (.tmp 41)) (d := tt22) (id := 1) (e2 := 24) (e := 24) (size := 4) (n := List.length (v1.2)) (xs := List.map eVaR (v1.2)) tt_ok (by kernel_rfl) (by kernel_rfl) rfl (by kernel_rfl) (by kernel_rfl) (by simp)) (by kernel_rfl) ?_
   refine cd 2 h (by kernel_rfl) (fun h => ?_) fun h => ?_
   ·refine cl 4 h (synthesisref02_word_ok _ _ _) (by kernel_rfl) fun v5 h => ?_
    refine cd 12 h (by kernel_rfl) (fun h => ?_) fun h => ?_
    ·cases h; exact lr 8 (by kernel_rfl)
    cases h; exact lj 5 (by kernel_rfl)
   cases h; exact lj 1 (by kernel_rfl)
  rcases v6 with v7 | v13
  ·try simp only [Sum.elim_inl, Sum.elim_inr] at h
   obtain ⟨rfl, hle⟩ := hq
   refine ⟨_, hle, ?_⟩
   refine jn1 5 .normal (fun v10 => ⟨79, [(0, (fS (a0))), (1, (fI (v7))), (2, (fI (a2))), (3, (fI (a3))), (4, (fI (a4))), (5, (.fz (eU8 (a5)))), (15, (.row 1 (List.length (v1.2)))), (18, (fI (v10)))], [(1, (.frow 24 4 (List.map eVaR (v1.2))))], [1], []⟩) h (by kernel_rfl) (fun v10 h => ?_) fun v10 h => ?_
   ·refine nst 3 (n_len_row (t := 22) (x := (.tmp 54)) (d := tt22) (id := 1) (e2 := 24) (e := 24) (size := 4) (n := List.length (v1.2)) (xs := List.map eVaR (v1.2)) tt_ok (by kernel_rfl) (by kernel_rfl) rfl (by kernel_rfl) (by kernel_rfl) (by simp)) (by kernel_rfl) ?_
    refine cd 2 h (by kernel_rfl) (fun h => ?_) fun h => ?_
    ·obtain ⟨v8, hv8, h⟩ := Option.bind_eq_some_iff.1 h
     refine nst 2 (n_rowAddrS nVaR (t := 22) (X := (.tmp 57)) (Y := (.const (.int .i64 0))) (id := 1) (k := .i64) (d := tt22) (e := 24) (de := tt24) (xs := v1.2) (n := List.length (v1.2)) hv8 tt_ok (by kernel_rfl) (by kernel_rfl) (by kernel_rfl) (by kernel_rfl) (by kernel_rfl) (by kernel_rfl) (by kernel_rfl) rfl (by kernel_rfl)) (by kernel_rfl) ?_
     refine nst 0 (n_rowField (fs := [(3, 0), (2, 1), (9, 2), (22, 3)]) (s := 24) (x := (.tmp 58)) (f := 3) (d := tt24) (ft := 22) (off := 3) (n := List.length (v1.2)) (p := Int.toNat 0 * 4) (q := 0) (e := 24) (size := 4) (xs := List.map eVaR (v1.2)) (df := tt22) (id := 1) tt_ok (by kernel_rfl) (by kernel_rfl) (by kernel_rfl) (by kernel_rfl) (by kernel_rfl) (by kernel_rfl) (by kernel_rfl) (by kernel_rfl) (by simp)) (by kernel_rfl) ?_
     refine nst 0 (n_rowLoadS nVaR (y := ((eL 4 eVaR) (v8.items))) (t := 22) (X := (.tmp 59)) (id := 1) (d := tt22) (e := 24) (xs := v1.2) (x := v8) (i := 0) (q := 3) (n := List.length (v1.2)) hv8 tt_ok (by kernel_rfl) (by kernel_rfl) (by kernel_rfl) (by kernel_rfl) (by kernel_rfl) rfl (by kernel_rfl) (by kernel_rfl)) (by kernel_rfl) ?_
     cases h; exact lj 3 (by kernel_rfl)
    cases h; exact lj 1 (by kernel_rfl)
   refine cl 6 h (ih61 _ _ _ _) (by kernel_rfl) fun v11 h => ?_
   refine cd 15 h (by kernel_rfl) (fun h => ?_) fun h => ?_
   ·cases h; exact lor 8 (by kernel_rfl)
   refine wle 6 (le_eq (t := 76) (x := .lim 4 1 [eVa (v11.1)]) (y := .lim 4 1 (List.map eVaR ([v11.1] : List (Va)))) (by kernel_rfl) (by simp only [List.map, eVaR_eq])) (by kernel_rfl) ?_
   refine ap nVaR 0 h (by kernel_rfl) fun v12 h => ?_
   cases h; exact lj 6 (by kernel_rfl)
  ·try simp only [Sum.elim_inl, Sum.elim_inr] at h
   obtain ⟨rfl, hret⟩ := hq
   refine ⟨_, LeSt.refl, ?_⟩
   cases h; exact lvo hret
 obtain ⟨rfl, hret⟩ := hq
 refine ⟨_, LeSt.refl, ?_⟩
 cases h; exact lv hret
def synthesisref02_element_all : Nat → ((ByteArray) → (Int) → (Int) → (Int) → Option ((Va) × (Int) × (Bool))) × ((ByteArray) → (Int) → (Int) → (Int) → (Int) → (Int) → Option ((List Va) × (Int) × (Bool)))
  | 0 => (fun _ _ _ _ => none, fun _ _ _ _ _ _ => none)
  | n + 1 => (synthesisref02_element_b ((synthesisref02_element_all n).1) ((synthesisref02_element_all n).2), synthesisref02_list_b ((synthesisref02_element_all n).1) ((synthesisref02_element_all n).2))
def synthesisref02_element (n : Nat) : (ByteArray) → (Int) → (Int) → (Int) → Option ((Va) × (Int) × (Bool)) := (synthesisref02_element_all n).1
def synthesisref02_list (n : Nat) : (ByteArray) → (Int) → (Int) → (Int) → (Int) → (Int) → Option ((List Va) × (Int) × (Bool)) := (synthesisref02_element_all n).2
theorem synthesisref02_element_all_ok : ∀ n : Nat, (∀ (x0 : ByteArray) (x1 : Int) (x2 : Int) (x3 : Int) r, synthesisref02_element n x0 x1 x2 x3 = some r → PCall Tryd.prog 61 [eS x0, eI x1, eI x2, eI x3] (.tup [eVa (r.1), eI (r.2.1), eB (r.2.2)])) ∧ (∀ (x0 : ByteArray) (x1 : Int) (x2 : Int) (x3 : Int) (x4 : Int) (x5 : Int) r, synthesisref02_list n x0 x1 x2 x3 x4 x5 = some r → PCall Tryd.prog 62 [eS x0, eI x1, eI x2, eI x3, eI x4, eU8 x5] (.tup [(eL 4 eVaR) (r.1), eI (r.2.1), eB (r.2.2)]))
  | 0 => ⟨(fun _ _ _ _ _ h => nomatch h), (fun _ _ _ _ _ _ _ h => nomatch h)⟩
  | n + 1 => ⟨(synthesisref02_element_b_ok _ _ ((synthesisref02_element_all_ok n).1) ((synthesisref02_element_all_ok n).2)), (synthesisref02_list_b_ok _ _ ((synthesisref02_element_all_ok n).1) ((synthesisref02_element_all_ok n).2))⟩
theorem synthesisref02_element_ok (n : Nat) : ∀ (x0 : ByteArray) (x1 : Int) (x2 : Int) (x3 : Int) r, synthesisref02_element n x0 x1 x2 x3 = some r → PCall Tryd.prog 61 [eS x0, eI x1, eI x2, eI x3] (.tup [eVa (r.1), eI (r.2.1), eB (r.2.2)]) := (synthesisref02_element_all_ok n).1
theorem synthesisref02_list_ok (n : Nat) : ∀ (x0 : ByteArray) (x1 : Int) (x2 : Int) (x3 : Int) (x4 : Int) (x5 : Int) r, synthesisref02_list n x0 x1 x2 x3 x4 x5 = some r → PCall Tryd.prog 62 [eS x0, eI x1, eI x2, eI x3, eI x4, eU8 x5] (.tup [(eL 4 eVaR) (r.1), eI (r.2.1), eB (r.2.2)]) := (synthesisref02_element_all_ok n).2

def synthesisref02_one (a0 : ByteArray) (a1 : Int) : Option ((Va) × (Int) × (Bool)) := (Option.bind (synthesisref02_at (a0) (a1)) fun v1 => (bif (v1 == 116) then (Option.bind (synthesisref02_word (a0) (a1) ((⟨#[116, 114, 117, 101]⟩ : ByteArray))) fun v2 => (some ((Va.mk (1) (1) ((⟨#[]⟩ : ByteArray)) (([] : List Va))), v2.1, v2.2))) else (bif (v1 == 102) then (Option.bind (synthesisref02_word (a0) (a1) ((⟨#[102, 97, 108, 115, 101]⟩ : ByteArray))) fun v3 => (some ((Va.mk (1) (0) ((⟨#[]⟩ : ByteArray)) (([] : List Va))), v3.1, v3.2))) else (bif (v1 == 34) then (Option.bind (synthesisref02_element fuel (a0) (a1) (3) (0)) fun v4 => (some (v4.1, v4.2.1, v4.2.2))) else (bif (v1 == 114) then (Option.bind (synthesisref02_quoted (a0) ((w64 (a1 + 1))) (1) (40) (false)) fun v5 => (some ((Va.mk (8) (0) (v5.1) (([] : List Va))), v5.2.1, v5.2.2))) else (bif (v1 == 91) then (Option.bind (synthesisref02_list fuel (a0) ((w64 (a1 + 1))) (2) (0) (16) (93)) fun v6 => (some ((Va.mk (5) (0) ((⟨#[]⟩ : ByteArray)) (v6.1)), v6.2.1, v6.2.2))) else (bif (v1 == 123) then (Option.bind (synthesisref02_element fuel (a0) (a1) (6) ((-1))) fun v7 => (some (v7.1, v7.2.1, v7.2.2))) else (bif (v1 == 60) then (Option.bind (synthesisref02_list fuel (a0) ((w64 (a1 + 1))) (6) (0) (8) (62)) fun v8 => (some ((Va.mk (7) (0) ((⟨#[]⟩ : ByteArray)) (v8.1)), v8.2.1, v8.2.2))) else (Option.bind ((Option.bind (synthesisref02_at (a0) (a1)) fun v9 => (bif (v9 != 48) then (some (true)) else (Option.bind (synthesisref02_at (a0) ((w64 (a1 + 1)))) fun v10 => (some ((v10 != 120)))))) : Option ((Bool))) fun (v12 : (Bool)) => (bif v12 then (Option.bind (synthesisref02_integer (a0) (a1)) fun v13 => (some (v13.1, v13.2.1, v13.2.2))) else (Option.bind (synthesisref02_at (a0) ((w64 (a1 + 2)))) fun v14 => (Option.bind (synthesisref02_digit (v14)) fun v15 => (Option.bind (synthesisref02_at (a0) ((w64 (a1 + 3)))) fun v16 => (Option.bind (synthesisref02_digit (v16)) fun v17 => (bif (decide (v15 < 0)) then (some ((Va.mk (0) (0) ((⟨#[]⟩ : ByteArray)) (([] : List Va))), (w64 (a1 + 2)), false)) else (bif (decide (v17 < 0)) then (some ((Va.mk (0) (0) ((⟨#[]⟩ : ByteArray)) (([] : List Va))), (w64 (a1 + 3)), false)) else (some ((Va.mk (4) ((w64 ((w64 (v15 * 16)) + v17))) ((⟨#[]⟩ : ByteArray)) (([] : List Va))), (w64 (a1 + 4)), true))))))))))))))))))
theorem synthesisref02_one_ok (a0 : ByteArray) (a1 : Int) (r : (Va) × (Int) × (Bool)) (h : synthesisref02_one a0 a1 = some r) : PCall Tryd.prog 31 [eS a0, eI a1] (.tup [eVa (r.1), eI (r.2.1), eB (r.2.2)]) := by
 unfold synthesisref02_one at h
 refine pcl [.ag [.keep, .keep, .keep, .sl 4], .one .keep, .one .keep] Tryd.func31 (by kernel_rfl) (by kernel_rfl) (by kernel_rfl) ?_
 refine cl 11 h (synthesisref02_at_ok _ _) (by kernel_rfl) fun v1 h => ?_
 refine cd 7 h (by kernel_rfl) (fun h => ?_) fun h => ?_
 ·refine cl 4 h (synthesisref02_word_ok _ _ _) (by kernel_rfl) fun v2 h => ?_
  cases h; exact lq 16 (by kernel_rfl)
 refine cd 5 h (by kernel_rfl) (fun h => ?_) fun h => ?_
 ·refine cl 4 h (synthesisref02_word_ok _ _ _) (by kernel_rfl) fun v3 h => ?_
  cases h; exact lq 16 (by kernel_rfl)
 refine cd 5 h (by kernel_rfl) (fun h => ?_) fun h => ?_
 ·refine cl 4 h (synthesisref02_element_ok _ _ _ _ _) (by kernel_rfl) fun v4 h => ?_
  cases h; exact lq 8 (by kernel_rfl)
 refine cd 5 h (by kernel_rfl) (fun h => ?_) fun h => ?_
 ·refine cl 5 h (synthesisref02_quoted_ok _ _ _ _ _) (by kernel_rfl) fun v5 h => ?_
  cases h; exact lq 19 (by kernel_rfl)
 refine cd 5 h (by kernel_rfl) (fun h => ?_) fun h => ?_
 ·refine cl 5 h (synthesisref02_list_ok _ _ _ _ _ _ _) (by kernel_rfl) fun v6 h => ?_
  cases h; exact lq 19 (by kernel_rfl)
 refine cd 5 h (by kernel_rfl) (fun h => ?_) fun h => ?_
 ·refine cl 4 h (synthesisref02_element_ok _ _ _ _ _) (by kernel_rfl) fun v7 h => ?_
  cases h; exact lq 8 (by kernel_rfl)
 refine cd 5 h (by kernel_rfl) (fun h => ?_) fun h => ?_
 ·refine cl 5 h (synthesisref02_list_ok _ _ _ _ _ _ _) (by kernel_rfl) fun v8 h => ?_
  cases h; exact lq 19 (by kernel_rfl)
 refine jn1 3 .normal (fun v12 => ⟨149, [(0, (fS (a0))), (1, (fI (a1))), (4, (.ref 1 0 0)), (115, (fB (v12)))], [(1, (.box 24 [(fI (0)), (fI (0)), (fS ((⟨#[]⟩ : ByteArray))), (.fz (.atom (.slice none 0 0)))]))], [1], []⟩) h (by kernel_rfl) (fun v12 h => ?_) fun v12 h => ?_
 ·refine cl 3 h (synthesisref02_at_ok _ _) (by kernel_rfl) fun v9 h => ?_
  refine gd 2 h (by kernel_rfl) (fun h => ?_) fun h => ?_
  ·cases h; exact lj 7 (by kernel_rfl)
  refine cl 3 h (synthesisref02_at_ok _ _) (by kernel_rfl) fun v10 h => ?_
  cases h; exact lj 3 (by kernel_rfl)
 refine cd 0 h (by kernel_rfl) (fun h => ?_) fun h => ?_
 ·refine cl 4 h (synthesisref02_integer_ok _ _) (by kernel_rfl) fun v13 h => ?_
  cases h; exact lq 8 (by kernel_rfl)
 refine cl 6 h (synthesisref02_at_ok _ _) (by kernel_rfl) fun v14 h => ?_
 refine cl 0 h (synthesisref02_digit_ok _) (by kernel_rfl) fun v15 h => ?_
 refine cl 3 h (synthesisref02_at_ok _ _) (by kernel_rfl) fun v16 h => ?_
 refine cl 0 h (synthesisref02_digit_ok _) (by kernel_rfl) fun v17 h => ?_
 refine cd 9 h (by kernel_rfl) (fun h => ?_) fun h => ?_
 ·cases h; exact lq 10 (by kernel_rfl)
 refine cd 7 h (by kernel_rfl) (fun h => ?_) fun h => ?_
 ·cases h; exact lq 10 (by kernel_rfl)
 cases h; exact lq 15 (by kernel_rfl)

def synthesisref01_sign (a0 : Bool) : Option (Int) := (bif a0 then (some (-1)) else (some 1))
theorem synthesisref01_sign_ok (a0 : Bool) (r : Int) (h : synthesisref01_sign a0 = some r) : PCall Tryd.prog 65 [eB a0] (eI (r)) := by
 unfold synthesisref01_sign at h
 refine pcl [.one .keep] Tryd.func65 (by kernel_rfl) (by kernel_rfl) (by kernel_rfl) ?_
 refine cd 9 h (by kernel_rfl) (fun h => ?_) fun h => ?_
 ·cases h; exact lq 5 (by kernel_rfl)
 cases h; exact lq 6 (by kernel_rfl)

def synthesisref01_Compare_b (r32 : (Va) → (Va) → Option (Int)) (r66 : (List Va) → (List Va) → Option (Int)) (a0 : Va) (a1 : Va) : Option (Int) := (bif (a0.type != a1.type) then (Option.bind (synthesisref01_sign ((decide (a0.type < a1.type)))) fun v1 => (some v1)) else (bif (a0.num != a1.num) then (Option.bind (synthesisref01_sign ((decide (a0.num < a1.num)))) fun v2 => (some v2)) else (bif (!(a0.text.toList == a1.text.toList)) then (Option.bind (synthesisref01_sign ((Op.bytesLess a0.text.toList a1.text.toList))) fun v3 => (some v3)) else (Option.bind (r66 (a0.items) (a1.items)) fun v4 => (some v4)))))
theorem synthesisref01_Compare_b_ok (r32 : (Va) → (Va) → Option (Int)) (r66 : (List Va) → (List Va) → Option (Int)) (ih32 : ∀ (x0 : Va) (x1 : Va) r, r32 x0 x1 = some r → PCall Tryd.prog 32 [eVa x0, eVa x1] (eI (r))) (ih66 : ∀ (x0 : List Va) (x1 : List Va) r, r66 x0 x1 = some r → PCall Tryd.prog 66 [(eL 4 eVaR) x0, (eL 4 eVaR) x1] (eI (r))) (a0 : Va) (a1 : Va) (r : Int) (h : synthesisref01_Compare_b r32 r66 a0 a1 = some r) : PCall Tryd.prog 32 [eVa a0, eVa a1] (eI (r)) := by
 unfold synthesisref01_Compare_b at h
 refine pcl [.one .keep] Tryd.func32 (by kernel_rfl) (by kernel_rfl) (by kernel_rfl) ?_
 refine cd 17 h (by kernel_rfl) (fun h => ?_) fun h => ?_
 ·refine cl 7 h (synthesisref01_sign_ok _) (by kernel_rfl) fun v1 h => ?_
  cases h; exact lq 3 (by kernel_rfl)
 refine cd 9 h (by kernel_rfl) (fun h => ?_) fun h => ?_
 ·refine cl 7 h (synthesisref01_sign_ok _) (by kernel_rfl) fun v2 h => ?_
  cases h; exact lq 3 (by kernel_rfl)
 refine cd 9 h (by kernel_rfl) (fun h => ?_) fun h => ?_
 ·refine cl 7 h (synthesisref01_sign_ok _) (by kernel_rfl) fun v3 h => ?_
  cases h; exact lq 3 (by kernel_rfl)
 refine cl 7 h (ih66 _ _) (by kernel_rfl) fun v4 h => ?_
 cases h; exact lq 3 (by kernel_rfl)
def synthesisref01_CompareAll_l1 (a0 : List Va) (a1 : List Va) (r32 : (Va) → (Va) → Option (Int)) (v1 : (Int)) : Option (((Int)) ⊕ (((Unit) ⊕ (Int)))) := (Option.bind ((bif (decide (v1 < (List.length a0 : Int))) then (some ((decide (v1 < (List.length a1 : Int))))) else (some (false))) : Option ((Bool))) fun (v3 : (Bool)) => (bif v3 then (Option.bind (idx a0 v1) fun v4 => (Option.bind (idx a1 v1) fun v5 => (Option.bind (r32 (v4) (v5)) fun v6 => (bif (v6 != 0) then (some (.inr (.inr v6))) else (some (.inl ((w64 (v1 + 1))))))))) else (some (.inr (.inl ())))))
def synthesisref01_CompareAll_b (r32 : (Va) → (Va) → Option (Int)) (r66 : (List Va) → (List Va) → Option (Int)) (a0 : List Va) (a1 : List Va) : Option (Int) := (Option.bind (loopN (synthesisref01_CompareAll_l1 a0 a1 r32) fuel (0)) fun (v7 : ((Unit) ⊕ (Int))) => Sum.elim (fun v8 => (bif ((List.length a0 : Int) == (List.length a1 : Int)) then (some 0) else (Option.bind (synthesisref01_sign ((decide ((List.length a0 : Int) < (List.length a1 : Int))))) fun v9 => (some v9)))) (fun v10 => (some v10)) v7)
theorem synthesisref01_CompareAll_b_ok (r32 : (Va) → (Va) → Option (Int)) (r66 : (List Va) → (List Va) → Option (Int)) (ih32 : ∀ (x0 : Va) (x1 : Va) r, r32 x0 x1 = some r → PCall Tryd.prog 32 [eVa x0, eVa x1] (eI (r))) (ih66 : ∀ (x0 : List Va) (x1 : List Va) r, r66 x0 x1 = some r → PCall Tryd.prog 66 [(eL 4 eVaR) x0, (eL 4 eVaR) x1] (eI (r))) (a0 : List Va) (a1 : List Va) (r : Int) (h : synthesisref01_CompareAll_b r32 r66 a0 a1 = some r) : PCall Tryd.prog 66 [(eL 4 eVaR) a0, (eL 4 eVaR) a1] (eI (r)) := by
 unfold synthesisref01_CompareAll_b at h
 refine pcl [.one .keep] Tryd.func66 (by kernel_rfl) (by kernel_rfl) (by kernel_rfl) ?_
 refine lpx 10 (fun v1 => ⟨42, [(0, (.fz ((eL 4 eVaR) (a0)))), (1, (.fz ((eL 4 eVaR) (a1)))), (5, (fI (v1)))], [], [], []⟩) (fun v7 e st => Sum.elim (fun p => e = .exit 0 ∧ LeSt st ⟨42, [(0, (.fz ((eL 4 eVaR) (a0)))), (1, (.fz ((eL 4 eVaR) (a1))))], [], [], []⟩) (fun p => e = .ret ∧ retX TT st Tryd.f66.results.toList [.one .keep] = some (eI (p))) v7) h (by kernel_rfl) (le_a (by kernel_rfl)) (fun v1 r h => ?_) fun v7 h e st' hq => ?_
 ·unfold synthesisref01_CompareAll_l1 at h
  refine jn1 2 .normal (fun v3 => ⟨42, [(0, (.fz ((eL 4 eVaR) (a0)))), (1, (.fz ((eL 4 eVaR) (a1)))), (5, (fI (v1))), (16, (fB (v3)))], [], [], []⟩) h (by kernel_rfl) (fun v3 h => ?_) fun v3 h => ?_
  ·refine gd 6 h (by kernel_rfl) (fun h => ?_) fun h => ?_
   ·cases h; exact lj 6 (by kernel_rfl)
   cases h; exact lj 6 (by kernel_rfl)
  refine cd 0 h (by kernel_rfl) (fun h => ?_) fun h => ?_
  ·refine dw 4 8 (by kernel_rfl) ?_
   refine ix nVaR 2 h (by kernel_rfl) fun v4 h => ?_
   refine ix nVaR 3 h (by kernel_rfl) fun v5 h => ?_
   refine cl 2 h (ih32 _ _) (by kernel_rfl) fun v6 h => ?_
   refine cd 7 h (by kernel_rfl) (fun h => ?_) fun h => ?_
   ·cases h; exact lor 6 (by kernel_rfl)
   cases h; exact lj 6 (by kernel_rfl)
  cases h; exact lo 1 (by kernel_rfl)
 rcases v7 with v8 | v10
 ·try simp only [Sum.elim_inl, Sum.elim_inr] at h
  obtain ⟨rfl, hle⟩ := hq
  refine ⟨_, hle, ?_⟩
  refine cd 9 h (by kernel_rfl) (fun h => ?_) fun h => ?_
  ·cases h; exact lq 5 (by kernel_rfl)
  refine cl 8 h (synthesisref01_sign_ok _) (by kernel_rfl) fun v9 h => ?_
  cases h; exact lq 3 (by kernel_rfl)
 ·try simp only [Sum.elim_inl, Sum.elim_inr] at h
  obtain ⟨rfl, hret⟩ := hq
  refine ⟨_, LeSt.refl, ?_⟩
  cases h; exact lv hret
def synthesisref01_Compare_all : Nat → ((Va) → (Va) → Option (Int)) × ((List Va) → (List Va) → Option (Int))
  | 0 => (fun _ _ => none, fun _ _ => none)
  | n + 1 => (synthesisref01_Compare_b ((synthesisref01_Compare_all n).1) ((synthesisref01_Compare_all n).2), synthesisref01_CompareAll_b ((synthesisref01_Compare_all n).1) ((synthesisref01_Compare_all n).2))
def synthesisref01_Compare (n : Nat) : (Va) → (Va) → Option (Int) := (synthesisref01_Compare_all n).1
def synthesisref01_CompareAll (n : Nat) : (List Va) → (List Va) → Option (Int) := (synthesisref01_Compare_all n).2
theorem synthesisref01_Compare_all_ok : ∀ n : Nat, (∀ (x0 : Va) (x1 : Va) r, synthesisref01_Compare n x0 x1 = some r → PCall Tryd.prog 32 [eVa x0, eVa x1] (eI (r))) ∧ (∀ (x0 : List Va) (x1 : List Va) r, synthesisref01_CompareAll n x0 x1 = some r → PCall Tryd.prog 66 [(eL 4 eVaR) x0, (eL 4 eVaR) x1] (eI (r)))
  | 0 => ⟨(fun _ _ _ h => nomatch h), (fun _ _ _ h => nomatch h)⟩
  | n + 1 => ⟨(synthesisref01_Compare_b_ok _ _ ((synthesisref01_Compare_all_ok n).1) ((synthesisref01_Compare_all_ok n).2)), (synthesisref01_CompareAll_b_ok _ _ ((synthesisref01_Compare_all_ok n).1) ((synthesisref01_Compare_all_ok n).2))⟩
theorem synthesisref01_Compare_ok (n : Nat) : ∀ (x0 : Va) (x1 : Va) r, synthesisref01_Compare n x0 x1 = some r → PCall Tryd.prog 32 [eVa x0, eVa x1] (eI (r)) := (synthesisref01_Compare_all_ok n).1
def synthesisref01_Equal (a0 : Va) (a1 : Va) : Option (Bool) := (Option.bind (synthesisref01_Compare fuel (a0) (a1)) fun v1 => (some (v1 == 0)))
theorem synthesisref01_Equal_ok (a0 : Va) (a1 : Va) (r : Bool) (h : synthesisref01_Equal a0 a1 = some r) : PCall Tryd.prog 16 [eVa a0, eVa a1] (eB (r)) := by
 unfold synthesisref01_Equal at h
 refine pcl [.one .keep] Tryd.func16 (by kernel_rfl) (by kernel_rfl) (by kernel_rfl) ?_
 refine cl 10 h (synthesisref01_Compare_ok _ _ _) (by kernel_rfl) fun v1 h => ?_
 cases h; exact lq 4 (by kernel_rfl)

def synthesislaw02_smalls_l1 (a0 : List Va) (v1 : (Int)) : Option (((Int)) ⊕ (((Unit) ⊕ (Bool)))) := (bif (decide (v1 < (List.length a0 : Int))) then (Option.bind (idx a0 v1) fun v2 => (Option.bind (synthesislaw02_small fuel (v2) (5)) fun v3 => (bif (!v3) then (some (.inr (.inr false))) else (some (.inl ((w64 (v1 + 1)))))))) else (some (.inr (.inl ()))))
def synthesislaw02_smalls (a0 : List Va) : Option (Bool) := (bif (decide (30 < (List.length a0 : Int))) then (some false) else (Option.bind (loopN (synthesislaw02_smalls_l1 a0) fuel (0)) fun (v4 : ((Unit) ⊕ (Bool))) => Sum.elim (fun v5 => (some true)) (fun v6 => (some v6)) v4))
theorem synthesislaw02_smalls_ok (a0 : List Va) (r : Bool) (h : synthesislaw02_smalls a0 = some r) : PCall Tryd.prog 17 [(eL 4 eVaR) a0] (eB (r)) := by
 unfold synthesislaw02_smalls at h
 refine pcl [.one .keep] Tryd.func17 (by kernel_rfl) (by kernel_rfl) (by kernel_rfl) ?_
 refine cd 11 h (by kernel_rfl) (fun h => ?_) fun h => ?_
 ·cases h; exact lq 5 (by kernel_rfl)
 refine lpx 7 (fun v1 => ⟨19, [(0, (.fz ((eL 4 eVaR) (a0)))), (3, (fI (v1)))], [], [], []⟩) (fun v4 e st => Sum.elim (fun p => e = .exit 0 ∧ LeSt st ⟨19, [], [], [], []⟩) (fun p => e = .ret ∧ retX TT st Tryd.f17.results.toList [.one .keep] = some (eB (p))) v4) h (by kernel_rfl) (le_a (by kernel_rfl)) (fun v1 r h => ?_) fun v4 h e st' hq => ?_
 ·unfold synthesislaw02_smalls_l1 at h
  refine cd 8 h (by kernel_rfl) (fun h => ?_) fun h => ?_
  ·refine ix nVaR 7 h (by kernel_rfl) fun v2 h => ?_
   refine cl 1 h (synthesislaw02_small_ok _ _ _) (by kernel_rfl) fun v3 h => ?_
   refine cd 2 h (by kernel_rfl) (fun h => ?_) fun h => ?_
   ·cases h; exact lor 5 (by kernel_rfl)
   cases h; exact lj 6 (by kernel_rfl)
  cases h; exact lo 1 (by kernel_rfl)
 rcases v4 with v5 | v6
 ·try simp only [Sum.elim_inl, Sum.elim_inr] at h
  obtain ⟨rfl, hle⟩ := hq
  refine ⟨_, hle, ?_⟩
  cases h; exact lq 5 (by kernel_rfl)
 ·try simp only [Sum.elim_inl, Sum.elim_inr] at h
  obtain ⟨rfl, hret⟩ := hq
  refine ⟨_, LeSt.refl, ?_⟩
  cases h; exact lv hret

def synthesisref02_PrintAll_l1 (a0 : List Va) (v1 : (Int)) : Option (((Int)) ⊕ (((Unit) ⊕ ((ByteArray) × (Int))))) := (bif (decide (v1 < (List.length a0 : Int))) then (Option.bind (idx a0 v1) fun v2 => (Option.bind (synthesisref01_Check fuel (v2)) fun v3 => (bif (v3 != 0) then (some (.inr (.inr ((⟨#[]⟩ : ByteArray), v3)))) else (some (.inl ((w64 (v1 + 1)))))))) else (some (.inr (.inl ()))))
def synthesisref02_PrintAll (a0 : List Va) : Option ((ByteArray) × (Int)) := (Option.bind (loopN (synthesisref02_PrintAll_l1 a0) fuel (0)) fun (v4 : ((Unit) ⊕ ((ByteArray) × (Int)))) => Sum.elim (fun v5 => (Option.bind (synthesisref02_join fuel (a0)) fun v6 => (some (v6, 0)))) (fun v7 => (some v7)) v4)
theorem synthesisref02_PrintAll_ok (a0 : List Va) (r : (ByteArray) × (Int)) (h : synthesisref02_PrintAll a0 = some r) : PCall Tryd.prog 19 [(eL 4 eVaR) a0] (.tup [eS (r.1), eI (r.2)]) := by
 unfold synthesisref02_PrintAll at h
 refine pcl [.one .keep, .one .keep] Tryd.func19 (by kernel_rfl) (by kernel_rfl) (by kernel_rfl) ?_
 refine lpx 11 (fun v1 => ⟨22, [(0, (.fz ((eL 4 eVaR) (a0)))), (4, (fI (v1)))], [], [], []⟩) (fun v4 e st => Sum.elim (fun p => e = .exit 0 ∧ LeSt st ⟨22, [(0, (.fz ((eL 4 eVaR) (a0))))], [], [], []⟩) (fun p => e = .ret ∧ retX TT st Tryd.f19.results.toList [.one .keep, .one .keep] = some (.tup [eS (p.1), eI (p.2)])) v4) h (by kernel_rfl) (le_a (by kernel_rfl)) (fun v1 r h => ?_) fun v4 h e st' hq => ?_
 ·unfold synthesisref02_PrintAll_l1 at h
  refine cd 8 h (by kernel_rfl) (fun h => ?_) fun h => ?_
  ·refine ix nVaR 7 h (by kernel_rfl) fun v2 h => ?_
   refine cl 1 h (synthesisref01_Check_ok _ _) (by kernel_rfl) fun v3 h => ?_
   refine cd 7 h (by kernel_rfl) (fun h => ?_) fun h => ?_
   ·cases h; exact lor 7 (by kernel_rfl)
   cases h; exact lj 6 (by kernel_rfl)
  cases h; exact lo 1 (by kernel_rfl)
 rcases v4 with v5 | v7
 ·try simp only [Sum.elim_inl, Sum.elim_inr] at h
  obtain ⟨rfl, hle⟩ := hq
  refine ⟨_, hle, ?_⟩
  refine cl 3 h (synthesisref02_join_ok _ _) (by kernel_rfl) fun v6 h => ?_
  cases h; exact lq 4 (by kernel_rfl)
 ·try simp only [Sum.elim_inl, Sum.elim_inr] at h
  obtain ⟨rfl, hret⟩ := hq
  refine ⟨_, LeSt.refl, ?_⟩
  cases h; exact lv hret

def synthesisref02_ParseAll_l1 (a0 : ByteArray) (v1 : (Int) × (List Va)) : Option (((Int) × (List Va)) ⊕ ((((List Va)) ⊕ ((List Va) × (Int) × (Int))))) := (bif (decide (v1.1 < (a0.size : Int))) then (Option.bind ((bif (decide (0 < (List.length (v1.2) : Int))) then (Option.bind (synthesisref02_word (a0) (v1.1) ((⟨#[44, 32]⟩ : ByteArray))) fun v2 => (bif (!v2.2) then (some (.inr (([] : List Va), v2.1, 8))) else (some (.inl (v2.1))))) else (some (.inl (v1.1)))) : Option ((((Int)) ⊕ ((List Va) × (Int) × (Int))))) fun (v3 : (((Int)) ⊕ ((List Va) × (Int) × (Int)))) => Sum.elim (fun v4 => (Option.bind (synthesisref02_one (a0) (v4)) fun v5 => (bif (!v5.2.2) then (some (.inr (.inr (([] : List Va), v5.2.1, 8)))) else (Option.bind (app 56 v1.2 ([v5.1] : List (Va))) fun v6 => (some (.inl (v5.2.1, v6))))))) (fun v7 => (some (.inr (.inr v7)))) v3) else (some (.inr (.inl (v1.2)))))
def synthesisref02_ParseAll (a0 : ByteArray) : Option ((List Va) × (Int) × (Int)) := (Option.bind (loopN (synthesisref02_ParseAll_l1 a0) fuel (0, ([] : List (Va)))) fun (v8 : (((List Va)) ⊕ ((List Va) × (Int) × (Int)))) => Sum.elim (fun v9 => (some (v9, 0, 0))) (fun v10 => (some v10)) v8)
theorem synthesisref02_ParseAll_ok (a0 : ByteArray) (r : (List Va) × (Int) × (Int)) (h : synthesisref02_ParseAll a0 = some r) : PCall Tryd.prog 21 [eS a0] (.tup [(eL 4 eVaR) (r.1), eI (r.2.1), eI (r.2.2)]) := by
 unfold synthesisref02_ParseAll at h
 refine pcl [.one (.sl 4), .one .keep, .one .keep] Tryd.func21 (by kernel_rfl) (by kernel_rfl) (by kernel_rfl) ?_
 refine wle 16 (le_nilrow (e := 24) (size := 4) (t := 5) (id := 1) (by decide) (by kernel_rfl) (by kernel_rfl)) (by kernel_rfl) ?_
 refine lpx 0 (fun v1 => ⟨45, [(0, (fS (a0))), (5, (.row 1 (List.length (v1.2)))), (6, (fI (v1.1)))], [(1, (.frow 24 4 (List.map eVaR (v1.2))))], [1], []⟩) (fun v8 e st => Sum.elim (fun p => e = .exit 0 ∧ LeSt st ⟨45, [(5, (.row 1 (List.length (p))))], [(1, (.frow 24 4 (List.map eVaR (p))))], [1], []⟩) (fun p => e = .ret ∧ retX TT st Tryd.f21.results.toList [.one (.sl 4), .one .keep, .one .keep] = some (.tup [(eL 4 eVaR) (p.1), eI (p.2.1), eI (p.2.2)])) v8) h (by kernel_rfl) (le_a (by kernel_rfl)) (fun v1 r h => ?_) fun v8 h e st' hq => ?_
 ·unfold synthesisref02_ParseAll_l1 at h
  refine cd 8 h (by kernel_rfl) (fun h => ?_) fun h => ?_
  ·refine jnQ 3 (fun v3 e st => Sum.elim (fun p => e = .normal ∧ LeSt st ⟨45, [(0, (fS (a0))), (5, (.row 1 (List.length (v1.2)))), (6, (fI (p)))], [(1, (.frow 24 4 (List.map eVaR (v1.2))))], [1], []⟩) (fun p => e = .ret ∧ retX TT st Tryd.f21.results.toList [.one (.sl 4), .one .keep, .one .keep] = some (.tup [(eL 4 eVaR) (p.1), eI (p.2.1), eI (p.2.2)])) v3) h (by kernel_rfl) (fun v3 h => ?_) fun v3 h e st' hq => ?_
   ·refine nst 3 (n_len_row (t := 22) (x := (.tmp 16)) (d := tt22) (id := 1) (e2 := 24) (e := 24) (size := 4) (n := List.length (v1.2)) (xs := List.map eVaR (v1.2)) tt_ok (by kernel_rfl) (by kernel_rfl) rfl (by kernel_rfl) (by kernel_rfl) (by simp)) (by kernel_rfl) ?_
    refine cd 2 h (by kernel_rfl) (fun h => ?_) fun h => ?_
    ·refine cl 4 h (synthesisref02_word_ok _ _ _) (by kernel_rfl) fun v2 h => ?_
     refine cd 12 h (by kernel_rfl) (fun h => ?_) fun h => ?_
     ·cases h; exact lr 8 (by kernel_rfl)
     cases h; exact lj 5 (by kernel_rfl)
    cases h; exact lj 1 (by kernel_rfl)
   rcases v3 with v4 | v7
   ·try simp only [Sum.elim_inl, Sum.elim_inr] at h
    obtain ⟨rfl, hle⟩ := hq
    refine ⟨_, hle, ?_⟩
    refine cl 4 h (synthesisref02_one_ok _ _) (by kernel_rfl) fun v5 h => ?_
    refine cd 15 h (by kernel_rfl) (fun h => ?_) fun h => ?_
    ·cases h; exact lor 8 (by kernel_rfl)
    refine wle 6 (le_eq (t := 41) (x := .lim 4 1 [eVa (v5.1)]) (y := .lim 4 1 (List.map eVaR ([v5.1] : List (Va)))) (by kernel_rfl) (by simp only [List.map, eVaR_eq])) (by kernel_rfl) ?_
    refine ap nVaR 0 h (by kernel_rfl) fun v6 h => ?_
    cases h; exact lj 6 (by kernel_rfl)
   ·try simp only [Sum.elim_inl, Sum.elim_inr] at h
    obtain ⟨rfl, hret⟩ := hq
    refine ⟨_, LeSt.refl, ?_⟩
    cases h; exact lvo hret
  cases h; exact lo 1 (by kernel_rfl)
 rcases v8 with v9 | v10
 ·try simp only [Sum.elim_inl, Sum.elim_inr] at h
  obtain ⟨rfl, hle⟩ := hq
  refine ⟨_, hle, ?_⟩
  refine wle 7 (le_freeze (t := 2) (id := 1) (n := List.length (v9)) (e := 24) (size := 4) (xs := List.map eVaR (v9)) (by kernel_rfl) (by kernel_rfl) (by simp)) (by kernel_rfl) ?_
  cases h; exact lq 1 (by kernel_rfl)
 ·try simp only [Sum.elim_inl, Sum.elim_inr] at h
  obtain ⟨rfl, hret⟩ := hq
  refine ⟨_, LeSt.refl, ?_⟩
  cases h; exact lv hret

def synthesislaw02_same_l1 (a0 : List Va) (a1 : List Va) (v1 : (Int)) : Option (((Int)) ⊕ (((Unit) ⊕ (Bool)))) := (bif (decide (v1 < (List.length a0 : Int))) then (Option.bind (idx a0 v1) fun v2 => (Option.bind (idx a1 v1) fun v3 => (Option.bind (synthesisref01_Equal (v2) (v3)) fun v4 => (bif (!v4) then (some (.inr (.inr false))) else (some (.inl ((w64 (v1 + 1))))))))) else (some (.inr (.inl ()))))
def synthesislaw02_same (a0 : List Va) (a1 : List Va) : Option (Bool) := (bif ((List.length a0 : Int) != (List.length a1 : Int)) then (some false) else (Option.bind (loopN (synthesislaw02_same_l1 a0 a1) fuel (0)) fun (v5 : ((Unit) ⊕ (Bool))) => Sum.elim (fun v6 => (some true)) (fun v7 => (some v7)) v5))
theorem synthesislaw02_same_ok (a0 : List Va) (a1 : List Va) (r : Bool) (h : synthesislaw02_same a0 a1 = some r) : PCall Tryd.prog 22 [(eL 4 eVaR) a0, (eL 4 eVaR) a1] (eB (r)) := by
 unfold synthesislaw02_same at h
 refine pcl [.one .keep] Tryd.func22 (by kernel_rfl) (by kernel_rfl) (by kernel_rfl) ?_
 refine cd 13 h (by kernel_rfl) (fun h => ?_) fun h => ?_
 ·cases h; exact lq 5 (by kernel_rfl)
 refine lpx 7 (fun v1 => ⟨27, [(0, (.fz ((eL 4 eVaR) (a0)))), (1, (.fz ((eL 4 eVaR) (a1)))), (5, (fI (v1)))], [], [], []⟩) (fun v5 e st => Sum.elim (fun p => e = .exit 0 ∧ LeSt st ⟨27, [], [], [], []⟩) (fun p => e = .ret ∧ retX TT st Tryd.f22.results.toList [.one .keep] = some (eB (p))) v5) h (by kernel_rfl) (le_a (by kernel_rfl)) (fun v1 r h => ?_) fun v5 h e st' hq => ?_
 ·unfold synthesislaw02_same_l1 at h
  refine cd 8 h (by kernel_rfl) (fun h => ?_) fun h => ?_
  ·refine dw 4 8 (by kernel_rfl) ?_
   refine ix nVaR 2 h (by kernel_rfl) fun v2 h => ?_
   refine ix nVaR 3 h (by kernel_rfl) fun v3 h => ?_
   refine cl 2 h (synthesisref01_Equal_ok _ _) (by kernel_rfl) fun v4 h => ?_
   refine cd 2 h (by kernel_rfl) (fun h => ?_) fun h => ?_
   ·cases h; exact lor 5 (by kernel_rfl)
   cases h; exact lj 6 (by kernel_rfl)
  cases h; exact lo 1 (by kernel_rfl)
 rcases v5 with v6 | v7
 ·try simp only [Sum.elim_inl, Sum.elim_inr] at h
  obtain ⟨rfl, hle⟩ := hq
  refine ⟨_, hle, ?_⟩
  cases h; exact lq 5 (by kernel_rfl)
 ·try simp only [Sum.elim_inl, Sum.elim_inr] at h
  obtain ⟨rfl, hret⟩ := hq
  refine ⟨_, LeSt.refl, ?_⟩
  cases h; exact lv hret

def synthesislaw02_LiteralTuples_h (a0 : List Va) (a1 : ByteArray) : Option ((Bool)) := (Option.bind ((Option.bind (synthesislaw02_smalls (a0)) fun v1 => (bif (!v1) then (some (true)) else (some ((decide (1500 < (a1.size : Int))))))) : Option ((Bool))) fun (v3 : (Bool)) => (bif v3 then (Option.bind (synthesislaw02_awake_h ) fun v4 => (some (v4))) else (Option.bind (literal_PrintAll_h (a0)) fun v5 => (Option.bind (synthesisref02_PrintAll (a0)) fun v6 => (Option.bind (literal_ParseAll (a1)) fun v7 => (Option.bind (synthesisref02_ParseAll (a1)) fun v8 => (Option.bind ((bif (v5.1.toList == v6.1.toList) then (bif (v5.2 == v6.2) then (Option.bind (synthesislaw02_same (v7.1) (v8.1)) fun v9 => (bif v9 then (bif (v7.2.1 == v8.2.1) then (bif (v7.2.2 == v8.2.2) then (Option.bind (synthesislaw02_awake_h ) fun v10 => (some (v10))) else (some (false))) else (some (false))) else (some (false)))) else (some (false))) else (some (false))) : Option ((Bool))) fun (v12 : (Bool)) => (some (v12)))))))))
theorem synthesislaw02_LiteralTuples_h_ok (a0 : List Va) (a1 : ByteArray) (r : (Bool)) (h : synthesislaw02_LiteralTuples_h a0 a1 = some r) : HCall Tryd.prog 5 ([(.fz ((eL 4 eVaR) (a0))), (fS (a1))] ++ []) [(1, (.glb GV))] [1] (.ret (fB (r))) [(1, (.glb GV))] [1] := by
 unfold synthesislaw02_LiteralTuples_h at h
 refine hcx (gi := 0) Tryd.func5 (by kernel_rfl) (by kernel_rfl) (by kernel_rfl) (by kernel_rfl) (by kernel_rfl) (by kernel_rfl) (by kernel_rfl) (by kernel_rfl) ?_
 intro p0 q0 w0
 refine jn1 6 .normal (fun v3 => ⟨72, [(0, (.fz ((eL 4 eVaR) (a0)))), (1, (fS (a1))), (22, (fB (v3)))], [(0, (.was p0 [1] q0 w0)), (1, (.glb GV))], [0, 1], []⟩) h (by kernel_rfl) (fun v3 h => ?_) fun v3 h => ?_
 ·refine cl 2 h (synthesislaw02_smalls_ok _) (by kernel_rfl) fun v1 h => ?_
  refine gd 2 h (by kernel_rfl) (fun h => ?_) fun h => ?_
  ·cases h; exact lj 5 (by kernel_rfl)
  cases h; exact lj 5 (by kernel_rfl)
 refine cd 0 h (by kernel_rfl) (fun h => ?_) fun h => ?_
 ·refine hcl 2 [] [(1, 1)] [(1, 1)] [1] h (synthesislaw02_awake_h_ok) (fun _ => by kernel_rfl) fun v4 h => ?_
  obtain rfl := Option.some.inj h; exact lh 3 ⟨72, [(4, (fB (v4)))], [(0, (.was p0 [1] q0 w0)), (1, (.glb GV))], [0, 1], []⟩ (le_a (by kernel_rfl)) rfl rfl (by kernel_rfl) (by kernel_rfl)
 refine hcl 4 [.one .keep] [(1, 1)] [(1, 1)] [1] h (literal_PrintAll_h_ok _) (fun _ => by kernel_rfl) fun v5 h => ?_
 refine cl 9 h (synthesisref02_PrintAll_ok _) (by kernel_rfl) fun v6 h => ?_
 refine cl 9 h (literal_ParseAll_ok _) (by kernel_rfl) fun v7 h => ?_
 refine cl 11 h (synthesisref02_ParseAll_ok _) (by kernel_rfl) fun v8 h => ?_
 refine jn1 9 .normal (fun v12 => ⟨72, [(4, (fB (v12)))], [(0, (.was p0 [1] q0 w0)), (1, (.glb GV))], [0, 1], []⟩) h (by kernel_rfl) (fun v12 h => ?_) fun v12 h => ?_
 ·refine gd 5 h (by kernel_rfl) (fun h => ?_) fun h => ?_
  ·refine gd 5 h (by kernel_rfl) (fun h => ?_) fun h => ?_
   ·refine cl 2 h (synthesislaw02_same_ok _ _) (by kernel_rfl) fun v9 h => ?_
    refine gd 2 h (by kernel_rfl) (fun h => ?_) fun h => ?_
    ·refine gd 5 h (by kernel_rfl) (fun h => ?_) fun h => ?_
     ·refine gd 5 h (by kernel_rfl) (fun h => ?_) fun h => ?_
      ·refine hcl 0 [] [(1, 1)] [(1, 1)] [1] h (synthesislaw02_awake_h_ok) (fun _ => by kernel_rfl) fun v10 h => ?_
       cases h; exact lj 3 (by kernel_rfl)
      cases h; exact lj 4 (by kernel_rfl)
     cases h; exact lj 9 (by kernel_rfl)
    cases h; exact lj 14 (by kernel_rfl)
   cases h; exact lj 19 (by kernel_rfl)
  cases h; exact lj 24 (by kernel_rfl)
 obtain rfl := Option.some.inj h; exact lh 1 ⟨72, [(4, (fB (v12)))], [(0, (.was p0 [1] q0 w0)), (1, (.glb GV))], [0, 1], []⟩ (le_a (by kernel_rfl)) rfl rfl (by kernel_rfl) (by kernel_rfl)

end Go.Proofs.YtijkipikefpopaaDoor
