/- Typed programs and what computes them. -/
import Derived.Test.YtijkipikefpopaaDoorZ2
set_option linter.unusedVariables false
set_option linter.unusedSimpArgs false
set_option maxRecDepth 100000
namespace Go.Proofs.YtijkipikefpopaaDoor
open Go Go.RowKit Go.Proofs
attribute [local irreducible] NStep StepA EStep LeSt
def synthesisref02_quoted_l1 (a0 : ByteArray) (a2 : Int) (a3 : Int) (a4 : Bool) (v2 : (Int) × (ByteArray)) : Option (((Int) × (ByteArray)) ⊕ ((ByteArray) × (Int) × (Bool))) := (Option.bind ((Option.bind (synthesisref02_at (a0) (v2.1)) fun v3 => (Option.bind ((bif (v3 == 34) then (some ((decide (a2 ≤ (v2.2.size : Int))))) else (some (false))) : Option ((Bool))) fun (v5 : (Bool)) => (bif v5 then (some (.inr (.inr (v2.2, (w64 (v2.1 + 1)), true)))) else (Option.bind ((bif ((v2.2.size : Int) == a3) then (some (true)) else (bif (decide (v3 < 32)) then (some (true)) else (bif (decide (126 < v3)) then (some (true)) else (some ((v3 == 34)))))) : Option ((Bool))) fun (v7 : (Bool)) => (bif v7 then (some (.inr (.inr ((⟨#[]⟩ : ByteArray), v2.1, false)))) else (bif (v3 != 92) then (Option.bind (cutS a0 v2.1 (w64 (v2.1 + 1))) fun v8 => (Option.bind (cat v2.2 v8) fun v9 => (some (.inr (.inl ((w64 (v2.1 + 1)), v9)))))) else (Option.bind (synthesisref02_at (a0) ((w64 (v2.1 + 1)))) fun v10 => (Option.bind ((bif (v10 == 34) then (some (true)) else (some ((v10 == 92)))) : Option ((Bool))) fun (v12 : (Bool)) => (bif v12 then (Option.bind (cutS a0 (w64 (v2.1 + 1)) (w64 ((w64 (v2.1 + 1)) + 1))) fun v13 => (Option.bind (cat v2.2 v13) fun v14 => (some (.inr (.inl ((w64 ((w64 (v2.1 + 1)) + 1)), v14)))))) else (Option.bind ((bif (!a4) then (some (true)) else (some ((v10 != 120)))) : Option ((Bool))) fun (v16 : (Bool)) => (bif v16 then (some (.inr (.inr ((⟨#[]⟩ : ByteArray), (w64 (v2.1 + 1)), false)))) else (Option.bind (synthesisref02_at (a0) ((w64 ((w64 (v2.1 + 1)) + 1)))) fun v17 => (Option.bind (synthesisref02_digit (v17)) fun v18 => (Option.bind ((bif (decide (v18 < 0)) then (some (true)) else (bif (decide (2 ≤ v18)) then (some ((decide (v18 ≤ 6)))) else (some (false)))) : Option ((Bool))) fun (v20 : (Bool)) => (bif v20 then (some (.inr (.inr ((⟨#[]⟩ : ByteArray), (w64 ((w64 (v2.1 + 1)) + 1)), false)))) else (Option.bind (synthesisref02_at (a0) ((w64 ((w64 ((w64 (v2.1 + 1)) + 1)) + 1)))) fun v21 => (Option.bind (synthesisref02_digit (v21)) fun v22 => (Option.bind ((bif (decide (v22 < 0)) then (some (true)) else (bif (v18 == 7) then (some ((decide (v22 < 15)))) else (some (false)))) : Option ((Bool))) fun (v24 : (Bool)) => (bif v24 then (some (.inr (.inr ((⟨#[]⟩ : ByteArray), (w64 ((w64 ((w64 (v2.1 + 1)) + 1)) + 1)), false)))) else (Option.bind (cat v2.2 (toBA ([(wu8 (w64 ((w64 (v18 * 16)) + v22)))] : List (Int)))) fun v25 => (some (.inl (v25))))))))))))))))))))))) : Option ((((ByteArray)) ⊕ ((((Int) × (ByteArray)) ⊕ ((ByteArray) × (Int) × (Bool))))))) fun (v26 : (((ByteArray)) ⊕ ((((Int) × (ByteArray)) ⊕ ((ByteArray) × (Int) × (Bool)))))) => Sum.elim (fun v27 => (some (.inl ((w64 ((w64 ((w64 ((w64 (v2.1 + 1)) + 1)) + 1)) + 1)), v27)))) (Sum.elim (fun v28 => (some (.inl (v28.1, v28.2)))) (fun v29 => (some (.inr v29)))) v26)
def synthesisref02_quoted (a0 : ByteArray) (a1 : Int) (a2 : Int) (a3 : Int) (a4 : Bool) : Option ((ByteArray) × (Int) × (Bool)) := (Option.bind (synthesisref02_at (a0) (a1)) fun v1 => (bif (v1 != 34) then (some ((⟨#[]⟩ : ByteArray), a1, false)) else (Option.bind (loopN (synthesisref02_quoted_l1 a0 a2 a3 a4) fuel ((w64 (a1 + 1)), (⟨#[]⟩ : ByteArray))) fun (v31 : (ByteArray) × (Int) × (Bool)) => (some v31))))
theorem synthesisref02_quoted_ok (a0 : ByteArray) (a1 : Int) (a2 : Int) (a3 : Int) (a4 : Bool) (r : (ByteArray) × (Int) × (Bool)) (h : synthesisref02_quoted a0 a1 a2 a3 a4 = some r) : PCall Tryd.prog 43 [eS a0, eI a1, eI a2, eI a3, eB a4] (.tup [eS (r.1), eI (r.2.1), eB (r.2.2)]) := by
 unfold synthesisref02_quoted at h
 refine pcl [.one .keep, .one .keep, .one .keep] Tryd.func43 (by kernel_rfl) (by kernel_rfl) (by kernel_rfl) ?_
 refine cl 11 h (synthesisref02_at_ok _ _) (by kernel_rfl) fun v1 h => ?_
 refine cd 2 h (by kernel_rfl) (fun h => ?_) fun h => ?_
 ·cases h; exact lq 8 (by kernel_rfl)
 refine lpx 12 (fun v2 => ⟨141, [(0, (fS (a0))), (1, (fI (v2.1))), (2, (fI (a2))), (3, (fI (a3))), (4, (fB (a4))), (13, (fS (v2.2)))], [], [], []⟩) (fun v31 e st => e = .ret ∧ retX TT st Tryd.f43.results.toList [.one .keep, .one .keep, .one .keep] = some (.tup [eS (v31.1), eI (v31.2.1), eB (v31.2.2)])) h (by kernel_rfl) (le_a (by kernel_rfl)) (fun v2 r h => ?_) fun v31 h e st' hq => ?_
 ·unfold synthesisref02_quoted_l1 at h
  refine jnQ 1 (fun v26 e st => Sum.elim (fun p => e = .normal ∧ LeSt st ⟨141, [(0, (fS (a0))), (1, (fI ((w64 ((w64 ((w64 ((w64 (v2.1 + 1)) + 1)) + 1)) + 1))))), (2, (fI (a2))), (3, (fI (a3))), (4, (fB (a4))), (13, (fS (p)))], [], [], []⟩) (Sum.elim (fun p => e = .exit 1 ∧ LeSt st ⟨141, [(0, (fS (a0))), (1, (fI (p.1))), (2, (fI (a2))), (3, (fI (a3))), (4, (fB (a4))), (13, (fS (p.2)))], [], [], []⟩) (fun p => e = .ret ∧ retX TT st Tryd.f43.results.toList [.one .keep, .one .keep, .one .keep] = some (.tup [eS (p.1), eI (p.2.1), eB (p.2.2)]))) v26) h (by kernel_rfl) (fun v26 h => ?_) fun v26 h e st' hq => ?_
  ·refine cl 4 h (synthesisref02_at_ok _ _) (by kernel_rfl) fun v3 h => ?_
   refine jn1 5 .normal (fun v5 => ⟨141, [(0, (fS (a0))), (1, (fI (v2.1))), (2, (fI (a2))), (3, (fI (a3))), (4, (fB (a4))), (13, (fS (v2.2))), (14, (.fz (eU8 (v3)))), (27, (fB (v5)))], [], [], []⟩) h (by kernel_rfl) (fun v5 h => ?_) fun v5 h => ?_
   ·refine gd 4 h (by kernel_rfl) (fun h => ?_) fun h => ?_
    ·cases h; exact lj 7 (by kernel_rfl)
    cases h; exact lj 7 (by kernel_rfl)
   refine cd 0 h (by kernel_rfl) (fun h => ?_) fun h => ?_
   ·cases h; exact lr 10 (by kernel_rfl)
   refine jn1 1 .normal (fun v7 => ⟨141, [(0, (fS (a0))), (1, (fI (v2.1))), (2, (fI (a2))), (3, (fI (a3))), (4, (fB (a4))), (13, (fS (v2.2))), (14, (.fz (eU8 (v3)))), (39, (fB (v7)))], [], [], []⟩) h (by kernel_rfl) (fun v7 h => ?_) fun v7 h => ?_
   ·refine gd 6 h (by kernel_rfl) (fun h => ?_) fun h => ?_
    ·cases h; exact lj 13 (by kernel_rfl)
    refine gd 4 h (by kernel_rfl) (fun h => ?_) fun h => ?_
    ·cases h; exact lj 9 (by kernel_rfl)
    refine gd 4 h (by kernel_rfl) (fun h => ?_) fun h => ?_
    ·cases h; exact lj 5 (by kernel_rfl)
    cases h; exact lj 5 (by kernel_rfl)
   refine cd 0 h (by kernel_rfl) (fun h => ?_) fun h => ?_
   ·cases h; exact lr 8 (by kernel_rfl)
   refine cd 6 h (by kernel_rfl) (fun h => ?_) fun h => ?_
   ·obtain ⟨v8, hv8, h⟩ := Option.bind_eq_some_iff.1 h
    refine nst 7 (s_cutS (t := 9) (x := (.tmp 61)) (lo := (some (.tmp 62))) (hi := (some (.tmp 64))) (d := tt9) (s := a0) (l := (some v2.1)) (h := (some (w64 (v2.1 + 1)))) hv8 tt_ok (by kernel_rfl) (by kernel_rfl) (by kernel_rfl) (by kernel_rfl) (by kernel_rfl) (by kernel_rfl)) (by kernel_rfl) ?_
    obtain ⟨v9, hv9, h⟩ := Option.bind_eq_some_iff.1 h
    refine nst 0 (s_cat (t := 9) (X := (.tmp 60)) (Y := (.tmp 65)) (yt := 9) (s := v2.2) (u := v8) hv9 (by kernel_rfl) (by kernel_rfl) (by kernel_rfl)) (by kernel_rfl) ?_
    cases h; exact lj 9 (by kernel_rfl)
   refine cl 11 h (synthesisref02_at_ok _ _) (by kernel_rfl) fun v10 h => ?_
   refine jn1 4 .normal (fun v12 => ⟨141, [(0, (fS (a0))), (1, (fI ((w64 (v2.1 + 1))))), (2, (fI (a2))), (3, (fI (a3))), (4, (fB (a4))), (13, (fS (v2.2))), (14, (.fz (eU8 (v10)))), (79, (fB (v12)))], [], [], []⟩) h (by kernel_rfl) (fun v12 h => ?_) fun v12 h => ?_
   ·refine gd 4 h (by kernel_rfl) (fun h => ?_) fun h => ?_
    ·cases h; exact lj 4 (by kernel_rfl)
    cases h; exact lj 4 (by kernel_rfl)
   refine cd 0 h (by kernel_rfl) (fun h => ?_) fun h => ?_
   ·obtain ⟨v13, hv13, h⟩ := Option.bind_eq_some_iff.1 h
    refine nst 7 (s_cutS (t := 9) (x := (.tmp 81)) (lo := (some (.tmp 82))) (hi := (some (.tmp 84))) (d := tt9) (s := a0) (l := (some (w64 (v2.1 + 1)))) (h := (some (w64 ((w64 (v2.1 + 1)) + 1)))) hv13 tt_ok (by kernel_rfl) (by kernel_rfl) (by kernel_rfl) (by kernel_rfl) (by kernel_rfl) (by kernel_rfl)) (by kernel_rfl) ?_
    obtain ⟨v14, hv14, h⟩ := Option.bind_eq_some_iff.1 h
    refine nst 0 (s_cat (t := 9) (X := (.tmp 80)) (Y := (.tmp 85)) (yt := 9) (s := v2.2) (u := v13) hv14 (by kernel_rfl) (by kernel_rfl) (by kernel_rfl)) (by kernel_rfl) ?_
    cases h; exact lj 9 (by kernel_rfl)
   refine jn1 3 .normal (fun v16 => ⟨141, [(0, (fS (a0))), (1, (fI ((w64 (v2.1 + 1))))), (2, (fI (a2))), (3, (fI (a3))), (4, (fB (a4))), (13, (fS (v2.2))), (94, (fB (v16)))], [], [], []⟩) h (by kernel_rfl) (fun v16 h => ?_) fun v16 h => ?_
   ·refine gd 4 h (by kernel_rfl) (fun h => ?_) fun h => ?_
    ·cases h; exact lj 4 (by kernel_rfl)
    cases h; exact lj 4 (by kernel_rfl)
   refine cd 0 h (by kernel_rfl) (fun h => ?_) fun h => ?_
   ·cases h; exact lr 8 (by kernel_rfl)
   refine cl 11 h (synthesisref02_at_ok _ _) (by kernel_rfl) fun v17 h => ?_
   refine cl 0 h (synthesisref02_digit_ok _) (by kernel_rfl) fun v18 h => ?_
   refine jn1 4 .normal (fun v20 => ⟨141, [(0, (fS (a0))), (1, (fI ((w64 ((w64 (v2.1 + 1)) + 1))))), (2, (fI (a2))), (3, (fI (a3))), (4, (fB (a4))), (13, (fS (v2.2))), (15, (fI (v18))), (111, (fB (v20)))], [], [], []⟩) h (by kernel_rfl) (fun v20 h => ?_) fun v20 h => ?_
   ·refine gd 4 h (by kernel_rfl) (fun h => ?_) fun h => ?_
    ·cases h; exact lj 8 (by kernel_rfl)
    refine gd 3 h (by kernel_rfl) (fun h => ?_) fun h => ?_
    ·cases h; exact lj 5 (by kernel_rfl)
    cases h; exact lj 5 (by kernel_rfl)
   refine cd 0 h (by kernel_rfl) (fun h => ?_) fun h => ?_
   ·cases h; exact lr 8 (by kernel_rfl)
   refine cl 11 h (synthesisref02_at_ok _ _) (by kernel_rfl) fun v21 h => ?_
   refine cl 0 h (synthesisref02_digit_ok _) (by kernel_rfl) fun v22 h => ?_
   refine jn1 4 .normal (fun v24 => ⟨141, [(0, (fS (a0))), (1, (fI ((w64 ((w64 ((w64 (v2.1 + 1)) + 1)) + 1))))), (2, (fI (a2))), (3, (fI (a3))), (4, (fB (a4))), (13, (fS (v2.2))), (15, (fI (v18))), (16, (fI (v22))), (128, (fB (v24)))], [], [], []⟩) h (by kernel_rfl) (fun v24 h => ?_) fun v24 h => ?_
   ·refine gd 4 h (by kernel_rfl) (fun h => ?_) fun h => ?_
    ·cases h; exact lj 8 (by kernel_rfl)
    refine gd 3 h (by kernel_rfl) (fun h => ?_) fun h => ?_
    ·cases h; exact lj 5 (by kernel_rfl)
    cases h; exact lj 5 (by kernel_rfl)
   refine cd 0 h (by kernel_rfl) (fun h => ?_) fun h => ?_
   ·cases h; exact lr 8 (by kernel_rfl)
   refine nst 15 (s_b2s (sr := 56) (t := 9) (x := (.tmp 138)) (e := 5) (de := tt5) (ds := tt56) (d := tt9) (xs := ([(wu8 (w64 ((w64 (v18 * 16)) + v22)))] : List (Int))) tt_ok (by kernel_rfl) (by kernel_rfl) rfl (by kernel_rfl) rfl (by kernel_rfl) rfl (by kernel_rfl)) (by kernel_rfl) ?_
   obtain ⟨v25, hv25, h⟩ := Option.bind_eq_some_iff.1 h
   refine nst 0 (s_cat (t := 9) (X := (.tmp 132)) (Y := (.tmp 139)) (yt := 9) (s := v2.2) (u := (toBA ([(wu8 (w64 ((w64 (v18 * 16)) + v22)))] : List (Int)))) hv25 (by kernel_rfl) (by kernel_rfl) (by kernel_rfl)) (by kernel_rfl) ?_
   cases h; exact lj 2 (by kernel_rfl)
  rcases v26 with v27 | (v28 | v29)
  ·try simp only [Sum.elim_inl, Sum.elim_inr] at h
   obtain ⟨rfl, hle⟩ := hq
   refine ⟨_, hle, ?_⟩
   cases h; exact lj 0 (by kernel_rfl)
  ·try simp only [Sum.elim_inl, Sum.elim_inr] at h
   obtain ⟨rfl, hle⟩ := hq
   refine ⟨_, hle, ?_⟩
   cases h; exact lj 0 (by kernel_rfl)
  ·try simp only [Sum.elim_inl, Sum.elim_inr] at h
   obtain ⟨rfl, hret⟩ := hq
   refine ⟨_, LeSt.refl, ?_⟩
   cases h; exact lvo hret
 obtain ⟨rfl, hret⟩ := hq
 refine ⟨_, LeSt.refl, ?_⟩
 cases h; exact lv hret

def synthesisref02_Unquote (a0 : ByteArray) : Option ((ByteArray) × (Int) × (Int)) := (Option.bind (synthesisref02_quoted (a0) (0) (0) ((a0.size : Int)) (true)) fun v1 => (Option.bind ((bif (!v1.2.2) then (some (true)) else (some ((decide (v1.2.1 < (a0.size : Int)))))) : Option ((Bool))) fun (v3 : (Bool)) => (bif v3 then (some ((⟨#[]⟩ : ByteArray), v1.2.1, 8)) else (some (v1.1, 0, 0)))))
theorem synthesisref02_Unquote_ok (a0 : ByteArray) (r : (ByteArray) × (Int) × (Int)) (h : synthesisref02_Unquote a0 = some r) : PCall Tryd.prog 24 [eS a0] (.tup [eS (r.1), eI (r.2.1), eI (r.2.2)]) := by
 unfold synthesisref02_Unquote at h
 refine pcl [.one .keep, .one .keep, .one .keep] Tryd.func24 (by kernel_rfl) (by kernel_rfl) (by kernel_rfl) ?_
 refine cl 11 h (synthesisref02_quoted_ok _ _ _ _ _) (by kernel_rfl) fun v1 h => ?_
 refine jn1 10 .normal (fun v3 => ⟨26, [(5, (fS (v1.1))), (6, (fI (v1.2.1))), (23, (fB (v3)))], [], [], []⟩) h (by kernel_rfl) (fun v3 h => ?_) fun v3 h => ?_
 ·refine gd 4 h (by kernel_rfl) (fun h => ?_) fun h => ?_
  ·cases h; exact lj 6 (by kernel_rfl)
  cases h; exact lj 6 (by kernel_rfl)
 refine cd 0 h (by kernel_rfl) (fun h => ?_) fun h => ?_
 ·cases h; exact lq 8 (by kernel_rfl)
 cases h; exact lq 9 (by kernel_rfl)

def synthesislaw02_LiteralQuotes_h (a0 : ByteArray) : Option ((Bool)) := (bif (decide (1000 < (a0.size : Int))) then (Option.bind (synthesislaw02_awake_h ) fun v1 => (some (v1))) else (Option.bind (literal_Unquote (a0)) fun v2 => (Option.bind (synthesisref02_Unquote (a0)) fun v3 => (Option.bind ((Option.bind (literal_Quote_h (a0)) fun v4 => (Option.bind (synthesisref02_Quote (a0)) fun v5 => (bif (v4.toList == v5.toList) then (bif (v2.1.toList == v3.1.toList) then (bif (v2.2.1 == v3.2.1) then (bif (v2.2.2 == v3.2.2) then (Option.bind (synthesislaw02_awake_h ) fun v6 => (some (v6))) else (some (false))) else (some (false))) else (some (false))) else (some (false))))) : Option ((Bool))) fun (v8 : (Bool)) => (some (v8))))))
theorem synthesislaw02_LiteralQuotes_h_ok (a0 : ByteArray) (r : (Bool)) (h : synthesislaw02_LiteralQuotes_h a0 = some r) : HCall Tryd.prog 6 ([(fS (a0))] ++ []) [(1, (.glb GV))] [1] (.ret (fB (r))) [(1, (.glb GV))] [1] := by
 unfold synthesislaw02_LiteralQuotes_h at h
 refine hcx (gi := 0) Tryd.func6 (by kernel_rfl) (by kernel_rfl) (by kernel_rfl) (by kernel_rfl) (by kernel_rfl) (by kernel_rfl) (by kernel_rfl) (by kernel_rfl) ?_
 intro p0 q0 w0
 refine cd 11 h (by kernel_rfl) (fun h => ?_) fun h => ?_
 ·refine hcl 2 [] [(1, 1)] [(1, 1)] [1] h (synthesislaw02_awake_h_ok) (fun _ => by kernel_rfl) fun v1 h => ?_
  obtain rfl := Option.some.inj h; exact lh 3 ⟨48, [(2, (fB (v1)))], [(0, (.was p0 [1] q0 w0)), (1, (.glb GV))], [0, 1], []⟩ (le_a (by kernel_rfl)) rfl rfl (by kernel_rfl) (by kernel_rfl)
 refine cl 4 h (literal_Unquote_ok _) (by kernel_rfl) fun v2 h => ?_
 refine cl 11 h (synthesisref02_Unquote_ok _) (by kernel_rfl) fun v3 h => ?_
 refine jn1 9 .normal (fun v8 => ⟨48, [(2, (fB (v8)))], [(0, (.was p0 [1] q0 w0)), (1, (.glb GV))], [0, 1], []⟩) h (by kernel_rfl) (fun v8 h => ?_) fun v8 h => ?_
 ·refine hcl 2 [.one .keep] [(1, 1)] [(1, 1)] [1] h (literal_Quote_h_ok _) (fun _ => by kernel_rfl) fun v4 h => ?_
  refine cl 1 h (synthesisref02_Quote_ok _) (by kernel_rfl) fun v5 h => ?_
  refine gd 2 h (by kernel_rfl) (fun h => ?_) fun h => ?_
  ·refine gd 5 h (by kernel_rfl) (fun h => ?_) fun h => ?_
   ·refine gd 5 h (by kernel_rfl) (fun h => ?_) fun h => ?_
    ·refine gd 5 h (by kernel_rfl) (fun h => ?_) fun h => ?_
     ·refine hcl 0 [] [(1, 1)] [(1, 1)] [1] h (synthesislaw02_awake_h_ok) (fun _ => by kernel_rfl) fun v6 h => ?_
      cases h; exact lj 3 (by kernel_rfl)
     cases h; exact lj 4 (by kernel_rfl)
    cases h; exact lj 9 (by kernel_rfl)
   cases h; exact lj 14 (by kernel_rfl)
  cases h; exact lj 19 (by kernel_rfl)
 obtain rfl := Option.some.inj h; exact lh 1 ⟨48, [(2, (fB (v8)))], [(0, (.was p0 [1] q0 w0)), (1, (.glb GV))], [0, 1], []⟩ (le_a (by kernel_rfl)) rfl rfl (by kernel_rfl) (by kernel_rfl)

end Go.Proofs.YtijkipikefpopaaDoor
