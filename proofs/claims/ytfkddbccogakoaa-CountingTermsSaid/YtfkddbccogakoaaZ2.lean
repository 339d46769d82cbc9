/- Typed programs and what computes them. -/
import Derived.Test.YtfkddbccogakoaaZ1
set_option linter.unusedVariables false
set_option linter.unusedSimpArgs false
set_option maxRecDepth 100000
namespace Go.Proofs.Ytfkddbccogakoaa
open Go Go.RowKit Go.Proofs
attribute [local irreducible] NStep StepA EStep LeSt
def counting_counter_before_h2_l1 (a0 : La) (a2 : List Int) (a3 : Int) (a4 : List Tm) (r26 : (La) → (List (ByteArray × Int)) → (List Int) → (Int) → (List Tm) → Option ((Int) × (List (ByteArray × Int)))) (v2 : List Int) (v3 : (Int) × (Int) × (List (ByteArray × Int))) : Option (((Int) × (Int) × (List (ByteArray × Int))) ⊕ ((((Int) × (List (ByteArray × Int))) ⊕ ((Int) × (List (ByteArray × Int)))))) := (bif (decide (v3.2.1 < (List.length v2 : Int))) then (Option.bind (idx v2 v3.2.1) fun v4 => (Option.bind (idx a0.rules v4) fun v5 => (Option.bind (counting_args (v5)) fun v6 => (Option.bind (cutL a2 1 (List.length a2)) fun v7 => (Option.bind (counting_joined (v6) (v7)) fun v8 => (Option.bind (idx a4 0) fun v9 => (bif (decide (v4 < v9.rule)) then (Option.bind (counting_counter_lists_h3 (counting_counter_terms_h2 fuel) fuel (a0) (v3.2.2) (v8) ((w64 (a3 - 1)))) fun v10 => (some (.inl ((w64 (v3.1 + v10.1)), (w64 (v3.2.1 + 1)), v10.2)))) else (Option.bind ((Option.bind (idx a4 0) fun v11 => (bif List.isEmpty v11.args then (Option.bind (cutL a4 1 (List.length a4)) fun v15 => (bif List.isEmpty v15 then (some (([] : List (Tm)))) else (Option.bind (appN 32 ([] : List (Tm)) v15) fun v16 => (some (v16))))) else (Option.bind (appN 32 ([] : List (Tm)) v11.args) fun v12 => (Option.bind (cutL a4 1 (List.length a4)) fun v13 => (Option.bind (app 32 v12 v13) fun v14 => (some (v14))))))) : Option ((List Tm))) fun (v20 : (List Tm)) => (Option.bind (r26 (a0) (v3.2.2) (v8) ((w64 (a3 - 1))) (v20)) fun v21 => (some (.inr (.inr ((w64 (v3.1 + v21.1)), v21.2))))))))))))) else (some (.inr (.inl (v3.1, v3.2.2)))))
def counting_counter_before_h2_b (r26 : (La) → (List (ByteArray × Int)) → (List Int) → (Int) → (List Tm) → Option ((Int) × (List (ByteArray × Int)))) (a0 : La) (a1 : List (ByteArray × Int)) (a2 : List Int) (a3 : Int) (a4 : List Tm) : Option ((Int) × (List (ByteArray × Int))) := (bif ((List.length a2 : Int) == 0) then (some (0, a1)) else (Option.bind (idx a2 0) fun v1 => (Option.bind (grammar_Of (a0) (v1)) fun v2 => (Option.bind (loopN (counting_counter_before_h2_l1 a0 a2 a3 a4 r26 v2) fuel (0, 0, a1)) fun (v22 : (((Int) × (List (ByteArray × Int))) ⊕ ((Int) × (List (ByteArray × Int))))) => Sum.elim (fun v23 => (some (v23.1, v23.2))) (fun v24 => (some (v24.1, v24.2))) v22))))
theorem counting_counter_before_h2_b_ok (r26 : (La) → (List (ByteArray × Int)) → (List Int) → (Int) → (List Tm) → Option ((Int) × (List (ByteArray × Int)))) (ih26 : ∀ (x0 : La) (x1 : List (ByteArray × Int)) (x2 : List Int) (x3 : Int) (x4 : List Tm) r, r26 x0 x1 x2 x3 x4 = some r → HCall Try.prog 45 ([(.ref 1 0 0), (.fz ((eL 1 eI) (x2))), (fI (x3)), (.fz ((eL 2 eTmR) (x4)))] ++ []) [(1, (.box 83 [(fS (x0.name)), (.fz ((eL 1 eI) (x0.inputs))), (.fz ((eL 2 eSy) (x0.symbols))), (.fz ((eL 9 eRu) (x0.rules))), (.mp 2)])), (2, (.smap (List.map (fun p => (p.1, eI p.2)) (x1))))] [1, 2] (.ret (fI (r.1))) [(1, (.box 83 [(fS (x0.name)), (.fz ((eL 1 eI) (x0.inputs))), (.fz ((eL 2 eSy) (x0.symbols))), (.fz ((eL 9 eRu) (x0.rules))), (.mp 2)])), (2, (.smap (List.map (fun p => (p.1, eI p.2)) (r.2))))] [1, 2]) (a0 : La) (a1 : List (ByteArray × Int)) (a2 : List Int) (a3 : Int) (a4 : List Tm) (r : (Int) × (List (ByteArray × Int))) (h : counting_counter_before_h2_b r26 a0 a1 a2 a3 a4 = some r) : HCall Try.prog 45 ([(.ref 1 0 0), (.fz ((eL 1 eI) (a2))), (fI (a3)), (.fz ((eL 2 eTmR) (a4)))] ++ []) [(1, (.box 83 [(fS (a0.name)), (.fz ((eL 1 eI) (a0.inputs))), (.fz ((eL 2 eSy) (a0.symbols))), (.fz ((eL 9 eRu) (a0.rules))), (.mp 2)])), (2, (.smap (List.map (fun p => (p.1, eI p.2)) (a1))))] [1, 2] (.ret (fI (r.1))) [(1, (.box 83 [(fS (a0.name)), (.fz ((eL 1 eI) (a0.inputs))), (.fz ((eL 2 eSy) (a0.symbols))), (.fz ((eL 9 eRu) (a0.rules))), (.mp 2)])), (2, (.smap (List.map (fun p => (p.1, eI p.2)) (r.2))))] [1, 2] := by
 unfold counting_counter_before_h2_b at h
 refine hcx (gi := 0) Try.func45 (by kernel_rfl) (by kernel_rfl) (by kernel_rfl) (by kernel_rfl) (by kernel_rfl) (by kernel_rfl) (by kernel_rfl) (by kernel_rfl) ?_
 intro p0 q0 w0
 refine cd 11 h (by kernel_rfl) (fun h => ?_) fun h => ?_
 ·obtain rfl := Option.some.inj h; exact lh 5 ⟨74, [(8, (fI (0)))], [(0, (.was p0 [1, 2] q0 w0)), (1, (.box 83 [(fS (a0.name)), (.fz ((eL 1 eI) (a0.inputs))), (.fz ((eL 2 eSy) (a0.symbols))), (.fz ((eL 9 eRu) (a0.rules))), (.mp 2)])), (2, (.smap (List.map (fun p => (p.1, eI p.2)) (a1))))], [0, 1, 2], []⟩ (le_a (by kernel_rfl)) rfl rfl (by kernel_rfl) (by kernel_rfl)
 refine dw 7 10 (by kernel_rfl) ?_
 refine ix nI 5 h (by kernel_rfl) fun v1 h => ?_
 refine cl 1 h (grammar_Of_ok _ _) (by kernel_rfl) fun v2 h => ?_
 refine lpx 5 (fun v3 => ⟨74, [(0, (.ref 1 0 0)), (1, (.fz ((eL 1 eI) (a2)))), (2, (fI (a3))), (3, (.fz ((eL 2 eTmR) (a4)))), (9, (fI (v3.1))), (24, (.fz ((eL 1 eI) (v2)))), (25, (fI ((List.length v2 : Int)))), (26, (fI (v3.2.1)))], [(0, (.was p0 [1, 2] q0 w0)), (1, (.box 83 [(fS (a0.name)), (.fz ((eL 1 eI) (a0.inputs))), (.fz ((eL 2 eSy) (a0.symbols))), (.fz ((eL 9 eRu) (a0.rules))), (.mp 2)])), (2, (.smap (List.map (fun p => (p.1, eI p.2)) (v3.2.2))))], [0, 1, 2], []⟩) (fun v22 e st => Sum.elim (fun p => e = .exit 0 ∧ LeSt st ⟨74, [(9, (fI (p.1)))], [(0, (.was p0 [1, 2] q0 w0)), (1, (.box 83 [(fS (a0.name)), (.fz ((eL 1 eI) (a0.inputs))), (.fz ((eL 2 eSy) (a0.symbols))), (.fz ((eL 9 eRu) (a0.rules))), (.mp 2)])), (2, (.smap (List.map (fun p => (p.1, eI p.2)) (p.2))))], [0, 1, 2], []⟩) (fun p => e = .ret ∧ LeSt st ⟨74, [(8, (fI (p.1)))], [(0, (.was p0 [1, 2] q0 w0)), (1, (.box 83 [(fS (a0.name)), (.fz ((eL 1 eI) (a0.inputs))), (.fz ((eL 2 eSy) (a0.symbols))), (.fz ((eL 9 eRu) (a0.rules))), (.mp 2)])), (2, (.smap (List.map (fun p => (p.1, eI p.2)) (p.2))))], [0, 1, 2], []⟩) v22) h (by kernel_rfl) (le_a (by kernel_rfl)) (fun v3 r h => ?_) fun v22 h e st' hq => ?_
 ·unfold counting_counter_before_h2_l1 at h
  refine cd 5 h (by kernel_rfl) (fun h => ?_) fun h => ?_
  ·refine ix nI 5 h (by kernel_rfl) fun v4 h => ?_
   refine dw 4 11 (by kernel_rfl) ?_
   refine ix nRu 6 h (by kernel_rfl) fun v5 h => ?_
   refine cl 1 h (counting_args_ok _) (by kernel_rfl) fun v6 h => ?_
   obtain ⟨v7, hv7, h⟩ := Option.bind_eq_some_iff.1 h
   refine nst 1 (s_cutL (t := 22) (x := (.tmp 39)) (lo := (some (.const (.int .i64 1)))) (hi := none) (d := tt22) (e := 3) (de := tt3) (size := 1) (enc := eI) (xs := a2) (l := (some 1)) (h := none) hv7 tt_ok (by kernel_rfl) (by kernel_rfl) (by kernel_rfl) (by kernel_rfl) (by kernel_rfl) (by kernel_rfl) (by kernel_rfl) (by kernel_rfl)) (by kernel_rfl) ?_
   refine cl 1 h (counting_joined_ok _ _) (by kernel_rfl) fun v8 h => ?_
   refine ix nTmR 7 h (by kernel_rfl) fun v9 h => ?_
   refine cd 4 h (by kernel_rfl) (fun h => ?_) fun h => ?_
   ·refine hcl 7 [.one .keep, .one .keep, .one .keep] [(1, 1), (2, 2)] [(1, 1), (2, 2)] [1, 2] h (counting_counter_lists_h3_ok (counting_counter_terms_h2 fuel) (counting_counter_terms_h2_ok fuel) fuel _ _ _ _) (fun _ => by kernel_rfl) fun v10 h => ?_
    cases h; exact lj 8 (by kernel_rfl)
   refine jn1 2 .normal (fun v20 => ⟨74, [(0, (.ref 1 0 0)), (2, (fI (a3))), (9, (fI (v3.1))), (12, (.fz ((eL 1 eI) (v8)))), (13, (.fz ((eL 2 eTmR) (v20))))], [(0, (.was p0 [1, 2] q0 w0)), (1, (.box 83 [(fS (a0.name)), (.fz ((eL 1 eI) (a0.inputs))), (.fz ((eL 2 eSy) (a0.symbols))), (.fz ((eL 9 eRu) (a0.rules))), (.mp 2)])), (2, (.smap (List.map (fun p => (p.1, eI p.2)) (v3.2.2))))], [0, 1, 2], []⟩) h (by kernel_rfl) (fun v20 h => ?_) fun v20 h => ?_
   ·refine dz 0 8 [5] [3] (List.range 4) (by kernel_rfl) ?_
    refine nst 0 ((nstep_co (st' := ⟨74, [], [], [], []⟩) (ids := []) (ts := []) (by kernel_rfl) (nstep_ok (c := .lim 2 0 []) tt_ok (by kernel_rfl))).eqv (show AV.lim 2 0 [] = .lim 2 0 (List.map eTmR ([] : List (Tm))) by rfl)) (by kernel_rfl) ?_
    refine ix nTmR 1 h (by kernel_rfl) fun v11 h => ?_
    refine gdb 2 h (fun hE18 h => ?_) fun hE18 h => ?_
    ·refine zst 0 ((s_appLit0 (t := 28) (X := (.tmp 55)) (Y := (.tmp 59)) (d := tt28) (e := 30) (de := tt30) (enc := eTmR) (xs := ([] : List (Tm))) (ys := v11.args) (n := List.length ([] : List (Tm))) (m := List.length v11.args) hE18 tt_ok (by kernel_rfl) (by kernel_rfl) (by kernel_rfl) (by kernel_rfl) (by kernel_rfl) (.inl (by kernel_rfl))).step) (by kernel_rfl) (by kernel_rfl) (by kernel_rfl) ?_
     obtain ⟨v15, hv15, h⟩ := Option.bind_eq_some_iff.1 h
     refine nst 1 (s_cutL (t := 28) (x := (.tmp 61)) (lo := (some (.const (.int .i64 1)))) (hi := none) (d := tt28) (e := 30) (de := tt30) (size := 2) (enc := eTmR) (xs := a4) (l := (some 1)) (h := none) hv15 tt_ok (by kernel_rfl) (by kernel_rfl) (by kernel_rfl) (by kernel_rfl) (by kernel_rfl) (by kernel_rfl) (by kernel_rfl) (by kernel_rfl)) (by kernel_rfl) ?_
     refine gdb 1 h (fun hE17 h => ?_) fun hE17 h => ?_
     ·refine nst 0 (s_appLit0 (t := 28) (X := (.tmp 60)) (Y := (.tmp 62)) (d := tt28) (e := 30) (de := tt30) (enc := eTmR) (xs := ([] : List (Tm))) (ys := v15) (n := List.length ([] : List (Tm))) (m := List.length v15) hE17 tt_ok (by kernel_rfl) (by kernel_rfl) (by kernel_rfl) (by kernel_rfl) (by kernel_rfl) (.inl (by kernel_rfl))) (by kernel_rfl) ?_
      cases h; exact lj 2 (by kernel_rfl)
     obtain ⟨v16, hv16, h⟩ := Option.bind_eq_some_iff.1 h
     refine sst 0 (s_appLit (t := 28) (X := (.tmp 60)) (Y := (.tmp 62)) (d := tt28) (e := 30) (de := tt30) (enc := eTmR) (xs := ([] : List (Tm))) (ys := v15) (n := List.length ([] : List (Tm))) (m := List.length v15) (id := 3) hv16 tt_ok (by kernel_rfl) (by kernel_rfl) (by kernel_rfl) (by kernel_rfl) (by kernel_rfl) (by kernel_rfl) (by kernel_rfl) (by kernel_rfl) (.inl (by kernel_rfl)) (by kernel_rfl)) (by kernel_rfl) ?_
     obtain rfl := Option.some.inj h; exact ljx 2 (LeSt.trans (le_freezeTs (id := 3) (n := List.length (v16)) (e := 30) (size := 2) (xs := List.map eTmR (v16)) [13] ⟨by kernel_rfl, trivial⟩ (by kernel_rfl) (by simp)) (le_a (by kernel_rfl))) (by kernel_rfl)
    obtain ⟨v12, hv12, h⟩ := Option.bind_eq_some_iff.1 h
    refine zst 0 (s_appLit (t := 28) (X := (.tmp 55)) (Y := (.tmp 59)) (d := tt28) (e := 30) (de := tt30) (enc := eTmR) (xs := ([] : List (Tm))) (ys := v11.args) (n := List.length ([] : List (Tm))) (m := List.length v11.args) (id := 3) hv12 tt_ok (by kernel_rfl) (by kernel_rfl) (by kernel_rfl) (by kernel_rfl) (by kernel_rfl) (by kernel_rfl) (by kernel_rfl) (by kernel_rfl) (.inl (by kernel_rfl)) (by kernel_rfl)) (by kernel_rfl) (by kernel_rfl) (by kernel_rfl) ?_
    obtain ⟨v13, hv13, h⟩ := Option.bind_eq_some_iff.1 h
    refine nst 1 (s_cutL (t := 28) (x := (.tmp 61)) (lo := (some (.const (.int .i64 1)))) (hi := none) (d := tt28) (e := 30) (de := tt30) (size := 2) (enc := eTmR) (xs := a4) (l := (some 1)) (h := none) hv13 tt_ok (by kernel_rfl) (by kernel_rfl) (by kernel_rfl) (by kernel_rfl) (by kernel_rfl) (by kernel_rfl) (by kernel_rfl) (by kernel_rfl)) (by kernel_rfl) ?_
    refine ap nTmR 1 h (by kernel_rfl) fun v14 h => ?_
    obtain rfl := Option.some.inj h; exact ljx 2 (LeSt.trans (le_freezeTs (id := 3) (n := List.length (v14)) (e := 30) (size := 2) (xs := List.map eTmR (v14)) [13] ⟨by kernel_rfl, trivial⟩ (by kernel_rfl) (by simp)) (le_a (by kernel_rfl))) (by kernel_rfl)
   refine hcl 8 [.one .keep, .one .keep, .one .keep, .one .keep] [(1, 1), (2, 2)] [(1, 1), (2, 2)] [1, 2] h (ih26 _ _ _ _ _) (fun _ => by kernel_rfl) fun v21 h => ?_
   cases h; exact lo 4 (by kernel_rfl)
  cases h; exact lo 1 (by kernel_rfl)
 rcases v22 with v23 | v24
 ·try simp only [Sum.elim_inl, Sum.elim_inr] at h
  obtain ⟨rfl, hle⟩ := hq
  refine ⟨_, hle, ?_⟩
  obtain rfl := Option.some.inj h; exact lh 6 ⟨74, [(8, (fI (v23.1)))], [(0, (.was p0 [1, 2] q0 w0)), (1, (.box 83 [(fS (a0.name)), (.fz ((eL 1 eI) (a0.inputs))), (.fz ((eL 2 eSy) (a0.symbols))), (.fz ((eL 9 eRu) (a0.rules))), (.mp 2)])), (2, (.smap (List.map (fun p => (p.1, eI p.2)) (v23.2))))], [0, 1, 2], []⟩ (le_a (by kernel_rfl)) rfl rfl (by kernel_rfl) (by kernel_rfl)
 ·try simp only [Sum.elim_inl, Sum.elim_inr] at h
  obtain ⟨rfl, hle⟩ := hq
  refine ⟨_, hle, ?_⟩
  obtain rfl := Option.some.inj h; exact lh 0 ⟨74, [(8, (fI (v24.1)))], [(0, (.was p0 [1, 2] q0 w0)), (1, (.box 83 [(fS (a0.name)), (.fz ((eL 1 eI) (a0.inputs))), (.fz ((eL 2 eSy) (a0.symbols))), (.fz ((eL 9 eRu) (a0.rules))), (.mp 2)])), (2, (.smap (List.map (fun p => (p.1, eI p.2)) (v24.2))))], [0, 1, 2], []⟩ (le_a (by kernel_rfl)) rfl rfl (by kernel_rfl) (by kernel_rfl)
def counting_counter_before_h2 : Nat → (La) → (List (ByteArray × Int)) → (List Int) → (Int) → (List Tm) → Option ((Int) × (List (ByteArray × Int)))
  | 0 => fun _ _ _ _ _ => none
  | n + 1 => counting_counter_before_h2_b (counting_counter_before_h2 n)
theorem counting_counter_before_h2_ok : ∀ n : Nat, ∀ (x0 : La) (x1 : List (ByteArray × Int)) (x2 : List Int) (x3 : Int) (x4 : List Tm) r, counting_counter_before_h2 n x0 x1 x2 x3 x4 = some r → HCall Try.prog 45 ([(.ref 1 0 0), (.fz ((eL 1 eI) (x2))), (fI (x3)), (.fz ((eL 2 eTmR) (x4)))] ++ []) [(1, (.box 83 [(fS (x0.name)), (.fz ((eL 1 eI) (x0.inputs))), (.fz ((eL 2 eSy) (x0.symbols))), (.fz ((eL 9 eRu) (x0.rules))), (.mp 2)])), (2, (.smap (List.map (fun p => (p.1, eI p.2)) (x1))))] [1, 2] (.ret (fI (r.1))) [(1, (.box 83 [(fS (x0.name)), (.fz ((eL 1 eI) (x0.inputs))), (.fz ((eL 2 eSy) (x0.symbols))), (.fz ((eL 9 eRu) (x0.rules))), (.mp 2)])), (2, (.smap (List.map (fun p => (p.1, eI p.2)) (r.2))))] [1, 2]
  | 0 => fun _ _ _ _ _ _ h => by cases h
  | n + 1 => fun a0 a1 a2 a3 a4 r h => counting_counter_before_h2_b_ok (counting_counter_before_h2 n) (counting_counter_before_h2_ok n) a0 a1 a2 a3 a4 r h

def counting_Index (a0 : La) (a1 : Int) (a2 : Tm) : Option ((Int) × (Int)) := (Option.bind (grammar_Check (a0)) fun v1 => (bif (v1 != 0) then (some (0, v1)) else (Option.bind ((bif (decide (a1 < 0)) then (some (true)) else (some ((decide ((List.length a0.symbols : Int) ≤ a1))))) : Option ((Bool))) fun (v3 : (Bool)) => (bif v3 then (some (0, 1)) else (Option.bind (counting_measure fuel (a0) (a1) (a2)) fun v4 => (bif (!v4.2) then (some (0, 4)) else (bif (decide (24 < v4.1)) then (some (0, 1)) else (Option.bind (counting_Count (a0) (a1) (v4.1)) fun v5 => (bif (v5.2 != 0) then (some (0, v5.2)) else (Option.bind (counting_open_h (a0)) fun v6 => (Option.bind (counting_counter_before_h2 fuel (a0) (([] : List (ByteArray × Int))) (([a1] : List (Int))) (v4.1) (([a2] : List (Tm)))) fun v7 => (some (v7.1, 0)))))))))))))
theorem counting_Index_ok (a0 : La) (a1 : Int) (a2 : Tm) (r : (Int) × (Int)) (h : counting_Index a0 a1 a2 = some r) : PCall Try.prog 21 [eLa a0, eI a1, eTm a2] (.tup [eI (r.1), eI (r.2)]) := by
 unfold counting_Index at h
 refine pcl [.one .keep, .one .keep] Try.func21 (by kernel_rfl) (by kernel_rfl) (by kernel_rfl) ?_
 refine cl 11 h (grammar_Check_ok _) (by kernel_rfl) fun v1 h => ?_
 refine cd 7 h (by kernel_rfl) (fun h => ?_) fun h => ?_
 ·cases h; exact lq 7 (by kernel_rfl)
 refine jn1 3 .normal (fun v3 => ⟨58, [(1, (fI (a1))), (3, (.ref 1 0 0)), (5, (.ref 2 0 0)), (26, (fB (v3)))], [(1, (.box 26 [(fS (a0.name)), (.fz ((eL 1 eI) (a0.inputs))), (.fz ((eL 2 eSy) (a0.symbols))), (.fz ((eL 9 eRu) (a0.rules)))])), (2, (.box 30 [(fI (a2.rule)), (.fz ((eL 2 eTmR) (a2.args)))]))], [2, 1], []⟩) h (by kernel_rfl) (fun v3 h => ?_) fun v3 h => ?_
 ·refine gd 4 h (by kernel_rfl) (fun h => ?_) fun h => ?_
  ·cases h; exact lj 7 (by kernel_rfl)
  cases h; exact lj 7 (by kernel_rfl)
 refine cd 0 h (by kernel_rfl) (fun h => ?_) fun h => ?_
 ·cases h; exact lq 6 (by kernel_rfl)
 refine cl 6 h (counting_measure_ok _ _ _ _) (by kernel_rfl) fun v4 h => ?_
 refine cd 14 h (by kernel_rfl) (fun h => ?_) fun h => ?_
 ·cases h; exact lq 6 (by kernel_rfl)
 refine cd 6 h (by kernel_rfl) (fun h => ?_) fun h => ?_
 ·cases h; exact lq 6 (by kernel_rfl)
 refine cl 7 h (counting_Count_ok _ _ _) (by kernel_rfl) fun v5 h => ?_
 refine cd 11 h (by kernel_rfl) (fun h => ?_) fun h => ?_
 ·cases h; exact lq 7 (by kernel_rfl)
 refine dz 2 7 [1] [3, 4] (List.range 5) (by kernel_rfl) ?_
 refine hclZ 1 [.one .keep] [] [(2, 3), (3, 4)] [] h (counting_open_h_ok _) (fun _ => by kernel_rfl) (by kernel_rfl) (fun _ => by kernel_rfl) fun v6 h => ?_
 refine nst 4 ((nstep_co (st' := ⟨58, [(55, (.fz (eTm (a2))))], [], [], []⟩) (ids := []) (ts := [(55, (.one .keep))]) (by kernel_rfl) (nstep_ok (c := .lim 2 1 [eTm (a2)]) tt_ok (by kernel_rfl))).eqv (show AV.lim 2 1 [eTm (a2)] = .lim 2 1 (List.map eTmR ([a2] : List (Tm))) by simp only [List.map, eTmR_eq])) (by kernel_rfl) ?_
 refine hcl 1 [.one .keep, (.one (.sl 1)), .one .keep, (.one (.sl 2))] [(4, 1), (3, 2)] [(1, 4), (2, 3)] [1, 2] h (counting_counter_before_h2_ok fuel _ _ _ _ _) (fun _ => by kernel_rfl) fun v7 h => ?_
 cases h; exact lq 4 (by kernel_rfl)

def synthesislaw12_pair_m0 : List (Nat × AObj) := [(1, (.box 26 [(fS ((⟨#[]⟩ : ByteArray))), (.fz (.atom (.slice none 0 0))), (.fz (.atom (.slice none 0 0))), (.fz (.atom (.slice none 0 0)))]))]
def synthesislaw12_pair  : Option (La) := (some (La.mk ((⟨#[110]⟩ : ByteArray)) (([2] : List (Int))) (([(Sy.mk ((⟨#[83]⟩ : ByteArray)) (2))] : List (Sy))) (([(Ru.mk (0) (1) (0) ((Va.mk (0) (0) ((⟨#[]⟩ : ByteArray)) (([] : List Va)))) ((⟨#[]⟩ : ByteArray)) (([] : List Int))), (Ru.mk (0) (3) (0) ((Va.mk (0) (0) ((⟨#[]⟩ : ByteArray)) (([] : List Va)))) ((⟨#[97, 100, 100]⟩ : ByteArray)) (([0, 0] : List (Int))))] : List (Ru)))))
theorem synthesislaw12_pair_ok  (r : La) (h : synthesislaw12_pair  = some r) : PCall Try.prog 26 [] (eLa (r)) := by
 unfold synthesislaw12_pair at h
 refine pcl [.ag [.keep, .sl 1, .sl 2, .sl 9]] Try.func26 (by kernel_rfl) (by kernel_rfl) (by kernel_rfl) ?_
 refine wle 12 ((le_a (by kernel_rfl) : LeSt _ ⟨9, [(0, (.ref 1 0 0)), (1, (.lim 1 (List.length (([2] : List (Int)))) (List.map eI (([2] : List (Int)))))), (3, (.lim 2 (List.length (([(Sy.mk ((⟨#[83]⟩ : ByteArray)) (2))] : List (Sy)))) (List.map eSy (([(Sy.mk ((⟨#[83]⟩ : ByteArray)) (2))] : List (Sy)))))), (4, (.fz (eRu ((Ru.mk (0) (1) (0) ((Va.mk (0) (0) ((⟨#[]⟩ : ByteArray)) (([] : List Va)))) ((⟨#[]⟩ : ByteArray)) (([] : List Int))))))), (6, (.agg [(fI (0)), (fI (3)), (fI (0)), (fI (0)), (fI (0)), (fS ((⟨#[]⟩ : ByteArray))), (.fz (.atom (.slice none 0 0))), (fS ((⟨#[97, 100, 100]⟩ : ByteArray))), (.lim 1 (List.length (([0, 0] : List (Int)))) (List.map eI (([0, 0] : List (Int)))))]))], (synthesislaw12_pair_m0), [1], []⟩)) (by kernel_rfl) ?_
 refine wle 0 ((le_a (by kernel_rfl) : LeSt _ ⟨9, [(0, (.ref 1 0 0)), (1, (.lim 1 (List.length (([2] : List (Int)))) (List.map eI (([2] : List (Int)))))), (3, (.lim 2 (List.length (([(Sy.mk ((⟨#[83]⟩ : ByteArray)) (2))] : List (Sy)))) (List.map eSy (([(Sy.mk ((⟨#[83]⟩ : ByteArray)) (2))] : List (Sy)))))), (4, (.fz (eRu ((Ru.mk (0) (1) (0) ((Va.mk (0) (0) ((⟨#[]⟩ : ByteArray)) (([] : List Va)))) ((⟨#[]⟩ : ByteArray)) (([] : List Int))))))), (6, (.fz (eRu ((Ru.mk (0) (3) (0) ((Va.mk (0) (0) ((⟨#[]⟩ : ByteArray)) (([] : List Va)))) ((⟨#[97, 100, 100]⟩ : ByteArray)) (([0, 0] : List (Int))))))))], (synthesislaw12_pair_m0), [1], []⟩)) (by kernel_rfl) ?_
 cases h; exact lq 5 (by kernel_rfl)

def synthesislaw12_alive  : Option (Bool) := (Option.bind (synthesislaw12_pair ) fun v1 => (Option.bind (counting_Count (v1) (0) (5)) fun v2 => (Option.bind (synthesislaw12_pair ) fun v3 => (Option.bind (counting_Total (v3) (0) (5)) fun v4 => (Option.bind (synthesislaw12_pair ) fun v5 => (Option.bind (counting_Term (v5) (0) (5) (0)) fun v6 => (Option.bind (synthesislaw12_pair ) fun v7 => (Option.bind (counting_Index (v7) (0) (v6.1)) fun v8 => (Option.bind (synthesislaw12_pair ) fun v9 => (Option.bind (counting_Least (v9)) fun v10 => (Option.bind ((bif (v2.2 != 0) then (some (true)) else (bif (v4.2 != 0) then (some (true)) else (bif (v6.2 != 0) then (some (true)) else (bif (v8.2 != 0) then (some (true)) else (bif (v10.2 != 0) then (some (true)) else (some (((List.length v10.1 : Int) != 1)))))))) : Option ((Bool))) fun (v12 : (Bool)) => (bif v12 then (some false) else (Option.bind ((bif (v2.1 == 2) then (bif (v4.1 == 4) then (Option.bind (synthesisref12_Same fuel (v6.1) ((Tm.mk (1) (([(Tm.mk (0) (([] : List Tm))), (Tm.mk (1) (([(Tm.mk (0) (([] : List Tm))), (Tm.mk (0) (([] : List Tm)))] : List (Tm))))] : List (Tm)))))) fun v13 => (bif v13 then (bif (v8.1 == 0) then (Option.bind (idx v10.1 0) fun v14 => (some ((v14 == 1)))) else (some (false))) else (some (false)))) else (some (false))) else (some (false))) : Option ((Bool))) fun (v16 : (Bool)) => (some v16))))))))))))))
theorem synthesislaw12_alive_ok  (r : Bool) (h : synthesislaw12_alive  = some r) : PCall Try.prog 11 [] (eB (r)) := by
 unfold synthesislaw12_alive at h
 refine pcl [.one .keep] Try.func11 (by kernel_rfl) (by kernel_rfl) (by kernel_rfl) ?_
 refine cl 6 h (synthesislaw12_pair_ok) (by kernel_rfl) fun v1 h => ?_
 refine cl 0 h (counting_Count_ok _ _ _) (by kernel_rfl) fun v2 h => ?_
 refine cl 8 h (synthesislaw12_pair_ok) (by kernel_rfl) fun v3 h => ?_
 refine cl 0 h (counting_Total_ok _ _ _) (by kernel_rfl) fun v4 h => ?_
 refine cl 8 h (synthesislaw12_pair_ok) (by kernel_rfl) fun v5 h => ?_
 refine cl 0 h (counting_Term_ok _ _ _ _) (by kernel_rfl) fun v6 h => ?_
 refine dw 8 7 (by kernel_rfl) ?_
 refine cl 0 h (synthesislaw12_pair_ok) (by kernel_rfl) fun v7 h => ?_
 refine cl 1 h (counting_Index_ok _ _ _) (by kernel_rfl) fun v8 h => ?_
 refine cl 9 h (synthesislaw12_pair_ok) (by kernel_rfl) fun v9 h => ?_
 refine cl 0 h (counting_Least_ok _) (by kernel_rfl) fun v10 h => ?_
 refine wle 16 ((le_a (by kernel_rfl) : LeSt _ ⟨91, [(1, (fI (v2.1))), (2, (fI (v2.2))), (3, (fI (v4.1))), (4, (fI (v4.2))), (5, (.ref 1 0 0)), (6, (fI (v6.2))), (7, (fI (v8.1))), (8, (fI (v8.2))), (9, (.fz ((eL 1 eI) (v10.1)))), (10, (fI (v10.2))), (11, (.ref 2 0 0)), (40, (.fz (eTm ((Tm.mk (0) (([] : List Tm))))))), (41, (.fz (.agg [(eI (0)), (.atom (.slice none 0 0))])))], [(1, (.box 30 [(fI (v6.1.rule)), (.fz ((eL 2 eTmR) (v6.1.args)))])), (2, (.box 30 [(fI (0)), (.fz (.atom (.slice none 0 0)))]))], [2, 1], []⟩)) (by kernel_rfl) ?_
 refine wle 0 ((le_a (by kernel_rfl) : LeSt _ ⟨91, [(1, (fI (v2.1))), (2, (fI (v2.2))), (3, (fI (v4.1))), (4, (fI (v4.2))), (5, (.ref 1 0 0)), (6, (fI (v6.2))), (7, (fI (v8.1))), (8, (fI (v8.2))), (9, (.fz ((eL 1 eI) (v10.1)))), (10, (fI (v10.2))), (11, (.ref 2 0 0)), (40, (.fz (eTm ((Tm.mk (0) (([] : List Tm))))))), (41, (.fz (eTm ((Tm.mk (0) (([] : List Tm)))))))], [(1, (.box 30 [(fI (v6.1.rule)), (.fz ((eL 2 eTmR) (v6.1.args)))])), (2, (.box 30 [(fI (0)), (.fz (.atom (.slice none 0 0)))]))], [2, 1], []⟩)) (by kernel_rfl) ?_
 refine wle 1 (le_eq (t := 42) (x := .lim 2 2 [eTm ((Tm.mk (0) (([] : List Tm)))), eTm ((Tm.mk (0) (([] : List Tm))))]) (y := .lim 2 2 (List.map eTmR ([(Tm.mk (0) (([] : List Tm))), (Tm.mk (0) (([] : List Tm)))] : List (Tm)))) (by kernel_rfl) (by simp only [List.map, eTmR_eq])) (by kernel_rfl) ?_
 refine jn1 6 .normal (fun v12 => ⟨91, [(1, (fI (v2.1))), (3, (fI (v4.1))), (5, (.ref 1 0 0)), (7, (fI (v8.1))), (9, (.fz ((eL 1 eI) (v10.1)))), (11, (.ref 2 0 0)), (12, (.ref 3 0 0)), (66, (fB (v12)))], [(1, (.box 30 [(fI (v6.1.rule)), (.fz ((eL 2 eTmR) (v6.1.args)))])), (2, (.box 30 [(fI (0)), (.fz (.atom (.slice none 0 0)))])), (3, (.box 30 [(fI (1)), (.lim 2 (List.length (([(Tm.mk (0) (([] : List Tm))), (Tm.mk (0) (([] : List Tm)))] : List (Tm)))) (List.map eTmR (([(Tm.mk (0) (([] : List Tm))), (Tm.mk (0) (([] : List Tm)))] : List (Tm)))))]))], [3, 2, 1], []⟩) h (by kernel_rfl) (fun v12 h => ?_) fun v12 h => ?_
 ·refine gd 4 h (by kernel_rfl) (fun h => ?_) fun h => ?_
  ·cases h; exact lj 21 (by kernel_rfl)
  refine gd 4 h (by kernel_rfl) (fun h => ?_) fun h => ?_
  ·cases h; exact lj 17 (by kernel_rfl)
  refine gd 4 h (by kernel_rfl) (fun h => ?_) fun h => ?_
  ·cases h; exact lj 13 (by kernel_rfl)
  refine gd 4 h (by kernel_rfl) (fun h => ?_) fun h => ?_
  ·cases h; exact lj 9 (by kernel_rfl)
  refine gd 4 h (by kernel_rfl) (fun h => ?_) fun h => ?_
  ·cases h; exact lj 5 (by kernel_rfl)
  cases h; exact lj 5 (by kernel_rfl)
 refine cd 0 h (by kernel_rfl) (fun h => ?_) fun h => ?_
 ·cases h; exact lq 5 (by kernel_rfl)
 refine jn1 2 .normal (fun v16 => ⟨91, [(0, (fB (v16)))], [], [], []⟩) h (by kernel_rfl) (fun v16 h => ?_) fun v16 h => ?_
 ·refine gd 4 h (by kernel_rfl) (fun h => ?_) fun h => ?_
  ·refine gd 4 h (by kernel_rfl) (fun h => ?_) fun h => ?_
   ·refine wle 3 ((le_a (by kernel_rfl) : LeSt _ ⟨91, [(7, (fI (v8.1))), (9, (.fz ((eL 1 eI) (v10.1)))), (73, (fB (true))), (74, (.fz (eTm (v6.1)))), (75, (.fz (eTm ((Tm.mk (0) (([] : List Tm))))))), (76, (.agg [(fI (1)), (.lim 2 (List.length (([(Tm.mk (0) (([] : List Tm))), (Tm.mk (0) (([] : List Tm)))] : List (Tm)))) (List.map eTmR (([(Tm.mk (0) (([] : List Tm))), (Tm.mk (0) (([] : List Tm)))] : List (Tm)))))]))], [], [], []⟩)) (by kernel_rfl) ?_
    refine wle 0 ((le_a (by kernel_rfl) : LeSt _ ⟨91, [(7, (fI (v8.1))), (9, (.fz ((eL 1 eI) (v10.1)))), (73, (fB (true))), (74, (.fz (eTm (v6.1)))), (75, (.fz (eTm ((Tm.mk (0) (([] : List Tm))))))), (76, (.fz (eTm ((Tm.mk (1) (([(Tm.mk (0) (([] : List Tm))), (Tm.mk (0) (([] : List Tm)))] : List (Tm))))))))], [], [], []⟩)) (by kernel_rfl) ?_
    refine wle 1 (le_eq (t := 77) (x := .lim 2 2 [eTm ((Tm.mk (0) (([] : List Tm)))), eTm ((Tm.mk (1) (([(Tm.mk (0) (([] : List Tm))), (Tm.mk (0) (([] : List Tm)))] : List (Tm)))))]) (y := .lim 2 2 (List.map eTmR ([(Tm.mk (0) (([] : List Tm))), (Tm.mk (1) (([(Tm.mk (0) (([] : List Tm))), (Tm.mk (0) (([] : List Tm)))] : List (Tm))))] : List (Tm)))) (by kernel_rfl) (by simp only [List.map, eTmR_eq])) (by kernel_rfl) ?_
    refine cl 1 h (synthesisref12_Same_ok _ _ _) (by kernel_rfl) fun v13 h => ?_
    refine gd 2 h (by kernel_rfl) (fun h => ?_) fun h => ?_
    ·refine gd 4 h (by kernel_rfl) (fun h => ?_) fun h => ?_
     ·refine ix nI 1 h (by kernel_rfl) fun v14 h => ?_
      cases h; exact lj 5 (by kernel_rfl)
     cases h; exact lj 7 (by kernel_rfl)
    cases h; exact lj 11 (by kernel_rfl)
   cases h; exact lj 19 (by kernel_rfl)
  cases h; exact lj 23 (by kernel_rfl)
 cases h; exact lq 1 (by kernel_rfl)

def synthesisref11_Name_l1 (a0 : ByteArray) (v1 : (Int)) : Option (((Int)) ⊕ (((Unit) ⊕ (Bool)))) := (bif (decide (v1 < (a0.size : Int))) then (Option.bind ((Option.bind (byt a0 v1) fun v2 => (bif (decide (97 ≤ v2)) then (Option.bind (byt a0 v1) fun v3 => (bif (decide (v3 ≤ 122)) then (some (true)) else (Option.bind (byt a0 v1) fun v4 => (bif (decide (65 ≤ v4)) then (Option.bind (byt a0 v1) fun v5 => (some ((decide (v5 ≤ 90))))) else (some (false)))))) else (Option.bind (byt a0 v1) fun v6 => (bif (decide (65 ≤ v6)) then (Option.bind (byt a0 v1) fun v7 => (some ((decide (v7 ≤ 90))))) else (some (false)))))) : Option ((Bool))) fun (v9 : (Bool)) => (Option.bind ((bif (!v9) then (bif (v1 == 0) then (some (true)) else (Option.bind (byt a0 v1) fun v10 => (bif (v10 != 45) then (Option.bind (byt a0 v1) fun v11 => (bif (decide (v11 < 48)) then (some (true)) else (Option.bind (byt a0 v1) fun v12 => (some ((decide (57 < v12))))))) else (some (false))))) else (some (false))) : Option ((Bool))) fun (v14 : (Bool)) => (bif v14 then (some (.inr (.inr false))) else (some (.inl ((w64 (v1 + 1)))))))) else (some (.inr (.inl ()))))
def synthesisref11_Name (a0 : ByteArray) : Option (Bool) := (Option.bind (loopN (synthesisref11_Name_l1 a0) fuel (0)) fun (v15 : ((Unit) ⊕ (Bool))) => Sum.elim (fun v16 => (Option.bind ((bif (decide (1 ≤ (a0.size : Int))) then (some ((decide ((a0.size : Int) ≤ 24)))) else (some (false))) : Option ((Bool))) fun (v18 : (Bool)) => (some v18))) (fun v19 => (some v19)) v15)
theorem synthesisref11_Name_ok (a0 : ByteArray) (r : Bool) (h : synthesisref11_Name a0 = some r) : PCall Try.prog 59 [eS a0] (eB (r)) := by
 unfold synthesisref11_Name at h
 refine pcl [.one .keep] Try.func59 (by kernel_rfl) (by kernel_rfl) (by kernel_rfl) ?_
 refine lpx 10 (fun v1 => ⟨65, [(0, (fS (a0))), (3, (fI (v1)))], [], [], []⟩) (fun v15 e st => Sum.elim (fun p => e = .exit 0 ∧ LeSt st ⟨65, [(0, (fS (a0)))], [], [], []⟩) (fun p => e = .ret ∧ retX TT st Try.f59.results.toList [.one .keep] = some (eB (p))) v15) h (by kernel_rfl) (le_a (by kernel_rfl)) (fun v1 r h => ?_) fun v15 h e st' hq => ?_
 ·unfold synthesisref11_Name_l1 at h
  refine cd 8 h (by kernel_rfl) (fun h => ?_) fun h => ?_
  ·refine jn1 4 .normal (fun v9 => ⟨65, [(0, (fS (a0))), (3, (fI (v1))), (4, (fB (v9)))], [], [], []⟩) h (by kernel_rfl) (fun v9 h => ?_) fun v9 h => ?_
   ·refine byx 3 h (by kernel_rfl) fun v2 h => ?_
    refine gd 2 h (by kernel_rfl) (fun h => ?_) fun h => ?_
    ·refine byx 2 h (by kernel_rfl) fun v3 h => ?_
     refine gd 3 h (by kernel_rfl) (fun h => ?_) fun h => ?_
     ·cases h; exact lj 13 (by kernel_rfl)
     refine byx 2 h (by kernel_rfl) fun v4 h => ?_
     refine gd 2 h (by kernel_rfl) (fun h => ?_) fun h => ?_
     ·refine byx 2 h (by kernel_rfl) fun v5 h => ?_
      cases h; exact lj 5 (by kernel_rfl)
     cases h; exact lj 8 (by kernel_rfl)
    refine byx 8 h (by kernel_rfl) fun v6 h => ?_
    refine gd 2 h (by kernel_rfl) (fun h => ?_) fun h => ?_
    ·refine byx 2 h (by kernel_rfl) fun v7 h => ?_
     cases h; exact lj 5 (by kernel_rfl)
    cases h; exact lj 8 (by kernel_rfl)
   refine jn1 1 .normal (fun v14 => ⟨65, [(0, (fS (a0))), (3, (fI (v1))), (56, (fB (v14)))], [], [], []⟩) h (by kernel_rfl) (fun v14 h => ?_) fun v14 h => ?_
   ·refine gd 4 h (by kernel_rfl) (fun h => ?_) fun h => ?_
    ·refine gd 3 h (by kernel_rfl) (fun h => ?_) fun h => ?_
     ·cases h; exact lj 19 (by kernel_rfl)
     refine byx 2 h (by kernel_rfl) fun v10 h => ?_
     refine gd 2 h (by kernel_rfl) (fun h => ?_) fun h => ?_
     ·refine byx 2 h (by kernel_rfl) fun v11 h => ?_
      refine gd 2 h (by kernel_rfl) (fun h => ?_) fun h => ?_
      ·cases h; exact lj 9 (by kernel_rfl)
      refine byx 2 h (by kernel_rfl) fun v12 h => ?_
      cases h; exact lj 6 (by kernel_rfl)
     cases h; exact lj 14 (by kernel_rfl)
    cases h; exact lj 22 (by kernel_rfl)
   refine cd 0 h (by kernel_rfl) (fun h => ?_) fun h => ?_
   ·cases h; exact lor 5 (by kernel_rfl)
   cases h; exact lj 6 (by kernel_rfl)
  cases h; exact lo 1 (by kernel_rfl)
 rcases v15 with v16 | v19
 ·try simp only [Sum.elim_inl, Sum.elim_inr] at h
  obtain ⟨rfl, hle⟩ := hq
  refine ⟨_, hle, ?_⟩
  refine jn1 1 .normal (fun v18 => ⟨65, [(2, (fB (v18)))], [], [], []⟩) h (by kernel_rfl) (fun v18 h => ?_) fun v18 h => ?_
  ·refine gd 5 h (by kernel_rfl) (fun h => ?_) fun h => ?_
   ·cases h; exact lj 6 (by kernel_rfl)
   cases h; exact lj 6 (by kernel_rfl)
  cases h; exact lq 1 (by kernel_rfl)
 ·try simp only [Sum.elim_inl, Sum.elim_inr] at h
  obtain ⟨rfl, hret⟩ := hq
  refine ⟨_, LeSt.refl, ?_⟩
  cases h; exact lv hret

def synthesisref11_typed (a0 : Int) : Option (Bool) := (Option.bind ((bif (decide (1 ≤ a0)) then (some ((decide (a0 ≤ 8)))) else (some (false))) : Option ((Bool))) fun (v2 : (Bool)) => (some v2))
theorem synthesisref11_typed_ok (a0 : Int) (r : Bool) (h : synthesisref11_typed a0 = some r) : PCall Try.prog 60 [eI a0] (eB (r)) := by
 unfold synthesisref11_typed at h
 refine pcl [.one .keep] Try.func60 (by kernel_rfl) (by kernel_rfl) (by kernel_rfl) ?_
 refine jn1 5 .normal (fun v2 => ⟨9, [(2, (fB (v2)))], [], [], []⟩) h (by kernel_rfl) (fun v2 h => ?_) fun v2 h => ?_
 ·refine gd 4 h (by kernel_rfl) (fun h => ?_) fun h => ?_
  ·cases h; exact lj 5 (by kernel_rfl)
  cases h; exact lj 5 (by kernel_rfl)
 cases h; exact lq 1 (by kernel_rfl)

def synthesisref01_sign (a0 : Bool) : Option (Int) := (bif a0 then (some (-1)) else (some 1))
theorem synthesisref01_sign_ok (a0 : Bool) (r : Int) (h : synthesisref01_sign a0 = some r) : PCall Try.prog 97 [eB a0] (eI (r)) := by
 unfold synthesisref01_sign at h
 refine pcl [.one .keep] Try.func97 (by kernel_rfl) (by kernel_rfl) (by kernel_rfl) ?_
 refine cd 9 h (by kernel_rfl) (fun h => ?_) fun h => ?_
 ·cases h; exact lq 5 (by kernel_rfl)
 cases h; exact lq 6 (by kernel_rfl)

def synthesisref01_Compare_b (r91 : (Va) → (Va) → Option (Int)) (r98 : (List Va) → (List Va) → Option (Int)) (a0 : Va) (a1 : Va) : Option (Int) := (bif (a0.type != a1.type) then (Option.bind (synthesisref01_sign ((decide (a0.type < a1.type)))) fun v1 => (some v1)) else (bif (a0.num != a1.num) then (Option.bind (synthesisref01_sign ((decide (a0.num < a1.num)))) fun v2 => (some v2)) else (bif (!(a0.text.toList == a1.text.toList)) then (Option.bind (synthesisref01_sign ((Op.bytesLess a0.text.toList a1.text.toList))) fun v3 => (some v3)) else (Option.bind (r98 (a0.items) (a1.items)) fun v4 => (some v4)))))
theorem synthesisref01_Compare_b_ok (r91 : (Va) → (Va) → Option (Int)) (r98 : (List Va) → (List Va) → Option (Int)) (ih91 : ∀ (x0 : Va) (x1 : Va) r, r91 x0 x1 = some r → PCall Try.prog 91 [eVa x0, eVa x1] (eI (r))) (ih98 : ∀ (x0 : List Va) (x1 : List Va) r, r98 x0 x1 = some r → PCall Try.prog 98 [(eL 4 eVaR) x0, (eL 4 eVaR) x1] (eI (r))) (a0 : Va) (a1 : Va) (r : Int) (h : synthesisref01_Compare_b r91 r98 a0 a1 = some r) : PCall Try.prog 91 [eVa a0, eVa a1] (eI (r)) := by
 unfold synthesisref01_Compare_b at h
 refine pcl [.one .keep] Try.func91 (by kernel_rfl) (by kernel_rfl) (by kernel_rfl) ?_
 refine cd 17 h (by kernel_rfl) (fun h => ?_) fun h => ?_
 ·refine cl 7 h (synthesisref01_sign_ok _) (by kernel_rfl) fun v1 h => ?_
  cases h; exact lq 3 (by kernel_rfl)
 refine cd 9 h (by kernel_rfl) (fun h => ?_) fun h => ?_
 ·refine cl 7 h (synthesisref01_sign_ok _) (by kernel_rfl) fun v2 h => ?_
  cases h; exact lq 3 (by kernel_rfl)
 refine cd 9 h (by kernel_rfl) (fun h => ?_) fun h => ?_
 ·refine cl 7 h (synthesisref01_sign_ok _) (by kernel_rfl) fun v3 h => ?_
  cases h; exact lq 3 (by kernel_rfl)
 refine cl 7 h (ih98 _ _) (by kernel_rfl) fun v4 h => ?_
 cases h; exact lq 3 (by kernel_rfl)
def synthesisref01_CompareAll_l1 (a0 : List Va) (a1 : List Va) (r91 : (Va) → (Va) → Option (Int)) (v1 : (Int)) : Option (((Int)) ⊕ (((Unit) ⊕ (Int)))) := (Option.bind ((bif (decide (v1 < (List.length a0 : Int))) then (some ((decide (v1 < (List.length a1 : Int))))) else (some (false))) : Option ((Bool))) fun (v3 : (Bool)) => (bif v3 then (Option.bind (idx a0 v1) fun v4 => (Option.bind (idx a1 v1) fun v5 => (Option.bind (r91 (v4) (v5)) fun v6 => (bif (v6 != 0) then (some (.inr (.inr v6))) else (some (.inl ((w64 (v1 + 1))))))))) else (some (.inr (.inl ())))))
def synthesisref01_CompareAll_b (r91 : (Va) → (Va) → Option (Int)) (r98 : (List Va) → (List Va) → Option (Int)) (a0 : List Va) (a1 : List Va) : Option (Int) := (Option.bind (loopN (synthesisref01_CompareAll_l1 a0 a1 r91) fuel (0)) fun (v7 : ((Unit) ⊕ (Int))) => Sum.elim (fun v8 => (bif ((List.length a0 : Int) == (List.length a1 : Int)) then (some 0) else (Option.bind (synthesisref01_sign ((decide ((List.length a0 : Int) < (List.length a1 : Int))))) fun v9 => (some v9)))) (fun v10 => (some v10)) v7)
theorem synthesisref01_CompareAll_b_ok (r91 : (Va) → (Va) → Option (Int)) (r98 : (List Va) → (List Va) → Option (Int)) (ih91 : ∀ (x0 : Va) (x1 : Va) r, r91 x0 x1 = some r → PCall Try.prog 91 [eVa x0, eVa x1] (eI (r))) (ih98 : ∀ (x0 : List Va) (x1 : List Va) r, r98 x0 x1 = some r → PCall Try.prog 98 [(eL 4 eVaR) x0, (eL 4 eVaR) x1] (eI (r))) (a0 : List Va) (a1 : List Va) (r : Int) (h : synthesisref01_CompareAll_b r91 r98 a0 a1 = some r) : PCall Try.prog 98 [(eL 4 eVaR) a0, (eL 4 eVaR) a1] (eI (r)) := by
 unfold synthesisref01_CompareAll_b at h
 refine pcl [.one .keep] Try.func98 (by kernel_rfl) (by kernel_rfl) (by kernel_rfl) ?_
 refine lpx 10 (fun v1 => ⟨42, [(0, (.fz ((eL 4 eVaR) (a0)))), (1, (.fz ((eL 4 eVaR) (a1)))), (5, (fI (v1)))], [], [], []⟩) (fun v7 e st => Sum.elim (fun p => e = .exit 0 ∧ LeSt st ⟨42, [(0, (.fz ((eL 4 eVaR) (a0)))), (1, (.fz ((eL 4 eVaR) (a1))))], [], [], []⟩) (fun p => e = .ret ∧ retX TT st Try.f98.results.toList [.one .keep] = some (eI (p))) v7) h (by kernel_rfl) (le_a (by kernel_rfl)) (fun v1 r h => ?_) fun v7 h e st' hq => ?_
 ·unfold synthesisref01_CompareAll_l1 at h
  refine jn1 2 .normal (fun v3 => ⟨42, [(0, (.fz ((eL 4 eVaR) (a0)))), (1, (.fz ((eL 4 eVaR) (a1)))), (5, (fI (v1))), (16, (fB (v3)))], [], [], []⟩) h (by kernel_rfl) (fun v3 h => ?_) fun v3 h => ?_
  ·refine gd 6 h (by kernel_rfl) (fun h => ?_) fun h => ?_
   ·cases h; exact lj 6 (by kernel_rfl)
   cases h; exact lj 6 (by kernel_rfl)
  refine cd 0 h (by kernel_rfl) (fun h => ?_) fun h => ?_
  ·refine dw 4 8 (by kernel_rfl) ?_
   refine ix nVaR 2 h (by kernel_rfl) fun v4 h => ?_
   refine ix nVaR 3 h (by kernel_rfl) fun v5 h => ?_
   refine cl 2 h (ih91 _ _) (by kernel_rfl) fun v6 h => ?_
   refine cd 7 h (by kernel_rfl) (fun h => ?_) fun h => ?_
   ·cases h; exact lor 6 (by kernel_rfl)
   cases h; exact lj 6 (by kernel_rfl)
  cases h; exact lo 1 (by kernel_rfl)
 rcases v7 with v8 | v10
 ·try simp only [Sum.elim_inl, Sum.elim_inr] at h
  obtain ⟨rfl, hle⟩ := hq
  refine ⟨_, hle, ?_⟩
  refine cd 9 h (by kernel_rfl) (fun h => ?_) fun h => ?_
  ·cases h; exact lq 5 (by kernel_rfl)
  refine cl 8 h (synthesisref01_sign_ok _) (by kernel_rfl) fun v9 h => ?_
  cases h; exact lq 3 (by kernel_rfl)
 ·try simp only [Sum.elim_inl, Sum.elim_inr] at h
  obtain ⟨rfl, hret⟩ := hq
  refine ⟨_, LeSt.refl, ?_⟩
  cases h; exact lv hret
def synthesisref01_Compare_all : Nat → ((Va) → (Va) → Option (Int)) × ((List Va) → (List Va) → Option (Int))
  | 0 => (fun _ _ => none, fun _ _ => none)
  | n + 1 => (synthesisref01_Compare_b ((synthesisref01_Compare_all n).1) ((synthesisref01_Compare_all n).2), synthesisref01_CompareAll_b ((synthesisref01_Compare_all n).1) ((synthesisref01_Compare_all n).2))
def synthesisref01_Compare (n : Nat) : (Va) → (Va) → Option (Int) := (synthesisref01_Compare_all n).1
def synthesisref01_CompareAll (n : Nat) : (List Va) → (List Va) → Option (Int) := (synthesisref01_Compare_all n).2
theorem synthesisref01_Compare_all_ok : ∀ n : Nat, (∀ (x0 : Va) (x1 : Va) r, synthesisref01_Compare n x0 x1 = some r → PCall Try.prog 91 [eVa x0, eVa x1] (eI (r))) ∧ (∀ (x0 : List Va) (x1 : List Va) r, synthesisref01_CompareAll n x0 x1 = some r → PCall Try.prog 98 [(eL 4 eVaR) x0, (eL 4 eVaR) x1] (eI (r)))
  | 0 => ⟨(fun _ _ _ h => nomatch h), (fun _ _ _ h => nomatch h)⟩
  | n + 1 => ⟨(synthesisref01_Compare_b_ok _ _ ((synthesisref01_Compare_all_ok n).1) ((synthesisref01_Compare_all_ok n).2)), (synthesisref01_CompareAll_b_ok _ _ ((synthesisref01_Compare_all_ok n).1) ((synthesisref01_Compare_all_ok n).2))⟩
theorem synthesisref01_Compare_ok (n : Nat) : ∀ (x0 : Va) (x1 : Va) r, synthesisref01_Compare n x0 x1 = some r → PCall Try.prog 91 [eVa x0, eVa x1] (eI (r)) := (synthesisref01_Compare_all_ok n).1
def synthesisref01_Equal (a0 : Va) (a1 : Va) : Option (Bool) := (Option.bind (synthesisref01_Compare fuel (a0) (a1)) fun v1 => (some (v1 == 0)))
theorem synthesisref01_Equal_ok (a0 : Va) (a1 : Va) (r : Bool) (h : synthesisref01_Equal a0 a1 = some r) : PCall Try.prog 78 [eVa a0, eVa a1] (eB (r)) := by
 unfold synthesisref01_Equal at h
 refine pcl [.one .keep] Try.func78 (by kernel_rfl) (by kernel_rfl) (by kernel_rfl) ?_
 refine cl 10 h (synthesisref01_Compare_ok _ _ _) (by kernel_rfl) fun v1 h => ?_
 cases h; exact lq 4 (by kernel_rfl)

def synthesisref11_zero (a0 : Ru) : Option (Bool) := (Option.bind (synthesisref01_Equal (a0.const) ((Va.mk (0) (0) ((⟨#[]⟩ : ByteArray)) (([] : List Va))))) fun v1 => (bif (a0.kind == 1) then (Option.bind ((bif v1 then (bif (a0.op.toList == (⟨#[]⟩ : ByteArray).toList) then (some (((List.length a0.args : Int) == 0))) else (some (false))) else (some (false))) : Option ((Bool))) fun (v3 : (Bool)) => (some v3)) else (bif (a0.kind == 2) then (Option.bind ((bif (a0.input == 0) then (bif (a0.op.toList == (⟨#[]⟩ : ByteArray).toList) then (some (((List.length a0.args : Int) == 0))) else (some (false))) else (some (false))) : Option ((Bool))) fun (v5 : (Bool)) => (some v5)) else (Option.bind ((bif (a0.input == 0) then (some (v1)) else (some (false))) : Option ((Bool))) fun (v7 : (Bool)) => (some v7)))))
theorem synthesisref11_zero_ok (a0 : Ru) (r : Bool) (h : synthesisref11_zero a0 = some r) : PCall Try.prog 74 [eRu a0] (eB (r)) := by
 unfold synthesisref11_zero at h
 refine pcl [.one .keep] Try.func74 (by kernel_rfl) (by kernel_rfl) (by kernel_rfl) ?_
 refine cl 10 h (synthesisref01_Equal_ok _ _) (by kernel_rfl) fun v1 h => ?_
 refine cd 14 h (by kernel_rfl) (fun h => ?_) fun h => ?_
 ·refine jn1 1 .normal (fun v3 => ⟨46, [(2, (fB (v3)))], [], [], []⟩) h (by kernel_rfl) (fun v3 h => ?_) fun v3 h => ?_
  ·refine gd 3 h (by kernel_rfl) (fun h => ?_) fun h => ?_
   ·refine gd 5 h (by kernel_rfl) (fun h => ?_) fun h => ?_
    ·cases h; exact lj 7 (by kernel_rfl)
    cases h; exact lj 7 (by kernel_rfl)
   cases h; exact lj 12 (by kernel_rfl)
  cases h; exact lq 1 (by kernel_rfl)
 refine cd 5 h (by kernel_rfl) (fun h => ?_) fun h => ?_
 ·refine jn1 1 .normal (fun v5 => ⟨46, [(2, (fB (v5)))], [], [], []⟩) h (by kernel_rfl) (fun v5 h => ?_) fun v5 h => ?_
  ·refine gd 5 h (by kernel_rfl) (fun h => ?_) fun h => ?_
   ·refine gd 5 h (by kernel_rfl) (fun h => ?_) fun h => ?_
    ·cases h; exact lj 7 (by kernel_rfl)
    cases h; exact lj 7 (by kernel_rfl)
   cases h; exact lj 12 (by kernel_rfl)
  cases h; exact lq 1 (by kernel_rfl)
 refine jn1 2 .normal (fun v7 => ⟨46, [(2, (fB (v7)))], [], [], []⟩) h (by kernel_rfl) (fun v7 h => ?_) fun v7 h => ?_
 ·refine gd 5 h (by kernel_rfl) (fun h => ?_) fun h => ?_
  ·cases h; exact lj 4 (by kernel_rfl)
  cases h; exact lj 4 (by kernel_rfl)
 cases h; exact lq 1 (by kernel_rfl)

def synthesisref01_within (a0 : Int) (a1 : Int) (a2 : Int) : Option (Int) := (Option.bind ((bif (decide (a0 < a1)) then (some (true)) else (some ((decide (a2 < a0))))) : Option ((Bool))) fun (v2 : (Bool)) => (bif v2 then (some 1) else (some 0)))
theorem synthesisref01_within_ok (a0 : Int) (a1 : Int) (a2 : Int) (r : Int) (h : synthesisref01_within a0 a1 a2 = some r) : PCall Try.prog 86 [eI a0, eI a1, eI a2] (eI (r)) := by
 unfold synthesisref01_within at h
 refine pcl [.one .keep] Try.func86 (by kernel_rfl) (by kernel_rfl) (by kernel_rfl) ?_
 refine jn1 6 .normal (fun v2 => ⟨15, [(14, (fB (v2)))], [], [], []⟩) h (by kernel_rfl) (fun v2 h => ?_) fun v2 h => ?_
 ·refine gd 5 h (by kernel_rfl) (fun h => ?_) fun h => ?_
  ·cases h; exact lj 5 (by kernel_rfl)
  cases h; exact lj 5 (by kernel_rfl)
 refine cd 0 h (by kernel_rfl) (fun h => ?_) fun h => ?_
 ·cases h; exact lq 5 (by kernel_rfl)
 cases h; exact lq 6 (by kernel_rfl)

def synthesisref01_plain_l1 (a0 : ByteArray) (v3 : (Int)) : Option (((Int)) ⊕ (((Unit) ⊕ (Int)))) := (bif (decide (v3 < (a0.size : Int))) then (Option.bind ((Option.bind (byt a0 v3) fun v4 => (bif (decide (v4 < 32)) then (some (true)) else (Option.bind (byt a0 v3) fun v5 => (some ((decide (126 < v5))))))) : Option ((Bool))) fun (v7 : (Bool)) => (bif v7 then (some (.inr (.inr 1))) else (some (.inl ((w64 (v3 + 1))))))) else (some (.inr (.inl ()))))
def synthesisref01_plain (a0 : ByteArray) (a1 : Int) (a2 : Int) : Option (Int) := (Option.bind ((bif (decide ((a0.size : Int) < a1)) then (some (true)) else (some ((decide (a2 < (a0.size : Int)))))) : Option ((Bool))) fun (v2 : (Bool)) => (bif v2 then (some 2) else (Option.bind (loopN (synthesisref01_plain_l1 a0) fuel (0)) fun (v8 : ((Unit) ⊕ (Int))) => Sum.elim (fun v9 => (some 0)) (fun v10 => (some v10)) v8)))
theorem synthesisref01_plain_ok (a0 : ByteArray) (a1 : Int) (a2 : Int) (r : Int) (h : synthesisref01_plain a0 a1 a2 = some r) : PCall Try.prog 87 [eS a0, eI a1, eI a2] (eI (r)) := by
 unfold synthesisref01_plain at h
 refine pcl [.one .keep] Try.func87 (by kernel_rfl) (by kernel_rfl) (by kernel_rfl) ?_
 refine jn1 6 .normal (fun v2 => ⟨34, [(0, (fS (a0))), (17, (fB (v2)))], [], [], []⟩) h (by kernel_rfl) (fun v2 h => ?_) fun v2 h => ?_
 ·refine gd 6 h (by kernel_rfl) (fun h => ?_) fun h => ?_
  ·cases h; exact lj 6 (by kernel_rfl)
  cases h; exact lj 6 (by kernel_rfl)
 refine cd 0 h (by kernel_rfl) (fun h => ?_) fun h => ?_
 ·cases h; exact lq 5 (by kernel_rfl)
 refine lpx 7 (fun v3 => ⟨34, [(0, (fS (a0))), (7, (fI (v3)))], [], [], []⟩) (fun v8 e st => Sum.elim (fun p => e = .exit 0 ∧ LeSt st ⟨34, [], [], [], []⟩) (fun p => e = .ret ∧ retX TT st Try.f87.results.toList [.one .keep] = some (eI (p))) v8) h (by kernel_rfl) (le_a (by kernel_rfl)) (fun v3 r h => ?_) fun v8 h e st' hq => ?_
 ·unfold synthesisref01_plain_l1 at h
  refine cd 8 h (by kernel_rfl) (fun h => ?_) fun h => ?_
  ·refine jn1 4 .normal (fun v7 => ⟨34, [(0, (fS (a0))), (7, (fI (v3))), (33, (fB (v7)))], [], [], []⟩) h (by kernel_rfl) (fun v7 h => ?_) fun v7 h => ?_
   ·refine byx 3 h (by kernel_rfl) fun v4 h => ?_
    refine gd 2 h (by kernel_rfl) (fun h => ?_) fun h => ?_
    ·cases h; exact lj 6 (by kernel_rfl)
    refine byx 2 h (by kernel_rfl) fun v5 h => ?_
    cases h; exact lj 3 (by kernel_rfl)
   refine cd 0 h (by kernel_rfl) (fun h => ?_) fun h => ?_
   ·cases h; exact lor 5 (by kernel_rfl)
   cases h; exact lj 6 (by kernel_rfl)
  cases h; exact lo 1 (by kernel_rfl)
 rcases v8 with v9 | v10
 ·try simp only [Sum.elim_inl, Sum.elim_inr] at h
  obtain ⟨rfl, hle⟩ := hq
  refine ⟨_, hle, ?_⟩
  cases h; exact lq 5 (by kernel_rfl)
 ·try simp only [Sum.elim_inl, Sum.elim_inr] at h
  obtain ⟨rfl, hret⟩ := hq
  refine ⟨_, LeSt.refl, ?_⟩
  cases h; exact lv hret

def synthesisref01_Check_m0 (a0 : Va) : List (Nat × AObj) := [(1, (.box 48 [(fI (a0.type)), (fI (a0.num)), (fS (a0.text)), (.fz ((eL 4 eVaR) (a0.items)))]))]
def synthesisref01_Check_b (r75 : (Va) → Option (Int)) (r88 : (List Va) → (Int) → Option (Int)) (r89 : (List Va) → Option (Int)) (a0 : Va) : Option (Int) := (Option.bind ((bif (decide (a0.type < 1)) then (some (true)) else (some ((decide (8 < a0.type))))) : Option ((Bool))) fun (v2 : (Bool)) => (bif v2 then (some 3) else (Option.bind ((bif (a0.type == 1) then (some (true)) else (bif (a0.type == 2) then (some (true)) else (some ((a0.type == 4))))) : Option ((Bool))) fun (v4 : (Bool)) => (Option.bind ((bif (a0.type == 3) then (some (true)) else (some ((a0.type == 8)))) : Option ((Bool))) fun (v6 : (Bool)) => (Option.bind ((bif (!v4) then (bif (a0.num != 0) then (some (true)) else (bif (!v6) then (bif (!(a0.text.toList == (⟨#[]⟩ : ByteArray).toList)) then (some (true)) else (bif v4 then (some ((decide (0 < (List.length a0.items : Int))))) else (bif v6 then (some ((decide (0 < (List.length a0.items : Int))))) else (some (false))))) else (bif v4 then (some ((decide (0 < (List.length a0.items : Int))))) else (bif v6 then (some ((decide (0 < (List.length a0.items : Int))))) else (some (false)))))) else (bif (!v6) then (bif (!(a0.text.toList == (⟨#[]⟩ : ByteArray).toList)) then (some (true)) else (bif v4 then (some ((decide (0 < (List.length a0.items : Int))))) else (bif v6 then (some ((decide (0 < (List.length a0.items : Int))))) else (some (false))))) else (bif v4 then (some ((decide (0 < (List.length a0.items : Int))))) else (bif v6 then (some ((decide (0 < (List.length a0.items : Int))))) else (some (false)))))) : Option ((Bool))) fun (v8 : (Bool)) => (bif v8 then (some 4) else (bif (a0.type == 1) then (Option.bind (synthesisref01_within (a0.num) (0) (1)) fun v9 => (some v9)) else (bif (a0.type == 2) then (Option.bind (synthesisref01_within (a0.num) ((-1000000)) (1000000)) fun v10 => (some v10)) else (bif (a0.type == 4) then (Option.bind (synthesisref01_within (a0.num) (0) (255)) fun v11 => (some v11)) else (bif (a0.type == 3) then (Option.bind (synthesisref01_plain (a0.text) (0) (64)) fun v12 => (some v12)) else (bif (a0.type == 8) then (Option.bind (synthesisref01_plain (a0.text) (1) (40)) fun v13 => (some v13)) else (bif (a0.type == 5) then (Option.bind (r88 (a0.items) (2)) fun v14 => (some v14)) else (bif (a0.type == 6) then (Option.bind (r88 (a0.items) (3)) fun v15 => (some v15)) else (Option.bind (r89 (a0.items)) fun v16 => (some v16)))))))))))))))
theorem synthesisref01_Check_b_ok (r75 : (Va) → Option (Int)) (r88 : (List Va) → (Int) → Option (Int)) (r89 : (List Va) → Option (Int)) (ih75 : ∀ (x0 : Va) r, r75 x0 = some r → PCall Try.prog 75 [eVa x0] (eI (r))) (ih88 : ∀ (x0 : List Va) (x1 : Int) r, r88 x0 x1 = some r → PCall Try.prog 88 [(eL 4 eVaR) x0, eI x1] (eI (r))) (ih89 : ∀ (x0 : List Va) r, r89 x0 = some r → PCall Try.prog 89 [(eL 4 eVaR) x0] (eI (r))) (a0 : Va) (r : Int) (h : synthesisref01_Check_b r75 r88 r89 a0 = some r) : PCall Try.prog 75 [eVa a0] (eI (r)) := by
 unfold synthesisref01_Check_b at h
 refine pcl [.one .keep] Try.func75 (by kernel_rfl) (by kernel_rfl) (by kernel_rfl) ?_
 refine jn1 7 .normal (fun v2 => ⟨102, [(1, (.ref 1 0 0)), (12, (fB (v2)))], (synthesisref01_Check_m0 a0), [1], []⟩) h (by kernel_rfl) (fun v2 h => ?_) fun v2 h => ?_
 ·refine gd 5 h (by kernel_rfl) (fun h => ?_) fun h => ?_
  ·cases h; exact lj 5 (by kernel_rfl)
  cases h; exact lj 5 (by kernel_rfl)
 refine cd 0 h (by kernel_rfl) (fun h => ?_) fun h => ?_
 ·cases h; exact lq 5 (by kernel_rfl)
 refine jn1 2 .normal (fun v4 => ⟨102, [(1, (.ref 1 0 0)), (3, (fB (v4)))], (synthesisref01_Check_m0 a0), [1], []⟩) h (by kernel_rfl) (fun v4 h => ?_) fun v4 h => ?_
 ·refine gd 5 h (by kernel_rfl) (fun h => ?_) fun h => ?_
  ·cases h; exact lj 11 (by kernel_rfl)
  refine gd 5 h (by kernel_rfl) (fun h => ?_) fun h => ?_
  ·cases h; exact lj 6 (by kernel_rfl)
  cases h; exact lj 6 (by kernel_rfl)
 refine jn1 1 .normal (fun v6 => ⟨102, [(1, (.ref 1 0 0)), (3, (fB (v4))), (4, (fB (v6)))], (synthesisref01_Check_m0 a0), [1], []⟩) h (by kernel_rfl) (fun v6 h => ?_) fun v6 h => ?_
 ·refine gd 5 h (by kernel_rfl) (fun h => ?_) fun h => ?_
  ·cases h; exact lj 6 (by kernel_rfl)
  cases h; exact lj 6 (by kernel_rfl)
 refine jn1 2 .normal (fun v8 => ⟨102, [(1, (.ref 1 0 0)), (61, (fB (v8)))], (synthesisref01_Check_m0 a0), [1], []⟩) h (by kernel_rfl) (fun v8 h => ?_) fun v8 h => ?_
 ·refine gd 4 h (by kernel_rfl) (fun h => ?_) fun h => ?_
  ·refine gd 5 h (by kernel_rfl) (fun h => ?_) fun h => ?_
   ·cases h; exact lj 21 (by kernel_rfl)
   refine gd 3 h (by kernel_rfl) (fun h => ?_) fun h => ?_
   ·refine gd 6 h (by kernel_rfl) (fun h => ?_) fun h => ?_
    ·cases h; exact lj 12 (by kernel_rfl)
    refine gd 2 h (by kernel_rfl) (fun h => ?_) fun h => ?_
    ·cases h; exact lj 10 (by kernel_rfl)
    refine gd 3 h (by kernel_rfl) (fun h => ?_) fun h => ?_
    ·cases h; exact lj 7 (by kernel_rfl)
    cases h; exact lj 7 (by kernel_rfl)
   refine gd 8 h (by kernel_rfl) (fun h => ?_) fun h => ?_
   ·cases h; exact lj 10 (by kernel_rfl)
   refine gd 3 h (by kernel_rfl) (fun h => ?_) fun h => ?_
   ·cases h; exact lj 7 (by kernel_rfl)
   cases h; exact lj 7 (by kernel_rfl)
  refine gd 8 h (by kernel_rfl) (fun h => ?_) fun h => ?_
  ·refine gd 6 h (by kernel_rfl) (fun h => ?_) fun h => ?_
   ·cases h; exact lj 12 (by kernel_rfl)
   refine gd 2 h (by kernel_rfl) (fun h => ?_) fun h => ?_
   ·cases h; exact lj 10 (by kernel_rfl)
   refine gd 3 h (by kernel_rfl) (fun h => ?_) fun h => ?_
   ·cases h; exact lj 7 (by kernel_rfl)
   cases h; exact lj 7 (by kernel_rfl)
  refine gd 8 h (by kernel_rfl) (fun h => ?_) fun h => ?_
  ·cases h; exact lj 10 (by kernel_rfl)
  refine gd 3 h (by kernel_rfl) (fun h => ?_) fun h => ?_
  ·cases h; exact lj 7 (by kernel_rfl)
  cases h; exact lj 7 (by kernel_rfl)
 refine cd 0 h (by kernel_rfl) (fun h => ?_) fun h => ?_
 ·cases h; exact lq 5 (by kernel_rfl)
 refine cd 13 h (by kernel_rfl) (fun h => ?_) fun h => ?_
 ·refine cl 4 h (synthesisref01_within_ok _ _ _) (by kernel_rfl) fun v9 h => ?_
  cases h; exact lq 3 (by kernel_rfl)
 refine cd 5 h (by kernel_rfl) (fun h => ?_) fun h => ?_
 ·refine cl 4 h (synthesisref01_within_ok _ _ _) (by kernel_rfl) fun v10 h => ?_
  cases h; exact lq 3 (by kernel_rfl)
 refine cd 5 h (by kernel_rfl) (fun h => ?_) fun h => ?_
 ·refine cl 4 h (synthesisref01_within_ok _ _ _) (by kernel_rfl) fun v11 h => ?_
  cases h; exact lq 3 (by kernel_rfl)
 refine cd 5 h (by kernel_rfl) (fun h => ?_) fun h => ?_
 ·refine cl 4 h (synthesisref01_plain_ok _ _ _) (by kernel_rfl) fun v12 h => ?_
  cases h; exact lq 3 (by kernel_rfl)
 refine cd 5 h (by kernel_rfl) (fun h => ?_) fun h => ?_
 ·refine cl 4 h (synthesisref01_plain_ok _ _ _) (by kernel_rfl) fun v13 h => ?_
  cases h; exact lq 3 (by kernel_rfl)
 refine cd 5 h (by kernel_rfl) (fun h => ?_) fun h => ?_
 ·refine cl 4 h (ih88 _ _) (by kernel_rfl) fun v14 h => ?_
  cases h; exact lq 3 (by kernel_rfl)
 refine cd 5 h (by kernel_rfl) (fun h => ?_) fun h => ?_
 ·refine cl 4 h (ih88 _ _) (by kernel_rfl) fun v15 h => ?_
  cases h; exact lq 3 (by kernel_rfl)
 refine cl 5 h (ih89 _) (by kernel_rfl) fun v16 h => ?_
 cases h; exact lq 3 (by kernel_rfl)
def synthesisref01_elements_l1 (a0 : List Va) (a1 : Int) (r75 : (Va) → Option (Int)) (v1 : (Int)) : Option (((Int)) ⊕ (((Unit) ⊕ (Int)))) := (bif (decide (v1 < (List.length a0 : Int))) then (Option.bind (idx a0 v1) fun v2 => (bif (v2.type != a1) then (some (.inr (.inr 3))) else (Option.bind (idx a0 v1) fun v3 => (Option.bind (r75 (v3)) fun v4 => (bif (v4 != 0) then (some (.inr (.inr v4))) else (some (.inl ((w64 (v1 + 1)))))))))) else (some (.inr (.inl ()))))
def synthesisref01_elements_b (r75 : (Va) → Option (Int)) (r88 : (List Va) → (Int) → Option (Int)) (r89 : (List Va) → Option (Int)) (a0 : List Va) (a1 : Int) : Option (Int) := (bif (decide (16 < (List.length a0 : Int))) then (some 2) else (Option.bind (loopN (synthesisref01_elements_l1 a0 a1 r75) fuel (0)) fun (v5 : ((Unit) ⊕ (Int))) => Sum.elim (fun v6 => (some 0)) (fun v7 => (some v7)) v5))
theorem synthesisref01_elements_b_ok (r75 : (Va) → Option (Int)) (r88 : (List Va) → (Int) → Option (Int)) (r89 : (List Va) → Option (Int)) (ih75 : ∀ (x0 : Va) r, r75 x0 = some r → PCall Try.prog 75 [eVa x0] (eI (r))) (ih88 : ∀ (x0 : List Va) (x1 : Int) r, r88 x0 x1 = some r → PCall Try.prog 88 [(eL 4 eVaR) x0, eI x1] (eI (r))) (ih89 : ∀ (x0 : List Va) r, r89 x0 = some r → PCall Try.prog 89 [(eL 4 eVaR) x0] (eI (r))) (a0 : List Va) (a1 : Int) (r : Int) (h : synthesisref01_elements_b r75 r88 r89 a0 a1 = some r) : PCall Try.prog 88 [(eL 4 eVaR) a0, eI a1] (eI (r)) := by
 unfold synthesisref01_elements_b at h
 refine pcl [.one .keep] Try.func88 (by kernel_rfl) (by kernel_rfl) (by kernel_rfl) ?_
 refine cd 11 h (by kernel_rfl) (fun h => ?_) fun h => ?_
 ·cases h; exact lq 5 (by kernel_rfl)
 refine lpx 7 (fun v1 => ⟨31, [(0, (.fz ((eL 4 eVaR) (a0)))), (1, (fI (a1))), (5, (fI (v1)))], [], [], []⟩) (fun v5 e st => Sum.elim (fun p => e = .exit 0 ∧ LeSt st ⟨31, [], [], [], []⟩) (fun p => e = .ret ∧ retX TT st Try.f88.results.toList [.one .keep] = some (eI (p))) v5) h (by kernel_rfl) (le_a (by kernel_rfl)) (fun v1 r h => ?_) fun v5 h e st' hq => ?_
 ·unfold synthesisref01_elements_l1 at h
  refine cd 8 h (by kernel_rfl) (fun h => ?_) fun h => ?_
  ·refine ix nVaR 8 h (by kernel_rfl) fun v2 h => ?_
   refine cd 5 h (by kernel_rfl) (fun h => ?_) fun h => ?_
   ·cases h; exact lor 5 (by kernel_rfl)
   refine ix nVaR 5 h (by kernel_rfl) fun v3 h => ?_
   refine cl 1 h (ih75 _) (by kernel_rfl) fun v4 h => ?_
   refine cd 7 h (by kernel_rfl) (fun h => ?_) fun h => ?_
   ·cases h; exact lor 6 (by kernel_rfl)
   cases h; exact lj 6 (by kernel_rfl)
  cases h; exact lo 1 (by kernel_rfl)
 rcases v5 with v6 | v7
 ·try simp only [Sum.elim_inl, Sum.elim_inr] at h
  obtain ⟨rfl, hle⟩ := hq
  refine ⟨_, hle, ?_⟩
  cases h; exact lq 5 (by kernel_rfl)
 ·try simp only [Sum.elim_inl, Sum.elim_inr] at h
  obtain ⟨rfl, hret⟩ := hq
  refine ⟨_, LeSt.refl, ?_⟩
  cases h; exact lv hret
def synthesisref01_rows_l1 (a0 : List Va) (r75 : (Va) → Option (Int)) (v1 : (Int)) : Option (((Int)) ⊕ (((Unit) ⊕ (Int)))) := (bif (decide (v1 < (List.length a0 : Int))) then (Option.bind (idx a0 v1) fun v2 => (bif (v2.type != 6) then (some (.inr (.inr 3))) else (Option.bind (idx a0 v1) fun v3 => (Option.bind ((bif (decide ((List.length v3.items : Int) < 1)) then (some (true)) else (bif (decide (8 < (List.length v3.items : Int))) then (some (true)) else (Option.bind (idx a0 0) fun v4 => (some (((List.length v3.items : Int) != (List.length v4.items : Int))))))) : Option ((Bool))) fun (v6 : (Bool)) => (bif v6 then (some (.inr (.inr 2))) else (Option.bind (idx a0 v1) fun v7 => (Option.bind (r75 (v7)) fun v8 => (bif (v8 != 0) then (some (.inr (.inr v8))) else (some (.inl ((w64 (v1 + 1))))))))))))) else (some (.inr (.inl ()))))
def synthesisref01_rows_b (r75 : (Va) → Option (Int)) (r88 : (List Va) → (Int) → Option (Int)) (r89 : (List Va) → Option (Int)) (a0 : List Va) : Option (Int) := (bif (decide (8 < (List.length a0 : Int))) then (some 2) else (Option.bind (loopN (synthesisref01_rows_l1 a0 r75) fuel (0)) fun (v9 : ((Unit) ⊕ (Int))) => Sum.elim (fun v10 => (some 0)) (fun v11 => (some v11)) v9))
theorem synthesisref01_rows_b_ok (r75 : (Va) → Option (Int)) (r88 : (List Va) → (Int) → Option (Int)) (r89 : (List Va) → Option (Int)) (ih75 : ∀ (x0 : Va) r, r75 x0 = some r → PCall Try.prog 75 [eVa x0] (eI (r))) (ih88 : ∀ (x0 : List Va) (x1 : Int) r, r88 x0 x1 = some r → PCall Try.prog 88 [(eL 4 eVaR) x0, eI x1] (eI (r))) (ih89 : ∀ (x0 : List Va) r, r89 x0 = some r → PCall Try.prog 89 [(eL 4 eVaR) x0] (eI (r))) (a0 : List Va) (r : Int) (h : synthesisref01_rows_b r75 r88 r89 a0 = some r) : PCall Try.prog 89 [(eL 4 eVaR) a0] (eI (r)) := by
 unfold synthesisref01_rows_b at h
 refine pcl [.one .keep] Try.func89 (by kernel_rfl) (by kernel_rfl) (by kernel_rfl) ?_
 refine cd 11 h (by kernel_rfl) (fun h => ?_) fun h => ?_
 ·cases h; exact lq 5 (by kernel_rfl)
 refine lpx 7 (fun v1 => ⟨50, [(0, (.fz ((eL 4 eVaR) (a0)))), (3, (fI (v1)))], [], [], []⟩) (fun v9 e st => Sum.elim (fun p => e = .exit 0 ∧ LeSt st ⟨50, [], [], [], []⟩) (fun p => e = .ret ∧ retX TT st Try.f89.results.toList [.one .keep] = some (eI (p))) v9) h (by kernel_rfl) (le_a (by kernel_rfl)) (fun v1 r h => ?_) fun v9 h e st' hq => ?_
 ·unfold synthesisref01_rows_l1 at h
  refine cd 8 h (by kernel_rfl) (fun h => ?_) fun h => ?_
  ·refine ix nVaR 8 h (by kernel_rfl) fun v2 h => ?_
   refine cd 4 h (by kernel_rfl) (fun h => ?_) fun h => ?_
   ·cases h; exact lor 5 (by kernel_rfl)
   refine ix nVaR 6 h (by kernel_rfl) fun v3 h => ?_
   refine jn1 6 .normal (fun v6 => ⟨50, [(0, (.fz ((eL 4 eVaR) (a0)))), (3, (fI (v1))), (41, (fB (v6)))], [], [], []⟩) h (by kernel_rfl) (fun v6 h => ?_) fun v6 h => ?_
   ·refine gd 4 h (by kernel_rfl) (fun h => ?_) fun h => ?_
    ·cases h; exact lj 13 (by kernel_rfl)
    refine gd 4 h (by kernel_rfl) (fun h => ?_) fun h => ?_
    ·cases h; exact lj 9 (by kernel_rfl)
    refine ix nVaR 2 h (by kernel_rfl) fun v4 h => ?_
    cases h; exact lj 6 (by kernel_rfl)
   refine cd 0 h (by kernel_rfl) (fun h => ?_) fun h => ?_
   ·cases h; exact lor 5 (by kernel_rfl)
   refine ix nVaR 5 h (by kernel_rfl) fun v7 h => ?_
   refine cl 1 h (ih75 _) (by kernel_rfl) fun v8 h => ?_
   refine cd 7 h (by kernel_rfl) (fun h => ?_) fun h => ?_
   ·cases h; exact lor 6 (by kernel_rfl)
   cases h; exact lj 6 (by kernel_rfl)
  cases h; exact lo 1 (by kernel_rfl)
 rcases v9 with v10 | v11
 ·try simp only [Sum.elim_inl, Sum.elim_inr] at h
  obtain ⟨rfl, hle⟩ := hq
  refine ⟨_, hle, ?_⟩
  cases h; exact lq 5 (by kernel_rfl)
 ·try simp only [Sum.elim_inl, Sum.elim_inr] at h
  obtain ⟨rfl, hret⟩ := hq
  refine ⟨_, LeSt.refl, ?_⟩
  cases h; exact lv hret
def synthesisref01_Check_all : Nat → ((Va) → Option (Int)) × ((List Va) → (Int) → Option (Int)) × ((List Va) → Option (Int))
  | 0 => (fun _ => none, fun _ _ => none, fun _ => none)
  | n + 1 => (synthesisref01_Check_b ((synthesisref01_Check_all n).1) ((synthesisref01_Check_all n).2.1) ((synthesisref01_Check_all n).2.2), synthesisref01_elements_b ((synthesisref01_Check_all n).1) ((synthesisref01_Check_all n).2.1) ((synthesisref01_Check_all n).2.2), synthesisref01_rows_b ((synthesisref01_Check_all n).1) ((synthesisref01_Check_all n).2.1) ((synthesisref01_Check_all n).2.2))
def synthesisref01_Check (n : Nat) : (Va) → Option (Int) := (synthesisref01_Check_all n).1
def synthesisref01_elements (n : Nat) : (List Va) → (Int) → Option (Int) := (synthesisref01_Check_all n).2.1
def synthesisref01_rows (n : Nat) : (List Va) → Option (Int) := (synthesisref01_Check_all n).2.2
theorem synthesisref01_Check_all_ok : ∀ n : Nat, (∀ (x0 : Va) r, synthesisref01_Check n x0 = some r → PCall Try.prog 75 [eVa x0] (eI (r))) ∧ (∀ (x0 : List Va) (x1 : Int) r, synthesisref01_elements n x0 x1 = some r → PCall Try.prog 88 [(eL 4 eVaR) x0, eI x1] (eI (r))) ∧ (∀ (x0 : List Va) r, synthesisref01_rows n x0 = some r → PCall Try.prog 89 [(eL 4 eVaR) x0] (eI (r)))
  | 0 => ⟨(fun _ _ h => nomatch h), (fun _ _ _ h => nomatch h), (fun _ _ h => nomatch h)⟩
  | n + 1 => ⟨(synthesisref01_Check_b_ok _ _ _ ((synthesisref01_Check_all_ok n).1) ((synthesisref01_Check_all_ok n).2.1) ((synthesisref01_Check_all_ok n).2.2)), (synthesisref01_elements_b_ok _ _ _ ((synthesisref01_Check_all_ok n).1) ((synthesisref01_Check_all_ok n).2.1) ((synthesisref01_Check_all_ok n).2.2)), (synthesisref01_rows_b_ok _ _ _ ((synthesisref01_Check_all_ok n).1) ((synthesisref01_Check_all_ok n).2.1) ((synthesisref01_Check_all_ok n).2.2))⟩
theorem synthesisref01_Check_ok (n : Nat) : ∀ (x0 : Va) r, synthesisref01_Check n x0 = some r → PCall Try.prog 75 [eVa x0] (eI (r)) := (synthesisref01_Check_all_ok n).1
structure S_ar3_str where
  f_0 : ByteArray
  f_1 : ByteArray
  f_2 : ByteArray
def eS_ar3_str (x : S_ar3_str) : FV := .agg [eS (x.f_0), eS (x.f_1), eS (x.f_2)]
def nS_ar3_str : En S_ar3_str := ⟨eS_ar3_str, 3, fun x => (eS_ar3_str x).cells, fun _ => rfl, fun _ => rfl⟩
def synthesisref09_catalog (a0 : ByteArray) : Option (List S_ar3_str) := (bif (a0.toList == (⟨#[108, 111, 103, 105, 99]⟩ : ByteArray).toList) then (some ([(S_ar3_str.mk ((⟨#[97, 110, 100]⟩ : ByteArray)) ((⟨#[66, 66]⟩ : ByteArray)) ((⟨#[66]⟩ : ByteArray))), (S_ar3_str.mk ((⟨#[111, 114]⟩ : ByteArray)) ((⟨#[66, 66]⟩ : ByteArray)) ((⟨#[66]⟩ : ByteArray))), (S_ar3_str.mk ((⟨#[110, 111, 116]⟩ : ByteArray)) ((⟨#[66]⟩ : ByteArray)) ((⟨#[66]⟩ : ByteArray))), (S_ar3_str.mk ((⟨#[105, 102, 105, 110, 116]⟩ : ByteArray)) ((⟨#[66, 73, 73]⟩ : ByteArray)) ((⟨#[73]⟩ : ByteArray))), (S_ar3_str.mk ((⟨#[105, 102, 116, 101, 120, 116]⟩ : ByteArray)) ((⟨#[66, 84, 84]⟩ : ByteArray)) ((⟨#[84]⟩ : ByteArray))), (S_ar3_str.mk ((⟨#[105, 102, 98, 105, 116, 115]⟩ : ByteArray)) ((⟨#[66, 86, 86]⟩ : ByteArray)) ((⟨#[86]⟩ : ByteArray)))] : List (S_ar3_str))) else (bif (a0.toList == (⟨#[110, 117, 109, 98, 101, 114, 115]⟩ : ByteArray).toList) then (some ([(S_ar3_str.mk ((⟨#[97, 100, 100]⟩ : ByteArray)) ((⟨#[73, 73]⟩ : ByteArray)) ((⟨#[73]⟩ : ByteArray))), (S_ar3_str.mk ((⟨#[115, 117, 98]⟩ : ByteArray)) ((⟨#[73, 73]⟩ : ByteArray)) ((⟨#[73]⟩ : ByteArray))), (S_ar3_str.mk ((⟨#[109, 117, 108]⟩ : ByteArray)) ((⟨#[73, 73]⟩ : ByteArray)) ((⟨#[73]⟩ : ByteArray))), (S_ar3_str.mk ((⟨#[110, 101, 103]⟩ : ByteArray)) ((⟨#[73]⟩ : ByteArray)) ((⟨#[73]⟩ : ByteArray))), (S_ar3_str.mk ((⟨#[109, 105, 110]⟩ : ByteArray)) ((⟨#[73, 73]⟩ : ByteArray)) ((⟨#[73]⟩ : ByteArray))), (S_ar3_str.mk ((⟨#[109, 97, 120]⟩ : ByteArray)) ((⟨#[73, 73]⟩ : ByteArray)) ((⟨#[73]⟩ : ByteArray))), (S_ar3_str.mk ((⟨#[101, 113, 105, 110, 116]⟩ : ByteArray)) ((⟨#[73, 73]⟩ : ByteArray)) ((⟨#[66]⟩ : ByteArray))), (S_ar3_str.mk ((⟨#[108, 101, 115, 115]⟩ : ByteArray)) ((⟨#[73, 73]⟩ : ByteArray)) ((⟨#[66]⟩ : ByteArray)))] : List (S_ar3_str))) else (bif (a0.toList == (⟨#[116, 101, 120, 116, 115]⟩ : ByteArray).toList) then (some ([(S_ar3_str.mk ((⟨#[99, 111, 110, 99, 97, 116]⟩ : ByteArray)) ((⟨#[84, 84]⟩ : ByteArray)) ((⟨#[84]⟩ : ByteArray))), (S_ar3_str.mk ((⟨#[115, 108, 105, 99, 101]⟩ : ByteArray)) ((⟨#[84, 73, 73]⟩ : ByteArray)) ((⟨#[84]⟩ : ByteArray))), (S_ar3_str.mk ((⟨#[108, 101, 110]⟩ : ByteArray)) ((⟨#[84]⟩ : ByteArray)) ((⟨#[73]⟩ : ByteArray))), (S_ar3_str.mk ((⟨#[117, 112, 112, 101, 114]⟩ : ByteArray)) ((⟨#[84]⟩ : ByteArray)) ((⟨#[84]⟩ : ByteArray))), (S_ar3_str.mk ((⟨#[108, 111, 119, 101, 114]⟩ : ByteArray)) ((⟨#[84]⟩ : ByteArray)) ((⟨#[84]⟩ : ByteArray))), (S_ar3_str.mk ((⟨#[116, 114, 105, 109]⟩ : ByteArray)) ((⟨#[84]⟩ : ByteArray)) ((⟨#[84]⟩ : ByteArray))), (S_ar3_str.mk ((⟨#[102, 105, 110, 100]⟩ : ByteArray)) ((⟨#[84, 84]⟩ : ByteArray)) ((⟨#[73]⟩ : ByteArray))), (S_ar3_str.mk ((⟨#[114, 101, 112, 108, 97, 99, 101]⟩ : ByteArray)) ((⟨#[84, 84, 84]⟩ : ByteArray)) ((⟨#[84]⟩ : ByteArray))), (S_ar3_str.mk ((⟨#[119, 111, 114, 100]⟩ : ByteArray)) ((⟨#[84, 73]⟩ : ByteArray)) ((⟨#[84]⟩ : ByteArray))), (S_ar3_str.mk ((⟨#[99, 104, 97, 114]⟩ : ByteArray)) ((⟨#[84, 73]⟩ : ByteArray)) ((⟨#[84]⟩ : ByteArray))), (S_ar3_str.mk ((⟨#[114, 101, 112, 101, 97, 116]⟩ : ByteArray)) ((⟨#[84, 73]⟩ : ByteArray)) ((⟨#[84]⟩ : ByteArray))), (S_ar3_str.mk ((⟨#[115, 104, 111, 119]⟩ : ByteArray)) ((⟨#[73]⟩ : ByteArray)) ((⟨#[84]⟩ : ByteArray))), (S_ar3_str.mk ((⟨#[114, 101, 97, 100]⟩ : ByteArray)) ((⟨#[84]⟩ : ByteArray)) ((⟨#[73]⟩ : ByteArray))), (S_ar3_str.mk ((⟨#[101, 113, 116, 101, 120, 116]⟩ : ByteArray)) ((⟨#[84, 84]⟩ : ByteArray)) ((⟨#[66]⟩ : ByteArray))), (S_ar3_str.mk ((⟨#[115, 112, 108, 105, 116]⟩ : ByteArray)) ((⟨#[84, 84]⟩ : ByteArray)) ((⟨#[83]⟩ : ByteArray))), (S_ar3_str.mk ((⟨#[106, 111, 105, 110]⟩ : ByteArray)) ((⟨#[83, 84]⟩ : ByteArray)) ((⟨#[84]⟩ : ByteArray))), (S_ar3_str.mk ((⟨#[105, 116, 101, 109]⟩ : ByteArray)) ((⟨#[83, 73]⟩ : ByteArray)) ((⟨#[84]⟩ : ByteArray))), (S_ar3_str.mk ((⟨#[115, 111, 114, 116, 116, 101, 120, 116, 115]⟩ : ByteArray)) ((⟨#[83]⟩ : ByteArray)) ((⟨#[83]⟩ : ByteArray))), (S_ar3_str.mk ((⟨#[114, 101, 118, 116, 101, 120, 116, 115]⟩ : ByteArray)) ((⟨#[83]⟩ : ByteArray)) ((⟨#[83]⟩ : ByteArray)))] : List (S_ar3_str))) else (bif (a0.toList == (⟨#[112, 97, 116, 116, 101, 114, 110, 115]⟩ : ByteArray).toList) then (some ([(S_ar3_str.mk ((⟨#[115, 116, 97, 114, 116]⟩ : ByteArray)) ((⟨#[84, 80, 73]⟩ : ByteArray)) ((⟨#[73]⟩ : ByteArray))), (S_ar3_str.mk ((⟨#[101, 110, 100]⟩ : ByteArray)) ((⟨#[84, 80, 73]⟩ : ByteArray)) ((⟨#[73]⟩ : ByteArray))), (S_ar3_str.mk ((⟨#[101, 120, 116, 114, 97, 99, 116]⟩ : ByteArray)) ((⟨#[84, 80, 73]⟩ : ByteArray)) ((⟨#[84]⟩ : ByteArray))), (S_ar3_str.mk ((⟨#[101, 114, 97, 115, 101]⟩ : ByteArray)) ((⟨#[84, 80]⟩ : ByteArray)) ((⟨#[84]⟩ : ByteArray))), (S_ar3_str.mk ((⟨#[111, 99, 99, 117, 114, 115]⟩ : ByteArray)) ((⟨#[84, 80]⟩ : ByteArray)) ((⟨#[73]⟩ : ByteArray))), (S_ar3_str.mk ((⟨#[109, 97, 116, 99, 104, 101, 115]⟩ : ByteArray)) ((⟨#[84, 80]⟩ : ByteArray)) ((⟨#[66]⟩ : ByteArray))), (S_ar3_str.mk ((⟨#[112, 108, 105, 116]⟩ : ByteArray)) ((⟨#[84]⟩ : ByteArray)) ((⟨#[80]⟩ : ByteArray))), (S_ar3_str.mk ((⟨#[112, 99, 97, 116]⟩ : ByteArray)) ((⟨#[80, 80]⟩ : ByteArray)) ((⟨#[80]⟩ : ByteArray))), (S_ar3_str.mk ((⟨#[112, 97, 108, 116]⟩ : ByteArray)) ((⟨#[80, 80]⟩ : ByteArray)) ((⟨#[80]⟩ : ByteArray))), (S_ar3_str.mk ((⟨#[112, 115, 116, 97, 114]⟩ : ByteArray)) ((⟨#[80]⟩ : ByteArray)) ((⟨#[80]⟩ : ByteArray)))] : List (S_ar3_str))) else (bif (a0.toList == (⟨#[108, 105, 115, 116, 115]⟩ : ByteArray).toList) then (some ([(S_ar3_str.mk ((⟨#[104, 101, 97, 100]⟩ : ByteArray)) ((⟨#[76]⟩ : ByteArray)) ((⟨#[73]⟩ : ByteArray))), (S_ar3_str.mk ((⟨#[108, 97, 115, 116]⟩ : ByteArray)) ((⟨#[76]⟩ : ByteArray)) ((⟨#[73]⟩ : ByteArray))), (S_ar3_str.mk ((⟨#[116, 97, 107, 101]⟩ : ByteArray)) ((⟨#[76, 73]⟩ : ByteArray)) ((⟨#[76]⟩ : ByteArray))), (S_ar3_str.mk ((⟨#[100, 114, 111, 112]⟩ : ByteArray)) ((⟨#[76, 73]⟩ : ByteArray)) ((⟨#[76]⟩ : ByteArray))), (S_ar3_str.mk ((⟨#[114, 101, 118, 101, 114, 115, 101]⟩ : ByteArray)) ((⟨#[76]⟩ : ByteArray)) ((⟨#[76]⟩ : ByteArray))), (S_ar3_str.mk ((⟨#[115, 111, 114, 116]⟩ : ByteArray)) ((⟨#[76]⟩ : ByteArray)) ((⟨#[76]⟩ : ByteArray))), (S_ar3_str.mk ((⟨#[117, 110, 105, 113, 117, 101]⟩ : ByteArray)) ((⟨#[76]⟩ : ByteArray)) ((⟨#[76]⟩ : ByteArray))), (S_ar3_str.mk ((⟨#[115, 117, 109]⟩ : ByteArray)) ((⟨#[76]⟩ : ByteArray)) ((⟨#[73]⟩ : ByteArray))), (S_ar3_str.mk ((⟨#[115, 104, 105, 102, 116]⟩ : ByteArray)) ((⟨#[76, 73]⟩ : ByteArray)) ((⟨#[76]⟩ : ByteArray))), (S_ar3_str.mk ((⟨#[115, 99, 97, 108, 101]⟩ : ByteArray)) ((⟨#[76, 73]⟩ : ByteArray)) ((⟨#[76]⟩ : ByteArray))), (S_ar3_str.mk ((⟨#[97, 98, 111, 118, 101]⟩ : ByteArray)) ((⟨#[76, 73]⟩ : ByteArray)) ((⟨#[76]⟩ : ByteArray))), (S_ar3_str.mk ((⟨#[101, 118, 101, 110]⟩ : ByteArray)) ((⟨#[76]⟩ : ByteArray)) ((⟨#[76]⟩ : ByteArray))), (S_ar3_str.mk ((⟨#[122, 105, 112]⟩ : ByteArray)) ((⟨#[76, 76]⟩ : ByteArray)) ((⟨#[76]⟩ : ByteArray))), (S_ar3_str.mk ((⟨#[97, 112, 112, 101, 110, 100]⟩ : ByteArray)) ((⟨#[76, 76]⟩ : ByteArray)) ((⟨#[76]⟩ : ByteArray))), (S_ar3_str.mk ((⟨#[101, 108, 101, 109, 101, 110, 116]⟩ : ByteArray)) ((⟨#[76, 73]⟩ : ByteArray)) ((⟨#[73]⟩ : ByteArray))), (S_ar3_str.mk ((⟨#[99, 111, 117, 110, 116]⟩ : ByteArray)) ((⟨#[76, 73]⟩ : ByteArray)) ((⟨#[73]⟩ : ByteArray))), (S_ar3_str.mk ((⟨#[109, 97, 120, 105, 109, 117, 109]⟩ : ByteArray)) ((⟨#[76]⟩ : ByteArray)) ((⟨#[73]⟩ : ByteArray))), (S_ar3_str.mk ((⟨#[109, 105, 110, 105, 109, 117, 109]⟩ : ByteArray)) ((⟨#[76]⟩ : ByteArray)) ((⟨#[73]⟩ : ByteArray))), (S_ar3_str.mk ((⟨#[114, 117, 110, 110, 105, 110, 103]⟩ : ByteArray)) ((⟨#[76]⟩ : ByteArray)) ((⟨#[76]⟩ : ByteArray))), (S_ar3_str.mk ((⟨#[108, 101, 110, 103, 116, 104]⟩ : ByteArray)) ((⟨#[76]⟩ : ByteArray)) ((⟨#[73]⟩ : ByteArray)))] : List (S_ar3_str))) else (bif (a0.toList == (⟨#[116, 97, 98, 108, 101, 115]⟩ : ByteArray).toList) then (some ([(S_ar3_str.mk ((⟨#[116, 114, 97, 110, 115, 112, 111, 115, 101]⟩ : ByteArray)) ((⟨#[77]⟩ : ByteArray)) ((⟨#[77]⟩ : ByteArray))), (S_ar3_str.mk ((⟨#[114, 111, 119]⟩ : ByteArray)) ((⟨#[77, 73]⟩ : ByteArray)) ((⟨#[83]⟩ : ByteArray))), (S_ar3_str.mk ((⟨#[99, 111, 108, 117, 109, 110]⟩ : ByteArray)) ((⟨#[77, 73]⟩ : ByteArray)) ((⟨#[83]⟩ : ByteArray))), (S_ar3_str.mk ((⟨#[100, 114, 111, 112, 114, 111, 119]⟩ : ByteArray)) ((⟨#[77, 73]⟩ : ByteArray)) ((⟨#[77]⟩ : ByteArray))), (S_ar3_str.mk ((⟨#[100, 114, 111, 112, 99, 111, 108, 117, 109, 110]⟩ : ByteArray)) ((⟨#[77, 73]⟩ : ByteArray)) ((⟨#[77]⟩ : ByteArray))), (S_ar3_str.mk ((⟨#[115, 111, 114, 116, 116, 97, 98, 108, 101]⟩ : ByteArray)) ((⟨#[77, 73]⟩ : ByteArray)) ((⟨#[77]⟩ : ByteArray))), (S_ar3_str.mk ((⟨#[102, 105, 108, 108]⟩ : ByteArray)) ((⟨#[77]⟩ : ByteArray)) ((⟨#[77]⟩ : ByteArray))), (S_ar3_str.mk ((⟨#[117, 110, 112, 105, 118, 111, 116]⟩ : ByteArray)) ((⟨#[77, 73]⟩ : ByteArray)) ((⟨#[77]⟩ : ByteArray))), (S_ar3_str.mk ((⟨#[112, 105, 118, 111, 116]⟩ : ByteArray)) ((⟨#[77]⟩ : ByteArray)) ((⟨#[77]⟩ : ByteArray))), (S_ar3_str.mk ((⟨#[99, 101, 108, 108]⟩ : ByteArray)) ((⟨#[77, 73, 73]⟩ : ByteArray)) ((⟨#[84]⟩ : ByteArray))), (S_ar3_str.mk ((⟨#[115, 116, 97, 99, 107]⟩ : ByteArray)) ((⟨#[77, 77]⟩ : ByteArray)) ((⟨#[77]⟩ : ByteArray))), (S_ar3_str.mk ((⟨#[98, 101, 115, 105, 100, 101]⟩ : ByteArray)) ((⟨#[77, 77]⟩ : ByteArray)) ((⟨#[77]⟩ : ByteArray))), (S_ar3_str.mk ((⟨#[115, 112, 108, 105, 116, 99, 111, 108, 117, 109, 110]⟩ : ByteArray)) ((⟨#[77, 73, 84]⟩ : ByteArray)) ((⟨#[77]⟩ : ByteArray)))] : List (S_ar3_str))) else (some ([(S_ar3_str.mk ((⟨#[98, 97, 110, 100]⟩ : ByteArray)) ((⟨#[86, 86]⟩ : ByteArray)) ((⟨#[86]⟩ : ByteArray))), (S_ar3_str.mk ((⟨#[98, 111, 114]⟩ : ByteArray)) ((⟨#[86, 86]⟩ : ByteArray)) ((⟨#[86]⟩ : ByteArray))), (S_ar3_str.mk ((⟨#[98, 120, 111, 114]⟩ : ByteArray)) ((⟨#[86, 86]⟩ : ByteArray)) ((⟨#[86]⟩ : ByteArray))), (S_ar3_str.mk ((⟨#[98, 110, 111, 116]⟩ : ByteArray)) ((⟨#[86]⟩ : ByteArray)) ((⟨#[86]⟩ : ByteArray))), (S_ar3_str.mk ((⟨#[98, 97, 100, 100]⟩ : ByteArray)) ((⟨#[86, 86]⟩ : ByteArray)) ((⟨#[86]⟩ : ByteArray))), (S_ar3_str.mk ((⟨#[98, 115, 117, 98]⟩ : ByteArray)) ((⟨#[86, 86]⟩ : ByteArray)) ((⟨#[86]⟩ : ByteArray))), (S_ar3_str.mk ((⟨#[98, 109, 117, 108]⟩ : ByteArray)) ((⟨#[86, 86]⟩ : ByteArray)) ((⟨#[86]⟩ : ByteArray))), (S_ar3_str.mk ((⟨#[98, 108, 101, 102, 116]⟩ : ByteArray)) ((⟨#[86, 73]⟩ : ByteArray)) ((⟨#[86]⟩ : ByteArray))), (S_ar3_str.mk ((⟨#[98, 114, 105, 103, 104, 116]⟩ : ByteArray)) ((⟨#[86, 73]⟩ : ByteArray)) ((⟨#[86]⟩ : ByteArray))), (S_ar3_str.mk ((⟨#[98, 97, 114, 105, 116, 104]⟩ : ByteArray)) ((⟨#[86, 73]⟩ : ByteArray)) ((⟨#[86]⟩ : ByteArray))), (S_ar3_str.mk ((⟨#[111, 110, 101, 115]⟩ : ByteArray)) ((⟨#[86]⟩ : ByteArray)) ((⟨#[73]⟩ : ByteArray))), (S_ar3_str.mk ((⟨#[101, 113, 98, 105, 116, 115]⟩ : ByteArray)) ((⟨#[86, 86]⟩ : ByteArray)) ((⟨#[66]⟩ : ByteArray)))] : List (S_ar3_str)))))))))
theorem synthesisref09_catalog_ok (a0 : ByteArray) (r : List S_ar3_str) (h : synthesisref09_catalog a0 = some r) : PCall Try.prog 95 [eS a0] ((eL 3 eS_ar3_str) (r)) := by
 unfold synthesisref09_catalog at h
 refine pcl [.one (.sl 3)] Try.func95 (by kernel_rfl) (by kernel_rfl) (by kernel_rfl) ?_
 refine cd 15 h (by kernel_rfl) (fun h => ?_) fun h => ?_
 ·cases h; exact lq 12 (by kernel_rfl)
 refine cd 5 h (by kernel_rfl) (fun h => ?_) fun h => ?_
 ·cases h; exact lq 14 (by kernel_rfl)
 refine cd 5 h (by kernel_rfl) (fun h => ?_) fun h => ?_
 ·cases h; exact lq 25 (by kernel_rfl)
 refine cd 5 h (by kernel_rfl) (fun h => ?_) fun h => ?_
 ·cases h; exact lq 16 (by kernel_rfl)
 refine cd 5 h (by kernel_rfl) (fun h => ?_) fun h => ?_
 ·cases h; exact lq 26 (by kernel_rfl)
 refine cd 5 h (by kernel_rfl) (fun h => ?_) fun h => ?_
 ·cases h; exact lq 19 (by kernel_rfl)
 cases h; exact lq 19 (by kernel_rfl)

def synthesisref09_families  : Option (List ByteArray) := (some ([(⟨#[108, 111, 103, 105, 99]⟩ : ByteArray), (⟨#[110, 117, 109, 98, 101, 114, 115]⟩ : ByteArray), (⟨#[116, 101, 120, 116, 115]⟩ : ByteArray), (⟨#[112, 97, 116, 116, 101, 114, 110, 115]⟩ : ByteArray), (⟨#[108, 105, 115, 116, 115]⟩ : ByteArray), (⟨#[116, 97, 98, 108, 101, 115]⟩ : ByteArray), (⟨#[98, 105, 116, 115]⟩ : ByteArray)] : List (ByteArray)))
theorem synthesisref09_families_ok  (r : List ByteArray) (h : synthesisref09_families  = some r) : PCall Try.prog 100 [] ((eL 1 eS) (r)) := by
 unfold synthesisref09_families at h
 refine pcl [.one (.sl 1)] Try.func100 (by kernel_rfl) (by kernel_rfl) (by kernel_rfl) ?_
 cases h; exact lq 10 (by kernel_rfl)

def synthesisref09_Family_l1 (a0 : ByteArray) (v3 : ByteArray) (v4 : List S_ar3_str) (v5 : (Int)) : Option (((Int)) ⊕ (((Unit) ⊕ (ByteArray)))) := (bif (decide (v5 < (List.length v4 : Int))) then (Option.bind (idx v4 v5) fun v6 => (bif (v6.f_0.toList == a0.toList) then (some (.inr (.inr v3))) else (some (.inl ((w64 (v5 + 1))))))) else (some (.inr (.inl ()))))
def synthesisref09_Family_l2 (a0 : ByteArray) (v1 : List ByteArray) (v2 : (Int)) : Option (((Int)) ⊕ (((Unit) ⊕ (ByteArray)))) := (bif (decide (v2 < (List.length v1 : Int))) then (Option.bind (idx v1 v2) fun v3 => (Option.bind (synthesisref09_catalog (v3)) fun v4 => (Option.bind (loopN (synthesisref09_Family_l1 a0 v3 v4) fuel (0)) fun (v7 : ((Unit) ⊕ (ByteArray))) => Sum.elim (fun v8 => (some (.inl ((w64 (v2 + 1)))))) (fun v9 => (some (.inr (.inr v9)))) v7))) else (some (.inr (.inl ()))))
def synthesisref09_Family (a0 : ByteArray) : Option (ByteArray) := (Option.bind (synthesisref09_families ) fun v1 => (Option.bind (loopN (synthesisref09_Family_l2 a0 v1) fuel (0)) fun (v10 : ((Unit) ⊕ (ByteArray))) => Sum.elim (fun v11 => (some (⟨#[]⟩ : ByteArray))) (fun v12 => (some v12)) v10))
theorem synthesisref09_Family_ok (a0 : ByteArray) (r : ByteArray) (h : synthesisref09_Family a0 = some r) : PCall Try.prog 94 [eS a0] (eS (r)) := by
 unfold synthesisref09_Family at h
 refine pcl [.one .keep] Try.func94 (by kernel_rfl) (by kernel_rfl) (by kernel_rfl) ?_
 refine cl 7 h (synthesisref09_families_ok) (by kernel_rfl) fun v1 h => ?_
 refine lpx 4 (fun v2 => ⟨27, [(0, (fS (a0))), (7, (.fz ((eL 1 eS) (v1)))), (8, (fI ((List.length v1 : Int)))), (9, (fI (v2)))], [], [], []⟩) (fun v10 e st => Sum.elim (fun p => e = .exit 0 ∧ LeSt st ⟨27, [], [], [], []⟩) (fun p => e = .ret ∧ retX TT st Try.f94.results.toList [.one .keep] = some (eS (p))) v10) h (by kernel_rfl) (le_a (by kernel_rfl)) (fun v2 r h => ?_) fun v10 h e st' hq => ?_
 ·unfold synthesisref09_Family_l2 at h
  refine cd 5 h (by kernel_rfl) (fun h => ?_) fun h => ?_
  ·refine ix nS 5 h (by kernel_rfl) fun v3 h => ?_
   refine cl 6 h (synthesisref09_catalog_ok _) (by kernel_rfl) fun v4 h => ?_
   refine lpx 4 (fun v5 => ⟨27, [(0, (fS (a0))), (4, (fS (v3))), (7, (.fz ((eL 1 eS) (v1)))), (8, (fI ((List.length v1 : Int)))), (9, (fI (v2))), (14, (.fz ((eL 3 eS_ar3_str) (v4)))), (15, (fI ((List.length v4 : Int)))), (16, (fI (v5)))], [], [], []⟩) (fun v7 e st => Sum.elim (fun p => e = .exit 2 ∧ LeSt st ⟨27, [(0, (fS (a0))), (7, (.fz ((eL 1 eS) (v1)))), (8, (fI ((List.length v1 : Int)))), (9, (fI (v2)))], [], [], []⟩) (fun p => e = .ret ∧ retX TT st Try.f94.results.toList [.one .keep] = some (eS (p))) v7) h (by kernel_rfl) (le_a (by kernel_rfl)) (fun v5 r h => ?_) fun v7 h e st' hq => ?_
   ·unfold synthesisref09_Family_l1 at h
    refine cd 5 h (by kernel_rfl) (fun h => ?_) fun h => ?_
    ·refine ix nS_ar3_str 5 h (by kernel_rfl) fun v6 h => ?_
     refine cd 11 h (by kernel_rfl) (fun h => ?_) fun h => ?_
     ·cases h; exact lor 6 (by kernel_rfl)
     cases h; exact lj 5 (by kernel_rfl)
    cases h; exact lo 1 (by kernel_rfl)
   rcases v7 with v8 | v9
   ·try simp only [Sum.elim_inl, Sum.elim_inr] at h
    obtain ⟨rfl, hle⟩ := hq
    refine ⟨_, hle, ?_⟩
    cases h; exact lj 4 (by kernel_rfl)
   ·try simp only [Sum.elim_inl, Sum.elim_inr] at h
    obtain ⟨rfl, hret⟩ := hq
    refine ⟨_, LeSt.refl, ?_⟩
    cases h; exact lvo hret
  cases h; exact lo 1 (by kernel_rfl)
 rcases v10 with v11 | v12
 ·try simp only [Sum.elim_inl, Sum.elim_inr] at h
  obtain ⟨rfl, hle⟩ := hq
  refine ⟨_, hle, ?_⟩
  cases h; exact lq 5 (by kernel_rfl)
 ·try simp only [Sum.elim_inl, Sum.elim_inr] at h
  obtain ⟨rfl, hret⟩ := hq
  refine ⟨_, LeSt.refl, ?_⟩
  cases h; exact lv hret

def synthesisref09_letter_l1 (a0 : Int) (v1 : (Int)) : Option (((Int)) ⊕ (((Unit) ⊕ (Int)))) := (bif (decide (v1 < ((⟨#[66, 73, 84, 86, 76, 83, 77, 80]⟩ : ByteArray).size : Int))) then (Option.bind (byt (⟨#[66, 73, 84, 86, 76, 83, 77, 80]⟩ : ByteArray) v1) fun v2 => (bif (v2 == a0) then (some (.inr (.inr (w64 (v1 + 1))))) else (some (.inl ((w64 (v1 + 1))))))) else (some (.inr (.inl ()))))
def synthesisref09_letter (a0 : Int) : Option (Int) := (Option.bind (loopN (synthesisref09_letter_l1 a0) fuel (0)) fun (v3 : ((Unit) ⊕ (Int))) => Sum.elim (fun v4 => (some 0)) (fun v5 => (some v5)) v3)
theorem synthesisref09_letter_ok (a0 : Int) (r : Int) (h : synthesisref09_letter a0 = some r) : PCall Try.prog 96 [eU8 a0] (eI (r)) := by
 unfold synthesisref09_letter at h
 refine pcl [.one .keep] Try.func96 (by kernel_rfl) (by kernel_rfl) (by kernel_rfl) ?_
 refine lpx 14 (fun v1 => ⟨18, [(0, (.fz (eU8 (a0)))), (3, (fS ((⟨#[66, 73, 84, 86, 76, 83, 77, 80]⟩ : ByteArray)))), (4, (fI (v1)))], [], [], []⟩) (fun v3 e st => Sum.elim (fun p => e = .exit 0 ∧ LeSt st ⟨18, [], [], [], []⟩) (fun p => e = .ret ∧ retX TT st Try.f96.results.toList [.one .keep] = some (eI (p))) v3) h (by kernel_rfl) (le_a (by kernel_rfl)) (fun v1 r h => ?_) fun v3 h e st' hq => ?_
 ·unfold synthesisref09_letter_l1 at h
  refine cd 8 h (by kernel_rfl) (fun h => ?_) fun h => ?_
  ·refine byx 7 h (by kernel_rfl) fun v2 h => ?_
   refine cd 3 h (by kernel_rfl) (fun h => ?_) fun h => ?_
   ·cases h; exact lor 7 (by kernel_rfl)
   cases h; exact lj 6 (by kernel_rfl)
  cases h; exact lo 1 (by kernel_rfl)
 rcases v3 with v4 | v5
 ·try simp only [Sum.elim_inl, Sum.elim_inr] at h
  obtain ⟨rfl, hle⟩ := hq
  refine ⟨_, hle, ?_⟩
  cases h; exact lq 5 (by kernel_rfl)
 ·try simp only [Sum.elim_inl, Sum.elim_inr] at h
  obtain ⟨rfl, hret⟩ := hq
  refine ⟨_, LeSt.refl, ?_⟩
  cases h; exact lv hret

def synthesisref09_Find_l1 (v4 : S_ar3_str) (v7 : (Int) × (List Int)) : Option (((Int) × (List Int)) ⊕ ((List Int))) := (bif (decide (v7.1 < (v4.f_1.size : Int))) then (Option.bind (byt v4.f_1 v7.1) fun v8 => (Option.bind (synthesisref09_letter (v8)) fun v9 => (Option.bind (app 8 v7.2 ([v9] : List (Int))) fun v10 => (some (.inl ((w64 (v7.1 + 1)), v10)))))) else (some (.inr (v7.2))))
def synthesisref09_Find_l2 (a0 : ByteArray) (v2 : List S_ar3_str) (v3 : (Int)) : Option (((Int)) ⊕ (((Unit) ⊕ ((S_api_Operator) × (Bool))))) := (bif (decide (v3 < (List.length v2 : Int))) then (Option.bind (idx v2 v3) fun v4 => (bif (v4.f_0.toList == a0.toList) then (Option.bind (byt v4.f_2 0) fun v5 => (Option.bind (synthesisref09_letter (v5)) fun v6 => (Option.bind (loopN (synthesisref09_Find_l1 v4) fuel (0, ([] : List (Int)))) fun (v12 : (List Int)) => (some (.inr (.inr ((S_api_Operator.mk (a0) (v12) (v6)), true))))))) else (some (.inl ((w64 (v3 + 1))))))) else (some (.inr (.inl ()))))
def synthesisref09_Find (a0 : ByteArray) : Option ((S_api_Operator) × (Bool)) := (Option.bind (synthesisref09_Family (a0)) fun v1 => (bif (v1.toList == (⟨#[]⟩ : ByteArray).toList) then (some ((S_api_Operator.mk ((⟨#[]⟩ : ByteArray)) (([] : List Int)) (0)), false)) else (Option.bind (synthesisref09_catalog (v1)) fun v2 => (Option.bind (loopN (synthesisref09_Find_l2 a0 v2) fuel (0)) fun (v13 : ((Unit) ⊕ ((S_api_Operator) × (Bool)))) => Sum.elim (fun v14 => (some ((S_api_Operator.mk ((⟨#[]⟩ : ByteArray)) (([] : List Int)) (0)), false))) (fun v15 => (some v15)) v13))))
theorem synthesisref09_Find_ok (a0 : ByteArray) (r : (S_api_Operator) × (Bool)) (h : synthesisref09_Find a0 = some r) : PCall Try.prog 90 [eS a0] (.tup [eS_api_Operator (r.1), eB (r.2)]) := by
 unfold synthesisref09_Find at h
 refine pcl [.ag [.keep, .sl 1, .keep], .one .keep] Try.func90 (by kernel_rfl) (by kernel_rfl) (by kernel_rfl) ?_
 refine cl 8 h (synthesisref09_Family_ok _) (by kernel_rfl) fun v1 h => ?_
 refine cd 8 h (by kernel_rfl) (fun h => ?_) fun h => ?_
 ·cases h; exact lq 7 (by kernel_rfl)
 refine cl 5 h (synthesisref09_catalog_ok _) (by kernel_rfl) fun v2 h => ?_
 refine lpx 4 (fun v3 => ⟨51, [(0, (fS (a0))), (2, (.ref 1 0 0)), (15, (.fz ((eL 3 eS_ar3_str) (v2)))), (16, (fI ((List.length v2 : Int)))), (17, (fI (v3)))], [(1, (.box 101 [(fS ((⟨#[]⟩ : ByteArray))), (.fz (.atom (.slice none 0 0))), (fI (0))]))], [1], []⟩) (fun v13 e st => Sum.elim (fun p => e = .exit 0 ∧ LeSt st ⟨51, [(2, (.ref 1 0 0))], [(1, (.box 101 [(fS ((⟨#[]⟩ : ByteArray))), (.fz (.atom (.slice none 0 0))), (fI (0))]))], [1], []⟩) (fun p => e = .ret ∧ retX TT st Try.f90.results.toList [.ag [.keep, .sl 1, .keep], .one .keep] = some (.tup [eS_api_Operator (p.1), eB (p.2)])) v13) h (by kernel_rfl) (le_a (by kernel_rfl)) (fun v3 r h => ?_) fun v13 h e st' hq => ?_
 ·unfold synthesisref09_Find_l2 at h
  refine cd 5 h (by kernel_rfl) (fun h => ?_) fun h => ?_
  ·refine ix nS_ar3_str 5 h (by kernel_rfl) fun v4 h => ?_
   refine cd 11 h (by kernel_rfl) (fun h => ?_) fun h => ?_
   ·refine byx 5 h (by kernel_rfl) fun v5 h => ?_
    refine cl 0 h (synthesisref09_letter_ok _) (by kernel_rfl) fun v6 h => ?_
    refine wle 10 (le_nilcell (e2 := 101) (e := 3) (size := 1) (id2 := 3) (j := 1) (id := 4) (cells := [(fS (a0)), (.fz (.atom (.slice none 0 0))), (fI (v6))]) (by kernel_rfl) (by kernel_rfl) (by kernel_rfl) (by kernel_rfl)) (by kernel_rfl) ?_
    refine lp1 0 (fun v7 => ⟨51, [(2, (.ref 1 0 0)), (6, (.ref 2 0 0)), (7, (.ref 3 0 0)), (8, (fI (v7.1)))], [(1, (.box 101 [(fS ((⟨#[]⟩ : ByteArray))), (.fz (.atom (.slice none 0 0))), (fI (0))])), (2, (.box 122 [(fS (v4.f_0)), (fS (v4.f_1)), (fS (v4.f_2))])), (3, (.box 101 [(fS (a0)), (.row 4 (List.length (v7.2))), (fI (v6))])), (4, (.frow 3 1 (List.map eI (v7.2))))], [4, 3, 2, 1], []⟩) (.exit 2) (fun v12 => ⟨51, [(2, (.ref 1 0 0)), (7, (.ref 3 0 0))], [(1, (.box 101 [(fS ((⟨#[]⟩ : ByteArray))), (.fz (.atom (.slice none 0 0))), (fI (0))])), (3, (.box 101 [(fS (a0)), (.row 4 (List.length (v12))), (fI (v6))])), (4, (.frow 3 1 (List.map eI (v12))))], [4, 3, 1], []⟩) h (by kernel_rfl) (by kernel_rfl) (fun v7 r h => ?_) fun v12 h => ?_
    ·unfold synthesisref09_Find_l1 at h
     refine cd 9 h (by kernel_rfl) (fun h => ?_) fun h => ?_
     ·refine dw 3 8 (by kernel_rfl) ?_
      refine byx 5 h (by kernel_rfl) fun v8 h => ?_
      refine cl 0 h (synthesisref09_letter_ok _) (by kernel_rfl) fun v9 h => ?_
      refine ap nI 2 h (by kernel_rfl) fun v10 h => ?_
      cases h; exact lj 8 (by kernel_rfl)
     cases h; exact lo 1 (by kernel_rfl)
    refine wle 6 (le_freezeCell (e2 := 101) (id2 := 1) (j := 1) (id := 4) (n := List.length (v12)) (e := 3) (size := 1) (xs := List.map eI (v12)) (cells := [(fS (a0)), (.row 4 (List.length (v12))), (fI (v6))]) (by kernel_rfl) (by kernel_rfl) (by kernel_rfl) (by simp)) (by kernel_rfl) ?_
    cases h; exact lor 1 (by kernel_rfl)
   cases h; exact lj 5 (by kernel_rfl)
  cases h; exact lo 1 (by kernel_rfl)
 rcases v13 with v14 | v15
 ·try simp only [Sum.elim_inl, Sum.elim_inr] at h
  obtain ⟨rfl, hle⟩ := hq
  refine ⟨_, hle, ?_⟩
  cases h; exact lq 7 (by kernel_rfl)
 ·try simp only [Sum.elim_inl, Sum.elim_inr] at h
  obtain ⟨rfl, hret⟩ := hq
  refine ⟨_, LeSt.refl, ?_⟩
  cases h; exact lv hret

def synthesisref11_operation_m0 (a0 : La) (a1 : Ru) (v1 : (S_api_Operator) × (Bool)) : List (Nat × AObj) := [(1, (.box 26 [(fS (a0.name)), (.fz ((eL 1 eI) (a0.inputs))), (.fz ((eL 2 eSy) (a0.symbols))), (.fz ((eL 9 eRu) (a0.rules)))])), (2, (.box 50 [(fI (a1.symbol)), (fI (a1.kind)), (fI (a1.input)), (fI (a1.const.type)), (fI (a1.const.num)), (fS (a1.const.text)), (.fz ((eL 4 eVaR) (a1.const.items))), (fS (a1.op)), (.fz ((eL 1 eI) (a1.args)))])), (3, (.box 101 [(fS (v1.1.f_Name)), (.fz ((eL 1 eI) (v1.1.f_Args))), (fI (v1.1.f_Result))]))]
def synthesisref11_operation_l1 (a0 : La) (a1 : Ru) (v1 : (S_api_Operator) × (Bool)) (v2 : (Int)) : Option (((Int)) ⊕ (((Unit) ⊕ (Int)))) := (bif (decide (v2 < (List.length a1.args : Int))) then (Option.bind ((Option.bind (idx a1.args v2) fun v3 => (bif (decide (v3 < 0)) then (some (true)) else (Option.bind (idx a1.args v2) fun v4 => (some ((decide ((List.length a0.symbols : Int) ≤ v4))))))) : Option ((Bool))) fun (v6 : (Bool)) => (bif v6 then (some (.inr (.inr 1))) else (Option.bind (idx a1.args v2) fun v7 => (Option.bind (idx a0.symbols v7) fun v8 => (Option.bind (idx v1.1.f_Args v2) fun v9 => (bif (v8.type != v9) then (some (.inr (.inr 3))) else (some (.inl ((w64 (v2 + 1))))))))))) else (some (.inr (.inl ()))))
def synthesisref11_operation (a0 : La) (a1 : Ru) : Option (Int) := (Option.bind (synthesisref09_Find (a1.op)) fun v1 => (bif (!v1.2) then (some 5) else (bif ((List.length a1.args : Int) != (List.length v1.1.f_Args : Int)) then (some 2) else (Option.bind (loopN (synthesisref11_operation_l1 a0 a1 v1) fuel (0)) fun (v10 : ((Unit) ⊕ (Int))) => Sum.elim (fun v11 => (Option.bind (idx a0.symbols a1.symbol) fun v12 => (bif (v12.type != v1.1.f_Result) then (some 3) else (some 0)))) (fun v13 => (some v13)) v10))))
theorem synthesisref11_operation_ok (a0 : La) (a1 : Ru) (r : Int) (h : synthesisref11_operation a0 a1 = some r) : PCall Try.prog 76 [eLa a0, eRu a1] (eI (r)) := by
 unfold synthesisref11_operation at h
 refine pcl [.one .keep] Try.func76 (by kernel_rfl) (by kernel_rfl) (by kernel_rfl) ?_
 refine cl 10 h (synthesisref09_Find_ok _) (by kernel_rfl) fun v1 h => ?_
 refine cd 13 h (by kernel_rfl) (fun h => ?_) fun h => ?_
 ·cases h; exact lq 5 (by kernel_rfl)
 refine cd 12 h (by kernel_rfl) (fun h => ?_) fun h => ?_
 ·cases h; exact lq 5 (by kernel_rfl)
 refine lpx 7 (fun v2 => ⟨73, [(2, (.ref 1 0 0)), (3, (.ref 2 0 0)), (5, (.ref 3 0 0)), (7, (fI (v2)))], (synthesisref11_operation_m0 a0 a1 v1), [3, 2, 1], []⟩) (fun v10 e st => Sum.elim (fun p => e = .exit 0 ∧ LeSt st ⟨73, [(2, (.ref 1 0 0)), (3, (.ref 2 0 0)), (5, (.ref 3 0 0))], (synthesisref11_operation_m0 a0 a1 v1), [3, 2, 1], []⟩) (fun p => e = .ret ∧ retX TT st Try.f76.results.toList [.one .keep] = some (eI (p))) v10) h (by kernel_rfl) (le_a (by kernel_rfl)) (fun v2 r h => ?_) fun v10 h e st' hq => ?_
 ·unfold synthesisref11_operation_l1 at h
  refine cd 9 h (by kernel_rfl) (fun h => ?_) fun h => ?_
  ·refine jn1 5 .normal (fun v6 => ⟨73, [(2, (.ref 1 0 0)), (3, (.ref 2 0 0)), (5, (.ref 3 0 0)), (7, (fI (v2))), (46, (fB (v6)))], (synthesisref11_operation_m0 a0 a1 v1), [3, 2, 1], []⟩) h (by kernel_rfl) (fun v6 h => ?_) fun v6 h => ?_
   ·refine dw 0 15 (by kernel_rfl) ?_
    refine ix nI 3 h (by kernel_rfl) fun v3 h => ?_
    refine gd 3 h (by kernel_rfl) (fun h => ?_) fun h => ?_
    ·cases h; exact lj 12 (by kernel_rfl)
    refine ix nI 3 h (by kernel_rfl) fun v4 h => ?_
    cases h; exact lj 8 (by kernel_rfl)
   refine cd 0 h (by kernel_rfl) (fun h => ?_) fun h => ?_
   ·cases h; exact lor 5 (by kernel_rfl)
   refine dw 2 15 (by kernel_rfl) ?_
   refine ix nI 5 h (by kernel_rfl) fun v7 h => ?_
   refine ix nSy 1 h (by kernel_rfl) fun v8 h => ?_
   refine ix nI 5 h (by kernel_rfl) fun v9 h => ?_
   refine cd 4 h (by kernel_rfl) (fun h => ?_) fun h => ?_
   ·cases h; exact lor 5 (by kernel_rfl)
   cases h; exact lj 6 (by kernel_rfl)
  cases h; exact lo 1 (by kernel_rfl)
 rcases v10 with v11 | v13
 ·try simp only [Sum.elim_inl, Sum.elim_inr] at h
  obtain ⟨rfl, hle⟩ := hq
  refine ⟨_, hle, ?_⟩
  refine dw 2 9 (by kernel_rfl) ?_
  refine ix nSy 4 h (by kernel_rfl) fun v12 h => ?_
  refine cd 7 h (by kernel_rfl) (fun h => ?_) fun h => ?_
  ·cases h; exact lq 5 (by kernel_rfl)
  cases h; exact lq 6 (by kernel_rfl)
 ·try simp only [Sum.elim_inl, Sum.elim_inr] at h
  obtain ⟨rfl, hret⟩ := hq
  refine ⟨_, LeSt.refl, ?_⟩
  cases h; exact lv hret

def synthesisref11_rule_m0 (a0 : La) (a1 : Ru) : List (Nat × AObj) := [(1, (.box 26 [(fS (a0.name)), (.fz ((eL 1 eI) (a0.inputs))), (.fz ((eL 2 eSy) (a0.symbols))), (.fz ((eL 9 eRu) (a0.rules)))])), (2, (.box 50 [(fI (a1.symbol)), (fI (a1.kind)), (fI (a1.input)), (fI (a1.const.type)), (fI (a1.const.num)), (fS (a1.const.text)), (.fz ((eL 4 eVaR) (a1.const.items))), (fS (a1.op)), (.fz ((eL 1 eI) (a1.args)))]))]
def synthesisref11_rule (a0 : La) (a1 : Ru) : Option (Int) := (Option.bind ((bif (decide (a1.symbol < 0)) then (some (true)) else (some ((decide ((List.length a0.symbols : Int) ≤ a1.symbol))))) : Option ((Bool))) fun (v2 : (Bool)) => (bif v2 then (some 1) else (Option.bind ((bif (decide (a1.kind < 1)) then (some (true)) else (bif (decide (3 < a1.kind)) then (some (true)) else (Option.bind (synthesisref11_zero (a1)) fun v3 => (some ((!v3)))))) : Option ((Bool))) fun (v5 : (Bool)) => (bif v5 then (some 4) else (Option.bind (idx a0.symbols a1.symbol) fun v6 => (bif (a1.kind == 1) then (Option.bind ((bif (decide (a1.input < 0)) then (some (true)) else (some ((decide ((List.length a0.inputs : Int) ≤ a1.input))))) : Option ((Bool))) fun (v8 : (Bool)) => (bif v8 then (some 1) else (Option.bind (idx a0.inputs a1.input) fun v9 => (bif (v9 != v6.type) then (some 3) else (some 0))))) else (bif (a1.kind == 2) then (Option.bind (synthesisref01_Check fuel (a1.const)) fun v10 => (bif (v10 != 0) then (some v10) else (bif (a1.const.type != v6.type) then (some 3) else (some 0)))) else (Option.bind (synthesisref11_operation (a0) (a1)) fun v11 => (some v11)))))))))
theorem synthesisref11_rule_ok (a0 : La) (a1 : Ru) (r : Int) (h : synthesisref11_rule a0 a1 = some r) : PCall Try.prog 61 [eLa a0, eRu a1] (eI (r)) := by
 unfold synthesisref11_rule at h
 refine pcl [.one .keep] Try.func61 (by kernel_rfl) (by kernel_rfl) (by kernel_rfl) ?_
 refine jn1 8 .normal (fun v2 => ⟨77, [(2, (.ref 1 0 0)), (3, (.ref 2 0 0)), (17, (fB (v2)))], (synthesisref11_rule_m0 a0 a1), [2, 1], []⟩) h (by kernel_rfl) (fun v2 h => ?_) fun v2 h => ?_
 ·refine gd 5 h (by kernel_rfl) (fun h => ?_) fun h => ?_
  ·cases h; exact lj 8 (by kernel_rfl)
  cases h; exact lj 8 (by kernel_rfl)
 refine cd 0 h (by kernel_rfl) (fun h => ?_) fun h => ?_
 ·cases h; exact lq 5 (by kernel_rfl)
 refine jn1 3 .normal (fun v5 => ⟨77, [(2, (.ref 1 0 0)), (3, (.ref 2 0 0)), (30, (fB (v5)))], (synthesisref11_rule_m0 a0 a1), [2, 1], []⟩) h (by kernel_rfl) (fun v5 h => ?_) fun v5 h => ?_
 ·refine gd 5 h (by kernel_rfl) (fun h => ?_) fun h => ?_
  ·cases h; exact lj 10 (by kernel_rfl)
  refine gd 5 h (by kernel_rfl) (fun h => ?_) fun h => ?_
  ·cases h; exact lj 5 (by kernel_rfl)
  refine cl 1 h (synthesisref11_zero_ok _) (by kernel_rfl) fun v3 h => ?_
  cases h; exact lj 3 (by kernel_rfl)
 refine cd 0 h (by kernel_rfl) (fun h => ?_) fun h => ?_
 ·cases h; exact lq 5 (by kernel_rfl)
 refine ix nSy 7 h (by kernel_rfl) fun v6 h => ?_
 refine cd 16 h (by kernel_rfl) (fun h => ?_) fun h => ?_
 ·refine jn1 2 .normal (fun v8 => ⟨77, [(2, (.ref 1 0 0)), (3, (.ref 2 0 0)), (5, (fI (v6.type))), (52, (fB (v8)))], (synthesisref11_rule_m0 a0 a1), [2, 1], []⟩) h (by kernel_rfl) (fun v8 h => ?_) fun v8 h => ?_
  ·refine gd 5 h (by kernel_rfl) (fun h => ?_) fun h => ?_
   ·cases h; exact lj 8 (by kernel_rfl)
   cases h; exact lj 8 (by kernel_rfl)
  refine cd 0 h (by kernel_rfl) (fun h => ?_) fun h => ?_
  ·cases h; exact lq 5 (by kernel_rfl)
  refine ix nI 8 h (by kernel_rfl) fun v9 h => ?_
  refine cd 4 h (by kernel_rfl) (fun h => ?_) fun h => ?_
  ·cases h; exact lq 5 (by kernel_rfl)
  cases h; exact lq 6 (by kernel_rfl)
 refine cd 5 h (by kernel_rfl) (fun h => ?_) fun h => ?_
 ·refine cl 5 h (synthesisref01_Check_ok _ _) (by kernel_rfl) fun v10 h => ?_
  refine cd 7 h (by kernel_rfl) (fun h => ?_) fun h => ?_
  ·cases h; exact lq 6 (by kernel_rfl)
  refine cd 10 h (by kernel_rfl) (fun h => ?_) fun h => ?_
  ·cases h; exact lq 5 (by kernel_rfl)
  cases h; exact lq 6 (by kernel_rfl)
 refine cl 5 h (synthesisref11_operation_ok _ _) (by kernel_rfl) fun v11 h => ?_
 cases h; exact lq 3 (by kernel_rfl)

def synthesisref11_SameInts_l1 (a0 : List Int) (a1 : List Int) (v1 : (Int)) : Option (((Int)) ⊕ (((Unit) ⊕ (Bool)))) := (bif (decide (v1 < (List.length a0 : Int))) then (Option.bind (idx a0 v1) fun v2 => (Option.bind (idx a1 v1) fun v3 => (bif (v2 != v3) then (some (.inr (.inr false))) else (some (.inl ((w64 (v1 + 1)))))))) else (some (.inr (.inl ()))))
def synthesisref11_SameInts (a0 : List Int) (a1 : List Int) : Option (Bool) := (bif ((List.length a0 : Int) != (List.length a1 : Int)) then (some false) else (Option.bind (loopN (synthesisref11_SameInts_l1 a0 a1) fuel (0)) fun (v4 : ((Unit) ⊕ (Bool))) => Sum.elim (fun v5 => (some true)) (fun v6 => (some v6)) v4))
theorem synthesisref11_SameInts_ok (a0 : List Int) (a1 : List Int) (r : Bool) (h : synthesisref11_SameInts a0 a1 = some r) : PCall Try.prog 77 [(eL 1 eI) a0, (eL 1 eI) a1] (eB (r)) := by
 unfold synthesisref11_SameInts at h
 refine pcl [.one .keep] Try.func77 (by kernel_rfl) (by kernel_rfl) (by kernel_rfl) ?_
 refine cd 13 h (by kernel_rfl) (fun h => ?_) fun h => ?_
 ·cases h; exact lq 5 (by kernel_rfl)
 refine lpx 7 (fun v1 => ⟨26, [(0, (.fz ((eL 1 eI) (a0)))), (1, (.fz ((eL 1 eI) (a1)))), (5, (fI (v1)))], [], [], []⟩) (fun v4 e st => Sum.elim (fun p => e = .exit 0 ∧ LeSt st ⟨26, [], [], [], []⟩) (fun p => e = .ret ∧ retX TT st Try.f77.results.toList [.one .keep] = some (eB (p))) v4) h (by kernel_rfl) (le_a (by kernel_rfl)) (fun v1 r h => ?_) fun v4 h e st' hq => ?_
 ·unfold synthesisref11_SameInts_l1 at h
  refine cd 8 h (by kernel_rfl) (fun h => ?_) fun h => ?_
  ·refine dw 4 8 (by kernel_rfl) ?_
   refine ix nI 2 h (by kernel_rfl) fun v2 h => ?_
   refine ix nI 3 h (by kernel_rfl) fun v3 h => ?_
   refine cd 4 h (by kernel_rfl) (fun h => ?_) fun h => ?_
   ·cases h; exact lor 5 (by kernel_rfl)
   cases h; exact lj 6 (by kernel_rfl)
  cases h; exact lo 1 (by kernel_rfl)
 rcases v4 with v5 | v6
 ·try simp only [Sum.elim_inl, Sum.elim_inr] at h
  obtain ⟨rfl, hle⟩ := hq
  refine ⟨_, hle, ?_⟩
  cases h; exact lq 5 (by kernel_rfl)
 ·try simp only [Sum.elim_inl, Sum.elim_inr] at h
  obtain ⟨rfl, hret⟩ := hq
  refine ⟨_, LeSt.refl, ?_⟩
  cases h; exact lv hret

def synthesisref11_SameRule (a0 : Ru) (a1 : Ru) : Option (Bool) := (Option.bind ((bif (a0.symbol == a1.symbol) then (bif (a0.kind == a1.kind) then (bif (a0.input == a1.input) then (bif (a0.op.toList == a1.op.toList) then (Option.bind (synthesisref11_SameInts (a0.args) (a1.args)) fun v1 => (bif v1 then (Option.bind (synthesisref01_Equal (a0.const) (a1.const)) fun v2 => (some (v2))) else (some (false)))) else (some (false))) else (some (false))) else (some (false))) else (some (false))) : Option ((Bool))) fun (v4 : (Bool)) => (some v4))
theorem synthesisref11_SameRule_ok (a0 : Ru) (a1 : Ru) (r : Bool) (h : synthesisref11_SameRule a0 a1 = some r) : PCall Try.prog 62 [eRu a0, eRu a1] (eB (r)) := by
 unfold synthesisref11_SameRule at h
 refine pcl [.one .keep] Try.func62 (by kernel_rfl) (by kernel_rfl) (by kernel_rfl) ?_
 refine jn1 7 .normal (fun v4 => ⟨45, [(4, (fB (v4)))], [], [], []⟩) h (by kernel_rfl) (fun v4 h => ?_) fun v4 h => ?_
 ·refine gd 7 h (by kernel_rfl) (fun h => ?_) fun h => ?_
  ·refine gd 7 h (by kernel_rfl) (fun h => ?_) fun h => ?_
   ·refine gd 7 h (by kernel_rfl) (fun h => ?_) fun h => ?_
    ·refine gd 7 h (by kernel_rfl) (fun h => ?_) fun h => ?_
     ·refine cl 4 h (synthesisref11_SameInts_ok _ _) (by kernel_rfl) fun v1 h => ?_
      refine gd 2 h (by kernel_rfl) (fun h => ?_) fun h => ?_
      ·refine cl 4 h (synthesisref01_Equal_ok _ _) (by kernel_rfl) fun v2 h => ?_
       cases h; exact lj 3 (by kernel_rfl)
      cases h; exact lj 8 (by kernel_rfl)
     cases h; exact lj 15 (by kernel_rfl)
    cases h; exact lj 22 (by kernel_rfl)
   cases h; exact lj 29 (by kernel_rfl)
  cases h; exact lj 36 (by kernel_rfl)
 cases h; exact lq 1 (by kernel_rfl)
end Go.Proofs.Ytfkddbccogakoaa
