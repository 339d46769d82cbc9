/- The law TermUses holds: Uses reports whether an input occurs, for any language and term.
   Conditions: none beyond the given statement's own. -/
import Derived.Test.YtkimcgcbdfkobaaSmall
import Derived.Test.YtkimcgcbdfkobaaUses
import Derived.Test.YtkimcgcbdfkobaaOpenTm
import Derived.Test.YtkimcgcbdfkobaaOpenLang
set_option linter.unusedVariables false
set_option linter.unusedSimpArgs false
namespace Go.Proofs.Ytkimcgcbdfkobaa
open Go Go.RowKit

theorem tms_one {w : World} {a b : Value} {t : Tm} (h : RepTm Any w [a, b] t) : Tms Any (w.alloc (.cells #[a, b] 24)) (.slice (some ⟨w.heap.size, 0, none⟩) 1 1) [t] := by
  have hblk := heap_alloc_new w (.cells #[a, b] 24)
  exact sl_lit [[a, b]] [t] hblk rfl trivial (by simp) rfl (by simp) (fun i cs y hi hy => by
    match i, hi, hy with
    | 0, hi, hy => cases hi; cases hy; exact h.keep (Same.of_grow (grow_alloc _ _))
    | k + 1, hi, _ => simp at hi)

set_option maxHeartbeats 4000000 in
theorem usesLaw_walk (g : La) (t : Tm) (i : Int) (u v : Value) (w : World) (hu : LaV Any w u g) (hv : TmV Any w v t) :
    Calls Try.prog 6 #[u, v, .int .i64 i] w fun e w' => e = .returned (.bool true) ∧ Grow w w' := by
  have HSM := Lib.hid (show smallB [t] = withinB t 40 by simp [smallB])
  have hu' := hu
  have hv' := hv
  obtain ⟨A1, c1, A2, c2, A3, c3, rfl, hn, h1, h2, h3, ⟨l1, m1⟩, ⟨l2, m2⟩, ⟨l3, m3⟩⟩ := hu.form
  obtain ⟨r, l, hsr⟩ : ∃ r l, t = .mk r l := ⟨t.rule, t.args, by cases t; rfl⟩
  rw [hsr] at hv
  obtain ⟨A, cap, rfl, hr, hc, hm, hl⟩ := hv.form
  have hW : Grow w ((w.alloc (.cells #[.string g.name, .slice A1 g.inputs.length c1, .slice A2 g.symbols.length c2, .slice A3 g.rules.length c3] 38)).alloc (.cells #[.int .i64 r, .slice A l.length cap] 24)) := Below.step (grow_alloc _ _) (grow_alloc _ _)
  have HU := Lib.hid (hu'.keep (Same.of_grow hW))
  have HV := Lib.hid (hv'.keep (Same.of_grow hW))
  clear hu hv hu' hv' h1 h2 h3 hl hn hsr
  have b0 : ((w.alloc (.cells #[.string g.name, .slice A1 g.inputs.length c1, .slice A2 g.symbols.length c2, .slice A3 g.rules.length c3] 38)).alloc (.cells #[.int .i64 r, .slice A l.length cap] 24)).cell? ⟨w.heap.size, 0, none⟩ = some (.string g.name) := by simp [go_sem]
  have b1 : ((w.alloc (.cells #[.string g.name, .slice A1 g.inputs.length c1, .slice A2 g.symbols.length c2, .slice A3 g.rules.length c3] 38)).alloc (.cells #[.int .i64 r, .slice A l.length cap] 24)).cell? ⟨w.heap.size, 1, none⟩ = some (.slice A1 g.inputs.length c1) := by simp [go_sem]
  have b2 : ((w.alloc (.cells #[.string g.name, .slice A1 g.inputs.length c1, .slice A2 g.symbols.length c2, .slice A3 g.rules.length c3] 38)).alloc (.cells #[.int .i64 r, .slice A l.length cap] 24)).cell? ⟨w.heap.size, 2, none⟩ = some (.slice A2 g.symbols.length c2) := by simp [go_sem]
  have b3 : ((w.alloc (.cells #[.string g.name, .slice A1 g.inputs.length c1, .slice A2 g.symbols.length c2, .slice A3 g.rules.length c3] 38)).alloc (.cells #[.int .i64 r, .slice A l.length cap] 24)).cell? ⟨w.heap.size, 3, none⟩ = some (.slice A3 g.rules.length c3) := by simp [go_sem]
  have b4 : ((w.alloc (.cells #[.string g.name, .slice A1 g.inputs.length c1, .slice A2 g.symbols.length c2, .slice A3 g.rules.length c3] 38)).alloc (.cells #[.int .i64 r, .slice A l.length cap] 24)).cell? ⟨w.heap.size + 1, 0, none⟩ = some (.int .i64 r) := by simp [go_sem]
  have b5 : ((w.alloc (.cells #[.string g.name, .slice A1 g.inputs.length c1, .slice A2 g.symbols.length c2, .slice A3 g.rules.length c3] 38)).alloc (.cells #[.int .i64 r, .slice A l.length cap] 24)).cell? ⟨w.heap.size + 1, 1, none⟩ = some (.slice A l.length cap) := by simp [go_sem]
  go_enter Try.func6, Try.ntmps6
  go_wp2_with fail
  generalize hWd : (w.alloc (.cells #[.string g.name, .slice A1 g.inputs.length c1, .slice A2 g.symbols.length c2, .slice A3 g.rules.length c3] 38)).alloc (.cells #[.int .i64 r, .slice A l.length cap] 24) = W at *
  clear hWd
  have z0 : w.heap.size < W.heap.size := cell_lt b0
  have z1 : w.heap.size + 1 < W.heap.size := cell_lt b4
  by_cases hf : fewB g = true
  · by_cases hw : withinB t 40 = true
    · have HS2 := Lib.hid (show smallB [t] = true by rw [HSM.out, hw])
      clear hw
      have hs2 := HS2.out
      refine wp_region_rel (fun w' => Grow (W) w') (by kernel_rfl) (grow_drew _) (fun a b h k => Below.step h k) ?_
      apply Exists.intro
      constructor
      iterate 5 (first | (apply rel_det; rfl; intro w1 hC1 hF1; obtain ⟨hc1, hf1⟩ := bcell hC1; go_simp; (first | exact ⟨Below.refl _ _, rfl⟩ | (go_at_call 20; exact rel_call (few_any g _ _ (HU.out.keep (Same.of_grow hC1))))); intro K hK; go_simp; refine hK _ ?_; clear hK K) | (apply rel_skip; rfl; intro K hK; go_simp; refine hK _ ?_; clear hK K))
      apply rel_some (G := fun v w' => Tms Any w' v [t]) (hG := fun v w w' h hb => h.keep (Same.of_grow hb))
      · rfl
      · intro w1 hC1 hF1; obtain ⟨hc1, hf1⟩ := bcell hC1; go_simp; exact ⟨grow_alloc _ _, tms_one (HV.out.keep (Same.of_grow hC1)).cells⟩
      intro vs K hK; go_simp; refine hK _ ?_; clear hK K
      repeat (first | (apply rel_det; rfl; intro w1 hC1 hF1; obtain ⟨hc1, hf1⟩ := bcell hC1; go_simp; (first | exact ⟨Below.refl _ _, rfl⟩ | (go_at_call 9; exact rel_call (small_any [t] _ _ (hF1 5 rfl : Tms Any _ vs [t]))) | (go_at_call 21; exact rel_call (uses_any g i t _ _ _ (HU.out.keep (Same.of_grow hC1)) (HV.out.keep (Same.of_grow hC1)))) | (go_at_call 22; exact rel_call (refuses_any g i t _ _ _ (HU.out.keep (Same.of_grow hC1)) (HV.out.keep (Same.of_grow hC1)))) | (go_at_call 10; exact rel_call (alive_any _))); intro K hK; go_simp; refine hK _ ?_; clear hK K) | (apply rel_skip; rfl; intro K hK; go_simp; refine hK _ ?_; clear hK K))
      refine rel_nil (fun w2 hC2 hF2 => ?_)
      refine wpList_nil ?_
      rotate_left
      kernel_rfl
      go_wp2_with fail
      go_ret
      exact ⟨by simp, Below.step hW hC2⟩
    · have hw' : withinB t 40 = false := by simpa using hw
      have hs2 : smallB [t] = false := by rw [HSM.out, hw']
      clear hw
      refine wp_region_rel (fun w' => Grow (W) w') (by kernel_rfl) (grow_drew _) (fun a b h k => Below.step h k) ?_
      apply Exists.intro
      constructor
      iterate 5 (first | (apply rel_det; rfl; intro w1 hC1 hF1; obtain ⟨hc1, hf1⟩ := bcell hC1; go_simp; (first | exact ⟨Below.refl _ _, rfl⟩ | (go_at_call 20; exact rel_call (few_any g _ _ (HU.out.keep (Same.of_grow hC1))))); intro K hK; go_simp; refine hK _ ?_; clear hK K) | (apply rel_skip; rfl; intro K hK; go_simp; refine hK _ ?_; clear hK K))
      apply rel_some (G := fun v w' => Tms Any w' v [t]) (hG := fun v w w' h hb => h.keep (Same.of_grow hb))
      · rfl
      · intro w1 hC1 hF1; obtain ⟨hc1, hf1⟩ := bcell hC1; go_simp; exact ⟨grow_alloc _ _, tms_one (HV.out.keep (Same.of_grow hC1)).cells⟩
      intro vs K hK; go_simp; refine hK _ ?_; clear hK K
      repeat (first | (apply rel_det; rfl; intro w1 hC1 hF1; obtain ⟨hc1, hf1⟩ := bcell hC1; go_simp; (first | exact ⟨Below.refl _ _, rfl⟩ | (go_at_call 9; exact rel_call (small_any [t] _ _ (hF1 5 rfl : Tms Any _ vs [t]))) | (go_at_call 21; exact rel_call (uses_any g i t _ _ _ (HU.out.keep (Same.of_grow hC1)) (HV.out.keep (Same.of_grow hC1)))) | (go_at_call 22; exact rel_call (refuses_any g i t _ _ _ (HU.out.keep (Same.of_grow hC1)) (HV.out.keep (Same.of_grow hC1)))) | (go_at_call 10; exact rel_call (alive_any _))); intro K hK; go_simp; refine hK _ ?_; clear hK K) | (apply rel_skip; rfl; intro K hK; go_simp; refine hK _ ?_; clear hK K))
      refine rel_nil (fun w2 hC2 hF2 => ?_)
      refine wpList_nil ?_
      rotate_left
      kernel_rfl
      go_wp2_with fail
      go_ret
      exact ⟨by simp, Below.step hW hC2⟩
  · have hf' : fewB g = false := by simpa using hf
    clear hf
    refine wp_region_rel (fun w' => Grow (W) w') (by kernel_rfl) (grow_drew _) (fun a b h k => Below.step h k) ?_
    apply Exists.intro
    constructor
    repeat (first | (apply rel_det; rfl; intro w1 hC1 hF1; obtain ⟨hc1, hf1⟩ := bcell hC1; go_simp; (first | exact ⟨Below.refl _ _, rfl⟩ | (go_at_call 20; exact rel_call (few_any g _ _ (HU.out.keep (Same.of_grow hC1)))) | (go_at_call 21; exact rel_call (uses_any g i t _ _ _ (HU.out.keep (Same.of_grow hC1)) (HV.out.keep (Same.of_grow hC1)))) | (go_at_call 22; exact rel_call (refuses_any g i t _ _ _ (HU.out.keep (Same.of_grow hC1)) (HV.out.keep (Same.of_grow hC1)))) | (go_at_call 10; exact rel_call (alive_any _))); intro K hK; go_simp; refine hK _ ?_; clear hK K) | (apply rel_skip; rfl; intro K hK; go_simp; refine hK _ ?_; clear hK K))
    refine rel_nil (fun w2 hC2 hF2 => ?_)
    refine wpList_nil ?_
    rotate_left
    kernel_rfl
    go_wp2_with fail
    go_ret
    exact ⟨by simp, Below.step hW hC2⟩

open Go.ChangeShapes Go.WideShapes Go.ChangeAt
set_option maxRecDepth 100000 in
theorem termUses_lifted (os : Os) (started : os.Started) (H : Type) (enc : TypeId × Value → H) :
    ReturnsInHanded {} Try.checked os 6 .any (Rows.termUsesSpec.pre6 enc Try.prog Try.f6 Rows.termUsesRow.domain false) (Rows.termUsesSpec.post enc Try.prog Try.f6 false true false false) := by
  refine returnsInHanded_of_change (C := Try.checked) own_knob started (by kernel_rfl) Try.func6
    (ChangeSpec.witness6 (enc := enc) (C := Try.checked) false ⟨#[], #[.agg #[.string ⟨#[]⟩, .slice none 0 0, .slice none 0 0, .slice none 0 0], .agg #[.int .i64 0, .slice none 0 0], .int .i64 0], []⟩ 8 (by kernel_rfl) (by kernel_rfl) (by kernel_rfl) (by kernel_rfl)) ?_
  intro W base args ds gs before hval0 hW _ _
  have hval : ∀ (j : Nat) t v, Try.f6.params[j]? = some t → args[j]? = some v → Value.okWide Try.prog W .any base t v := hval0
  have hW' := hW
  obtain ⟨p, q, hA0, hV, rfl, hfz, hnd⟩ := hW
  have hA : DataW.TrodAll enc Try.prog W 0 (fun _ => true) true Try.f6.params.toList args.toList ds p := hA0
  rw [Try.params6] at hA hval
  obtain ⟨v0, vs0, d0, ds0, p0, q0, hargs, rfl, rfl, h0, r0⟩ := trodAll_cons hA
  obtain ⟨v1, vs1, d1, ds1, p1, q1, rfl, rfl, rfl, h1, r1⟩ := trodAll_cons r0
  obtain ⟨v2, vs2, d2, ds2, p2, q2, rfl, rfl, rfl, h2, r2⟩ := trodAll_cons r1
  obtain ⟨rfl, rfl, rfl⟩ := trodAll_nil r2
  obtain rfl : args = #[v0, v1, v2] := by cases args; simp_all
  obtain ⟨rfl, rfl⟩ := trodVars_none hV
  obtain ⟨l0, hl0⟩ := open_languageV (hval 0 38 v0 rfl rfl) h0
  obtain ⟨t1, ht1⟩ := open_termV (hval 1 24 v1 rfl rfl) h1
  obtain ⟨n2, rfl, rfl, rfl, wf2⟩ := open_int Try.underlying3 (hval 2 3 v2 rfl rfl) h2
  refine (usesLaw_walk l0 t1 n2 v0 v1 W hl0 ht1).mono fun e W' ⟨he, hg⟩ => ?_
  subst he
  exact ⟨_, rfl, law_post laid_out (by rw [Try.params6]; intro t ht; simp at ht; rcases ht with rfl | rfl | rfl <;> exact ⟨by kernel_rfl, of_decide_eq_true (by kernel_rfl)⟩) rfl Try.underlying4 rfl rfl hW' hg⟩

theorem termUses_holds : Rows.TermUsesSaid :=
  OpenClaim.holds_of_wide 6 Try.f6 rfl rfl rfl rfl rfl rfl rfl ⟨rfl, rfl, rfl, rfl, rfl⟩ rfl rfl rfl rfl rfl (by kernel_rfl) Try.func6 (by kernel_rfl)
    (of_decide_eq_true (by kernel_rfl)) (by unfold Func.isWrapper; rw [if_neg (of_decide_eq_false (by kernel_rfl))]; exact ⟨rfl, rfl⟩)
    (fun os started H enc _ => termUses_lifted os started H enc)
end Go.Proofs.Ytkimcgcbdfkobaa
