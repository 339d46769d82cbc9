/- The law TermCompares holds for every pair of terms: Compare is that of the specification, and antisymmetric.
   Conditions: none beyond the given statement's own. -/
import Derived.Test.YtkimcgcbdfkobaaSmall
import Derived.Test.YtkimcgcbdfkobaaOrd
import Derived.Test.YtkimcgcbdfkobaaOpenTm
set_option linter.unusedVariables false
set_option linter.unusedSimpArgs false
namespace Go.Proofs.Ytkimcgcbdfkobaa
open Go Go.RowKit

set_option maxHeartbeats 2000000 in
theorem compares_walk (t0 t1 : Tm) (v0 v1 : Value) (w : World) (hv0 : TmV Any w v0 t0) (hv1 : TmV Any w v1 t1) :
    Calls Try.prog 4 #[v0, v1] w fun e w' => e = .returned (.bool true) ∧ Grow w w' := by
  have HSM := Lib.hid (show smallB [t0, t1] = (withinB t0 40 && withinB t1 40) by simp [smallB])
  have hanti := cmpT_anti t0 t1
  have hvals := cmpT_vals t0 t1
  have hlo : -1 ≤ cmpT t0 t1 := by omega
  have hhi : cmpT t0 t1 ≤ 1 := by omega
  clear hvals
  have HV0 := Lib.hid hv0
  obtain ⟨r0, l0, hsr0⟩ : ∃ r l, t0 = .mk r l := ⟨t0.rule, t0.args, by cases t0; rfl⟩
  rw [hsr0] at hv0
  obtain ⟨A0, cap0, rfl, hr0, hc0, hm0, hl0⟩ := hv0.form
  have HSR0 := Lib.hid hsr0
  clear hv0 hl0 hsr0
  have HV1 := Lib.hid hv1
  obtain ⟨r1, l1, hsr1⟩ : ∃ r l, t1 = .mk r l := ⟨t1.rule, t1.args, by cases t1; rfl⟩
  rw [hsr1] at hv1
  obtain ⟨A1, cap1, rfl, hr1, hc1, hm1, hl1⟩ := hv1.form
  have HSR1 := Lib.hid hsr1
  clear hv1 hl1 hsr1
  have hW : Grow w ((w.alloc (.cells #[.int .i64 r0, .slice A0 l0.length cap0] 24)).alloc (.cells #[.int .i64 r1, .slice A1 l1.length cap1] 24)) := (Below.step (grow_alloc _ _) (grow_alloc _ _))
  have HLIT : Hid (Tms Any (((w.alloc (.cells #[.int .i64 r0, .slice A0 l0.length cap0] 24)).alloc (.cells #[.int .i64 r1, .slice A1 l1.length cap1] 24)).alloc (.cells #[.int .i64 r0, .slice A0 l0.length cap0, .int .i64 r1, .slice A1 l1.length cap1] 24)) (.slice (some ⟨w.heap.size + 2, 0, none⟩) 2 2) [t0, t1]) := by
    have hG : Grow w (((w.alloc (.cells #[.int .i64 r0, .slice A0 l0.length cap0] 24)).alloc (.cells #[.int .i64 r1, .slice A1 l1.length cap1] 24)).alloc (.cells #[.int .i64 r0, .slice A0 l0.length cap0, .int .i64 r1, .slice A1 l1.length cap1] 24)) := Below.step (Below.step (grow_alloc _ _) (grow_alloc _ _)) (grow_alloc _ _)
    have hrep0 := HV0.out.cells.keep (Same.of_grow hG)
    have hrep1 := HV1.out.cells.keep (Same.of_grow hG)
    have hblk := heap_alloc_new ((w.alloc (.cells #[.int .i64 r0, .slice A0 l0.length cap0] 24)).alloc (.cells #[.int .i64 r1, .slice A1 l1.length cap1] 24)) (.cells #[.int .i64 r0, .slice A0 l0.length cap0, .int .i64 r1, .slice A1 l1.length cap1] 24)
    simp only [World.size_alloc, Nat.add_assoc, Nat.reduceAdd] at hblk
    exact sl_lit [[.int .i64 r0, .slice A0 l0.length cap0], [.int .i64 r1, .slice A1 l1.length cap1]] [t0, t1] hblk rfl trivial (by simp) rfl (by simp)
      (fun i cs x hi hx => by
        match i, hi, hx with
        | 0, hi, hx => cases hi; cases hx; exact hrep0
        | 1, hi, hx => cases hi; cases hx; exact hrep1
        | k + 2, hi, _ => simp at hi)
  go_enter Try.func4, Try.ntmps4
  by_cases hw : (withinB t0 40 && withinB t1 40) = true
  · have hw2 := hw
    simp only [Bool.and_eq_true] at hw2
    have hsz0 : t0.size ≤ 1000000 := by have := of_decide_eq_true hw2.1; omega
    have hsz1 : t1.size ≤ 1000000 := by have := of_decide_eq_true hw2.2; omega
    clear hw2
    go_wp2_with (go_at_call 9; refine (small_any _ _ _ HLIT.out).mono ?_; rintro e w1 ⟨rfl, hb1⟩; rw [HSM.out, hw]; refine Hold.stop ?_)
    have hG1 : Grow ((w.alloc (.cells #[.int .i64 r0, .slice A0 l0.length cap0] 24)).alloc (.cells #[.int .i64 r1, .slice A1 l1.length cap1] 24)) w1 := Below.step (grow_alloc _ _) hb1
    obtain ⟨hc1, hf1⟩ := bcell hG1
    refine Hold.go ?_
    go_wp2_with (go_at_call 18; refine (refcompare_any _ _ _ _ _ (HV0.out.keep (Same.of_grow (Below.step hW hG1))) (HV1.out.keep (Same.of_grow (Below.step hW hG1))) hsz0 hsz1).mono ?_; rintro e w2 ⟨rfl, hb2⟩; refine Hold.stop ?_)
    have hG2 : Grow ((w.alloc (.cells #[.int .i64 r0, .slice A0 l0.length cap0] 24)).alloc (.cells #[.int .i64 r1, .slice A1 l1.length cap1] 24)) w2 := Below.step hG1 hb2
    clear hc1 hf1
    obtain ⟨hc1, hf1⟩ := bcell hG2
    refine Hold.go ?_
    go_wp2_with (go_at_call 19; refine (compare_any _ _ _ _ _ (HV0.out.keep (Same.of_grow (Below.step hW hG2))) (HV1.out.keep (Same.of_grow (Below.step hW hG2))) hsz0 hsz1).mono ?_; rintro e w3 ⟨rfl, hb3⟩; refine Hold.stop ?_)
    have hG3 : Grow ((w.alloc (.cells #[.int .i64 r0, .slice A0 l0.length cap0] 24)).alloc (.cells #[.int .i64 r1, .slice A1 l1.length cap1] 24)) w3 := Below.step hG2 hb3
    clear hc1 hf1
    obtain ⟨hc1, hf1⟩ := bcell hG3
    refine Hold.go ?_
    go_wp2_with (go_at_call 19; refine (compare_any _ _ _ _ _ (HV1.out.keep (Same.of_grow (Below.step hW hG3))) (HV0.out.keep (Same.of_grow (Below.step hW hG3))) hsz1 hsz0).mono ?_; rintro e w4 ⟨rfl, hb4⟩; refine Hold.stop ?_)
    have hG4 : Grow ((w.alloc (.cells #[.int .i64 r0, .slice A0 l0.length cap0] 24)).alloc (.cells #[.int .i64 r1, .slice A1 l1.length cap1] 24)) w4 := Below.step hG3 hb4
    clear hc1 hf1
    refine Hold.go ?_
    go_wp2_with (go_at_call 10; refine (alive_any _).mono ?_; rintro e w5 ⟨rfl, hb5⟩)
    go_ret
    exact ⟨by simp, Below.step (Below.step hW hG4) hb5⟩
  · have hw' : (withinB t0 40 && withinB t1 40) = false := by simpa using hw
    clear hw
    go_wp2_with (first | (go_at_call 9; refine (small_any _ _ _ HLIT.out).mono ?_; rintro e w1 ⟨rfl, hb1⟩; rw [HSM.out, hw']) | (go_at_call 10; refine (alive_any _).mono ?_; rintro e w2 ⟨rfl, hb2⟩))
    go_ret
    exact ⟨rfl, Below.step (Below.step (Below.step hW (grow_alloc _ _)) hb1) hb2⟩

open Go.ChangeShapes Go.WideShapes Go.ChangeAt
set_option maxRecDepth 100000 in
theorem termCompares_lifted (os : Os) (started : os.Started) (H : Type) (enc : TypeId × Value → H) :
    ReturnsInHanded {} Try.checked os 4 .any (Rows.termComparesSpec.pre6 enc Try.prog Try.f4 Rows.termComparesRow.domain false) (Rows.termComparesSpec.post enc Try.prog Try.f4 false true false false) := by
  refine returnsInHanded_of_change (C := Try.checked) own_knob started (by kernel_rfl) Try.func4
    (ChangeSpec.witness6 (enc := enc) (C := Try.checked) false ⟨#[], #[.agg #[.int .i64 0, .slice none 0 0], .agg #[.int .i64 0, .slice none 0 0]], []⟩ 8 (by kernel_rfl) (by kernel_rfl) (by kernel_rfl) (by kernel_rfl)) ?_
  intro W base args ds gs before hval0 hW _ _
  have hval : ∀ (j : Nat) t v, Try.f4.params[j]? = some t → args[j]? = some v → Value.okWide Try.prog W .any base t v := hval0
  have hW' := hW
  obtain ⟨p, q, hA0, hV, rfl, hfz, hnd⟩ := hW
  have hA : DataW.TrodAll enc Try.prog W 0 (fun _ => true) true Try.f4.params.toList args.toList ds p := hA0
  rw [Try.params4] at hA hval
  obtain ⟨v0, vs0, d0, ds0, p0, q0, hargs, rfl, rfl, h0, r0⟩ := trodAll_cons hA
  obtain ⟨v1, vs1, d1, ds1, p1, q1, rfl, rfl, rfl, h1, r1⟩ := trodAll_cons r0
  obtain ⟨rfl, rfl, rfl⟩ := trodAll_nil r1
  obtain rfl : args = #[v0, v1] := by cases args; simp_all
  obtain ⟨rfl, rfl⟩ := trodVars_none hV
  obtain ⟨t0, ht0⟩ := open_termV (hval 0 24 v0 rfl rfl) h0
  obtain ⟨t1, ht1⟩ := open_termV (hval 1 24 v1 rfl rfl) h1
  refine (compares_walk t0 t1 v0 v1 W ht0 ht1).mono fun e W' ⟨he, hg⟩ => ?_
  subst he
  exact ⟨_, rfl, law_post laid_out (by rw [Try.params4]; intro t ht; simp at ht; rcases ht with rfl | rfl <;> exact ⟨by kernel_rfl, of_decide_eq_true (by kernel_rfl)⟩) rfl Try.underlying4 rfl rfl hW' hg⟩

theorem termCompares_holds : Rows.TermComparesSaid :=
  OpenClaim.holds_of_wide 4 Try.f4 rfl rfl rfl rfl rfl rfl rfl ⟨rfl, rfl, rfl, rfl, rfl⟩ rfl rfl rfl rfl rfl (by kernel_rfl) Try.func4 (by kernel_rfl)
    (of_decide_eq_true (by kernel_rfl)) (by unfold Func.isWrapper; rw [if_neg (of_decide_eq_false (by kernel_rfl))]; exact ⟨rfl, rfl⟩)
    (fun os started H enc _ => termCompares_lifted os started H enc)
end Go.Proofs.Ytkimcgcbdfkobaa
