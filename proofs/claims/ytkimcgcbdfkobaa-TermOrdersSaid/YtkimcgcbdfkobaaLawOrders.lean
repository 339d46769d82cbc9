/- The law TermOrders holds for all terms: Compare is transitive, a smaller term comes first, and a subterm comes before the term.
   Conditions: none beyond the given statement's own. -/
import Derived.Test.YtkimcgcbdfkobaaSmall
import Derived.Test.YtkimcgcbdfkobaaOrd
import Derived.Test.YtkimcgcbdfkobaaOpenTm
import Derived.Deep.CutRange
set_option linter.unusedVariables false
set_option linter.unusedSimpArgs false
namespace Go.Proofs.Ytkimcgcbdfkobaa
open Go Go.RowKit

/-- the values that three comparisons can have -/
theorem three (a b c : Tm) : (cmpT a b ≤ 0 → cmpT b c ≤ 0 → cmpT a c ≤ 0) ∧ (0 ≤ cmpT a b → 0 ≤ cmpT b c → 0 ≤ cmpT a c) := by
  have v1 := cmpT_vals a b
  have v2 := cmpT_vals b c
  have v3 := cmpT_vals a c
  have a1 := cmpT_anti a b
  have a2 := cmpT_anti b c
  have a3 := cmpT_anti a c
  constructor
  · intro h1 h2
    rcases v1 with h | h | h
    · rcases v2 with h' | h' | h'
      · rw [cmpT_trans a b c h h']; omega
      · rw [← cmpT_eq0 h']; omega
      · omega
    · rw [cmpT_eq0 h]; exact h2
    · omega
  · intro h1 h2
    rcases v1 with h | h | h
    · omega
    · rw [cmpT_eq0 h]; exact h2
    · rcases v2 with h' | h' | h'
      · omega
      · rw [← cmpT_eq0 h']; omega
      · have := cmpT_trans c b a (by omega) (by omega); omega

set_option maxHeartbeats 8000000 in
theorem orders_walk (t0 t1 t2 : Tm) (v0 v1 v2 : Value) (w : World) (hv0 : TmV Any w v0 t0) (hv1 : TmV Any w v1 t1) (hv2 : TmV Any w v2 t2) :
    Calls Try.prog 5 #[v0, v1, v2] w fun e w' => e = .returned (.bool true) ∧ Grow w w' := by
  have HSM := Lib.hid (show smallB [t0, t1, t2] = (withinB t0 40 && (withinB t1 40 && withinB t2 40)) by simp [smallB])
  have HVALS := Lib.hid (And.intro (cmpT_vals t0 t1) (And.intro (cmpT_vals t1 t2) (And.intro (cmpT_vals t0 t2) (And.intro (three t0 t1 t2) (cmpT_eq t0 t1).1))))
  have HV0 := Lib.hid hv0
  obtain ⟨r0, l0, hsr0⟩ : ∃ r l, t0 = .mk r l := ⟨t0.rule, t0.args, by cases t0; rfl⟩
  rw [hsr0] at hv0
  obtain ⟨A0, cap0, rfl, hr0, hc0, hm0, hl0⟩ := hv0.form
  have HSR0 := Lib.hid hsr0
  clear hv0 hl0 hsr0
  have HV1 := Lib.hid hv1
  obtain ⟨r1, l1, hsr1⟩ : ∃ r l, t1 = .mk r l := ⟨t1.rule, t1.args, by cases t1; rfl⟩
  rw [hsr1] at hv1
  obtain ⟨A1, cap1, rfl, hr1, hc1, hm1, hl1⟩ := hv1.form
  have HSR1 := Lib.hid hsr1
  clear hv1 hl1 hsr1
  have HV2 := Lib.hid hv2
  obtain ⟨r2, l2, hsr2⟩ : ∃ r l, t2 = .mk r l := ⟨t2.rule, t2.args, by cases t2; rfl⟩
  rw [hsr2] at hv2
  obtain ⟨A2, cap2, rfl, hr2, hc2, hm2, hl2⟩ := hv2.form
  have HSR2 := Lib.hid hsr2
  clear hv2 hl2 hsr2
  have hW : Grow w (((w.alloc (.cells #[.int .i64 r0, .slice A0 l0.length cap0] 24)).alloc (.cells #[.int .i64 r1, .slice A1 l1.length cap1] 24)).alloc (.cells #[.int .i64 r2, .slice A2 l2.length cap2] 24)) := (Below.step (Below.step (grow_alloc _ _) (grow_alloc _ _)) (grow_alloc _ _))
  have HLIT : Hid (Tms Any ((((w.alloc (.cells #[.int .i64 r0, .slice A0 l0.length cap0] 24)).alloc (.cells #[.int .i64 r1, .slice A1 l1.length cap1] 24)).alloc (.cells #[.int .i64 r2, .slice A2 l2.length cap2] 24)).alloc (.cells #[.int .i64 r0, .slice A0 l0.length cap0, .int .i64 r1, .slice A1 l1.length cap1, .int .i64 r2, .slice A2 l2.length cap2] 24)) (.slice (some ⟨w.heap.size + 3, 0, none⟩) 3 3) [t0, t1, t2]) := by
    have hG : Grow w ((((w.alloc (.cells #[.int .i64 r0, .slice A0 l0.length cap0] 24)).alloc (.cells #[.int .i64 r1, .slice A1 l1.length cap1] 24)).alloc (.cells #[.int .i64 r2, .slice A2 l2.length cap2] 24)).alloc (.cells #[.int .i64 r0, .slice A0 l0.length cap0, .int .i64 r1, .slice A1 l1.length cap1, .int .i64 r2, .slice A2 l2.length cap2] 24)) := Below.step (Below.step (Below.step (grow_alloc _ _) (grow_alloc _ _)) (grow_alloc _ _)) (grow_alloc _ _)
    have hrep0 := HV0.out.cells.keep (Same.of_grow hG)
    have hrep1 := HV1.out.cells.keep (Same.of_grow hG)
    have hrep2 := HV2.out.cells.keep (Same.of_grow hG)
    have hblk := heap_alloc_new (((w.alloc (.cells #[.int .i64 r0, .slice A0 l0.length cap0] 24)).alloc (.cells #[.int .i64 r1, .slice A1 l1.length cap1] 24)).alloc (.cells #[.int .i64 r2, .slice A2 l2.length cap2] 24)) (.cells #[.int .i64 r0, .slice A0 l0.length cap0, .int .i64 r1, .slice A1 l1.length cap1, .int .i64 r2, .slice A2 l2.length cap2] 24)
    simp only [World.size_alloc, Nat.add_assoc, Nat.reduceAdd] at hblk
    exact sl_lit [[.int .i64 r0, .slice A0 l0.length cap0], [.int .i64 r1, .slice A1 l1.length cap1], [.int .i64 r2, .slice A2 l2.length cap2]] [t0, t1, t2] hblk rfl trivial (by simp) rfl (by simp)
      (fun i cs x hi hx => by
        match i, hi, hx with
        | 0, hi, hx => cases hi; cases hx; exact hrep0
        | 1, hi, hx => cases hi; cases hx; exact hrep1
        | 2, hi, hx => cases hi; cases hx; exact hrep2
        | k + 3, hi, _ => simp at hi)
  have HL := Lib.hid (TmV.form (HSR0.out ▸ HV0.out))
  go_enter Try.func5, Try.ntmps5
  by_cases hw : (withinB t0 40 && (withinB t1 40 && withinB t2 40)) = true
  · have hw2 := hw
    simp only [Bool.and_eq_true] at hw2
    have hsz0 : t0.size ≤ 1000000 := by have := of_decide_eq_true hw2.1; omega
    have hsz1 : t1.size ≤ 1000000 := by have := of_decide_eq_true hw2.2.1; omega
    have hsz2 : t2.size ≤ 1000000 := by have := of_decide_eq_true hw2.2.2; omega
    clear hw2
    go_wp2_with (go_at_call 9; refine (small_any _ _ _ HLIT.out).mono ?_; rintro e w1 ⟨rfl, hb1⟩; rw [HSM.out, hw])
    have hG1 : Grow (((w.alloc (.cells #[.int .i64 r0, .slice A0 l0.length cap0] 24)).alloc (.cells #[.int .i64 r1, .slice A1 l1.length cap1] 24)).alloc (.cells #[.int .i64 r2, .slice A2 l2.length cap2] 24)) w1 := Below.step (grow_alloc _ _) hb1
    refine wp_region_rel (fun w' => Grow ((((w.alloc (.cells #[.int .i64 r0, .slice A0 l0.length cap0] 24)).alloc (.cells #[.int .i64 r1, .slice A1 l1.length cap1] 24)).alloc (.cells #[.int .i64 r2, .slice A2 l2.length cap2] 24))) w') (by kernel_rfl) (hG1.drew) (fun a b h k => Below.step h k) ?_
    apply Exists.intro
    constructor
    repeat (first | (apply rel_det; rfl; intro w1 hC1 hF1; obtain ⟨hc1, hf1⟩ := bcell hC1; go_simp; (first | exact ⟨Below.refl _ _, rfl⟩ | (go_at_call 19; exact rel_call (compare_any t0 t1 _ _ _ (HV0.out.keep (Same.of_grow (Below.step hW hC1))) (HV1.out.keep (Same.of_grow (Below.step hW hC1))) hsz0 hsz1)) | (go_at_call 19; exact rel_call (compare_any t1 t2 _ _ _ (HV1.out.keep (Same.of_grow (Below.step hW hC1))) (HV2.out.keep (Same.of_grow (Below.step hW hC1))) hsz1 hsz2)) | (go_at_call 19; exact rel_call (compare_any t0 t2 _ _ _ (HV0.out.keep (Same.of_grow (Below.step hW hC1))) (HV2.out.keep (Same.of_grow (Below.step hW hC1))) hsz0 hsz2))); intro K hK; go_simp; refine hK _ ?_; clear hK K) | (apply rel_skip; rfl; intro K hK; go_simp; refine hK _ ?_; clear hK K))
    refine rel_nil (fun w2 hC2 hF2 => ?_)
    refine wpList_nil ?_
    rotate_left
    kernel_rfl
    clear hb1 hG1 hw
    obtain ⟨v1, v2, v3, ⟨h5, h6⟩, h4⟩ := HVALS.out
    clear HVALS
    go_wp2_with fail
    go_cut [59] from 27 to 58 (fun s59 wx => s59 = .bool false ∧ Grow (((w.alloc (.cells #[.int .i64 r0, .slice A0 l0.length cap0] 24)).alloc (.cells #[.int .i64 r1, .slice A1 l1.length cap1] 24)).alloc (.cells #[.int .i64 r2, .slice A2 l2.length cap2] 24)) wx)
    case first =>
      generalize cmpT t0 t1 = x at *
      generalize cmpT t1 t2 = y at *
      generalize cmpT t0 t2 = z at *
      by_cases hlt : t0.size < t1.size
      · have hx := h4 hlt
        subst hx
        have hltI : (t0.size : Int) < t1.size := by omega
        rcases v2 with rfl | rfl | rfl <;> rcases v3 with rfl | rfl | rfl
        all_goals first
          | (exfalso; omega)
          | skip
        all_goals clear v1 h4 h5 h6
        all_goals
          refine wp_region_rel (fun w' => Grow ((((w.alloc (.cells #[.int .i64 r0, .slice A0 l0.length cap0] 24)).alloc (.cells #[.int .i64 r1, .slice A1 l1.length cap1] 24)).alloc (.cells #[.int .i64 r2, .slice A2 l2.length cap2] 24))) w') (by kernel_rfl) (hC2.drew) (fun a b h k => Below.step h k) ?_
          apply Exists.intro
          constructor
          repeat (first | (apply rel_det; rfl; intro w1 hC1 hF1; obtain ⟨hc1, hf1⟩ := bcell hC1; go_simp; (first | exact ⟨Below.refl _ _, rfl⟩ | (go_at_call 11; exact rel_call (size_any t0 _ _ (HV0.out.keep (Same.of_grow (Below.step hW hC1))) (by omega))) | (go_at_call 11; exact rel_call (size_any t1 _ _ (HV1.out.keep (Same.of_grow (Below.step hW hC1))) (by omega)))); intro K hK; go_simp; refine hK _ ?_; clear hK K) | (apply rel_skip; rfl; intro K hK; go_simp; refine hK _ ?_; clear hK K))
          refine rel_nil (fun w2 hC2 hF2 => ?_)
          refine wpList_nil ?_
          rotate_left
          kernel_rfl
          go_wp2_with fail
          go_meet
          exact ⟨rfl, hC2⟩
      · have hltI : ¬ (t0.size : Int) < t1.size := by omega
        rcases v1 with rfl | rfl | rfl <;> rcases v2 with rfl | rfl | rfl <;> rcases v3 with rfl | rfl | rfl
        all_goals first
          | (exfalso; omega)
          | skip
        all_goals clear h4 h5 h6
        all_goals
          refine wp_region_rel (fun w' => Grow ((((w.alloc (.cells #[.int .i64 r0, .slice A0 l0.length cap0] 24)).alloc (.cells #[.int .i64 r1, .slice A1 l1.length cap1] 24)).alloc (.cells #[.int .i64 r2, .slice A2 l2.length cap2] 24))) w') (by kernel_rfl) (hC2.drew) (fun a b h k => Below.step h k) ?_
          apply Exists.intro
          constructor
          repeat (first | (apply rel_det; rfl; intro w1 hC1 hF1; obtain ⟨hc1, hf1⟩ := bcell hC1; go_simp; (first | exact ⟨Below.refl _ _, rfl⟩ | (go_at_call 11; exact rel_call (size_any t0 _ _ (HV0.out.keep (Same.of_grow (Below.step hW hC1))) (by omega))) | (go_at_call 11; exact rel_call (size_any t1 _ _ (HV1.out.keep (Same.of_grow (Below.step hW hC1))) (by omega)))); intro K hK; go_simp; refine hK _ ?_; clear hK K) | (apply rel_skip; rfl; intro K hK; go_simp; refine hK _ ?_; clear hK K))
          refine rel_nil (fun w2 hC2 hF2 => ?_)
          refine wpList_nil ?_
          rotate_left
          kernel_rfl
          go_wp2_with fail
          go_meet
          exact ⟨rfl, hC2⟩
    case rest =>
      obtain ⟨rfl, hG⟩ := hcut
      obtain ⟨A, cap, hcc, _, _, _, hl⟩ := HL.out
      simp only [Value.agg.injEq, Array.mk.injEq, List.cons.injEq, and_true, true_and] at hcc
      rw [← hcc] at hl
      have HLW := Lib.hid (hl.keep (Same.of_grow hW))
      have HV0W := Lib.hid (HV0.out.keep (Same.of_grow hW))
      have HSUB := Lib.hid (fun (k : Nat) (hk : k < l0.length) => show cmpT l0[k] t0 = -1 by rw [HSR0.out]; exact cmpT_sub (List.getElem_mem hk))
      have HSZ := Lib.hid (fun (k : Nat) (hk : k < l0.length) => show l0[k].size ≤ 1000000 by have h := hsz0; rw [HSR0.out, Tm.size] at h; have := Tm.sizeL_mem (List.getElem_mem hk); omega)
      have cb0 : (((w.alloc (.cells #[.int .i64 r0, .slice A0 l0.length cap0] 24)).alloc (.cells #[.int .i64 r1, .slice A1 l1.length cap1] 24)).alloc (.cells #[.int .i64 r2, .slice A2 l2.length cap2] 24)).cell? ⟨w.heap.size, 0, none⟩ = some (.int .i64 r0) := by simp [go_sem]
      have cb1 : (((w.alloc (.cells #[.int .i64 r0, .slice A0 l0.length cap0] 24)).alloc (.cells #[.int .i64 r1, .slice A1 l1.length cap1] 24)).alloc (.cells #[.int .i64 r2, .slice A2 l2.length cap2] 24)).cell? ⟨w.heap.size, 1, none⟩ = some (.slice A0 l0.length cap0) := by simp [go_sem]
      clear hcc hl HV0 HV1 HV2 HLIT HL HSR0 HSR1 HSR2 HSM v1 v2 v3 h4 h5 h6
      generalize hWd : (((w.alloc (.cells #[.int .i64 r0, .slice A0 l0.length cap0] 24)).alloc (.cells #[.int .i64 r1, .slice A1 l1.length cap1] 24)).alloc (.cells #[.int .i64 r2, .slice A2 l2.length cap2] 24)) = W at *
      clear hWd
      have hbx0 := cell_lt cb0
      simp only at hbx0
      go_wp2_with fail
      go_loopw [10] (fun i wr => ∃ k : Nat, k ≤ l0.length ∧ i = .int .i64 k ∧ Grow W wr) (fun i _ => l0.length - (intOf i).toNat)
      case atStart => exact ⟨0, by omega, by simp, hG⟩
      case round =>
        obtain ⟨k, hk, rfl, hb⟩ := hrel
        have d0 := (Below.cell hb hbx0).trans cb0
        have d1 := (Below.cell hb hbx0).trans cb1
        by_cases hlt : k < l0.length
        · obtain ⟨b, o, A', n', c', rfl, -, e1, e2, hv⟩ := HLW.out.get hlt
          have HV := Lib.hid hv
          have HCK := Lib.hid (HSUB.out k hlt)
          have hszk := HSZ.out k hlt
          have hbl : b < W.heap.size := cell_lt e1
          clear hv
          go_wp2_with fail
          refine wp_region_rel (fun w' => Grow (W) w') (by kernel_rfl) (hb.drew) (fun a b h k => Below.step h k) ?_
          apply Exists.intro
          constructor
          repeat (first | (apply rel_det; rfl; intro w1 hC1 hF1; obtain ⟨hc1, hf1⟩ := bcell hC1; go_simp; (first | exact ⟨Below.refl _ _, rfl⟩ | (go_at_call 19; exact rel_call (c := .int .i64 (-1)) (by have h := compare_any l0[k] t0 _ _ _ (HV.out.keep (Same.of_grow hC1)) (HV0W.out.keep (Same.of_grow hC1)) hszk hsz0; rw [HCK.out] at h; exact h))); intro K hK; go_simp; refine hK _ ?_; clear hK K) | (apply rel_skip; rfl; intro K hK; go_simp; refine hK _ ?_; clear hK K))
          refine rel_nil (fun w2 hC2 hF2 => ?_)
          refine wpList_nil ?_
          rotate_left
          kernel_rfl
          go_wp2_with fail
          go_roundw
          case rel => exact ⟨k + 1, by omega, by go_num, hC2⟩
          case measure => simp [intOf]; omega
        · go_wp2_with (go_at_call 10; refine (alive_any _).mono ?_; rintro e w5 ⟨rfl, hb5⟩)
          go_ret
          exact ⟨rfl, Below.step (Below.step hW hb) hb5⟩
  · have hw' : (withinB t0 40 && (withinB t1 40 && withinB t2 40)) = false := by simpa using hw
    clear hw
    go_wp2_with (first | (go_at_call 9; refine (small_any _ _ _ HLIT.out).mono ?_; rintro e w1 ⟨rfl, hb1⟩; rw [HSM.out, hw']) | (go_at_call 10; refine (alive_any _).mono ?_; rintro e w2 ⟨rfl, hb2⟩))
    go_ret
    exact ⟨rfl, Below.step (Below.step (Below.step hW (grow_alloc _ _)) hb1) hb2⟩

open Go.ChangeShapes Go.WideShapes Go.ChangeAt
set_option maxRecDepth 100000 in
theorem termOrders_lifted (os : Os) (started : os.Started) (H : Type) (enc : TypeId × Value → H) :
    ReturnsInHanded {} Try.checked os 5 .any (Rows.termOrdersSpec.pre6 enc Try.prog Try.f5 Rows.termOrdersRow.domain false) (Rows.termOrdersSpec.post enc Try.prog Try.f5 false true false false) := by
  refine returnsInHanded_of_change (C := Try.checked) own_knob started (by kernel_rfl) Try.func5
    (ChangeSpec.witness6 (enc := enc) (C := Try.checked) false ⟨#[], #[.agg #[.int .i64 0, .slice none 0 0], .agg #[.int .i64 0, .slice none 0 0], .agg #[.int .i64 0, .slice none 0 0]], []⟩ 8 (by kernel_rfl) (by kernel_rfl) (by kernel_rfl) (by kernel_rfl)) ?_
  intro W base args ds gs before hval0 hW _ _
  have hval : ∀ (j : Nat) t v, Try.f5.params[j]? = some t → args[j]? = some v → Value.okWide Try.prog W .any base t v := hval0
  have hW' := hW
  obtain ⟨p, q, hA0, hV, rfl, hfz, hnd⟩ := hW
  have hA : DataW.TrodAll enc Try.prog W 0 (fun _ => true) true Try.f5.params.toList args.toList ds p := hA0
  rw [Try.params5] at hA hval
  obtain ⟨v0, vs0, d0, ds0, p0, q0, hargs, rfl, rfl, h0, r0⟩ := trodAll_cons hA
  obtain ⟨v1, vs1, d1, ds1, p1, q1, rfl, rfl, rfl, h1, r1⟩ := trodAll_cons r0
  obtain ⟨v2, vs2, d2, ds2, p2, q2, rfl, rfl, rfl, h2, r2⟩ := trodAll_cons r1
  obtain ⟨rfl, rfl, rfl⟩ := trodAll_nil r2
  obtain rfl : args = #[v0, v1, v2] := by cases args; simp_all
  obtain ⟨rfl, rfl⟩ := trodVars_none hV
  obtain ⟨t0, ht0⟩ := open_termV (hval 0 24 v0 rfl rfl) h0
  obtain ⟨t1, ht1⟩ := open_termV (hval 1 24 v1 rfl rfl) h1
  obtain ⟨t2, ht2⟩ := open_termV (hval 2 24 v2 rfl rfl) h2
  refine (orders_walk t0 t1 t2 v0 v1 v2 W ht0 ht1 ht2).mono fun e W' ⟨he, hg⟩ => ?_
  subst he
  exact ⟨_, rfl, law_post laid_out (by rw [Try.params5]; intro t ht; simp at ht; rcases ht with rfl | rfl | rfl <;> exact ⟨by kernel_rfl, of_decide_eq_true (by kernel_rfl)⟩) rfl Try.underlying4 rfl rfl hW' hg⟩

theorem termOrders_holds : Rows.TermOrdersSaid :=
  OpenClaim.holds_of_wide 5 Try.f5 rfl rfl rfl rfl rfl rfl rfl ⟨rfl, rfl, rfl, rfl, rfl⟩ rfl rfl rfl rfl rfl (by kernel_rfl) Try.func5 (by kernel_rfl)
    (of_decide_eq_true (by kernel_rfl)) (by unfold Func.isWrapper; rw [if_neg (of_decide_eq_false (by kernel_rfl))]; exact ⟨rfl, rfl⟩)
    (fun os started H enc _ => termOrders_lifted os started H enc)
end Go.Proofs.Ytkimcgcbdfkobaa
