/- The law TermSizes holds for every term: Size, Depth and Rules are those of the specification.
   Conditions: none beyond the given statement's own. -/
import Derived.Test.YtkimcgcbdfkobaaSmall
import Derived.Test.YtkimcgcbdfkobaaOrd
import Derived.Test.YtkimcgcbdfkobaaOpenTm
set_option linter.unusedVariables false
set_option linter.unusedSimpArgs false
namespace Go.Proofs.Ytkimcgcbdfkobaa
open Go Go.RowKit


set_option maxHeartbeats 2000000 in
theorem sizes_walk (t : Tm) (v : Value) (w : World) (hv : TmV Any w v t) :
    Calls Try.prog 3 #[v] w fun e w' => e = .returned (.bool true) ∧ Grow w w' := by
  have HV := Lib.hid hv
  have hsm : smallB [t] = withinB t 40 := by simp [smallB]
  have HSM := Lib.hid hsm
  have hcmp := cmpI_self t.rules
  clear hsm
  obtain ⟨r, l, hsr⟩ : ∃ r l, t = .mk r l := ⟨t.rule, t.args, by cases t; rfl⟩
  rw [hsr] at hv
  obtain ⟨A, cap, rfl, hr, hc, hm, hl⟩ := hv.form
  clear hv hl hsr
  have hW : Grow w (w.alloc (.cells #[.int .i64 r, .slice A l.length cap] 24)) := grow_alloc _ _
  have hlit : Tms Any ((w.alloc (.cells #[.int .i64 r, .slice A l.length cap] 24)).alloc (.cells #[.int .i64 r, .slice A l.length cap] 24)) (.slice (some ⟨w.heap.size + 1, 0, none⟩) 1 1) [t] := by
    have hrep := HV.out.cells
    exact sl_lit [[.int .i64 r, .slice A l.length cap]] [t] (by have := heap_alloc_new (w.alloc (.cells #[.int .i64 r, .slice A l.length cap] 24)) (.cells #[.int .i64 r, .slice A l.length cap] 24); simpa using this) rfl trivial (by simp) rfl (by simp)
      (fun i cs x hi hx => by
        cases i with
        | zero => simp at hi hx; subst hi hx; exact hrep.keep (Same.of_grow (Below.step (grow_alloc _ _) (grow_alloc _ _)))
        | succ i => simp at hi)
  have HLIT := Lib.hid hlit
  clear hlit
  go_enter Try.func3, Try.ntmps3
  by_cases hw : withinB t 40 = true
  · have hsz : t.size ≤ 40 := by have := of_decide_eq_true hw; omega
    go_wp2_with (go_at_call 9; refine (small_any _ _ _ HLIT.out).mono ?_; rintro e w1 ⟨rfl, hb1⟩; rw [HSM.out, hw])
    have hG : Grow (w.alloc (.cells #[.int .i64 r, .slice A l.length cap] 24)) w1 := Below.step (grow_alloc _ _) hb1
    refine wp_region_rel (fun w' => Grow (w.alloc (.cells #[.int .i64 r, .slice A l.length cap] 24)) w') (by kernel_rfl) (hG.drew) (fun a b h k => Below.step h k) ?_
    apply Exists.intro
    constructor
    iterate 14 (first | (apply rel_det; rfl; intro w1 hC1 hF1; obtain ⟨hc1, hf1⟩ := bcell hC1; go_simp; (first | exact ⟨Below.refl _ _, rfl⟩ | (go_at_call 11; exact rel_call (size_any _ _ _ (HV.out.keep (Same.of_grow (Below.step hW hC1))) (by omega))) | (go_at_call 12; exact rel_call (refsize_any _ _ _ (HV.out.keep (Same.of_grow (Below.step hW hC1))) (by omega))) | (go_at_call 13; exact rel_call (depth_any _ _ _ (HV.out.keep (Same.of_grow (Below.step hW hC1))) (by omega))) | (go_at_call 14; exact rel_call (refdepth_any _ _ _ (HV.out.keep (Same.of_grow (Below.step hW hC1))) (by omega)))); intro K hK; go_simp; refine hK _ ?_; clear hK K) | (apply rel_skip; rfl; intro K hK; go_simp; refine hK _ ?_; clear hK K))
    apply rel_some (G := fun v w' => Ints (From w.heap.size) w' v t.rules) (hG := fun v w w' h hb => Ints.keep h (Same.of_grow hb))
    · rfl
    · intro w1 hC1 hF1; obtain ⟨hc1, hf1⟩ := bcell hC1; go_simp; (go_at_call 16; exact rel_fresh (Rp := fun S w v => Ints S w v t.rules) (fun h hS => Ints.mono h hS) (Nat.le_trans (by simp) hC1.size) (rules_any _ _ _ (HV.out.keep (Same.of_grow (Below.step hW hC1))) (by omega)))
    intro vs K hK; go_simp; refine hK _ ?_; clear hK K
    iterate 1 (first | (apply rel_det; rfl; intro w1 hC1 hF1; obtain ⟨hc1, hf1⟩ := bcell hC1; go_simp; (first | exact ⟨Below.refl _ _, rfl⟩ | fail); intro K hK; go_simp; refine hK _ ?_; clear hK K) | (apply rel_skip; rfl; intro K hK; go_simp; refine hK _ ?_; clear hK K))
    apply rel_some (G := fun v w' => Ints (From w.heap.size) w' v t.rules) (hG := fun v w w' h hb => Ints.keep h (Same.of_grow hb))
    · rfl
    · intro w1 hC1 hF1; obtain ⟨hc1, hf1⟩ := bcell hC1; go_simp; (go_at_call 17; exact rel_fresh (Rp := fun S w v => Ints S w v t.rules) (fun h hS => Ints.mono h hS) (Nat.le_trans (by simp) hC1.size) (refrules_any _ _ _ (HV.out.keep (Same.of_grow (Below.step hW hC1))) (by omega)))
    intro vt K hK; go_simp; refine hK _ ?_; clear hK K
    repeat (first | (apply rel_det; rfl; intro w1 hC1 hF1; obtain ⟨hc1, hf1⟩ := bcell hC1; go_simp; (first | exact ⟨Below.refl _ _, rfl⟩ | (go_at_call 15; exact rel_call (compareInts_any t.rules t.rules _ _ _ (Ints.mono (hF1 14 rfl : Ints (From w.heap.size) _ vs t.rules) fun _ _ => trivial) (Ints.mono (hF1 16 rfl : Ints (From w.heap.size) _ vt t.rules) fun _ _ => trivial))) | (go_at_call 10; exact rel_call (alive_any _))); intro K hK; go_simp; refine hK _ ?_; clear hK K) | (apply rel_skip; rfl; intro K hK; go_simp; refine hK _ ?_; clear hK K))
    refine rel_nil (fun w2 hC2 hF2 => ?_)
    refine wpList_nil ?_
    rotate_left
    kernel_rfl
    go_wp2_with fail
    go_ret
    exact ⟨by simp, Below.step hW hC2⟩
  · have hw' : withinB t 40 = false := by simpa using hw
    clear hw
    go_wp2_with (first | (go_at_call 9; refine (small_any _ _ _ HLIT.out).mono ?_; rintro e w1 ⟨rfl, hb1⟩; rw [HSM.out, hw']) | (go_at_call 10; refine (alive_any _).mono ?_; rintro e w2 ⟨rfl, hb2⟩))
    go_ret
    exact ⟨rfl, Below.step (Below.step (Below.step hW (grow_alloc _ _)) hb1) hb2⟩

open Go.ChangeShapes Go.WideShapes Go.ChangeAt
set_option maxRecDepth 100000 in
theorem termSizes_lifted (os : Os) (started : os.Started) (H : Type) (enc : TypeId × Value → H) :
    ReturnsInHanded {} Try.checked os 3 .any (Rows.termSizesSpec.pre6 enc Try.prog Try.f3 Rows.termSizesRow.domain false) (Rows.termSizesSpec.post enc Try.prog Try.f3 false true false false) := by
  refine returnsInHanded_of_change (C := Try.checked) own_knob started (by kernel_rfl) Try.func3
    (ChangeSpec.witness6 (enc := enc) (C := Try.checked) false ⟨#[], #[.agg #[.int .i64 0, .slice none 0 0]], []⟩ 8 (by kernel_rfl) (by kernel_rfl) (by kernel_rfl) (by kernel_rfl)) ?_
  intro W base args ds gs before hval0 hW _ _
  have hval : ∀ (j : Nat) t v, Try.f3.params[j]? = some t → args[j]? = some v → Value.okWide Try.prog W .any base t v := hval0
  have hW' := hW
  obtain ⟨p, q, hA0, hV, rfl, hfz, hnd⟩ := hW
  have hA : DataW.TrodAll enc Try.prog W 0 (fun _ => true) true Try.f3.params.toList args.toList ds p := hA0
  rw [Try.params3] at hA hval
  obtain ⟨v0, vs0, d0, ds0, p0, q0, hargs, rfl, rfl, h0, r0⟩ := trodAll_cons hA
  obtain ⟨rfl, rfl, rfl⟩ := trodAll_nil r0
  obtain rfl : args = #[v0] := by cases args; simp_all
  obtain ⟨rfl, rfl⟩ := trodVars_none hV
  obtain ⟨t0, ht0⟩ := open_termV (hval 0 24 v0 rfl rfl) h0
  refine (sizes_walk t0 v0 W ht0).mono fun e W' ⟨he, hg⟩ => ?_
  subst he
  exact ⟨_, rfl, law_post laid_out (by rw [Try.params3]; intro t ht; simp at ht; subst ht; exact ⟨by kernel_rfl, of_decide_eq_true (by kernel_rfl)⟩) rfl Try.underlying4 rfl rfl hW' hg⟩

theorem termSizes_holds : Rows.TermSizesSaid :=
  OpenClaim.holds_of_wide 3 Try.f3 rfl rfl rfl rfl rfl rfl rfl ⟨rfl, rfl, rfl, rfl, rfl⟩ rfl rfl rfl rfl rfl (by kernel_rfl) Try.func3 (by kernel_rfl)
    (of_decide_eq_true (by kernel_rfl)) (by unfold Func.isWrapper; rw [if_neg (of_decide_eq_false (by kernel_rfl))]; exact ⟨rfl, rfl⟩)
    (fun os started H enc _ => termSizes_lifted os started H enc)
end Go.Proofs.Ytkimcgcbdfkobaa
