/- The law TermSubterms holds for every term: Subterms returns all different subterms in order, the last of which is the term.
   Conditions: none beyond the given statement's own. -/
import Derived.Test.YtkimcgcbdfkobaaSubW
import Derived.Test.YtkimcgcbdfkobaaSmall
import Derived.Test.YtkimcgcbdfkobaaOpenTm
set_option linter.unusedVariables false
set_option linter.unusedSimpArgs false
namespace Go.Proofs.Ytkimcgcbdfkobaa
open Go Go.RowKit

theorem subtermsTop_any (t : Tm) (v : Value) (w : World) (hv : TmV Any w v t) (hs : t.size ≤ 1000) : Calls Try.prog 23 #[v] w (RetTms w (sub [] t)) := by
  have HV := Lib.hid hv
  obtain ⟨r, l, hsr⟩ : ∃ r l, t = .mk r l := ⟨t.rule, t.args, by cases t; rfl⟩
  rw [hsr] at hv
  obtain ⟨A, cap, rfl, hr, hc, hm, hl⟩ := hv.form
  clear hv hl hsr
  go_enter Try.func23, Try.ntmps23
  go_wp2_with fail
  refine (subterms_any t [] _ _ _ (RepSl.nil (by omega)) (HV.out.keep (Same.of_grow (grow_alloc _ _))) List.Pairwise.nil (by simpa using hs) (fun x h => by cases h) hs).mono ?_
  rintro e w1 ⟨v1, rfl, h1, hb1⟩
  have H1 := Lib.hid h1
  have HB1 := Lib.hid hb1
  clear h1 hb1
  go_wp2_with fail
  go_ret
  exact ⟨_, rfl, H1.out, Below.step (grow_alloc _ _) HB1.out⟩

theorem rel_tms {f : FuncId} {args : Array Value} {w : World} {l : List Tm} {hG : ∀ v w w', Tms Any w v l → Below w.heap.size w w' → Tms Any w' v l} (h : Calls Try.prog f args w (RetTms w l)) : Calls Try.prog f args w (RetBy (StepOk (.rel (fun v w => Tms Any w v l) hG) w)) :=
  h.mono fun e w' ⟨v, he, hr, hb⟩ => ⟨v, he, hb, hr⟩

set_option maxHeartbeats 4000000 in
theorem subtermsLaw_walk (t : Tm) (v : Value) (w : World) (hv : TmV Any w v t) :
    Calls Try.prog 7 #[v] w fun e w' => e = .returned (.bool true) ∧ Grow w w' := by
  have HV := Lib.hid hv
  have HSM := Lib.hid (show smallB [t] = withinB t 40 by simp [smallB])
  obtain ⟨r, l, hsr⟩ : ∃ r l, t = .mk r l := ⟨t.rule, t.args, by cases t; rfl⟩
  rw [hsr] at hv
  obtain ⟨A, cap, rfl, hr, hc, hm, hl⟩ := hv.form
  clear hv hl hsr
  have hW : Grow w (w.alloc (.cells #[.int .i64 r, .slice A l.length cap] 24)) := grow_alloc _ _
  have HLIT : Hid (Tms Any ((w.alloc (.cells #[.int .i64 r, .slice A l.length cap] 24)).alloc (.cells #[.int .i64 r, .slice A l.length cap] 24)) (.slice (some ⟨w.heap.size + 1, 0, none⟩) 1 1) [t]) := by
    have h := RepSl.mono (tms_lit1 (HV.out.cells.keep (Same.of_grow hW))) (S' := Any) (fun _ h => h) fun cs x _ h => h
    simp only [World.size_alloc] at h
    exact Lib.hid h
  have b0 : (w.alloc (.cells #[.int .i64 r, .slice A l.length cap] 24)).cell? ⟨w.heap.size, 0, none⟩ = some (.int .i64 r) := by simp
  have b1 : (w.alloc (.cells #[.int .i64 r, .slice A l.length cap] 24)).cell? ⟨w.heap.size, 1, none⟩ = some (.slice A l.length cap) := by simp
  go_enter Try.func7, Try.ntmps7
  by_cases hw : withinB t 40 = true
  · have hsz : t.size ≤ 40 := by have := of_decide_eq_true hw; omega
    go_wp2_with (go_at_call 9; refine (small_any _ _ _ HLIT.out).mono ?_; rintro e w1 ⟨rfl, hb1⟩; rw [HSM.out, hw]; refine Hold.stop ?_)
    have hG : Grow (w.alloc (.cells #[.int .i64 r, .slice A l.length cap] 24)) w1 := Below.step (grow_alloc _ _) hb1
    have HVW := Lib.hid (HV.out.keep (Same.of_grow hW))
    generalize hWd : w.alloc (.cells #[.int .i64 r, .slice A l.length cap] 24) = W at *
    clear hWd hb1 hw HLIT
    have z0 : w.heap.size < W.heap.size := cell_lt b0
    have e0 := (Below.cell hG (by exact z0)).trans b0
    have e1 := (Below.cell hG (by exact z0)).trans b1
    refine Hold.go ?_
    go_wp2_with (go_at_call 23; refine (subtermsTop_any _ _ _ (HVW.out.keep (Same.of_grow hG)) (by omega)).mono ?_; rintro e w2 ⟨v3, rfl, h3, hb2⟩; refine Hold.stop ?_)
    obtain ⟨B3, c3, rfl, hc3, hd3⟩ := RepSl.shape h3
    have hG2 : Grow W w2 := Below.step hG hb2
    have hpos := sub_ne t
    have HSB := Lib.hid (refS_sub t)
    have HSS := Lib.hid (sameB_self (sub [] t))
    have HLS : Hid (∀ x ∈ sub [] t, x.size ≤ 1000000) := Lib.hid fun x hx => by
      have := (sub_mem t []).1 hx
      simp at this
      have := subs_size t this
      omega
    obtain ⟨n, hn⟩ : ∃ n, (sub [] t).length = n + 1 := ⟨(sub [] t).length - 1, by omega⟩
    have hlast := sub_last t
    simp only [hn, Nat.add_sub_cancel] at hlast
    have hnl : n < (sub [] t).length := by omega
    have hg := Tms.get h3 hnl
    simp only [hlast] at hg
    obtain ⟨b, o, A', n', c', rfl, -, d1, d2, hve⟩ := hg
    have HVE := Lib.hid hve
    have H3 := Lib.hid h3
    rw [hn] at hc3 ⊢
    have hnb : n ≤ 1000 := by have := sub_len t []; simp at this; omega
    rw [hn] at H3
    have g0 := (Below.cell hG2 (by exact z0)).trans b0
    have g1 := (Below.cell hG2 (by exact z0)).trans b1
    have HG2 := Lib.hid hG2
    have hbl : b < w2.heap.size := cell_lt d1
    have hz2 : w.heap.size < w2.heap.size := cell_lt g0
    have hcm := cmpT_self t
    clear hve hlast hnl hn h3 hb2 hG2 hG hpos e0 e1 b0 b1
    refine Hold.go ?_
    go_wp2_with fail
    have hw1 : IntKind.i64.wrap (n : Int) = n := IntWalk.i64_in _ (by omega)
    have hj1 : (0 : Int) ≤ (n : Int) := by omega
    have hj2 : (n : Int) < (n : Int) + 1 := by omega
    have hj3 : decide ((0 : Int) < (n : Int) + 1) = true := by rw [decide_eq_true_eq]; omega
    have hss := HSS.out
    refine wp_region_rel (fun w' => Grow (w2) w') (by kernel_rfl) (grow_drew _) (fun a b h k => Below.step h k) ?_
    apply Exists.intro
    constructor
    iterate 2 (first | (apply rel_det; rfl; intro w1 hC1 hF1; obtain ⟨hc1, hf1⟩ := bcell hC1; go_simp; (first | exact ⟨Below.refl _ _, rfl⟩ | fail); intro K hK; go_simp; refine hK _ ?_; clear hK K) | (apply rel_skip; rfl; intro K hK; go_simp; refine hK _ ?_; clear hK K))
    apply rel_some (G := fun v w' => Tms Any w' v (refS t)) (hG := fun v w w' h hb => h.keep (Same.of_grow hb))
    · rfl
    · intro w1 hC1 hF1; obtain ⟨hc1, hf1⟩ := bcell hC1; go_simp; (go_at_call 25; exact rel_tms (refsubterms_any t _ _ (HVW.out.keep (Same.of_grow (Below.step HG2.out hC1))) (by omega)))
    intro vs K hK; go_simp; refine hK _ ?_; clear hK K
    repeat (first | (apply rel_det; rfl; intro w1 hC1 hF1; obtain ⟨hc1, hf1⟩ := bcell hC1; go_simp; (first | exact ⟨Below.refl _ _, rfl⟩ | (go_at_call 24; exact rel_call (c := .bool true) (by have h := same_any (sub [] t) (refS t) _ _ _ (H3.out.keep (Same.of_grow hC1)) (hF1 2 rfl : Tms Any _ vs (refS t)) HLS.out (by rw [HSB.out]; exact HLS.out); rw [HSB.out, HSS.out] at h; exact h)) | (go_at_call 18; exact rel_call (refcompare_any t t _ _ _ (HVE.out.keep (Same.of_grow hC1)) (HVW.out.keep (Same.of_grow (Below.step HG2.out hC1))) (by omega) (by omega))) | (go_at_call 10; exact rel_call (alive_any _))); intro K hK; go_simp; refine hK _ ?_; clear hK K) | (apply rel_skip; rfl; intro K hK; go_simp; refine hK _ ?_; clear hK K))
    refine rel_nil (fun w2 hC2 hF2 => ?_)
    refine wpList_nil ?_
    rotate_left
    kernel_rfl
    go_wp2_with fail
    go_ret
    exact ⟨by simp, Below.step hW (Below.step HG2.out hC2)⟩
  · have hw' : withinB t 40 = false := by simpa using hw
    clear hw
    go_wp2_with (first | (go_at_call 9; refine (small_any _ _ _ HLIT.out).mono ?_; rintro e w1 ⟨rfl, hb1⟩; rw [HSM.out, hw']) | (go_at_call 10; refine (alive_any _).mono ?_; rintro e w2 ⟨rfl, hb2⟩))
    go_ret
    exact ⟨rfl, Below.step (Below.step (Below.step hW (grow_alloc _ _)) hb1) hb2⟩

open Go.ChangeShapes Go.WideShapes Go.ChangeAt
set_option maxRecDepth 100000 in
theorem termSubterms_lifted (os : Os) (started : os.Started) (H : Type) (enc : TypeId × Value → H) :
    ReturnsInHanded {} Try.checked os 7 .any (Rows.termSubtermsSpec.pre6 enc Try.prog Try.f7 Rows.termSubtermsRow.domain false) (Rows.termSubtermsSpec.post enc Try.prog Try.f7 false true false false) := by
  refine returnsInHanded_of_change (C := Try.checked) own_knob started (by kernel_rfl) Try.func7
    (ChangeSpec.witness6 (enc := enc) (C := Try.checked) false ⟨#[], #[.agg #[.int .i64 0, .slice none 0 0]], []⟩ 8 (by kernel_rfl) (by kernel_rfl) (by kernel_rfl) (by kernel_rfl)) ?_
  intro W base args ds gs before hval0 hW _ _
  have hval : ∀ (j : Nat) t v, Try.f7.params[j]? = some t → args[j]? = some v → Value.okWide Try.prog W .any base t v := hval0
  have hW' := hW
  obtain ⟨p, q, hA0, hV, rfl, hfz, hnd⟩ := hW
  have hA : DataW.TrodAll enc Try.prog W 0 (fun _ => true) true Try.f7.params.toList args.toList ds p := hA0
  rw [Try.params7] at hA hval
  obtain ⟨v0, vs0, d0, ds0, p0, q0, hargs, rfl, rfl, h0, r0⟩ := trodAll_cons hA
  obtain ⟨rfl, rfl, rfl⟩ := trodAll_nil r0
  obtain rfl : args = #[v0] := by cases args; simp_all
  obtain ⟨rfl, rfl⟩ := trodVars_none hV
  obtain ⟨t0, ht0⟩ := open_termV (hval 0 24 v0 rfl rfl) h0
  refine (subtermsLaw_walk t0 v0 W ht0).mono fun e W' ⟨he, hg⟩ => ?_
  subst he
  exact ⟨_, rfl, law_post laid_out (by rw [Try.params7]; intro t ht; simp at ht; subst ht; exact ⟨by kernel_rfl, of_decide_eq_true (by kernel_rfl)⟩) rfl Try.underlying4 rfl rfl hW' hg⟩

theorem termSubterms_holds : Rows.TermSubtermsSaid :=
  OpenClaim.holds_of_wide 7 Try.f7 rfl rfl rfl rfl rfl rfl rfl ⟨rfl, rfl, rfl, rfl, rfl⟩ rfl rfl rfl rfl rfl (by kernel_rfl) Try.func7 (by kernel_rfl)
    (of_decide_eq_true (by kernel_rfl)) (by unfold Func.isWrapper; rw [if_neg (of_decide_eq_false (by kernel_rfl))]; exact ⟨rfl, rfl⟩)
    (fun os started H enc _ => termSubterms_lifted os started H enc)
end Go.Proofs.Ytkimcgcbdfkobaa
