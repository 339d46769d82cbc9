/- Subterms: the program's. -/
import Derived.Test.YtkimcgcbdfkobaaRefSub
set_option linter.unusedVariables false
set_option linter.unusedSimpArgs false
namespace Go.Proofs.Ytkimcgcbdfkobaa
open Go Go.RowKit

theorem subL_take_succ {out l : List Tm} {k : Nat} (h : k < l.length) : subL out (l.take (k + 1)) = sub (subL out (l.take k)) l[k] := by
  rw [List.take_succ_eq_append_getElem h, subL_snoc]
theorem subL_small {out l : List Tm} {k n : Nat} {x : Tm} (ho : ∀ x ∈ out, x.size ≤ n) (hl : Tm.sizeL l ≤ n) (h : x ∈ subL out (l.take k)) : x.size ≤ n := by
  rw [subL_mem] at h
  rcases h with h | h
  · exact ho x h
  · have := subsL_size l (subsL_take h); omega

set_option maxHeartbeats 8000000 in
theorem subterms_any (t : Tm) : ∀ (out : List Tm) (u v : Value) (w : World), Tms Any w u out → TmV Any w v t → Srt out → out.length + t.size ≤ 1000 → (∀ x ∈ out, x.size ≤ 1000) → t.size ≤ 1000 →
    Calls Try.prog 38 #[u, v] w (RetTms w (sub out t)) := by
  induction t using Tm.ind with
  | h r l ih =>
    intro out u v w hu hv hsrt hlen hsm hs
    have HV := Lib.hid hv
    have HU := Lib.hid hu
    have HSO := Lib.hid hsrt
    have HSM := Lib.hid hsm
    have HR := Lib.hid (show sub out (.mk r l) = ins (subL out l) (.mk r l) by rw [sub])
    have hsz : (Tm.mk r l).size ≤ 1000000 := by omega
    obtain ⟨A0, c0, rfl, hca, hcb⟩ := RepSl.shape hu
    obtain ⟨A, cap, rfl, hr, hc, hm, hl⟩ := hv.form
    simp only [Tm.size] at hs hlen
    have IH := Lib.hid ih
    have hW : Grow w (w.alloc (.cells #[.int .i64 r, .slice A l.length cap] 24)) := grow_alloc _ _
    have HLW := Lib.hid (hl.keep (Same.of_grow hW))
    have HVW := Lib.hid (HV.out.keep (Same.of_grow hW))
    have HUW := Lib.hid (HU.out.keep (Same.of_grow hW))
    have b0 : (w.alloc (.cells #[.int .i64 r, .slice A l.length cap] 24)).cell? ⟨w.heap.size, 0, none⟩ = some (.int .i64 r) := by simp
    have b1 : (w.alloc (.cells #[.int .i64 r, .slice A l.length cap] 24)).cell? ⟨w.heap.size, 1, none⟩ = some (.slice A l.length cap) := by simp
    clear hl ih hv HV hu HU hsrt hsm
    go_enter Try.func38, Try.ntmps38
    go_wp2_with fail
    generalize hWd : w.alloc (.cells #[.int .i64 r, .slice A l.length cap] 24) = W at *
    clear hWd
    have z0 : w.heap.size < W.heap.size := cell_lt b0
    go_loopw [0, 14] (fun s0 i wr => ∃ (k : Nat) (B3 : Option Addr) (c3 : Nat), k ≤ l.length ∧ i = .int .i64 k ∧ s0 = .slice B3 (subL out (l.take k)).length c3 ∧ Hid (Tms Any wr (.slice B3 (subL out (l.take k)).length c3) (subL out (l.take k))) ∧ Grow W wr) (fun _ i _ => l.length - (intOf i).toNat)
    case atStart => exact ⟨0, A0, c0, by omega, by simp, by simp [subL], by simpa [subL] using HUW, grow_refl _⟩
    case round =>
      obtain ⟨k, B3, c3, hk, rfl, rfl, h3, hb⟩ := hrel
      by_cases hlt : k < l.length
      · obtain ⟨b, o, A', n', c', rfl, -, d1, d2, hve⟩ := (HLW.out.keep (Same.of_grow hb)).get hlt
        have HVE := Lib.hid hve
        have hmem := List.getElem_mem hlt
        have h1 : l[k].size ≤ 1000 := by have := Tm.sizeL_mem hmem; omega
        have HTS := Lib.hid (subL_take_succ (out := out) hlt)
        have HSR : Hid (Srt (subL out (l.take k))) := Lib.hid (subL_srt _ _ HSO.out)
        have HLN : Hid ((subL out (l.take k)).length + l[k].size ≤ 1000) := Lib.hid (by
          have h2 := subL_len (l.take k) out
          have h3 := Tm.sizeL_take l (k + 1)
          have h4 := Tm.sizeL_take_succ hlt
          omega)
        have HSM2 : Hid (∀ x ∈ subL out (l.take k), x.size ≤ 1000) := Lib.hid fun x hx => subL_small HSM.out (by omega) hx
        clear hve
        generalize l[k] = y at *
        generalize y.rule = yr at *
        have HM := Lib.hid hmem
        clear hmem
        go_wp2_with (go_at_call 38; refine (IH.out _ HM.out _ _ _ _ (h3.out.keep (Same.of_grow (grow_alloc _ _))) (HVE.out.keep (Same.of_grow (grow_alloc _ _))) HSR.out HLN.out HSM2.out h1).mono ?_; rintro e w1 ⟨v5, rfl, h5, hb1⟩; refine Hold.stop ?_)
        have hb1' : Grow wr w1 := Below.step (grow_alloc _ _) hb1
        rw [← HTS.out] at h5
        obtain ⟨A5, c5, rfl, hc5, hd5⟩ := RepSl.shape h5
        have H5 := Lib.hid h5
        have HB1 := Lib.hid hb1'
        clear h5 hb1 hb1'
        refine Hold.go ?_
        go_wp2_with fail
        go_roundw
        case rel => exact ⟨k + 1, A5, c5, by omega, by go_num, rfl, H5, Below.step hb HB1.out⟩
        case measure => simp [intOf]; omega
      · have h0 : k = l.length := by omega
        subst h0
        rw [List.take_length] at h3
        simp only [List.take_length]
        have HSR : Hid (Srt (subL out l)) := Lib.hid (subL_srt _ _ HSO.out)
        have hLn : (subL out l).length ≤ 1000 := by have := subL_len l out; omega
        have HSM2 : Hid (∀ x ∈ subL out l, x.size ≤ 1000) := Lib.hid fun x hx => subL_small (l := l) (k := l.length) HSM.out (by omega) (by rw [List.take_length]; exact hx)
        clear hlt
        generalize subL out l = L at *
        have cc0 := (Below.cell hb (by exact z0)).trans b0
        have cc1 := (Below.cell hb (by exact z0)).trans b1
        have hcapL : L.length ≤ c3 := by
          obtain ⟨_, _, hx, hy, _⟩ := RepSl.shape h3.out
          injection hx with _ _ hx; omega
        have hb0 := hb
        clear hb b0 b1 hk
        generalize hWq : wr = WQ at *
        clear hWq
        have zq : w.heap.size < WQ.heap.size := cell_lt cc0
        go_wp2_with fail
        go_loopw [7, 8] (fun s7 s8 wr => ∃ (a e : Nat), a ≤ e ∧ e ≤ L.length ∧ s7 = .int .i64 a ∧ s8 = .int .i64 e ∧ Hid (∀ i (h : i < L.length), i < a → cmpT L[i] (.mk r l) = -1) ∧ Hid (∀ i (h : i < L.length), e ≤ i → cmpT L[i] (.mk r l) ≠ -1) ∧ Grow WQ wr) (fun s7 s8 _ => (intOf s8 - intOf s7).toNat)
        case atStart => exact ⟨0, L.length, by omega, by omega, by simp, rfl, Lib.hid (fun i h hi => by omega), Lib.hid (fun i h hi => by omega), grow_refl _⟩
        case round =>
          obtain ⟨a, e, hae, hel, rfl, rfl, hlo, hhi, hbb⟩ := hrel
          by_cases hlt : a < e
          · obtain ⟨m, hmd, hm1, hm2⟩ : ∃ m : Nat, ((a : Int) + e) / 2 = (m : Int) ∧ a ≤ m ∧ m < e := ⟨(a + e) / 2, by omega, by omega, by omega⟩
            have hml : m < L.length := by omega
            obtain ⟨b, o, A', n', c', rfl, -, d1, d2, hve⟩ := h3.out.get hml
            have HVE := Lib.hid hve
            have hsy : L[m].size ≤ 1000000 := by have := HSM2.out _ (List.getElem_mem hml); omega
            have HLO : Hid (cmpT L[m] (.mk r l) = -1 → ∀ i (h : i < L.length), i < m + 1 → cmpT L[i] (.mk r l) = -1) := Lib.hid fun h1 i h hi => by
              rcases Nat.lt_or_ge i m with h' | h'
              · exact cmpT_trans _ _ _ (srt_get HSR.out h hml h') h1
              · have : i = m := by omega
                simp only [this]; exact h1
            have HHI : Hid (cmpT L[m] (.mk r l) ≠ -1 → ∀ i (h : i < L.length), m ≤ i → cmpT L[i] (.mk r l) ≠ -1) := Lib.hid fun h1 i h hi h2 => by
              rcases Nat.lt_or_ge m i with h' | h'
              · exact h1 (cmpT_trans _ _ _ (srt_get HSR.out hml h h') h2)
              · have : i = m := by omega
                simp only [this] at h2; exact h1 h2
            have hvals := cmpT_vals L[m] (.mk r l)
            have hbl : b < WQ.heap.size := cell_lt d1
            clear hve
            generalize L[m] = y at *
            generalize y.rule = yr at *
            have hj1 : (0 : Int) ≤ (m : Int) := by omega
            have hj2 : (m : Int) < (L.length : Int) := by omega
            go_wp2_with fail
            rw [hmd]
            refine wp_region_rel (fun w' => Grow (WQ) w') (by kernel_rfl) (hbb.drew) (fun a b h k => Below.step h k) ?_
            apply Exists.intro
            constructor
            repeat (first | (apply rel_det; rfl; intro w1 hC1 hF1; obtain ⟨hc1, hf1⟩ := bcell hC1; go_simp; (first | exact ⟨Below.refl _ _, rfl⟩ | (go_at_call 19; exact rel_call (compare_any y (.mk r l) _ _ _ (HVE.out.keep (Same.of_grow hC1)) (HVW.out.keep (Same.of_grow (Below.step hb0 hC1))) hsy hsz))); intro K hK; go_simp; refine hK _ ?_; clear hK K) | (apply rel_skip; rfl; intro K hK; go_simp; refine hK _ ?_; clear hK K))
            refine rel_nil (fun w2 hC2 hF2 => ?_)
            refine wpList_nil ?_
            rotate_left
            kernel_rfl
            by_cases hneg : cmpT y (.mk r l) < 0
            · have hq : decide (cmpT y (.mk r l) < 0) = true := by simp [hneg]
              have HL2 := Lib.hid (HLO.out (by omega))
              rw [hq]
              clear hneg hvals hmd
              go_wp2_with fail
              go_roundw
              case rel => exact ⟨m + 1, e, by omega, by omega, by go_num, rfl, HL2, hhi, hC2⟩
              case measure => simp [intOf]; omega
            · have hq : decide (cmpT y (.mk r l) < 0) = false := by simp; omega
              have HH2 := Lib.hid (HHI.out (by omega))
              rw [hq]
              clear hneg hvals hmd
              go_wp2_with fail
              go_roundw
              case rel => exact ⟨a, m, by omega, by omega, rfl, rfl, hlo, HH2, hC2⟩
              case measure => simp [intOf]; omega
          · have hae' : a = e := by omega
            subst hae'
            have HP : Hid (pos L (.mk r l) = a) := Lib.hid (pos_char hel hlo.out fun h => hhi.out a h (Nat.le_refl _))
            have e0 := (Below.cell hbb (by exact zq)).trans cc0
            have e1 := (Below.cell hbb (by exact zq)).trans cc1
            clear hlt hae hlo hhi
            go_upto_region 12 with fail
            by_cases hfd : found L (.mk r l) = true
            · obtain ⟨hpl, hp0⟩ := found_eq.1 hfd
              have HI := Lib.hid (ins_found hfd)
              simp only [HP.out] at hpl hp0
              obtain ⟨b, o, A', n', c', rfl, -, d1, d2, hve⟩ := h3.out.get hpl
              have HVE := Lib.hid hve
              have hsy : L[a].size ≤ 1000000 := by have := HSM2.out _ (List.getElem_mem hpl); omega
              have hbl : b < WQ.heap.size := cell_lt d1
              clear hve hfd
              generalize L[a] = y at *
              generalize y.rule = yr at *
              have hj1 : (0 : Int) ≤ (a : Int) := by omega
              have hj2 : (a : Int) < (L.length : Int) := by omega
              have hj3 : decide ((a : Int) < (L.length : Int)) = true := by rw [decide_eq_true_eq]; omega
              refine wp_region_rel (fun w' => Grow (WQ) w') (by kernel_rfl) (hbb.drew) (fun a b h k => Below.step h k) ?_
              apply Exists.intro
              constructor
              repeat (first | (apply rel_det; rfl; intro w1 hC1 hF1; obtain ⟨hc1, hf1⟩ := bcell hC1; go_simp; (first | exact ⟨Below.refl _ _, rfl⟩ | (go_at_call 19; exact rel_call (compare_any y (.mk r l) _ _ _ (HVE.out.keep (Same.of_grow hC1)) (HVW.out.keep (Same.of_grow (Below.step hb0 hC1))) hsy hsz))); intro K hK; go_simp; refine hK _ ?_; clear hK K) | (apply rel_skip; rfl; intro K hK; go_simp; refine hK _ ?_; clear hK K))
              refine rel_nil (fun w2 hC2 hF2 => ?_)
              refine wpList_nil ?_
              rotate_left
              kernel_rfl
              have h4 := h3.out.keep (Same.of_grow hC2)
              have H4 := Lib.hid h4
              clear h4
              clear hp0
              go_wp2_with fail
              go_ret
              exact ⟨_, rfl, by rw [HR.out, HI.out]; exact H4.out, Below.step hW (Below.step hb0 hC2)⟩
            · have hfd' : found L (.mk r l) = false := by simpa using hfd
              have HI := Lib.hid (ins_new hfd')
              go_cut [53] from 41 to 52 (fun s53 wx => s53 = .bool false ∧ Grow WQ wx)
              case first =>
                by_cases hpl : a < L.length
                · obtain ⟨b, o, A', n', c', rfl, -, d1, d2, hve⟩ := h3.out.get hpl
                  have HVE := Lib.hid hve
                  have hsy : L[a].size ≤ 1000000 := by have := HSM2.out _ (List.getElem_mem hpl); omega
                  have hbl : b < WQ.heap.size := cell_lt d1
                  have hne : cmpT L[a] (.mk r l) ≠ 0 := fun h => hfd (found_eq.2 ⟨by rw [HP.out]; exact hpl, by simp only [HP.out]; exact h⟩)
                  clear hve hfd hfd'
                  generalize L[a] = y at *
                  generalize y.rule = yr at *
                  have hj1 : (0 : Int) ≤ (a : Int) := by omega
                  have hj2 : (a : Int) < (L.length : Int) := by omega
                  have hj3 : decide ((a : Int) < (L.length : Int)) = true := by rw [decide_eq_true_eq]; omega
                  refine wp_region_rel (fun w' => Grow (WQ) w') (by kernel_rfl) (hbb.drew) (fun a b h k => Below.step h k) ?_
                  apply Exists.intro
                  constructor
                  repeat (first | (apply rel_det; rfl; intro w1 hC1 hF1; obtain ⟨hc1, hf1⟩ := bcell hC1; go_simp; (first | exact ⟨Below.refl _ _, rfl⟩ | (go_at_call 19; exact rel_call (compare_any y (.mk r l) _ _ _ (HVE.out.keep (Same.of_grow hC1)) (HVW.out.keep (Same.of_grow (Below.step hb0 hC1))) hsy hsz))); intro K hK; go_simp; refine hK _ ?_; clear hK K) | (apply rel_skip; rfl; intro K hK; go_simp; refine hK _ ?_; clear hK K))
                  refine rel_nil (fun w2 hC2 hF2 => ?_)
                  refine wpList_nil ?_
                  rotate_left
                  kernel_rfl
                  have hq : (cmpT y (.mk r l) == 0) = false := by simp [hne]
                  clear hne
                  go_wp2_with fail
                  go_meet
                  exact ⟨by simp [hq], hC2⟩
                · have hj3 : decide ((a : Int) < (L.length : Int)) = false := by rw [decide_eq_false_iff_not]; omega
                  clear hfd hfd'
                  refine wp_region_rel (fun w' => Grow (WQ) w') (by kernel_rfl) (hbb.drew) (fun a b h k => Below.step h k) ?_
                  apply Exists.intro
                  constructor
                  repeat (first | (apply rel_det; rfl; intro w1 hC1 hF1; obtain ⟨hc1, hf1⟩ := bcell hC1; go_simp; (first | exact ⟨Below.refl _ _, rfl⟩ | fail); intro K hK; go_simp; refine hK _ ?_; clear hK K) | (apply rel_skip; rfl; intro K hK; go_simp; refine hK _ ?_; clear hK K))
                  refine rel_nil (fun w2 hC2 hF2 => ?_)
                  refine wpList_nil ?_
                  rotate_left
                  kernel_rfl
                  go_wp2_with fail
                  go_meet
                  exact ⟨rfl, hC2⟩
              case rest =>
                obtain ⟨rfl, hG⟩ := hcut
                have HG := Lib.hid hG
                have HLC := Lib.hid ((Tms.bound (h3.out.keep (Same.of_grow hG))).mono (S' := Lt wc.heap.size) fun b hb => hb.2)
                have HVC := Lib.hid (HVW.out.keep (Same.of_grow (Below.step hb0 hG)))
                have f0 := (Below.cell hG (by exact zq)).trans cc0
                have f1 := (Below.cell hG (by exact zq)).trans cc1
                have zc : w.heap.size < wc.heap.size := cell_lt f0
                clear hbb hfd hfd' hG e0 e1 cc0 cc1
                have HT := Lib.hid (HLC.out.take hel)
                have HD := Lib.hid (HLC.out.drop hel)
                go_wp2_with (at_builtin; refine Hold.stop ?_)
                refine Hold.go ?_
                have HN : Hid (Own Any wc.heap.size 24 2 RepTm wc (.slice none 0 0) []) := Lib.hid Own.nil
                refine wpList_append_Own (ys := L.take a) elt_tm keptTm rfl (.const (.slice none 0 0)) (.tmp 57) rfl rfl rfl HN.out (src_old HT.out HN.out (Nat.le_refl _) fun _ => trivial) (by simp; omega) (by simp; omega) (Nat.le_refl _) ?_
                intro v2 w2 ho2 hg2 hv2
                have hb2 : Below wc.heap.size wc w2 := below_of_grown hg2 (Nat.le_refl _) (fun b h => by cases h)
                have hl2 : wc.heap.size ≤ w2.heap.size := hb2.size
                have HO2 := Lib.hid ho2
                have HB2 := Lib.hid hb2
                have g0 := (Below.cell hb2 (by exact zc)).trans f0
                have g1 := (Below.cell hb2 (by exact zc)).trans f1
                have HV2 := Lib.hid (HVC.out.keep (Same.of_grow hb2))
                clear ho2 hg2 hv2 hb2 f0 f1
                go_wp2_with (go_at_call 41; refine (clone_any _ _ _ HV2.out hsz).mono ?_; rintro e w3 ⟨vc, rfl, hvc, hb3⟩; refine Hold.stop ?_)
                obtain ⟨q0, q1, rfl, hrep⟩ := hvc
                have hq0 : q0 = .int .i64 r ∧ ∃ B n c, q1 = .slice B n c := by
                  obtain ⟨s, hs, _, hS⟩ := hrep.form
                  obtain ⟨B, c, rfl, _⟩ := RepSl.shape hS
                  simp only [List.cons.injEq, and_true] at hs
                  exact ⟨hs.1, B, _, c, hs.2⟩
                obtain ⟨rfl, Bq, nq, cq, rfl⟩ := hq0
                have HREP := Lib.hid hrep
                have HB3 := Lib.hid hb3
                have hl3 : wc.heap.size ≤ w3.heap.size := Nat.le_trans hl2 hb3.size
                have HO3 := Lib.hid (HO2.out.grow keptTm hb3)
                clear hrep hb3 g0 g1
                refine Hold.go ?_
                go_wp2_with (at_builtin; refine Hold.stop ?_)
                refine Hold.go ?_
                have HL1 := Lib.hid (RepSl.mono (tms_lit1 HREP.out) (S' := Any) (R' := RepTm (fun b => Any b ∧ v2.ownBlock ≠ some b) (w3.alloc (.cells #[.int .i64 r, .slice Bq nq cq] 24))) (fun _ h => h) fun cs x _ h => h.mono fun b hb => ⟨trivial, fun e => by have := (HO2.out.block b e).2; unfold From at hb; omega⟩)
                refine wpList_append_Own (ys := [.mk r l]) elt_tm keptTm rfl (.tmp 59) (.tmp 62) rfl rfl rfl (HO3.out.grow keptTm (grow_alloc _ _)) HL1.out (by simp; omega) (by simp; omega) (by simp; omega) ?_
                intro v4 w4 ho4 hg4 hv4
                have hb4 : Below wc.heap.size wc w4 := (HB2.out.trans (HB3.out.mono hl2)).trans (((grow_alloc w3 _).mono hl3).trans (below_of_grown hg4 (by simp; omega) (fun b h => (HO3.out.block b h).1)))
                have hl4 : wc.heap.size ≤ w4.heap.size := hb4.size
                have HO4 := Lib.hid ho4
                have HB4 := Lib.hid hb4
                clear ho4 hg4 hv4 hb4 HL1
                have hcut := run_cut Try.underlying22 size_tm B3 L.length c3 a hel
                go_wp2_with (at_builtin; refine Hold.stop ?_)
                refine Hold.go ?_
                have HD4 := Lib.hid (HD.out.keep (Same.of_grow HB4.out))
                refine wpList_append_Own (ys := L.drop a) elt_tm keptTm rfl (.tmp 64) (.tmp 67) rfl rfl rfl HO4.out (src_old HD4.out HO4.out (Nat.le_refl _) fun _ => trivial) (by simp; omega) (by simp; omega) hl4 ?_
                intro v5 w5 ho5 hg5 hv5
                have HB5 := Lib.hid (HB4.out.trans (below_of_grown hg5 hl4 (fun b h => (HO4.out.block b h).1)))
                have HO5 := Lib.hid ho5
                clear ho5 hg5 hv5
                go_wp2_with fail
                go_ret
                refine ⟨_, rfl, ?_, Below.step hW (Below.step hb0 (Below.step HG.out HB5.out))⟩
                rw [HR.out, HI.out, HP.out]
                have := HO5.out.rep keptTm
                simp only [List.nil_append, List.append_assoc, List.cons_append] at this
                exact RepSl.mono this (fun _ _ => trivial) fun _ _ _ h => h
end Go.Proofs.Ytkimcgcbdfkobaa
