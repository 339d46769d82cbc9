/- Uses: does an input occur? -/
import Derived.Test.YtkimcgcbdfkobaaFew
import Derived.Test.YtkimcgcbdfkobaaTm
import Derived.Deep.CutRange
set_option linter.unusedVariables false
set_option linter.unusedSimpArgs false
namespace Go.Proofs.Ytkimcgcbdfkobaa
open Go Go.RowKit

/-- is the rule number r the input i? -/
def hitB (g : La) (i r : Int) : Bool := if 0 ≤ r then (match g.rules[r.toNat]? with | some x => x.kind == 1 && x.input == i | none => false) else false
mutual
def usesB (g : La) (i : Int) : Tm → Bool
  | .mk r l => hitB g i r || usesL g i l
def usesL (g : La) (i : Int) : List Tm → Bool
  | [] => false
  | t :: l => usesB g i t || usesL g i l
end
theorem usesB_eq (g : La) (i r : Int) (l : List Tm) : usesB g i (.mk r l) = (hitB g i r || usesL g i l) := by rw [usesB]
theorem usesL_drop {g : La} {i : Int} {l : List Tm} {k : Nat} (h : k < l.length) : usesL g i (l.drop k) = (usesB g i l[k] || usesL g i (l.drop (k + 1))) := by rw [List.drop_eq_getElem_cons h, usesL]
theorem hitB_neg {g : La} {i r : Int} (h : ¬ 0 ≤ r) : hitB g i r = false := by simp [hitB, h]
theorem hitB_out {g : La} {i : Int} {k : Nat} (h : ¬ k < g.rules.length) : hitB g i k = false := by
  simp [hitB, List.getElem?_eq_none (show g.rules.length ≤ k by omega)]
theorem hitB_in {g : La} {i : Int} {k : Nat} (h : k < g.rules.length) : hitB g i k = (g.rules[k].kind == 1 && g.rules[k].input == i) := by
  simp [hitB, List.getElem?_eq_getElem h]

set_option maxHeartbeats 4000000 in
theorem uses_any (g : La) (i : Int) (t : Tm) : ∀ (u v : Value) (w : World), LaV Any w u g → TmV Any w v t →
    Calls Try.prog 21 #[u, v, .int .i64 i] w fun e w' => e = .returned (.bool (usesB g i t)) ∧ Grow w w' := by
  induction t using Tm.ind with
  | h r l ih =>
    intro u v w hu hv
    have HU := Lib.hid hu
    obtain ⟨A1, c1, A2, c2, A3, c3, rfl, hn, h1, h2, h3, ⟨l1, m1⟩, ⟨l2, m2⟩, ⟨l3, m3⟩⟩ := hu.form
    obtain ⟨A, cap, rfl, ⟨hr1, hr2⟩, hc, hm, hl⟩ := hv.form
    have hW : Grow w ((w.alloc (.cells #[.string g.name, .slice A1 g.inputs.length c1, .slice A2 g.symbols.length c2, .slice A3 g.rules.length c3] 38)).alloc (.cells #[.int .i64 r, .slice A l.length cap] 24)) := Below.step (grow_alloc _ _) (grow_alloc _ _)
    have HL := Lib.hid (hl.keep (Same.of_grow hW))
    have H3 := Lib.hid (keptRu.skeep h3 (Same.of_grow hW))
    have IH := Lib.hid ih
    have HUS := Lib.hid (usesB_eq g i r l)
    clear hu hv h1 h2 h3 hl ih hn
    have b0 : ((w.alloc (.cells #[.string g.name, .slice A1 g.inputs.length c1, .slice A2 g.symbols.length c2, .slice A3 g.rules.length c3] 38)).alloc (.cells #[.int .i64 r, .slice A l.length cap] 24)).cell? ⟨w.heap.size, 0, none⟩ = some (.string g.name) := by simp [go_sem]
    have b1 : ((w.alloc (.cells #[.string g.name, .slice A1 g.inputs.length c1, .slice A2 g.symbols.length c2, .slice A3 g.rules.length c3] 38)).alloc (.cells #[.int .i64 r, .slice A l.length cap] 24)).cell? ⟨w.heap.size, 1, none⟩ = some (.slice A1 g.inputs.length c1) := by simp [go_sem]
    have b2 : ((w.alloc (.cells #[.string g.name, .slice A1 g.inputs.length c1, .slice A2 g.symbols.length c2, .slice A3 g.rules.length c3] 38)).alloc (.cells #[.int .i64 r, .slice A l.length cap] 24)).cell? ⟨w.heap.size, 2, none⟩ = some (.slice A2 g.symbols.length c2) := by simp [go_sem]
    have b3 : ((w.alloc (.cells #[.string g.name, .slice A1 g.inputs.length c1, .slice A2 g.symbols.length c2, .slice A3 g.rules.length c3] 38)).alloc (.cells #[.int .i64 r, .slice A l.length cap] 24)).cell? ⟨w.heap.size, 3, none⟩ = some (.slice A3 g.rules.length c3) := by simp [go_sem]
    have b4 : ((w.alloc (.cells #[.string g.name, .slice A1 g.inputs.length c1, .slice A2 g.symbols.length c2, .slice A3 g.rules.length c3] 38)).alloc (.cells #[.int .i64 r, .slice A l.length cap] 24)).cell? ⟨w.heap.size + 1, 0, none⟩ = some (.int .i64 r) := by simp [go_sem]
    have b5 : ((w.alloc (.cells #[.string g.name, .slice A1 g.inputs.length c1, .slice A2 g.symbols.length c2, .slice A3 g.rules.length c3] 38)).alloc (.cells #[.int .i64 r, .slice A l.length cap] 24)).cell? ⟨w.heap.size + 1, 1, none⟩ = some (.slice A l.length cap) := by simp [go_sem]
    go_enter Try.func21, Try.ntmps21
    go_upto_region 1 with fail
    generalize hWd : (w.alloc (.cells #[.string g.name, .slice A1 g.inputs.length c1, .slice A2 g.symbols.length c2, .slice A3 g.rules.length c3] 38)).alloc (.cells #[.int .i64 r, .slice A l.length cap] 24) = W at *
    clear hWd
    go_cut [40] from 9 to 39 (fun s40 wx => s40 = .bool (hitB g i r) ∧ W = wx)
    case first =>
      by_cases h0 : 0 ≤ r
      · obtain ⟨k, rfl⟩ := Int.eq_ofNat_of_zero_le h0
        by_cases hk : k < g.rules.length
        · obtain ⟨b, o, B, ci, C, ca, rfl, -, f0, f1, f2, -, -, -, -, -, -, -, -, -⟩ := Rus.get H3.out hk
          have HH := Lib.hid (hitB_in (i := i) hk)
          by_cases hk1 : (g.rules[k].kind == 1) = true
          · by_cases hk2 : (g.rules[k].input == i) = true
            · go_wp2_with fail
              go_meet
              exact ⟨by rw [HH.out, hk1, hk2]; simp, rfl⟩
            · have hk2' : (g.rules[k].input == i) = false := by simpa using hk2
              clear hk2
              go_wp2_with fail
              go_meet
              exact ⟨by rw [HH.out, hk1, hk2']; simp, rfl⟩
          · have hk1' : (g.rules[k].kind == 1) = false := by simpa using hk1
            clear hk1
            go_wp2_with fail
            go_meet
            exact ⟨by rw [HH.out, hk1']; simp, rfl⟩
        · have HH := Lib.hid (hitB_out (i := i) hk)
          have hd : decide (k < g.rules.length) = false := by simp; omega
          clear hk
          go_wp2_with fail
          go_meet
          exact ⟨by rw [HH.out], rfl⟩
      · have HH := Lib.hid (hitB_neg (g := g) (i := i) h0)
        have hd : decide (0 ≤ r) = false := by simpa using h0
        clear h0
        go_wp2_with fail
        go_meet
        exact ⟨by rw [HH.out], rfl⟩
    case rest =>
      obtain ⟨hs40, rfl⟩ := hcut
      by_cases hh : hitB g i r = true
      · rw [hh] at hs40
        subst hs40
        have HUS2 := Lib.hid (show usesB g i (.mk r l) = true by rw [HUS.out, hh]; simp)
        clear hh
        go_wp2_with fail
        go_ret
        exact ⟨by rw [HUS2.out]; rfl, hW⟩
      · have hh' : hitB g i r = false := by simpa using hh
        rw [hh'] at hs40
        subst hs40
        have HUS2 := Lib.hid (show usesB g i (.mk r l) = usesL g i l by rw [HUS.out, hh', Bool.false_or])
        clear hh hh'
        go_wp2_with fail
        go_loopw [44] (fun x wr => ∃ (k : Nat), k ≤ l.length ∧ x = .int .i64 k ∧ Hid (usesL g i l = usesL g i (l.drop k)) ∧ Grow W wr) (fun x _ => l.length - (intOf x).toNat)
        case atStart => exact ⟨0, by omega, by simp, Lib.hid rfl, grow_refl _⟩
        case round =>
          obtain ⟨k, hk, rfl, hx, hb⟩ := hrel
          have e0 := (Below.cell hb (cell_lt b0)).trans b0
          have e1 := (Below.cell hb (cell_lt b1)).trans b1
          have e2 := (Below.cell hb (cell_lt b2)).trans b2
          have e3 := (Below.cell hb (cell_lt b3)).trans b3
          have hz0 : w.heap.size < wr.heap.size := cell_lt e0
          by_cases hlt : k < l.length
          · obtain ⟨b, o, A', n', c', rfl, -, d1, d2, hv⟩ := (HL.out.keep (Same.of_grow hb)).get hlt
            have HV := Lib.hid (hv.keep (Same.of_grow (grow_alloc wr (.cells #[.int .i64 l[k].rule, .slice A' n' c'] 24))))
            have HUU := Lib.hid (HU.out.keep (Same.of_grow (Below.step (Below.step hW hb) (grow_alloc wr (.cells #[.int .i64 l[k].rule, .slice A' n' c'] 24)))))
            have HD := Lib.hid (usesL_drop (g := g) (i := i) hlt)
            clear hv
            by_cases hu : usesB g i l[k] = true
            · have HU2 := Lib.hid (show usesB g i (.mk r l) = true by rw [HUS2.out, hx.out, HD.out, hu, Bool.true_or])
              go_wp2_with (go_at_call 21; refine (IH.out _ (List.getElem_mem hlt) _ _ _ HUU.out HV.out).mono ?_; rintro e w' ⟨rfl, hb'⟩; rw [hu])
              go_ret
              exact ⟨by rw [HU2.out]; rfl, Below.step hW (Below.step hb (Below.step (grow_alloc _ _) hb'))⟩
            · have hu' : usesB g i l[k] = false := by simpa using hu
              have HU2 := Lib.hid (show usesL g i (l.drop k) = usesL g i (l.drop (k + 1)) by rw [HD.out, hu', Bool.false_or])
              clear hu
              go_wp2_with (go_at_call 21; refine (IH.out _ (List.getElem_mem hlt) _ _ _ HUU.out HV.out).mono ?_; rintro e w' ⟨rfl, hb'⟩; rw [hu'])
              go_roundw
              case rel => exact ⟨k + 1, by omega, by go_num, Lib.hid (by rw [hx.out, HU2.out]), Below.step hb (Below.step (grow_alloc _ _) hb')⟩
              case measure => simp [intOf]; omega
          · have h0 : k = l.length := by omega
            have HU2 := Lib.hid (show usesB g i (.mk r l) = false by rw [HUS2.out, hx.out, h0, List.drop_length, usesL])
            clear h0
            go_wp2_with fail
            go_ret
            exact ⟨by rw [HU2.out]; rfl, Below.step hW hb⟩

set_option maxHeartbeats 4000000 in
theorem refuses_any (g : La) (i : Int) (t : Tm) : ∀ (u v : Value) (w : World), LaV Any w u g → TmV Any w v t →
    Calls Try.prog 22 #[u, v, .int .i64 i] w fun e w' => e = .returned (.bool (usesB g i t)) ∧ Grow w w' := by
  induction t using Tm.ind with
  | h r l ih =>
    intro u v w hu hv
    have HU := Lib.hid hu
    obtain ⟨A1, c1, A2, c2, A3, c3, rfl, hn, h1, h2, h3, ⟨l1, m1⟩, ⟨l2, m2⟩, ⟨l3, m3⟩⟩ := hu.form
    obtain ⟨A, cap, rfl, ⟨hr1, hr2⟩, hc, hm, hl⟩ := hv.form
    have hW : Grow w ((w.alloc (.cells #[.string g.name, .slice A1 g.inputs.length c1, .slice A2 g.symbols.length c2, .slice A3 g.rules.length c3] 38)).alloc (.cells #[.int .i64 r, .slice A l.length cap] 24)) := Below.step (grow_alloc _ _) (grow_alloc _ _)
    have HL := Lib.hid (hl.keep (Same.of_grow hW))
    have H3 := Lib.hid (keptRu.skeep h3 (Same.of_grow hW))
    have IH := Lib.hid ih
    have HUS := Lib.hid (usesB_eq g i r l)
    clear hu hv h1 h2 h3 hl ih hn
    have b0 : ((w.alloc (.cells #[.string g.name, .slice A1 g.inputs.length c1, .slice A2 g.symbols.length c2, .slice A3 g.rules.length c3] 38)).alloc (.cells #[.int .i64 r, .slice A l.length cap] 24)).cell? ⟨w.heap.size, 0, none⟩ = some (.string g.name) := by simp [go_sem]
    have b1 : ((w.alloc (.cells #[.string g.name, .slice A1 g.inputs.length c1, .slice A2 g.symbols.length c2, .slice A3 g.rules.length c3] 38)).alloc (.cells #[.int .i64 r, .slice A l.length cap] 24)).cell? ⟨w.heap.size, 1, none⟩ = some (.slice A1 g.inputs.length c1) := by simp [go_sem]
    have b2 : ((w.alloc (.cells #[.string g.name, .slice A1 g.inputs.length c1, .slice A2 g.symbols.length c2, .slice A3 g.rules.length c3] 38)).alloc (.cells #[.int .i64 r, .slice A l.length cap] 24)).cell? ⟨w.heap.size, 2, none⟩ = some (.slice A2 g.symbols.length c2) := by simp [go_sem]
    have b3 : ((w.alloc (.cells #[.string g.name, .slice A1 g.inputs.length c1, .slice A2 g.symbols.length c2, .slice A3 g.rules.length c3] 38)).alloc (.cells #[.int .i64 r, .slice A l.length cap] 24)).cell? ⟨w.heap.size, 3, none⟩ = some (.slice A3 g.rules.length c3) := by simp [go_sem]
    have b4 : ((w.alloc (.cells #[.string g.name, .slice A1 g.inputs.length c1, .slice A2 g.symbols.length c2, .slice A3 g.rules.length c3] 38)).alloc (.cells #[.int .i64 r, .slice A l.length cap] 24)).cell? ⟨w.heap.size + 1, 0, none⟩ = some (.int .i64 r) := by simp [go_sem]
    have b5 : ((w.alloc (.cells #[.string g.name, .slice A1 g.inputs.length c1, .slice A2 g.symbols.length c2, .slice A3 g.rules.length c3] 38)).alloc (.cells #[.int .i64 r, .slice A l.length cap] 24)).cell? ⟨w.heap.size + 1, 1, none⟩ = some (.slice A l.length cap) := by simp [go_sem]
    go_enter Try.func22, Try.ntmps22
    go_upto_region 1 with fail
    generalize hWd : (w.alloc (.cells #[.string g.name, .slice A1 g.inputs.length c1, .slice A2 g.symbols.length c2, .slice A3 g.rules.length c3] 38)).alloc (.cells #[.int .i64 r, .slice A l.length cap] 24) = W at *
    clear hWd
    go_cut [19] from 9 to 18 (fun s19 wx => s19 = .bool (decide (0 ≤ r ∧ r < (g.rules.length : Int))) ∧ W = wx)
    case first =>
      by_cases h0 : 0 ≤ r
      · by_cases hk : r < (g.rules.length : Int)
        · have HH := Lib.hid (show decide (0 ≤ r ∧ r < (g.rules.length : Int)) = true by simp [h0, hk])
          go_wp2_with fail
          go_meet
          exact ⟨by rw [HH.out], rfl⟩
        · have HH := Lib.hid (show decide (0 ≤ r ∧ r < (g.rules.length : Int)) = false by simp [hk])
          have hd : decide (r < (g.rules.length : Int)) = false := by simpa using hk
          clear hk
          go_wp2_with fail
          go_meet
          exact ⟨by rw [HH.out], rfl⟩
      · have HH := Lib.hid (show decide (0 ≤ r ∧ r < (g.rules.length : Int)) = false by simp [h0])
        have hd : decide (0 ≤ r) = false := by simpa using h0
        clear h0
        go_wp2_with fail
        go_meet
        exact ⟨by rw [HH.out], rfl⟩
    case rest =>
      obtain ⟨hs19, rfl⟩ := hcut
      go_upto_if 19 with fail
      go_cut [] from 20 to 34 (fun wx => Hid (hitB g i r = false) ∧ Grow W wx)
      case first =>
        by_cases hin : 0 ≤ r ∧ r < (g.rules.length : Int)
        · rw [decide_eq_true hin] at hs19
          subst hs19
          obtain ⟨h0, hk0⟩ := hin
          obtain ⟨k, rfl⟩ := Int.eq_ofNat_of_zero_le h0
          have hk : k < g.rules.length := by omega
          obtain ⟨b, o, B, ci, C, ca, rfl, -, f0, f1, f2, f3, f4, f5, f6, f7, f8, -, -, -⟩ := Rus.get H3.out hk
          have HH := Lib.hid (hitB_in (i := i) hk)
          by_cases hk1 : (g.rules[k].kind == 1) = true
          · by_cases hk2 : (g.rules[k].input == i) = true
            · have HF := Lib.hid (show usesB g i (.mk k l) = true by rw [HUS.out, HH.out, hk1, hk2]; simp)
              go_wp2_with fail
              go_ret
              exact ⟨by rw [HF.out]; rfl, Below.step hW (grow_alloc _ _)⟩
            · have hk2' : (g.rules[k].input == i) = false := by simpa using hk2
              clear hk2
              go_wp2_with fail
              go_meet
              exact ⟨Lib.hid (by rw [HH.out, hk1, hk2']; simp), grow_alloc _ _⟩
          · have hk1' : (g.rules[k].kind == 1) = false := by simpa using hk1
            clear hk1
            go_wp2_with fail
            go_meet
            exact ⟨Lib.hid (by rw [HH.out, hk1']; simp), grow_alloc _ _⟩
        · rw [decide_eq_false hin] at hs19
          subst hs19
          have HH : Hid (hitB g i r = false) := Lib.hid (by
            by_cases h0 : 0 ≤ r
            · obtain ⟨k, rfl⟩ := Int.eq_ofNat_of_zero_le h0
              exact hitB_out (by omega)
            · exact hitB_neg h0)
          clear hin
          go_wp2_with fail
          go_meet
          exact ⟨HH, grow_refl _⟩
      case rest =>
        obtain ⟨hh, hb0⟩ := hcut
        have HUS2 := Lib.hid (show usesB g i (.mk r l) = usesL g i l by rw [HUS.out, hh.out, Bool.false_or])
        clear hh hs19
        go_wp2_with fail
        go_loopw [8] (fun x wr => ∃ (k : Nat), k ≤ l.length ∧ x = .int .i64 k ∧ Hid (usesL g i l = usesL g i (l.drop k)) ∧ Grow W wr) (fun x _ => l.length - (intOf x).toNat)
        case atStart => exact ⟨0, by omega, by simp, Lib.hid rfl, hb0⟩
        case round =>
          obtain ⟨k, hk, rfl, hx, hb⟩ := hrel
          have e5 := (Below.cell hb (cell_lt b5)).trans b5
          by_cases hlt : k < l.length
          · obtain ⟨b, o, A', n', c', rfl, -, d1, d2, hv⟩ := HL.out.get hlt
            have HV := Lib.hid hv
            have HUW := Lib.hid (HU.out.keep (Same.of_grow hW))
            have HD := Lib.hid (usesL_drop (g := g) (i := i) hlt)
            have hz1 : b < W.heap.size := cell_lt d1
            have hz2 : w.heap.size < W.heap.size := cell_lt b0
            have hz3 : w.heap.size + 1 < W.heap.size := cell_lt b4
            clear hv
            go_wp2_with fail
            refine wp_region_rel (fun w' => Grow (W) w') (by kernel_rfl) (hb.drew) (fun a b h k => Below.step h k) ?_
            apply Exists.intro
            constructor
            repeat (first | (apply rel_det; rfl; intro w1 hC1 hF1; obtain ⟨hc1, hf1⟩ := bcell hC1; go_simp; (first | exact ⟨Below.refl _ _, rfl⟩ | (go_at_call 22; exact rel_call (IH.out _ (List.getElem_mem hlt) _ _ _ (HUW.out.keep (Same.of_grow hC1)) (HV.out.keep (Same.of_grow hC1))))); intro K hK; go_simp; refine hK _ ?_; clear hK K) | (apply rel_skip; rfl; intro K hK; go_simp; refine hK _ ?_; clear hK K))
            refine rel_nil (fun w2 hC2 hF2 => ?_)
            refine wpList_nil ?_
            rotate_left
            kernel_rfl
            by_cases hu : usesB g i l[k] = true
            · have HU2 := Lib.hid (show usesB g i (.mk r l) = true by rw [HUS2.out, hx.out, HD.out, hu, Bool.true_or])
              rw [hu]
              go_wp2_with fail
              go_ret
              exact ⟨by rw [HU2.out]; rfl, Below.step hW hC2⟩
            · have hu' : usesB g i l[k] = false := by simpa using hu
              have HU2 := Lib.hid (show usesL g i (l.drop k) = usesL g i (l.drop (k + 1)) by rw [HD.out, hu', Bool.false_or])
              rw [hu']
              clear hu hu'
              go_wp2_with fail
              go_roundw
              case rel => exact ⟨k + 1, by omega, by go_num, Lib.hid (by rw [hx.out, HU2.out]), hC2⟩
              case measure => simp [intOf]; omega
          · have h0 : k = l.length := by omega
            have HU2 := Lib.hid (show usesB g i (.mk r l) = false by rw [HUS2.out, hx.out, h0, List.drop_length, usesL])
            clear h0
            go_wp2_with fail
            go_ret
            exact ⟨by rw [HU2.out]; rfl, Below.step hW hb⟩
end Go.Proofs.Ytkimcgcbdfkobaa
