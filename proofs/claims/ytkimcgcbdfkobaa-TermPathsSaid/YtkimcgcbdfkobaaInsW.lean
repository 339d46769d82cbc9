/- Lists of terms: Insert, Same. -/
import Derived.Test.YtkimcgcbdfkobaaClone
import Derived.Test.YtkimcgcbdfkobaaIns
import Derived.Deep.CutRange
import Derived.Test.YtkimcgcbdfkobaaLang
set_option linter.unusedVariables false
set_option linter.unusedSimpArgs false
namespace Go.Proofs.Ytkimcgcbdfkobaa
open Go Go.RowKit

/-- a list of terms -/
def RetTms (w : World) (l : List Tm) (e : Ending) (w' : World) : Prop := ∃ v, e = .returned v ∧ Tms Any w' v l ∧ Grow w w'

theorem Tms.take {S : Nat → Prop} {w : World} {A : Option Addr} {n cap k : Nat} {l : List Tm} (h : Tms S w (.slice A n cap) l) (hk : k ≤ l.length) : Tms S w (.slice A k cap) (l.take k) := by
  obtain ⟨A0, cap0, hv, h1, h2, h3⟩ := h
  injection hv with e1 e2 e3
  subst e1 e2 e3
  refine ⟨A, cap, by rw [List.length_take, Nat.min_eq_left hk], by rw [List.length_take]; omega, h2, fun i x hx => ?_⟩
  rw [List.getElem?_take] at hx
  split at hx
  · exact h3 i x hx
  · cases hx
theorem Tms.drop {S : Nat → Prop} {w : World} {A : Option Addr} {n cap k : Nat} {l : List Tm} (h : Tms S w (.slice A n cap) l) (hk : k ≤ l.length) : Tms S w (.slice (cutAt A cap k 2) (n - k) (cap - k)) (l.drop k) := RepSl.drop' h hk
theorem size_tm : (Try.prog.info? 24).map (·.size) = some 2 := by kernel_rfl

/-- old elements are none of a new row's -/
theorem src_old {w : World} {B lo : Nat} {e : TypeId} {D : Nat → Prop} {v s : Value} {xs l : List Tm} (h : Tms (Lt B) w s l) (ho : Own D lo e 2 RepTm w v xs) (hB : B ≤ lo) (hD : ∀ b, D b) :
    RepSl (Lt B) w 2 (RepTm (fun b => D b ∧ v.ownBlock ≠ some b) w) s l :=
  RepSl.mono h (fun _ h => h) fun cs x _ hr => hr.mono fun b hb => ⟨hD b, fun e => by have := (ho.block b e).1; unfold Lt at hb; omega⟩

theorem tms_lit1 {S : Nat → Prop} {w : World} {a b : Value} {t : Tm} (h : RepTm S w [a, b] t) : RepSl Any (w.alloc (.cells #[a, b] 24)) 2 (RepTm S (w.alloc (.cells #[a, b] 24))) (.slice (some ⟨w.heap.size, 0, none⟩) 1 1) [t] := by
  have hblk := heap_alloc_new w (.cells #[a, b] 24)
  exact sl_lit [[a, b]] [t] hblk rfl trivial (by simp) rfl (by simp) (fun i cs y hi hy => by
    match i, hi, hy with
    | 0, hi, hy => cases hi; cases hy; exact h.keep (Same.of_grow (grow_alloc _ _))
    | k + 1, hi, _ => simp at hi)

set_option maxHeartbeats 4000000 in
theorem insert_any (l : List Tm) (t : Tm) (u v : Value) (w : World) (hl : Tms Any w u l) (hv : TmV Any w v t) (hs : Srt l) (hn : l.length ≤ 1000000) (hst : t.size ≤ 1000000) (hsl : ∀ x ∈ l, x.size ≤ 1000000) :
    Calls Try.prog 39 #[u, v] w (RetTms w (ins l t)) := by
  have HLB := Lib.hid ((Tms.bound hl).mono (S' := Lt w.heap.size) fun b hb => hb.2)
  have HVB := Lib.hid (hv.bound.mono (S' := Lt w.heap.size) fun b hb => hb.2)
  have HS := Lib.hid hs
  have HSL := Lib.hid hsl
  obtain ⟨A2, c2, rfl, hc1, hc2⟩ := RepSl.shape hl
  obtain ⟨r, kids, hsr⟩ : ∃ r l, t = .mk r l := ⟨t.rule, t.args, by cases t; rfl⟩
  rw [hsr] at hv
  obtain ⟨A, cap, rfl, hr, hc, hm, -⟩ := hv.form
  generalize kids.length = n at *
  clear hv hl hs hsl hsr
  have hW : Grow w (w.alloc (.cells #[.int .i64 r, .slice A n cap] 24)) := grow_alloc _ _
  have b0 : (w.alloc (.cells #[.int .i64 r, .slice A n cap] 24)).cell? ⟨w.heap.size, 0, none⟩ = some (.int .i64 r) := by simp
  have b1 : (w.alloc (.cells #[.int .i64 r, .slice A n cap] 24)).cell? ⟨w.heap.size, 1, none⟩ = some (.slice A n cap) := by simp
  go_enter Try.func39, Try.ntmps39
  go_wp2_with fail
  generalize hWd : w.alloc (.cells #[.int .i64 r, .slice A n cap] 24) = W at *
  clear hWd
  have hwW := hW.size
  have HLW := Lib.hid ((HLB.out.keep (Same.of_grow hW)).mono (S' := Lt W.heap.size) fun b hb => by unfold Lt at *; omega)
  have HVW := Lib.hid ((HVB.out.keep (Same.of_grow hW)).mono (S' := Any) fun _ _ => trivial)
  have HVL := Lib.hid ((HVB.out.keep (Same.of_grow hW)).mono (S' := Lt W.heap.size) fun b hb => by unfold Lt at *; omega)
  clear hwW
  have z0 : w.heap.size < W.heap.size := cell_lt b0
  go_loopw [5] (fun x wr => ∃ (k : Nat), k ≤ l.length ∧ x = .int .i64 k ∧ Hid (∀ i (h : i < l.length), k ≤ i → cmpT t l[i] = -1) ∧ Grow W wr) (fun x _ => (intOf x).toNat)
  case atStart => exact ⟨l.length, Nat.le_refl _, by simp, Lib.hid fun i h h' => by omega, grow_refl _⟩
  case round =>
    obtain ⟨k, hk, rfl, hgt, hb⟩ := hrel
    by_cases hex : k = 0 ∨ ∃ j, k = j + 1 ∧ ∃ h : j < l.length, cmpT t l[j] = 1
    · -- the loop is left
      have HP : Hid (found l t = false ∧ pos l t = k) := Lib.hid (by
        have hlt : ∀ i (h : i < l.length), i < k → cmpT l[i] t = -1 := fun i h hi => by
          rcases hex with h0 | ⟨j, hj, hjl, h1⟩
          · omega
          · have hj1 : cmpT l[j] t = -1 := by have := cmpT_anti t l[j]; omega
            rcases Nat.lt_or_ge i j with h' | h'
            · exact cmpT_trans _ _ _ (srt_get HS.out h hjl h') hj1
            · have : i = j := by omega
              simp only [this]; exact hj1
        have hp : pos l t = k := pos_char hk hlt fun h h1 => by
          have := hgt.out k h (Nat.le_refl _)
          have := cmpT_anti t l[k]
          omega
        refine ⟨?_, hp⟩
        cases hf : found l t with
        | false => rfl
        | true =>
          obtain ⟨h1, h2⟩ := found_eq.1 hf
          have := hgt.out (pos l t) h1 (by omega)
          have := cmpT_anti t l[pos l t]
          omega)
      go_upto_region 2 with fail
      go_cut [20] from 9 to 19 (fun s20 wx => s20 = .bool false ∧ Grow W wx)
      case first =>
        rcases hex with rfl | ⟨j, rfl, hjl, h1⟩
        · skip
          refine wp_region_rel (fun w' => Grow (W) w') (by kernel_rfl) (hb.drew) (fun a b h k => Below.step h k) ?_
          apply Exists.intro
          constructor
          repeat (first | (apply rel_det; rfl; intro w1 hC1 hF1; obtain ⟨hc1, hf1⟩ := bcell hC1; go_simp; (first | exact ⟨Below.refl _ _, rfl⟩ | fail); intro K hK; go_simp; refine hK _ ?_; clear hK K) | (apply rel_skip; rfl; intro K hK; go_simp; refine hK _ ?_; clear hK K))
          refine rel_nil (fun w2 hC2 hF2 => ?_)
          refine wpList_nil ?_
          rotate_left
          kernel_rfl
          go_wp2_with fail
          go_meet
          exact ⟨rfl, hC2⟩
        · have hsy : l[j].size ≤ 1000000 := HSL.out _ (List.getElem_mem hjl)
          obtain ⟨b, o, A', n', c', rfl, hbL, d1, d2, hve⟩ := HLW.out.get hjl
          have HVE := Lib.hid (hve.mono (S' := Any) fun _ _ => trivial)
          have hbW : b < W.heap.size := hbL
          clear hve hgt HP
          generalize l[j] = y at *
          generalize y.rule = yr at *
          have hj0 : decide ((0 : Int) < (j : Int) + 1) = true := by rw [decide_eq_true_eq]; omega
          have hw1 : IntKind.i64.wrap (j : Int) = j := IntWalk.i64_in _ (by omega)
          have hj1 : (0 : Int) ≤ (j : Int) := by omega
          have hj2 : (j : Int) < (l.length : Int) := by omega
          refine wp_region_rel (fun w' => Grow (W) w') (by kernel_rfl) (hb.drew) (fun a b h k => Below.step h k) ?_
          apply Exists.intro
          constructor
          repeat (first | (apply rel_det; rfl; intro w1 hC1 hF1; obtain ⟨hc1, hf1⟩ := bcell hC1; go_simp; (first | exact ⟨Below.refl _ _, rfl⟩ | (go_at_call 18; exact rel_call (refcompare_any t y _ _ _ (HVW.out.keep (Same.of_grow hC1)) (HVE.out.keep (Same.of_grow hC1)) hst hsy))); intro K hK; go_simp; refine hK _ ?_; clear hK K) | (apply rel_skip; rfl; intro K hK; go_simp; refine hK _ ?_; clear hK K))
          refine rel_nil (fun w2 hC2 hF2 => ?_)
          refine wpList_nil ?_
          rotate_left
          kernel_rfl
          go_wp2_with fail
          go_meet
          exact ⟨rfl, hC2⟩
      case rest =>
        obtain ⟨rfl, hG⟩ := hcut
        have HG := Lib.hid hG
        clear hb hgt hex hG
        have hlW : W.heap.size ≤ wc.heap.size := HG.out.size
        have HLC := Lib.hid (HLW.out.keep (Same.of_grow HG.out))
        have HVC := Lib.hid (HVL.out.keep (Same.of_grow HG.out))
        have cb0 := (Below.cell HG.out (by exact z0)).trans b0
        have cb1 := (Below.cell HG.out (by exact z0)).trans b1
        have HT := Lib.hid (HLC.out.take hk)
        have HD := Lib.hid (HLC.out.drop hk)
        go_wp2_with (at_builtin; refine Hold.stop ?_)
        refine Hold.go ?_
        have HN : Hid (Own Any W.heap.size 24 2 RepTm wc (.slice none 0 0) []) := Lib.hid Own.nil
        refine wpList_append_Own elt_tm keptTm rfl (.tmp 32) (.tmp 35) rfl rfl rfl HN.out (src_old HT.out HN.out (Nat.le_refl _) fun _ => trivial) (by simp; omega) (by simp; omega) hlW ?_
        intro v2 w2 ho2 hg2 hv2
        have hb2 : Below W.heap.size wc w2 := below_of_grown hg2 hlW (fun b h => by cases h)
        have hl2 : W.heap.size ≤ w2.heap.size := Nat.le_trans hlW hb2.size
        have HO2 := Lib.hid ho2
        have HB2 := Lib.hid hb2
        have cc0 := (Below.cell hb2 (by exact z0)).trans cb0
        have cc1 := (Below.cell hb2 (by exact z0)).trans cb1
        clear ho2 hg2 hv2 hb2 cb0 cb1
        go_wp2_with (at_builtin; refine Hold.stop ?_)
        refine Hold.go ?_
        have HV2 := Lib.hid (HVC.out.keep (Same.of_below HB2.out fun b hb => hb))
        have HL1 := Lib.hid (RepSl.mono (tms_lit1 HV2.out.cells) (S' := Any) (R' := RepTm (fun b => Any b ∧ v2.ownBlock ≠ some b) (w2.alloc (.cells #[.int .i64 r, .slice A n cap] 24))) (fun _ h => h) fun cs x _ h => h.mono fun b hb => ⟨trivial, fun e => by have := (HO2.out.block b e).1; unfold Lt at hb; omega⟩)
        refine wpList_append_Own elt_tm keptTm rfl (.tmp 37) (.tmp 39) rfl rfl rfl (HO2.out.grow keptTm (grow_alloc _ _)) HL1.out (by simp; omega) (by simp; omega) (by simp; omega) ?_
        intro v3 w3 ho3 hg3 hv3
        have hb3 : Below W.heap.size w2 w3 := ((grow_alloc w2 _).mono hl2).trans (below_of_grown hg3 (by simp; omega) (fun b h => (HO2.out.block b h).1))
        have hl3 : W.heap.size ≤ w3.heap.size := Nat.le_trans hl2 hb3.size
        have HO3 := Lib.hid ho3
        have HB3 := Lib.hid (HB2.out.trans hb3)
        clear ho3 hg3 hv3 hb3 cc0 cc1 HL1
        have hcut := run_cut Try.underlying22 size_tm A2 l.length c2 k hk
        go_wp2_with (at_builtin; refine Hold.stop ?_)
        refine Hold.go ?_
        have HD3 := Lib.hid (HD.out.keep (Same.of_below HB3.out fun b hb => hb))
        refine wpList_append_Own (ys := l.drop k) elt_tm keptTm rfl (.tmp 41) (.tmp 44) rfl rfl rfl HO3.out (src_old HD3.out HO3.out (Nat.le_refl _) fun _ => trivial) (by simp; omega) (by simp; omega) hl3 ?_
        intro v4 w4 ho4 hg4 hv4
        have HB4 := Lib.hid ((HB3.out).trans (below_of_grown hg4 hl3 (fun b h => (HO3.out.block b h).1)))
        have HO4 := Lib.hid ho4
        clear ho4 hg4 hv4
        go_wp2_with fail
        go_ret
        refine ⟨_, rfl, ?_, Below.step hW (Below.trans HG.out HB4.out)⟩
        rw [ins_new HP.out.1, HP.out.2]
        have := HO4.out.rep keptTm
        simp only [List.nil_append, List.append_assoc, List.cons_append] at this
        exact RepSl.mono this (fun _ _ => trivial) fun _ _ _ h => h
    · have hk0 : k ≠ 0 := fun h => hex (.inl h)
      obtain ⟨j, rfl⟩ : ∃ j, k = j + 1 := ⟨k - 1, by omega⟩
      have hjl : j < l.length := by omega
      have hvals := cmpT_vals t l[j]
      have hne : cmpT t l[j] ≠ 1 := fun h => hex (.inr ⟨j, rfl, hjl, h⟩)
      have hsy : l[j].size ≤ 1000000 := HSL.out _ (List.getElem_mem hjl)
      obtain ⟨b, o, A', n', c', rfl, hbL, d1, d2, hve⟩ := HLW.out.get hjl
      have HVE := Lib.hid (hve.mono (S' := Any) fun _ _ => trivial)
      have hbW : b < W.heap.size := hbL
      have HEQ : Hid (cmpT t l[j] = 0 → ins l t = l) := Lib.hid fun h0 => by
        have e := cmpT_eq0 h0
        refine ins_found (found_eq.2 ?_)
        have hp : pos l t = j := pos_char (by omega) (fun i h hi => by rw [e]; exact srt_get HS.out h hjl hi) (fun h h1 => by rw [← e, cmpT_self] at h1; omega)
        refine ⟨by omega, ?_⟩
        simp only [hp]
        rw [← e]; exact cmpT_self _
      have HGT : Hid (cmpT t l[j] = -1 → ∀ i (h : i < l.length), j ≤ i → cmpT t l[i] = -1) := Lib.hid fun h1 i h hi => by
        rcases Nat.lt_or_ge j i with h' | h'
        · exact hgt.out i h (by omega)
        · have : i = j := by omega
          simp only [this]; exact h1
      clear hve hex hk0 hgt
      generalize l[j] = y at *
      generalize y.rule = yr at *
      have hc0 : cmpT t y ≤ 0 := by omega
      have hlo : -1 ≤ cmpT t y := by omega
      have hd0 : decide (cmpT t y ≤ 0) = true := by simp [hc0]
      have hj0 : decide ((0 : Int) < (j : Int) + 1) = true := by rw [decide_eq_true_eq]; omega
      have hw1 : IntKind.i64.wrap (j : Int) = j := IntWalk.i64_in _ (by omega)
      have hj1 : (0 : Int) ≤ (j : Int) := by omega
      have hj2 : (j : Int) < (l.length : Int) := by omega
      go_wp2_with fail
      refine wp_region_rel (fun w' => Grow (W) w') (by kernel_rfl) (hb.drew) (fun a b h k => Below.step h k) ?_
      apply Exists.intro
      constructor
      repeat (first | (apply rel_det; rfl; intro w1 hC1 hF1; obtain ⟨hc1, hf1⟩ := bcell hC1; go_simp; (first | exact ⟨Below.refl _ _, rfl⟩ | (go_at_call 18; exact rel_call (refcompare_any t y _ _ _ (HVW.out.keep (Same.of_grow hC1)) (HVE.out.keep (Same.of_grow hC1)) hst hsy))); intro K hK; go_simp; refine hK _ ?_; clear hK K) | (apply rel_skip; rfl; intro K hK; go_simp; refine hK _ ?_; clear hK K))
      refine rel_nil (fun w2 hC2 hF2 => ?_)
      refine wpList_nil ?_
      rotate_left
      kernel_rfl
      go_wp2_with fail
      clear hd0
      refine wp_region_rel (fun w' => Grow (W) w') (by kernel_rfl) (hC2.drew) (fun a b h k => Below.step h k) ?_
      apply Exists.intro
      constructor
      repeat (first | (apply rel_det; rfl; intro w1 hC1 hF1; obtain ⟨hc1, hf1⟩ := bcell hC1; go_simp; (first | exact ⟨Below.refl _ _, rfl⟩ | (go_at_call 18; exact rel_call (refcompare_any t y _ _ _ (HVW.out.keep (Same.of_grow hC1)) (HVE.out.keep (Same.of_grow hC1)) hst hsy))); intro K hK; go_simp; refine hK _ ?_; clear hK K) | (apply rel_skip; rfl; intro K hK; go_simp; refine hK _ ?_; clear hK K))
      refine rel_nil (fun w2 hC2 hF2 => ?_)
      refine wpList_nil ?_
      rotate_left
      kernel_rfl
      by_cases h0 : cmpT t y = 0
      · have hq : (cmpT t y == 0) = true := by simp [h0]
        have HI := Lib.hid (HEQ.out h0)
        have HLC := Lib.hid (HLW.out.keep (Same.of_grow hC2))
        rw [hq]
        clear h0 hvals hne
        go_wp2_with fail
        go_ret
        refine ⟨_, rfl, ?_, Below.step hW hC2⟩
        rw [HI.out]
        exact HLC.out.mono fun _ _ => trivial
      · have hq : (cmpT t y == 0) = false := by simp [h0]
        have HG := HGT.out (by omega)
        have HGG := Lib.hid HG
        rw [hq]
        clear h0 hvals hne HG
        go_wp2_with fail
        go_roundw
        case rel => exact ⟨j, by omega, by go_num, HGG, hC2⟩
        case measure => simp [intOf]
end Go.Proofs.Ytkimcgcbdfkobaa
