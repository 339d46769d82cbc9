/- Copies of terms. -/
import Derived.Test.YtkimcgcbdfkobaaCmp3
set_option linter.unusedVariables false
set_option linter.unusedSimpArgs false
namespace Go.Proofs.Ytkimcgcbdfkobaa
open Go Go.RowKit

theorem elt_tm : Elt Try.prog 22 24 2 32 := ⟨Try.underlying22, _, .agg #[.int .i64 0, .slice none 0 0], rfl, by kernel_rfl, by kernel_rfl, by kernel_rfl, rfl⟩

/-- a term in new memory -/
abbrev RetTm (w : World) (t : Tm) : Ending → World → Prop := RetR (fun S w v => TmV S w v t) w

theorem tms_one {B : Nat} {S : Nat → Prop} {w : World} {a b : Value} {t : Tm} (hB : B ≤ w.heap.size) (h : RepTm S w [a, b] t) (hS : ∀ b, S b → From B b := by exact fun _ h => h) : Tms (From B) (w.alloc (.cells #[a, b] 24)) (.slice (some ⟨w.heap.size, 0, none⟩) 1 1) [t] := by
  have hblk := heap_alloc_new w (.cells #[a, b] 24)
  exact sl_lit [[a, b]] [t] hblk rfl hB (by simp) rfl (by simp) (fun i cs y hi hy => by
    match i, hi, hy with
    | 0, hi, hy => cases hi; cases hy; exact (h.keep (Same.of_grow (grow_alloc _ _))).mono hS
    | k + 1, hi, _ => simp at hi)

set_option maxHeartbeats 4000000 in
theorem refclone_any (t : Tm) : ∀ (v : Value) (w : World), TmV Any w v t → t.size ≤ 1000000 → Calls Try.prog 40 #[v] w (RetTm w t) := by
  induction t using Tm.ind with
  | h r l ih =>
    intro v w hv hs
    obtain ⟨A, cap, rfl, hr, hc, hm, hl⟩ := hv.form
    have HR := Lib.hid hr
    obtain ⟨hr1, hr2⟩ := hr
    simp only [Tm.size] at hs
    have HL := Lib.hid ((hl.bound.mono (S' := Lt w.heap.size) fun b hb => hb.2).keep (Same.of_grow (Below.step (Below.step (grow_alloc w (.cells #[.int .i64 r, .slice A l.length cap] 24)) (grow_alloc _ (.cells #[.int .i64 0, .slice none 0 0] 24))) (grow_alloc _ (.cells #[.int .i64 r, .slice none 0 0] 24)))))
    have IH := Lib.hid ih
    have hlen := Tm.sizeL_len l
    clear hl ih hv
    have hWg : Grow w (((w.alloc (.cells #[.int .i64 r, .slice A l.length cap] 24)).alloc (.cells #[.int .i64 0, .slice none 0 0] 24)).alloc (.cells #[.int .i64 r, .slice none 0 0] 24)) := Below.step (Below.step (grow_alloc w (.cells #[.int .i64 r, .slice A l.length cap] 24)) (grow_alloc _ (.cells #[.int .i64 0, .slice none 0 0] 24))) (grow_alloc _ (.cells #[.int .i64 r, .slice none 0 0] 24))
    have hsz : (((w.alloc (.cells #[.int .i64 r, .slice A l.length cap] 24)).alloc (.cells #[.int .i64 0, .slice none 0 0] 24)).alloc (.cells #[.int .i64 r, .slice none 0 0] 24)).heap.size = w.heap.size + 3 := by simp
    have q0 : (((w.alloc (.cells #[.int .i64 r, .slice A l.length cap] 24)).alloc (.cells #[.int .i64 0, .slice none 0 0] 24)).alloc (.cells #[.int .i64 r, .slice none 0 0] 24)).heap[w.heap.size]? = some (.cells #[.int .i64 r, .slice A l.length cap] 24 (0, 0)) := by
      rw [Below.heap_alloc _ _ _ (by simp; omega), Below.heap_alloc _ _ _ (by simp)]; exact heap_alloc_new w _
    have q1 : (((w.alloc (.cells #[.int .i64 r, .slice A l.length cap] 24)).alloc (.cells #[.int .i64 0, .slice none 0 0] 24)).alloc (.cells #[.int .i64 r, .slice none 0 0] 24)).heap[w.heap.size + 1]? = some (.cells #[.int .i64 0, .slice none 0 0] 24 (0, 0)) := by
      rw [Below.heap_alloc _ _ _ (by simp)]
      have := heap_alloc_new (w.alloc (.cells #[.int .i64 r, .slice A l.length cap] 24)) (.cells #[.int .i64 0, .slice none 0 0] 24)
      simpa using this
    have q2 : (((w.alloc (.cells #[.int .i64 r, .slice A l.length cap] 24)).alloc (.cells #[.int .i64 0, .slice none 0 0] 24)).alloc (.cells #[.int .i64 r, .slice none 0 0] 24)).heap[w.heap.size + 2]? = some (.cells #[.int .i64 r, .slice none 0 0] 24 (0, 0)) := by
      have := heap_alloc_new ((w.alloc (.cells #[.int .i64 r, .slice A l.length cap] 24)).alloc (.cells #[.int .i64 0, .slice none 0 0] 24)) (.cells #[.int .i64 r, .slice none 0 0] 24)
      simpa using this
    go_enter Try.func40, Try.ntmps40
    go_wp2_with fail
    generalize hWd : ((w.alloc (.cells #[.int .i64 r, .slice A l.length cap] 24)).alloc (.cells #[.int .i64 0, .slice none 0 0] 24)).alloc (.cells #[.int .i64 r, .slice none 0 0] 24) = W at *
    have HSZ := Lib.hid hsz
    have Q0 := Lib.hid q0
    have Q1 := Lib.hid q1
    have Q2 := Lib.hid q2
    clear hWd hsz q0 q1 q2
    go_loopw [4] (fun i wr => ∃ (k : Nat) (v : Value), k ≤ l.length ∧ i = .int .i64 k ∧ Hid (wr.heap[w.heap.size + 2]? = some (.cells #[.int .i64 r, v] 24 (0, 0))) ∧ Hid (Own (From (w.heap.size + 3)) (w.heap.size + 3) 24 2 RepTm wr v (l.take k)) ∧ Hid (Below (w.heap.size + 2) W wr)) (fun i _ => l.length - (intOf i).toNat)
    case atStart => exact ⟨0, _, by omega, by simp, Q2, Lib.hid Own.nil, Lib.hid (Below.refl _ _)⟩
    case round =>
      obtain ⟨k, v, hk, rfl, hb2, ho, hbl⟩ := hrel
      have hz : w.heap.size + 3 ≤ wr.heap.size := by have := hbl.out.size; have := HSZ.out; omega
      have hb0 : wr.heap[w.heap.size]? = some (.cells #[.int .i64 r, .slice A l.length cap] 24 (0, 0)) := (hbl.out.block _ (by omega)).trans Q0.out
      have hb1 : wr.heap[w.heap.size + 1]? = some (.cells #[.int .i64 0, .slice none 0 0] 24 (0, 0)) := (hbl.out.block _ (by omega)).trans Q1.out
      have c00 : wr.cell? ⟨w.heap.size, 0, none⟩ = some (.int .i64 r) := by simp [World.cell?, hb0]
      have c01 : wr.cell? ⟨w.heap.size, 1, none⟩ = some (.slice A l.length cap) := by simp [World.cell?, hb0]
      have c10 : wr.cell? ⟨w.heap.size + 1, 0, none⟩ = some (.int .i64 0) := by simp [World.cell?, hb1]
      have c11 : wr.cell? ⟨w.heap.size + 1, 1, none⟩ = some (.slice none 0 0) := by simp [World.cell?, hb1]
      have f10 : wr.frozen? ⟨w.heap.size + 1, 0, none⟩ = false := by simp [World.frozen?, hb1]
      have f11 : wr.frozen? ⟨w.heap.size + 1, 1, none⟩ = false := by simp [World.frozen?, hb1]
      have c20 : wr.cell? ⟨w.heap.size + 2, 0, none⟩ = some (.int .i64 r) := by have := hb2.out; simp [World.cell?, this]
      have c21 : wr.cell? ⟨w.heap.size + 2, 1, none⟩ = some v := by have := hb2.out; simp [World.cell?, this]
      clear hb0 hb1
      by_cases hlt : k < l.length
      · obtain ⟨b, o, A', n', c', rfl, hbb, d1, d2, hv⟩ := (HL.out.keep (Same.of_below hbl.out fun b hb => by unfold Lt at hb; omega)).get hlt
        have HV := Lib.hid (hv.mono (S' := Any) fun _ _ => trivial)
        have h1 : l[k].size ≤ 1000000 := by have := Tm.sizeL_mem (List.getElem_mem hlt); omega
        have hbw : b < wr.heap.size := by unfold Lt at hbb; omega
        have hz0 : w.heap.size < wr.heap.size := by omega
        have hz2 : w.heap.size + 2 < wr.heap.size := by omega
        have hmem := List.getElem_mem hlt
        have htk := List.take_succ_eq_append_getElem hlt
        generalize l[k] = y at *
        have HM := Lib.hid hmem
        have HTK := Lib.hid htk
        clear hv hbb hmem htk
        obtain ⟨yr, hyr⟩ : ∃ yr, yr = y.rule := ⟨_, rfl⟩
        rw [← hyr] at d1 HV
        clear hyr
        go_wp2_with fail
        have hbr : Grow wr wr := grow_refl _
        skip
        refine wp_region_rel (fun w' => Grow (wr) w') (by kernel_rfl) (grow_drew _) (fun a b h k => Below.step h k) ?_
        apply Exists.intro
        constructor
        iterate 7 (first | (apply rel_det; rfl; intro w1 hC1 hF1; obtain ⟨hc1, hf1⟩ := bcell hC1; go_simp; (first | exact ⟨Below.refl _ _, rfl⟩ | fail); intro K hK; go_simp; refine hK _ ?_; clear hK K) | (apply rel_skip; rfl; intro K hK; go_simp; refine hK _ ?_; clear hK K))
        apply rel_some (G := fun v w' => TmV (From wr.heap.size) w' v y) (hG := fun v w w' h hb => h.keep (Same.of_grow hb))
        · rfl
        · intro w1 hC1 hF1; obtain ⟨hc1, hf1⟩ := bcell hC1; go_simp; (go_at_call 40; exact rel_fresh (Rp := fun S w v => TmV S w v y) (fun h hS => h.mono hS) (Nat.le_trans hbr.size hC1.size) (IH.out _ HM.out _ _ (HV.out.keep (Same.of_grow (Below.step hbr hC1))) h1))
        intro vc K hK; go_simp; refine hK _ ?_; clear hK K
        apply rel_some (G := fun v w' => Tms (From wr.heap.size) w' v [y]) (hG := fun v w w' h hb => h.keep (Same.of_grow hb))
        · rfl
        · intro w1 hC1 hF1
          have hf := (hF1 7 rfl : TmV (From wr.heap.size) w1 vc y)
          obtain ⟨c0, c1, rfl, hrep⟩ := hf
          have hlw : wr.heap.size ≤ w1.heap.size := Nat.le_trans hbr.size hC1.size
          have H1 := Lib.hid hrep
          have HW1 := Lib.hid hlw
          clear hrep hlw hC1 hF1
          go_simp
          exact ⟨grow_alloc _ _, tms_one HW1.out H1.out⟩
        intro vb K hK; go_simp; refine hK _ ?_; clear hK K
        refine rel_nil (fun w2 hC2 hF2 => ?_)
        rotate_left
        kernel_rfl
        have hfb := (hF2 8 : Tms (From wr.heap.size) w2 vb [y])
        have hG2 : Grow wr w2 := Below.step hbr hC2
        have HO := Lib.hid (ho.out.grow keptTm hG2)
        have HFB := Lib.hid (RepSl.mono hfb (S' := Any) (R' := RepTm (fun b => From (w.heap.size + 3) b ∧ v.ownBlock ≠ some b) w2) (fun _ _ => trivial) fun cs x _ h => h.mono fun b hb => ⟨Nat.le_trans hz hb, fun e => by have := (ho.out.block b e).2; unfold From at hb; omega⟩)
        have HG2 := Lib.hid hG2
        have hz4 : w.heap.size + 3 ≤ w2.heap.size := Nat.le_trans hz hG2.size
        clear hfb hF2 hC2 hG2 hbr
        refine wpList_append_Own elt_tm keptTm rfl (.tmp 16) (.tmp 23) rfl rfl rfl HO.out HFB.out (by simp; omega) (by simp; omega) hz4 ?_
        intro v4 w4 ho4 hg4 hv4
        have hne : v4 ≠ .slice none 0 0 := fun e => by
          subst e
          obtain ⟨cs, ⟨hcl, hc2⟩, _⟩ := ho4
          rcases hc2 with ⟨_, h0⟩ | ⟨g, cap, cur, h0, _⟩
          · simp at h0
          · cases h0
        have hshape : ∃ g cap4, v4 = .slice (some ⟨g, 0, none⟩) (l.take k ++ [y]).length cap4 := by
          rcases ho4.form with ⟨h0, _⟩ | ⟨g, cap4, h0, _⟩
          · exact absurd h0 hne
          · exact ⟨g, cap4, h0⟩
        obtain ⟨g, cap4, rfl⟩ := hshape
        -- the blocks of the locals
        have hrow : ∀ b, v.ownBlock = some b → w.heap.size + 3 ≤ b := fun b h => (HO.out.block b h).1
        have hblk2 : w4.heap[w.heap.size + 2]? = some (.cells #[.int .i64 r, v] 24 (0, 0)) :=
          (hg4.block _ (by omega) (fun e => by have := hrow _ e.symm; omega)).trans ((HG2.out.block _ (by omega)).trans hb2.out)
        have e20 : w4.cell? ⟨w.heap.size + 2, 0, none⟩ = some (.int .i64 r) := by simp [World.cell?, hblk2]
        have e21 : w4.cell? ⟨w.heap.size + 2, 1, none⟩ = some v := by simp [World.cell?, hblk2]
        have g21 : w4.frozen? ⟨w.heap.size + 2, 1, none⟩ = false := by simp [World.frozen?, hblk2]
        have HBLK2 := Lib.hid hblk2
        have HO4 := Lib.hid ho4
        have HB4 := Lib.hid ((HG2.out.mono (show w.heap.size + 2 ≤ wr.heap.size by omega)).trans (below_of_grown hg4 (by omega) fun b h => by have := hrow b h; omega))
        clear hblk2 ho4 hg4 hv4 hne hrow
        go_wp2_with fail
        go_roundw
        case rel =>
          refine ⟨k + 1, .slice (some ⟨g, 0, none⟩) (l.take k ++ [y]).length cap4, by omega, by go_num, ?_, ?_, ?_⟩
          · show _ = _
            have := HBLK2.out
            simp only [World.setCell, Array.getElem?_modify, this]
            simp
            omega
          · show Own _ _ _ _ _ _ _ _
            rw [HTK.out]
            exact HO4.out.set keptTm (by show w.heap.size + 2 < _; omega) (by unfold From; show ¬ _ ≤ w.heap.size + 2; omega) _
          · exact (hbl.out.trans HB4.out).setCell (by show _ ≤ w.heap.size + 2; omega) _
        case measure => simp [intOf]; omega
      · have h0 : k = l.length := by omega
        subst h0
        have ho' := ho.out
        rw [List.take_length] at ho'
        have hshape : ∃ B' n cap4, v = .slice B' n cap4 := by
          rcases ho'.form with ⟨h0, _⟩ | ⟨g, cap4, h0, _⟩
          · exact ⟨_, _, _, h0⟩
          · exact ⟨_, _, _, h0⟩
        obtain ⟨B', n4, cap4, rfl⟩ := hshape
        have HO := Lib.hid ho'
        clear ho'
        go_wp2_with fail
        refine bodyPost_ret (v := .agg #[.int .i64 r, .slice B' n4 cap4]) (by simp [results, Try.results40, go_sem, c10, c11, f10, f11, c20, c21]) rfl ?_
        have hT : TmV (From (w.heap.size + 3)) wr (.agg #[.int .i64 r, .slice B' n4 cap4]) (.mk r l) := TmV.of HR.out (HO.out.rep keptTm)
        refine ⟨_, rfl, TmV.mono (TmV.keep (TmV.keep hT (Same.set _ ?_)) (Same.set _ ?_)) (From.mono (by omega)), ?_⟩
        · show ¬ w.heap.size + 3 ≤ w.heap.size + 1; omega
        · show ¬ w.heap.size + 3 ≤ w.heap.size + 1; omega
        · exact ((hWg.trans (hbl.out.mono (by omega))).setCell (by show _ ≤ w.heap.size + 1; omega) _).setCell (by show _ ≤ w.heap.size + 1; omega) _

set_option maxHeartbeats 4000000 in
theorem clone_any (t : Tm) : ∀ (v : Value) (w : World), TmV Any w v t → t.size ≤ 1000000 → Calls Try.prog 41 #[v] w (RetTm w t) := by
  induction t using Tm.ind with
  | h r l ih =>
    intro v w hv hs
    obtain ⟨A, cap, rfl, hr, hc, hm, hl⟩ := hv.form
    have HR := Lib.hid hr
    obtain ⟨hr1, hr2⟩ := hr
    simp only [Tm.size] at hs
    have HL := Lib.hid ((hl.bound.mono (S' := Lt w.heap.size) fun b hb => hb.2).keep (Same.of_grow (Below.step (Below.step (grow_alloc w (.cells #[.int .i64 r, .slice A l.length cap] 24)) (grow_alloc _ (.cells #[.int .i64 0, .slice none 0 0] 24))) (grow_alloc _ (.cells #[.int .i64 r, .slice none 0 0] 24)))))
    have IH := Lib.hid ih
    have hlen := Tm.sizeL_len l
    clear hl ih hv
    have hWg : Grow w (((w.alloc (.cells #[.int .i64 r, .slice A l.length cap] 24)).alloc (.cells #[.int .i64 0, .slice none 0 0] 24)).alloc (.cells #[.int .i64 r, .slice none 0 0] 24)) := Below.step (Below.step (grow_alloc w (.cells #[.int .i64 r, .slice A l.length cap] 24)) (grow_alloc _ (.cells #[.int .i64 0, .slice none 0 0] 24))) (grow_alloc _ (.cells #[.int .i64 r, .slice none 0 0] 24))
    have hsz : (((w.alloc (.cells #[.int .i64 r, .slice A l.length cap] 24)).alloc (.cells #[.int .i64 0, .slice none 0 0] 24)).alloc (.cells #[.int .i64 r, .slice none 0 0] 24)).heap.size = w.heap.size + 3 := by simp
    have q0 : (((w.alloc (.cells #[.int .i64 r, .slice A l.length cap] 24)).alloc (.cells #[.int .i64 0, .slice none 0 0] 24)).alloc (.cells #[.int .i64 r, .slice none 0 0] 24)).heap[w.heap.size]? = some (.cells #[.int .i64 r, .slice A l.length cap] 24 (0, 0)) := by
      rw [Below.heap_alloc _ _ _ (by simp; omega), Below.heap_alloc _ _ _ (by simp)]; exact heap_alloc_new w _
    have q1 : (((w.alloc (.cells #[.int .i64 r, .slice A l.length cap] 24)).alloc (.cells #[.int .i64 0, .slice none 0 0] 24)).alloc (.cells #[.int .i64 r, .slice none 0 0] 24)).heap[w.heap.size + 1]? = some (.cells #[.int .i64 0, .slice none 0 0] 24 (0, 0)) := by
      rw [Below.heap_alloc _ _ _ (by simp)]
      have := heap_alloc_new (w.alloc (.cells #[.int .i64 r, .slice A l.length cap] 24)) (.cells #[.int .i64 0, .slice none 0 0] 24)
      simpa using this
    have q2 : (((w.alloc (.cells #[.int .i64 r, .slice A l.length cap] 24)).alloc (.cells #[.int .i64 0, .slice none 0 0] 24)).alloc (.cells #[.int .i64 r, .slice none 0 0] 24)).heap[w.heap.size + 2]? = some (.cells #[.int .i64 r, .slice none 0 0] 24 (0, 0)) := by
      have := heap_alloc_new ((w.alloc (.cells #[.int .i64 r, .slice A l.length cap] 24)).alloc (.cells #[.int .i64 0, .slice none 0 0] 24)) (.cells #[.int .i64 r, .slice none 0 0] 24)
      simpa using this
    go_enter Try.func41, Try.ntmps41
    go_wp2_with fail
    generalize hWd : ((w.alloc (.cells #[.int .i64 r, .slice A l.length cap] 24)).alloc (.cells #[.int .i64 0, .slice none 0 0] 24)).alloc (.cells #[.int .i64 r, .slice none 0 0] 24) = W at *
    have HSZ := Lib.hid hsz
    have Q0 := Lib.hid q0
    have Q1 := Lib.hid q1
    have Q2 := Lib.hid q2
    clear hWd hsz q0 q1 q2
    go_loopw [12] (fun i wr => ∃ (k : Nat) (v : Value), k ≤ l.length ∧ i = .int .i64 k ∧ Hid (wr.heap[w.heap.size + 2]? = some (.cells #[.int .i64 r, v] 24 (0, 0))) ∧ Hid (Own (From (w.heap.size + 3)) (w.heap.size + 3) 24 2 RepTm wr v (l.take k)) ∧ Hid (Below (w.heap.size + 2) W wr)) (fun i _ => l.length - (intOf i).toNat)
    case atStart => exact ⟨0, _, by omega, by simp, Q2, Lib.hid Own.nil, Lib.hid (Below.refl _ _)⟩
    case round =>
      obtain ⟨k, v, hk, rfl, hb2, ho, hbl⟩ := hrel
      have hz : w.heap.size + 3 ≤ wr.heap.size := by have := hbl.out.size; have := HSZ.out; omega
      have hb0 : wr.heap[w.heap.size]? = some (.cells #[.int .i64 r, .slice A l.length cap] 24 (0, 0)) := (hbl.out.block _ (by omega)).trans Q0.out
      have hb1 : wr.heap[w.heap.size + 1]? = some (.cells #[.int .i64 0, .slice none 0 0] 24 (0, 0)) := (hbl.out.block _ (by omega)).trans Q1.out
      have c00 : wr.cell? ⟨w.heap.size, 0, none⟩ = some (.int .i64 r) := by simp [World.cell?, hb0]
      have c01 : wr.cell? ⟨w.heap.size, 1, none⟩ = some (.slice A l.length cap) := by simp [World.cell?, hb0]
      have c10 : wr.cell? ⟨w.heap.size + 1, 0, none⟩ = some (.int .i64 0) := by simp [World.cell?, hb1]
      have c11 : wr.cell? ⟨w.heap.size + 1, 1, none⟩ = some (.slice none 0 0) := by simp [World.cell?, hb1]
      have f10 : wr.frozen? ⟨w.heap.size + 1, 0, none⟩ = false := by simp [World.frozen?, hb1]
      have f11 : wr.frozen? ⟨w.heap.size + 1, 1, none⟩ = false := by simp [World.frozen?, hb1]
      have c20 : wr.cell? ⟨w.heap.size + 2, 0, none⟩ = some (.int .i64 r) := by have := hb2.out; simp [World.cell?, this]
      have c21 : wr.cell? ⟨w.heap.size + 2, 1, none⟩ = some v := by have := hb2.out; simp [World.cell?, this]
      clear hb0 hb1
      by_cases hlt : k < l.length
      · obtain ⟨b, o, A', n', c', rfl, hbb, d1, d2, hv⟩ := (HL.out.keep (Same.of_below hbl.out fun b hb => by unfold Lt at hb; omega)).get hlt
        have HV := Lib.hid (hv.mono (S' := Any) fun _ _ => trivial)
        have h1 : l[k].size ≤ 1000000 := by have := Tm.sizeL_mem (List.getElem_mem hlt); omega
        have hbw : b < wr.heap.size := by unfold Lt at hbb; omega
        have hz0 : w.heap.size < wr.heap.size := by omega
        have hz2 : w.heap.size + 2 < wr.heap.size := by omega
        have hmem := List.getElem_mem hlt
        have htk := List.take_succ_eq_append_getElem hlt
        generalize l[k] = y at *
        have HM := Lib.hid hmem
        have HTK := Lib.hid htk
        clear hv hbb hmem htk
        obtain ⟨yr, hyr⟩ : ∃ yr, yr = y.rule := ⟨_, rfl⟩
        rw [← hyr] at d1 HV
        clear hyr
        go_wp2_with fail
        have hbr : Grow wr (wr.alloc (.cells #[.int .i64 yr, .slice A' n' c'] 24)) := grow_alloc _ _
        have c21q := (Below.cell hbr hz2).trans c21
        have cr0 : (wr.alloc (.cells #[.int .i64 yr, .slice A' n' c'] 24)).cell? ⟨wr.heap.size, 0, none⟩ = some (.int .i64 yr) := by simp
        have cr1 : (wr.alloc (.cells #[.int .i64 yr, .slice A' n' c'] 24)).cell? ⟨wr.heap.size, 1, none⟩ = some (.slice A' n' c') := by simp
        have zr := cell_lt cr0
        generalize hWQ : (wr.alloc (.cells #[.int .i64 yr, .slice A' n' c'] 24)) = wq at *
        clear hWQ
        have hz2q : w.heap.size + 2 < wq.heap.size := cell_lt c21q
        simp only at zr
        refine wp_region_rel (fun w' => Grow (wq) w') (by kernel_rfl) (grow_drew _) (fun a b h k => Below.step h k) ?_
        apply Exists.intro
        constructor
        iterate 3 (first | (apply rel_det; rfl; intro w1 hC1 hF1; obtain ⟨hc1, hf1⟩ := bcell hC1; go_simp; (first | exact ⟨Below.refl _ _, rfl⟩ | fail); intro K hK; go_simp; refine hK _ ?_; clear hK K) | (apply rel_skip; rfl; intro K hK; go_simp; refine hK _ ?_; clear hK K))
        apply rel_some (G := fun v w' => TmV (From wr.heap.size) w' v y) (hG := fun v w w' h hb => h.keep (Same.of_grow hb))
        · rfl
        · intro w1 hC1 hF1; obtain ⟨hc1, hf1⟩ := bcell hC1; go_simp; (go_at_call 41; exact rel_fresh (Rp := fun S w v => TmV S w v y) (fun h hS => h.mono hS) (Nat.le_trans hbr.size hC1.size) (IH.out _ HM.out _ _ (HV.out.keep (Same.of_grow (Below.step hbr hC1))) h1))
        intro vc K hK; go_simp; refine hK _ ?_; clear hK K
        apply rel_some (G := fun v w' => Tms (From wr.heap.size) w' v [y]) (hG := fun v w w' h hb => h.keep (Same.of_grow hb))
        · rfl
        · intro w1 hC1 hF1
          have hf := (hF1 3 rfl : TmV (From wr.heap.size) w1 vc y)
          obtain ⟨c0, c1, rfl, hrep⟩ := hf
          have hlw : wr.heap.size ≤ w1.heap.size := Nat.le_trans hbr.size hC1.size
          have H1 := Lib.hid hrep
          have HW1 := Lib.hid hlw
          clear hrep hlw hC1 hF1
          go_simp
          exact ⟨grow_alloc _ _, tms_one HW1.out H1.out⟩
        intro vb K hK; go_simp; refine hK _ ?_; clear hK K
        refine rel_nil (fun w2 hC2 hF2 => ?_)
        rotate_left
        kernel_rfl
        have hfb := (hF2 4 : Tms (From wr.heap.size) w2 vb [y])
        have hG2 : Grow wr w2 := Below.step hbr hC2
        have HO := Lib.hid (ho.out.grow keptTm hG2)
        have HFB := Lib.hid (RepSl.mono hfb (S' := Any) (R' := RepTm (fun b => From (w.heap.size + 3) b ∧ v.ownBlock ≠ some b) w2) (fun _ _ => trivial) fun cs x _ h => h.mono fun b hb => ⟨Nat.le_trans hz hb, fun e => by have := (ho.out.block b e).2; unfold From at hb; omega⟩)
        have HG2 := Lib.hid hG2
        have hz4 : w.heap.size + 3 ≤ w2.heap.size := Nat.le_trans hz hG2.size
        clear hfb hF2 hC2 hG2 hbr
        refine wpList_append_Own elt_tm keptTm rfl (.tmp 17) (.tmp 20) rfl rfl rfl HO.out HFB.out (by simp; omega) (by simp; omega) hz4 ?_
        intro v4 w4 ho4 hg4 hv4
        have hne : v4 ≠ .slice none 0 0 := fun e => by
          subst e
          obtain ⟨cs, ⟨hcl, hc2⟩, _⟩ := ho4
          rcases hc2 with ⟨_, h0⟩ | ⟨g, cap, cur, h0, _⟩
          · simp at h0
          · cases h0
        have hshape : ∃ g cap4, v4 = .slice (some ⟨g, 0, none⟩) (l.take k ++ [y]).length cap4 := by
          rcases ho4.form with ⟨h0, _⟩ | ⟨g, cap4, h0, _⟩
          · exact absurd h0 hne
          · exact ⟨g, cap4, h0⟩
        obtain ⟨g, cap4, rfl⟩ := hshape
        -- the blocks of the locals
        have hrow : ∀ b, v.ownBlock = some b → w.heap.size + 3 ≤ b := fun b h => (HO.out.block b h).1
        have hblk2 : w4.heap[w.heap.size + 2]? = some (.cells #[.int .i64 r, v] 24 (0, 0)) :=
          (hg4.block _ (by omega) (fun e => by have := hrow _ e.symm; omega)).trans ((HG2.out.block _ (by omega)).trans hb2.out)
        have e20 : w4.cell? ⟨w.heap.size + 2, 0, none⟩ = some (.int .i64 r) := by simp [World.cell?, hblk2]
        have e21 : w4.cell? ⟨w.heap.size + 2, 1, none⟩ = some v := by simp [World.cell?, hblk2]
        have g21 : w4.frozen? ⟨w.heap.size + 2, 1, none⟩ = false := by simp [World.frozen?, hblk2]
        have HBLK2 := Lib.hid hblk2
        have HO4 := Lib.hid ho4
        have HB4 := Lib.hid ((HG2.out.mono (show w.heap.size + 2 ≤ wr.heap.size by omega)).trans (below_of_grown hg4 (by omega) fun b h => by have := hrow b h; omega))
        clear hblk2 ho4 hg4 hv4 hne hrow
        go_wp2_with fail
        go_roundw
        case rel =>
          refine ⟨k + 1, .slice (some ⟨g, 0, none⟩) (l.take k ++ [y]).length cap4, by omega, by go_num, ?_, ?_, ?_⟩
          · show _ = _
            have := HBLK2.out
            simp only [World.setCell, Array.getElem?_modify, this]
            simp
            omega
          · show Own _ _ _ _ _ _ _ _
            rw [HTK.out]
            exact HO4.out.set keptTm (by show w.heap.size + 2 < _; omega) (by unfold From; show ¬ _ ≤ w.heap.size + 2; omega) _
          · exact (hbl.out.trans HB4.out).setCell (by show _ ≤ w.heap.size + 2; omega) _
        case measure => simp [intOf]; omega
      · have h0 : k = l.length := by omega
        subst h0
        have ho' := ho.out
        rw [List.take_length] at ho'
        have hshape : ∃ B' n cap4, v = .slice B' n cap4 := by
          rcases ho'.form with ⟨h0, _⟩ | ⟨g, cap4, h0, _⟩
          · exact ⟨_, _, _, h0⟩
          · exact ⟨_, _, _, h0⟩
        obtain ⟨B', n4, cap4, rfl⟩ := hshape
        have HO := Lib.hid ho'
        clear ho'
        go_wp2_with fail
        refine bodyPost_ret (v := .agg #[.int .i64 r, .slice B' n4 cap4]) (by simp [results, Try.results41, go_sem, c10, c11, f10, f11, c20, c21]) rfl ?_
        have hT : TmV (From (w.heap.size + 3)) wr (.agg #[.int .i64 r, .slice B' n4 cap4]) (.mk r l) := TmV.of HR.out (HO.out.rep keptTm)
        refine ⟨_, rfl, TmV.mono (TmV.keep (TmV.keep hT (Same.set _ ?_)) (Same.set _ ?_)) (From.mono (by omega)), ?_⟩
        · show ¬ w.heap.size + 3 ≤ w.heap.size + 1; omega
        · show ¬ w.heap.size + 3 ≤ w.heap.size + 1; omega
        · exact ((hWg.trans (hbl.out.mono (by omega))).setCell (by show _ ≤ w.heap.size + 1; omega) _).setCell (by show _ ≤ w.heap.size + 1; omega) _
end Go.Proofs.Ytkimcgcbdfkobaa
