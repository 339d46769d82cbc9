/- At. -/
import Derived.Test.YtkimcgcbdfkobaaPath
import Derived.Test.YtkimcgcbdfkobaaInsW
set_option linter.unusedVariables false
set_option linter.unusedSimpArgs false
namespace Go.Proofs.Ytkimcgcbdfkobaa
open Go Go.RowKit

theorem rel_te {f : FuncId} {args : Array Value} {w : World} {t : Tm} {e : Int} {B : Nat} {hG : ∀ v w w', TEV B w v t e → Below w.heap.size w w' → TEV B w' v t e}
    (hB : B ≤ w.heap.size) (h : Calls Try.prog f args w (RetTE w t e)) : Calls Try.prog f args w (RetBy (StepOk (.rel (fun v w => TEV B w v t e) hG) w)) :=
  h.mono fun en w' ⟨v, he, hr, hb⟩ => ⟨_, he, hb, v, rfl, hr.mono (From.mono hB)⟩
theorem size_int : (Try.prog.info? 3).map (·.size) = some 1 := by kernel_rfl

set_option maxHeartbeats 4000000 in
theorem at_any (p : List Int) (t : Tm) (v u : Value) (w : World) (hv : TmV Any w v t) (hu : Ints Any w u p) (hs : t.size ≤ 1000000) (hpl : p.length ≤ 1000000) :
    Calls Try.prog 26 #[v, u] w (RetTE w (atT p t) (eP p t)) := by
  have HV := Lib.hid (hv.bound.mono (S' := Lt w.heap.size) fun b hb => hb.2)
  have HU := Lib.hid (hu.bound.mono (S' := Lt w.heap.size) fun b hb => hb.2)
  obtain ⟨r, l, hsr⟩ : ∃ r l, t = .mk r l := ⟨t.rule, t.args, by cases t; rfl⟩
  rw [hsr] at hv
  obtain ⟨A, cap, rfl, hr, hc, hm, -⟩ := hv.form
  generalize l.length = n0 at *
  obtain ⟨B, cu, rfl, hcu1, hcu2, hg⟩ := HU.out.form
  have HG := Lib.hid hg
  clear hv hu hg hsr
  have hWg : Grow w ((w.alloc (.cells #[.int .i64 r, .slice A n0 cap] 24)).alloc (.cells #[.int .i64 0, .slice none 0 0] 24)) := Below.step (grow_alloc w (.cells #[.int .i64 r, .slice A n0 cap] 24)) (grow_alloc _ (.cells #[.int .i64 0, .slice none 0 0] 24))
  have hsz : ((w.alloc (.cells #[.int .i64 r, .slice A n0 cap] 24)).alloc (.cells #[.int .i64 0, .slice none 0 0] 24)).heap.size = w.heap.size + 2 := by simp
  have q0 : ((w.alloc (.cells #[.int .i64 r, .slice A n0 cap] 24)).alloc (.cells #[.int .i64 0, .slice none 0 0] 24)).heap[w.heap.size]? = some (.cells #[.int .i64 r, .slice A n0 cap] 24 (0, 0)) := by
    rw [Below.heap_alloc _ _ _ (by simp)]; exact heap_alloc_new w _
  have q1 : ((w.alloc (.cells #[.int .i64 r, .slice A n0 cap] 24)).alloc (.cells #[.int .i64 0, .slice none 0 0] 24)).heap[w.heap.size + 1]? = some (.cells #[.int .i64 0, .slice none 0 0] 24 (0, 0)) := by
    have := heap_alloc_new (w.alloc (.cells #[.int .i64 r, .slice A n0 cap] 24)) (.cells #[.int .i64 0, .slice none 0 0] 24)
    simpa using this
  go_enter Try.func26, Try.ntmps26
  go_wp2_with fail
  generalize hWd : (w.alloc (.cells #[.int .i64 r, .slice A n0 cap] 24)).alloc (.cells #[.int .i64 0, .slice none 0 0] 24) = W at *
  clear hWd
  have HSZ := Lib.hid hsz
  have HWG := Lib.hid hWg
  go_loopw [10] (fun i wr => ∃ (k : Nat) (s : Tm) (sr : Int) (As : Option Addr) (cs : Nat), k ≤ p.length ∧ i = .int .i64 k ∧ wr.heap[w.heap.size]? = some (.cells #[.int .i64 sr, .slice As s.args.length cs] 24 (0, 0)) ∧ wr.heap[w.heap.size + 1]? = some (.cells #[.int .i64 0, .slice none 0 0] 24 (0, 0)) ∧
    Hid (TmV (Lt w.heap.size) wr (.agg #[.int .i64 sr, .slice As s.args.length cs]) s) ∧ Hid (at? p t = at? (p.drop k) s) ∧ s.size ≤ t.size ∧ Below w.heap.size w wr) (fun i _ => p.length - (intOf i).toNat)
  case atStart =>
    have h := HV.out
    obtain ⟨-, hn0, -⟩ := h.agg_eq
    rw [hn0] at q0 h
    exact ⟨0, t, _, _, _, by omega, by simp, q0, q1, Lib.hid (h.keep (Same.of_grow hWg)), Lib.hid rfl, Nat.le_refl _, hWg⟩
  case round =>
    obtain ⟨k, s, sr, As, cs, hk, rfl, hb0, hb1, hvs, hat, hss, hbl⟩ := hrel
    have c00 : wr.cell? ⟨w.heap.size, 0, none⟩ = some (.int .i64 sr) := by simp [World.cell?, hb0]
    have c01 : wr.cell? ⟨w.heap.size, 1, none⟩ = some (.slice As s.args.length cs) := by simp [World.cell?, hb0]
    have f00 : wr.frozen? ⟨w.heap.size, 0, none⟩ = false := by simp [World.frozen?, hb0]
    have f01 : wr.frozen? ⟨w.heap.size, 1, none⟩ = false := by simp [World.frozen?, hb0]
    have c10 : wr.cell? ⟨w.heap.size + 1, 0, none⟩ = some (.int .i64 0) := by simp [World.cell?, hb1]
    have c11 : wr.cell? ⟨w.heap.size + 1, 1, none⟩ = some (.slice none 0 0) := by simp [World.cell?, hb1]
    have f10 : wr.frozen? ⟨w.heap.size + 1, 0, none⟩ = false := by simp [World.frozen?, hb1]
    have f11 : wr.frozen? ⟨w.heap.size + 1, 1, none⟩ = false := by simp [World.frozen?, hb1]
    have hzr : w.heap.size + 1 < wr.heap.size := cell_lt c10
    have HB0 := Lib.hid hb0
    have HB1 := Lib.hid hb1
    clear hb0 hb1
    by_cases hlt : k < p.length
    · obtain ⟨hn64, b, o, rfl, hbb, hcn⟩ := HG.out k hlt
      have hcn' := (hbl.cell (p := ⟨b, o + k, none⟩) (by unfold Lt at hbb; exact hbb)).trans hcn
      have hdr : p.drop k = p[k] :: p.drop (k + 1) := List.drop_eq_getElem_cons hlt
      have hat' := hat.out
      rw [hdr] at hat'
      have hbw : b < wr.heap.size := cell_lt hcn'
      generalize p[k] = n at *
      have HAT := Lib.hid hat'
      clear hat' hdr hcn
      obtain ⟨hn1, hn2⟩ := hn64
      by_cases hin : 0 ≤ n ∧ n < s.args.length
      · obtain ⟨hi0, hi1⟩ := hin
        have hd0 : decide (n < 0) = false := by rw [decide_eq_false_iff_not]; omega
        have hd1 : decide ((s.args.length : Int) ≤ n) = false := by rw [decide_eq_false_iff_not]; omega
        obtain ⟨j, hj⟩ : ∃ j : Nat, n = j := ⟨n.toNat, by omega⟩
        subst hj
        have hjl : j < s.args.length := by omega
        obtain ⟨-, -, hl⟩ := hvs.out.agg_eq
        obtain ⟨b2, o2, A', n', c', rfl, hbb2, d1, d2, hve⟩ := hl.get hjl
        have HSZ2 := Lib.hid (show (s.arg (j : Int)).size < s.size from arg_size (by omega) (by omega))
        have HAG := Lib.hid (arg_get (t := s) rfl hjl)
        obtain ⟨-, rfl, -⟩ := hve.agg_eq
        clear hl
        rw [← HAG.out] at d1 d2 hve
        have HVE := Lib.hid hve
        have hbw2 : b2 < wr.heap.size := cell_lt d1
        have HAT2 := Lib.hid (show at? p t = at? (p.drop (k + 1)) (s.arg (j : Int)) by rw [HAT.out, at?, if_pos ⟨by omega, by omega⟩])
        have HBL := Lib.hid hbl
        clear hve hbl
        generalize s.arg (j : Int) = y at *
        generalize y.rule = yr' at *
        have hw1 : IntKind.i64.wrap (j : Int) = j := IntWalk.i64_in _ (by omega)
        go_wp2_with fail
        go_roundw
        case rel =>
          refine ⟨k + 1, y, yr', A', c', by omega, by go_num, ?_, ?_, ?_, HAT2, ?_, ?_⟩
          · have := HB0.out
            simp only [World.setCell, Array.getElem?_modify, this]
            simp
          · have := HB1.out
            simp only [World.setCell, Array.getElem?_modify, this]
            simp
          · exact Lib.hid ((HVE.out.keep (Same.set (a := ⟨w.heap.size, 0, none⟩) _ (Nat.lt_irrefl w.heap.size))).keep (Same.set (a := ⟨w.heap.size, 1, none⟩) _ (Nat.lt_irrefl w.heap.size)))
          · have := HSZ2.out; omega
          · exact (HBL.out.setCell (by show _ ≤ w.heap.size; omega) _).setCell (by show _ ≤ w.heap.size; omega) _
        case measure => simp [intOf]; omega
      · have hd : n < 0 ∨ (0 ≤ n ∧ (s.args.length : Int) ≤ n) := by omega
        have hno : okP (n :: p.drop (k + 1)) s = false := okP_out (by omega)
        have HNO := Lib.hid hno
        have hpno : okP p t = false := by unfold okP; rw [HAT.out]; exact HNO.out
        have HE := Lib.hid (eP_no hpno)
        have HA := Lib.hid (atT_no hpno)
        clear hno hpno hin
        rcases hd with hd | ⟨hd0, hd⟩
        · have hd0 : decide (n < 0) = true := by rw [decide_eq_true_eq]; omega
          go_wp2_with fail
          refine bodyPost_ret (v := .tuple #[.agg #[.int .i64 0, .slice none 0 0], .int .i64 7]) (by simp [results, Try.results26, go_sem, c10, c11, f10, f11]) rfl ?_
          rw [HA.out, HE.out]
          exact ⟨_, rfl, tmv_z, (hbl.setCell (by show _ ≤ w.heap.size + 1; omega) _).setCell (by show _ ≤ w.heap.size + 1; omega) _⟩
        · have hd1 : decide (n < 0) = false := by rw [decide_eq_false_iff_not]; omega
          have hd2 : decide ((s.args.length : Int) ≤ n) = true := by rw [decide_eq_true_eq]; omega
          go_wp2_with fail
          refine bodyPost_ret (v := .tuple #[.agg #[.int .i64 0, .slice none 0 0], .int .i64 7]) (by simp [results, Try.results26, go_sem, c10, c11, f10, f11]) rfl ?_
          rw [HA.out, HE.out]
          exact ⟨_, rfl, tmv_z, (hbl.setCell (by show _ ≤ w.heap.size + 1; omega) _).setCell (by show _ ≤ w.heap.size + 1; omega) _⟩
    · have h0 : k = p.length := by omega
      subst h0
      have hat' := hat.out
      rw [List.drop_length] at hat'
      have HOK := Lib.hid (show okP p t = true by unfold okP; rw [hat']; rfl)
      have HE := Lib.hid (eP_ok HOK.out)
      have HA := Lib.hid (show atT p t = s by unfold atT; rw [hat']; rfl)
      have HVS := Lib.hid (hvs.out.mono (S' := Any) fun _ _ => trivial)
      obtain ⟨sr', sl, hss'⟩ : ∃ r l, s = .mk r l := ⟨s.rule, s.args, by cases s; rfl⟩
      have HSL := Lib.hid hss'
      clear hat' hss'
      go_wp2_with (go_at_call 41; refine (clone_any s _ _ HVS.out (by omega)).mono ?_; rintro e w2 ⟨v2, rfl, h2, hb2⟩; refine Hold.stop ?_)
      have h2' := h2
      rw [HSL.out] at h2'
      obtain ⟨A2, c2, rfl, -⟩ := h2'.form
      clear h2'
      have H2 := Lib.hid h2
      have e10 := (Below.cell hb2 hzr).trans c10
      have e11 := (Below.cell hb2 hzr).trans c11
      have g10 := (Below.frozen hb2 (p := ⟨w.heap.size + 1, 0, none⟩) hzr).trans f10
      have g11 := (Below.frozen hb2 (p := ⟨w.heap.size + 1, 1, none⟩) hzr).trans f11
      have HB2 := Lib.hid hb2
      clear h2 hb2
      refine Hold.go ?_
      go_wp2_with fail
      refine bodyPost_ret (v := .tuple #[.agg #[.int .i64 sr', .slice A2 sl.length c2], .int .i64 0]) (by simp [results, Try.results26, go_sem, e10, e11, g10, g11]) rfl ?_
      rw [HA.out, HE.out]
      refine ⟨_, rfl, TmV.mono (TmV.keep (TmV.keep H2.out (Same.set _ ?_)) (Same.set _ ?_)) (From.mono (by omega)), ?_⟩
      · show ¬ _ ≤ w.heap.size + 1; omega
      · show ¬ _ ≤ w.heap.size + 1; omega
      · exact ((hbl.trans (HB2.out.mono (by omega))).setCell (by show _ ≤ w.heap.size + 1; omega) _).setCell (by show _ ≤ w.heap.size + 1; omega) _
set_option maxHeartbeats 4000000 in
theorem refat_any : ∀ (p : List Int) (t : Tm) (v u : Value) (w : World), TmV Any w v t → Ints Any w u p → t.size ≤ 1000000 → p.length ≤ 1000000 →
    Calls Try.prog 27 #[v, u] w (RetTE w (atT p t) (eP p t)) := by
  intro p
  induction p with
  | nil =>
    intro t v u w hv hu hs hpl
    have HV := Lib.hid hv
    obtain ⟨A, cap, rfl, hr, hc, hm, -⟩ := hv.shape
    obtain ⟨B, cu, rfl, hcu1, hcu2, -⟩ := hu.form
    clear hv hu
    generalize t.args.length = n0 at *
    generalize t.rule = r at *
    have hWg : Grow w ((w.alloc (.cells #[.int .i64 r, .slice A n0 cap] 24)).alloc (.cells #[.int .i64 0, .slice none 0 0] 24)) := Below.step (grow_alloc w (.cells #[.int .i64 r, .slice A n0 cap] 24)) (grow_alloc _ (.cells #[.int .i64 0, .slice none 0 0] 24))
    have hsz : ((w.alloc (.cells #[.int .i64 r, .slice A n0 cap] 24)).alloc (.cells #[.int .i64 0, .slice none 0 0] 24)).heap.size = w.heap.size + 2 := by simp
    have q0 : ((w.alloc (.cells #[.int .i64 r, .slice A n0 cap] 24)).alloc (.cells #[.int .i64 0, .slice none 0 0] 24)).heap[w.heap.size]? = some (.cells #[.int .i64 r, .slice A n0 cap] 24 (0, 0)) := by
      rw [Below.heap_alloc _ _ _ (by simp)]; exact heap_alloc_new w _
    have q1 : ((w.alloc (.cells #[.int .i64 r, .slice A n0 cap] 24)).alloc (.cells #[.int .i64 0, .slice none 0 0] 24)).heap[w.heap.size + 1]? = some (.cells #[.int .i64 0, .slice none 0 0] 24 (0, 0)) := by
      have := heap_alloc_new (w.alloc (.cells #[.int .i64 r, .slice A n0 cap] 24)) (.cells #[.int .i64 0, .slice none 0 0] 24)
      simpa using this
    go_enter Try.func27, Try.ntmps27
    go_wp2_with (go_at_call 40; refine Hold.stop ?_)
    generalize hWd : (w.alloc (.cells #[.int .i64 r, .slice A n0 cap] 24)).alloc (.cells #[.int .i64 0, .slice none 0 0] 24) = W at *
    clear hWd
    have c10 : W.cell? ⟨w.heap.size + 1, 0, none⟩ = some (.int .i64 0) := by simp [World.cell?, q1]
    have c11 : W.cell? ⟨w.heap.size + 1, 1, none⟩ = some (.slice none 0 0) := by simp [World.cell?, q1]
    have f10 : W.frozen? ⟨w.heap.size + 1, 0, none⟩ = false := by simp [World.frozen?, q1]
    have f11 : W.frozen? ⟨w.heap.size + 1, 1, none⟩ = false := by simp [World.frozen?, q1]
    have hzr : w.heap.size + 1 < W.heap.size := cell_lt c10
    clear q0 q1
    refine Hold.go ?_
    refine (refclone_any t _ _ (HV.out.keep (Same.of_grow hWg)) hs).mono ?_
    rintro e w2 ⟨v2, rfl, h2, hb2⟩
    refine Hold.stop ?_
    have e10 := (Below.cell hb2 hzr).trans c10
    have e11 := (Below.cell hb2 hzr).trans c11
    have g10 := (Below.frozen hb2 (p := ⟨w.heap.size + 1, 0, none⟩) hzr).trans f10
    have g11 := (Below.frozen hb2 (p := ⟨w.heap.size + 1, 1, none⟩) hzr).trans f11
    obtain ⟨A2, c2, rfl, -⟩ := h2.shape
    have H2 := Lib.hid h2
    have HB2 := Lib.hid hb2
    clear h2 hb2
    refine Hold.go ?_
    go_wp2_with fail
    refine bodyPost_ret (v := .tuple #[.agg #[.int .i64 t.rule, .slice A2 t.args.length c2], .int .i64 0]) (by simp [results, Try.results27, go_sem, e10, e11, g10, g11]) rfl ?_
    refine ⟨_, rfl, TmV.mono (TmV.keep (TmV.keep H2.out (Same.set _ ?_)) (Same.set _ ?_)) (From.mono (by omega)), ?_⟩
    · show ¬ _ ≤ w.heap.size + 1; omega
    · show ¬ _ ≤ w.heap.size + 1; omega
    · exact ((hWg.trans (HB2.out.mono (by omega))).setCell (by show _ ≤ w.heap.size + 1; omega) _).setCell (by show _ ≤ w.heap.size + 1; omega) _
  | cons n p ih =>
    intro t v u w hv hu hs hpl
    have HV := Lib.hid (hv.bound.mono (S' := Lt w.heap.size) fun b hb => hb.2)
    obtain ⟨A, cap, rfl, hr, hc, hm, -⟩ := hv.shape
    obtain ⟨B, cu, rfl, hcu1, hcu2, hg⟩ := (hu.bound.mono (S' := Lt w.heap.size) fun b hb => hb.2).form
    have HU := Lib.hid hu
    obtain ⟨⟨hn1, hn2⟩, b, o, hB, hbb, hcn⟩ := hg 0 (by simp)
    simp only [Nat.add_zero, List.getElem_cons_zero] at hcn hn1 hn2
    simp only [List.length_cons] at hpl hcu1 HU
    have hlp : (n :: p).length = p.length + 1 := rfl
    rw [hlp]
    have IH := Lib.hid ih
    clear hv hu hg ih
    generalize hn0 : t.args.length = n0 at *
    generalize t.rule = r at *
    have hWg : Grow w ((w.alloc (.cells #[.int .i64 r, .slice A n0 cap] 24)).alloc (.cells #[.int .i64 0, .slice none 0 0] 24)) := Below.step (grow_alloc w (.cells #[.int .i64 r, .slice A n0 cap] 24)) (grow_alloc _ (.cells #[.int .i64 0, .slice none 0 0] 24))
    have hsz : ((w.alloc (.cells #[.int .i64 r, .slice A n0 cap] 24)).alloc (.cells #[.int .i64 0, .slice none 0 0] 24)).heap.size = w.heap.size + 2 := by simp
    have q0 : ((w.alloc (.cells #[.int .i64 r, .slice A n0 cap] 24)).alloc (.cells #[.int .i64 0, .slice none 0 0] 24)).heap[w.heap.size]? = some (.cells #[.int .i64 r, .slice A n0 cap] 24 (0, 0)) := by
      rw [Below.heap_alloc _ _ _ (by simp)]; exact heap_alloc_new w _
    have q1 : ((w.alloc (.cells #[.int .i64 r, .slice A n0 cap] 24)).alloc (.cells #[.int .i64 0, .slice none 0 0] 24)).heap[w.heap.size + 1]? = some (.cells #[.int .i64 0, .slice none 0 0] 24 (0, 0)) := by
      have := heap_alloc_new (w.alloc (.cells #[.int .i64 r, .slice A n0 cap] 24)) (.cells #[.int .i64 0, .slice none 0 0] 24)
      simpa using this
    go_enter Try.func27, Try.ntmps27
    have hcut := run_cut Try.underlying29 size_int B (p.length + 1) cu 1 (by omega)
    subst hB
    go_wp2_with fail
    generalize hWd : (w.alloc (.cells #[.int .i64 r, .slice A n0 cap] 24)).alloc (.cells #[.int .i64 0, .slice none 0 0] 24) = W at *
    clear hWd
    have c00 : W.cell? ⟨w.heap.size, 0, none⟩ = some (.int .i64 r) := by simp [World.cell?, q0]
    have c01 : W.cell? ⟨w.heap.size, 1, none⟩ = some (.slice A n0 cap) := by simp [World.cell?, q0]
    have c10 : W.cell? ⟨w.heap.size + 1, 0, none⟩ = some (.int .i64 0) := by simp [World.cell?, q1]
    have c11 : W.cell? ⟨w.heap.size + 1, 1, none⟩ = some (.slice none 0 0) := by simp [World.cell?, q1]
    have f10 : W.frozen? ⟨w.heap.size + 1, 0, none⟩ = false := by simp [World.frozen?, q1]
    have f11 : W.frozen? ⟨w.heap.size + 1, 1, none⟩ = false := by simp [World.frozen?, q1]
    have hzr : w.heap.size + 1 < W.heap.size := cell_lt c10
    have hz0 : w.heap.size < W.heap.size := cell_lt c00
    have hcnW := (hWg.cell (p := ⟨b, o, none⟩) (by unfold Lt at hbb; exact hbb)).trans hcn
    have hbW : b < W.heap.size := cell_lt hcnW
    have HVW := Lib.hid (HV.out.keep (Same.of_grow hWg))
    have HUW := Lib.hid (HU.out.keep (Same.of_grow hWg))
    clear q0 q1 hcn hsz
    have hk0 : (0 : Int) < (p.length : Int) + 1 := by omega
    by_cases hin : 0 ≤ n ∧ n < n0
    · obtain ⟨hi0, hi1⟩ := hin
      have hd0 : decide (n < 0) = false := by rw [decide_eq_false_iff_not]; omega
      have hd1 : decide ((n0 : Int) ≤ n) = false := by rw [decide_eq_false_iff_not]; omega
      have HEP := Lib.hid (eP_in (n := n) (p := p) (t := t) hi0 (by omega))
      have HAT := Lib.hid (atT_in (n := n) (p := p) (t := t) hi0 (by omega))
      obtain ⟨j, hj⟩ : ∃ j : Nat, n = j := ⟨n.toNat, by omega⟩
      subst hj
      have hjl : j < t.args.length := by omega
      obtain ⟨-, -, hl⟩ := HVW.out.agg_eq
      obtain ⟨b2, o2, A', n', c', rfl, hbb2, d1, d2, hve⟩ := hl.get hjl
      have HSZ2 := Lib.hid (show (t.arg (j : Int)).size < t.size from arg_size (by omega) (by omega))
      have HAG := Lib.hid (arg_get (t := t) rfl hjl)
      obtain ⟨-, rfl, -⟩ := hve.agg_eq
      clear hl
      rw [← HAG.out] at d1 d2 hve
      have HVE := Lib.hid (hve.mono (S' := Any) fun _ _ => trivial)
      have hbw2 : b2 < W.heap.size := cell_lt d1
      have HPD := Lib.hid (RepSl.drop' HUW.out (k := 1) (by simp))
      simp only [List.drop_succ_cons, List.drop_zero] at HPD
      clear hve
      generalize t.arg (j : Int) = y at *
      generalize y.rule = yr' at *
      have hw1 : IntKind.i64.wrap (j : Int) = j := IntWalk.i64_in _ (by omega)
      refine wp_region_rel (fun w' => Grow (W) w') (by kernel_rfl) (grow_drew _) (fun a b h k => Below.step h k) ?_
      apply Exists.intro
      constructor
      repeat (first | (apply rel_det; rfl; intro w1 hC1 hF1; obtain ⟨hc1, hf1⟩ := bcell hC1; go_simp; (first | exact ⟨Below.refl _ _, rfl⟩ | fail); intro K hK; go_simp; refine hK _ ?_; clear hK K) | (apply rel_skip; rfl; intro K hK; go_simp; refine hK _ ?_; clear hK K))
      refine rel_nil (fun w2 hC2 hF2 => ?_)
      refine wpList_nil ?_
      rotate_left
      kernel_rfl
      have c00q := (Below.cell hC2 hz0).trans c00
      have c01q := (Below.cell hC2 hz0).trans c01
      have c10q := (Below.cell hC2 hzr).trans c10
      have c11q := (Below.cell hC2 hzr).trans c11
      have f10q := (Below.frozen hC2 (p := ⟨w.heap.size + 1, 0, none⟩) hzr).trans f10
      have f11q := (Below.frozen hC2 (p := ⟨w.heap.size + 1, 1, none⟩) hzr).trans f11
      have hcnq := (Below.cell hC2 hbW).trans hcnW
      have d1q := (Below.cell hC2 (by exact hbw2)).trans d1
      have d2q := (Below.cell hC2 (by exact hbw2)).trans d2
      have HVEq := Lib.hid (HVE.out.keep (Same.of_grow hC2))
      have HPDq := Lib.hid (Ints.keep HPD.out (Same.of_grow hC2))
      simp only [Nat.add_sub_cancel] at HPDq
      have hWq := Below.step hWg hC2
      clear hF2 hC2 hWg c00 c01 c10 c11 f10 f11 hcnW d1 d2 HVE HPD hzr hz0 hbW hbw2 HVW HUW
      generalize w2 = wq at *
      have hzr : w.heap.size + 1 < wq.heap.size := cell_lt c10q
      have hz0 : w.heap.size < wq.heap.size := cell_lt c00q
      have hbW : b < wq.heap.size := cell_lt hcnq
      have hbw2 : b2 < wq.heap.size := cell_lt d1q
      go_wp2_with fail
      have hcut1 : ∀ w, (Instr.slice 29 (.slice (some ⟨b, o, none⟩) (p.length + 1) cu) (some (.int .i64 1)) none none).run Try.prog w = .ok (.slice (cutAt (some ⟨b, o, none⟩) cu 1 1) p.length (cu - 1)) w := hcut
      generalize hcA : cutAt (some ⟨b, o, none⟩) cu 1 1 = CA at *
      clear hcut hcA
      refine wp_region_rel (fun w' => Grow (wq) w') (by kernel_rfl) (grow_drew _) (fun a b h k => Below.step h k) ?_
      apply Exists.intro
      constructor
      iterate 9 (first | (apply rel_det; rfl; intro w1 hC1 hF1; obtain ⟨hc1, hf1⟩ := bcell hC1; go_simp; (first | exact ⟨Below.refl _ _, rfl⟩ | fail); intro K hK; go_simp; refine hK _ ?_; clear hK K) | (apply rel_skip; rfl; intro K hK; go_simp; refine hK _ ?_; clear hK K))
      apply rel_some (G := fun v w' => TEV wq.heap.size w' v (atT p y) (eP p y)) (hG := fun v w w' h hb => h.keep hb)
      · rfl
      · intro w1 hC1 hF1; obtain ⟨hc1, hf1⟩ := bcell hC1; go_simp; (go_at_call 27; exact rel_te hC1.size (IH.out y _ _ _ (HVEq.out.keep (Same.of_grow hC1)) (Ints.keep HPDq.out (Same.of_grow hC1)) (by have := HSZ2.out; omega) (by omega)))
      intro vt K hK; go_simp; refine hK _ ?_; clear hK K
      apply rel_some (G := fun v w' => TmV (From wq.heap.size) w' v (atT p y)) (hG := fun v w w' h hb => h.keep (Same.of_grow hb))
      · rfl
      · intro w1 hC1 hF1
        obtain ⟨tv, rfl, htv⟩ := (hF1 9 rfl : TEV wq.heap.size w1 vt (atT p y) (eP p y))
        have HTV := Lib.hid htv
        clear htv hF1
        go_simp
        exact ⟨Below.refl _ _, HTV.out⟩
      intro v35 K hK; go_simp; refine hK _ ?_; clear hK K
      apply rel_det (c := .int .i64 (eP p y))
      · rfl
      · intro w1 hC1 hF1
        obtain ⟨tv, rfl, htv⟩ := (hF1 9 rfl : TEV wq.heap.size w1 vt (atT p y) (eP p y))
        clear htv hF1
        go_simp
        exact ⟨Below.refl _ _, rfl⟩
      intro K hK; go_simp; refine hK _ ?_; clear hK K
      refine rel_nil (fun w2 hC2 hF2 => ?_)
      rotate_left
      kernel_rfl
      have hT := (hF2 10 : TmV (From wq.heap.size) w2 v35 (atT p y))
      obtain ⟨A2, c2, rfl, -⟩ := hT.shape
      have HT := Lib.hid hT
      have e10 := (Below.cell hC2 hzr).trans c10q
      have e11 := (Below.cell hC2 hzr).trans c11q
      have g10 := (Below.frozen hC2 (p := ⟨w.heap.size + 1, 0, none⟩) hzr).trans f10q
      have g11 := (Below.frozen hC2 (p := ⟨w.heap.size + 1, 1, none⟩) hzr).trans f11q
      have HB2 := Lib.hid (Below.step hWq hC2)
      clear hT hF2 hC2
      go_wp2_with fail
      refine bodyPost_ret (v := .tuple #[.agg #[.int .i64 (atT p y).rule, .slice A2 (atT p y).args.length c2], .int .i64 (eP p y)]) (by simp [results, Try.results27, go_sem, e10, e11, g10, g11]) rfl ?_
      rw [HAT.out, HEP.out]
      refine ⟨_, rfl, TmV.mono (TmV.keep (TmV.keep HT.out (Same.set _ ?_)) (Same.set _ ?_)) (From.mono (by omega)), ?_⟩
      · show ¬ _ ≤ w.heap.size + 1; omega
      · show ¬ _ ≤ w.heap.size + 1; omega
      · exact (HB2.out.setCell (by show _ ≤ w.heap.size + 1; omega) _).setCell (by show _ ≤ w.heap.size + 1; omega) _
    · have hd : n < 0 ∨ (0 ≤ n ∧ (n0 : Int) ≤ n) := by omega
      have hno : okP (n :: p) t = false := okP_out (by omega)
      have HE := Lib.hid (eP_no hno)
      have HA := Lib.hid (atT_no hno)
      clear hno hin
      rcases hd with hd | ⟨hd0, hd⟩
      · have hd0 : decide (n < 0) = true := by rw [decide_eq_true_eq]; omega
        refine wp_region_rel (fun w' => Grow (W) w') (by kernel_rfl) (grow_drew _) (fun a b h k => Below.step h k) ?_
        apply Exists.intro
        constructor
        repeat (first | (apply rel_det; rfl; intro w1 hC1 hF1; obtain ⟨hc1, hf1⟩ := bcell hC1; go_simp; (first | exact ⟨Below.refl _ _, rfl⟩ | fail); intro K hK; go_simp; refine hK _ ?_; clear hK K) | (apply rel_skip; rfl; intro K hK; go_simp; refine hK _ ?_; clear hK K))
        refine rel_nil (fun w2 hC2 hF2 => ?_)
        refine wpList_nil ?_
        rotate_left
        kernel_rfl
        have e10 := (Below.cell hC2 hzr).trans c10
        have e11 := (Below.cell hC2 hzr).trans c11
        have g10 := (Below.frozen hC2 (p := ⟨w.heap.size + 1, 0, none⟩) hzr).trans f10
        have g11 := (Below.frozen hC2 (p := ⟨w.heap.size + 1, 1, none⟩) hzr).trans f11
        go_wp2_with fail
        refine bodyPost_ret (v := .tuple #[.agg #[.int .i64 0, .slice none 0 0], .int .i64 7]) (by simp [results, Try.results27, go_sem, e10, e11, g10, g11]) rfl ?_
        rw [HA.out, HE.out]
        exact ⟨_, rfl, tmv_z, ((Below.step hWg hC2).setCell (by show _ ≤ w.heap.size + 1; omega) _).setCell (by show _ ≤ w.heap.size + 1; omega) _⟩
      · have hd1 : decide (n < 0) = false := by rw [decide_eq_false_iff_not]; omega
        have hd2 : decide ((n0 : Int) ≤ n) = true := by rw [decide_eq_true_eq]; omega
        refine wp_region_rel (fun w' => Grow (W) w') (by kernel_rfl) (grow_drew _) (fun a b h k => Below.step h k) ?_
        apply Exists.intro
        constructor
        repeat (first | (apply rel_det; rfl; intro w1 hC1 hF1; obtain ⟨hc1, hf1⟩ := bcell hC1; go_simp; (first | exact ⟨Below.refl _ _, rfl⟩ | fail); intro K hK; go_simp; refine hK _ ?_; clear hK K) | (apply rel_skip; rfl; intro K hK; go_simp; refine hK _ ?_; clear hK K))
        refine rel_nil (fun w2 hC2 hF2 => ?_)
        refine wpList_nil ?_
        rotate_left
        kernel_rfl
        have e10 := (Below.cell hC2 hzr).trans c10
        have e11 := (Below.cell hC2 hzr).trans c11
        have g10 := (Below.frozen hC2 (p := ⟨w.heap.size + 1, 0, none⟩) hzr).trans f10
        have g11 := (Below.frozen hC2 (p := ⟨w.heap.size + 1, 1, none⟩) hzr).trans f11
        go_wp2_with fail
        refine bodyPost_ret (v := .tuple #[.agg #[.int .i64 0, .slice none 0 0], .int .i64 7]) (by simp [results, Try.results27, go_sem, e10, e11, g10, g11]) rfl ?_
        rw [HA.out, HE.out]
        exact ⟨_, rfl, tmv_z, ((Below.step hWg hC2).setCell (by show _ ≤ w.heap.size + 1; omega) _).setCell (by show _ ≤ w.heap.size + 1; omega) _⟩
end Go.Proofs.Ytkimcgcbdfkobaa
