/- Replace of the program. -/
import Derived.Test.YtkimcgcbdfkobaaPathP
set_option linter.unusedVariables false
set_option linter.unusedSimpArgs false
namespace Go.Proofs.Ytkimcgcbdfkobaa
open Go Go.RowKit

set_option maxHeartbeats 4000000 in
theorem replace_any (p : List Int) (t x : Tm) (v u s : Value) (w : World) (hv : TmV Any w v t) (hu : Ints Any w u p) (hx : TmV Any w s x) (hs : t.size ≤ 1000000) (hsx : x.size ≤ 1000000) (hpl : p.length ≤ 1000000) :
    Calls Try.prog 28 #[v, u, s] w (RetTE w (rpT p t x) (eP p t)) := by
  have HV := Lib.hid (hv.bound.mono (S' := Lt w.heap.size) fun b hb => hb.2)
  have HX := Lib.hid (hx.bound.mono (S' := Lt w.heap.size) fun b hb => hb.2)
  have HU := Lib.hid hu
  obtain ⟨A, cap, rfl, hr, hc, hm, -⟩ := hv.shape
  obtain ⟨X, cx, rfl, hxr, hxc, hxm, -⟩ := hx.shape
  obtain ⟨B, cu, rfl, hcu1, hcu2, hg⟩ := (hu.bound.mono (S' := Lt w.heap.size) fun b hb => hb.2).form
  clear hv hu hx hg
  generalize hn0 : t.args.length = n0 at *
  generalize t.rule = r at *
  generalize hnx : x.args.length = nx at *
  generalize hxr0 : x.rule = xr at *
  have hWg : Grow w (((w.alloc (.cells #[.int .i64 r, .slice A n0 cap] 24)).alloc (.cells #[.int .i64 xr, .slice X nx cx] 24)).alloc (.cells #[.int .i64 0, .slice none 0 0] 24)) := Below.step (Below.step (grow_alloc (w) (.cells #[.int .i64 r, .slice A n0 cap] 24)) (grow_alloc (w.alloc (.cells #[.int .i64 r, .slice A n0 cap] 24)) (.cells #[.int .i64 xr, .slice X nx cx] 24))) (grow_alloc ((w.alloc (.cells #[.int .i64 r, .slice A n0 cap] 24)).alloc (.cells #[.int .i64 xr, .slice X nx cx] 24)) (.cells #[.int .i64 0, .slice none 0 0] 24))
  have hsz : (((w.alloc (.cells #[.int .i64 r, .slice A n0 cap] 24)).alloc (.cells #[.int .i64 xr, .slice X nx cx] 24)).alloc (.cells #[.int .i64 0, .slice none 0 0] 24)).heap.size = w.heap.size + 3 := by simp
  have q0 : (((w.alloc (.cells #[.int .i64 r, .slice A n0 cap] 24)).alloc (.cells #[.int .i64 xr, .slice X nx cx] 24)).alloc (.cells #[.int .i64 0, .slice none 0 0] 24)).heap[w.heap.size]? = some (.cells #[.int .i64 r, .slice A n0 cap] 24 (0, 0)) := by
    rw [Below.heap_alloc _ _ _ (by simp <;> omega), Below.heap_alloc _ _ _ (by simp)]
    have := heap_alloc_new (w) (.cells #[.int .i64 r, .slice A n0 cap] 24)
    simpa using this
  have q1 : (((w.alloc (.cells #[.int .i64 r, .slice A n0 cap] 24)).alloc (.cells #[.int .i64 xr, .slice X nx cx] 24)).alloc (.cells #[.int .i64 0, .slice none 0 0] 24)).heap[w.heap.size + 1]? = some (.cells #[.int .i64 xr, .slice X nx cx] 24 (0, 0)) := by
    rw [Below.heap_alloc _ _ _ (by simp)]
    have := heap_alloc_new (w.alloc (.cells #[.int .i64 r, .slice A n0 cap] 24)) (.cells #[.int .i64 xr, .slice X nx cx] 24)
    simpa using this
  have q2 : (((w.alloc (.cells #[.int .i64 r, .slice A n0 cap] 24)).alloc (.cells #[.int .i64 xr, .slice X nx cx] 24)).alloc (.cells #[.int .i64 0, .slice none 0 0] 24)).heap[w.heap.size + 2]? = some (.cells #[.int .i64 0, .slice none 0 0] 24 (0, 0)) := by
    have := heap_alloc_new ((w.alloc (.cells #[.int .i64 r, .slice A n0 cap] 24)).alloc (.cells #[.int .i64 xr, .slice X nx cx] 24)) (.cells #[.int .i64 0, .slice none 0 0] 24)
    simpa using this
  go_enter Try.func28, Try.ntmps28
  go_wp2_with (go_at_call 26; refine Hold.stop ?_)
  generalize hWd : ((w.alloc (.cells #[.int .i64 r, .slice A n0 cap] 24)).alloc (.cells #[.int .i64 xr, .slice X nx cx] 24)).alloc (.cells #[.int .i64 0, .slice none 0 0] 24) = W at *
  clear hWd
  have c00 : W.cell? ⟨w.heap.size, 0, none⟩ = some (.int .i64 r) := by simp [World.cell?, q0]
  have c01 : W.cell? ⟨w.heap.size, 1, none⟩ = some (.slice A n0 cap) := by simp [World.cell?, q0]
  have f00 : W.frozen? ⟨w.heap.size, 0, none⟩ = false := by simp [World.frozen?, q0]
  have f01 : W.frozen? ⟨w.heap.size, 1, none⟩ = false := by simp [World.frozen?, q0]
  have c10 : W.cell? ⟨w.heap.size + 1, 0, none⟩ = some (.int .i64 xr) := by simp [World.cell?, q1]
  have c11 : W.cell? ⟨w.heap.size + 1, 1, none⟩ = some (.slice X nx cx) := by simp [World.cell?, q1]
  have f10 : W.frozen? ⟨w.heap.size + 1, 0, none⟩ = false := by simp [World.frozen?, q1]
  have f11 : W.frozen? ⟨w.heap.size + 1, 1, none⟩ = false := by simp [World.frozen?, q1]
  have c20 : W.cell? ⟨w.heap.size + 2, 0, none⟩ = some (.int .i64 0) := by simp [World.cell?, q2]
  have c21 : W.cell? ⟨w.heap.size + 2, 1, none⟩ = some (.slice none 0 0) := by simp [World.cell?, q2]
  have f20 : W.frozen? ⟨w.heap.size + 2, 0, none⟩ = false := by simp [World.frozen?, q2]
  have f21 : W.frozen? ⟨w.heap.size + 2, 1, none⟩ = false := by simp [World.frozen?, q2]
  have hz2 : w.heap.size + 2 < W.heap.size := cell_lt c20
  have hz1 : w.heap.size + 1 < W.heap.size := cell_lt c10
  have hz0 : w.heap.size < W.heap.size := cell_lt c00
  have HVW := Lib.hid ((HV.out.keep (Same.of_grow hWg)).mono (S' := Any) fun _ _ => trivial)
  have HXW := Lib.hid ((HX.out.keep (Same.of_grow hWg)).mono (S' := Any) fun _ _ => trivial)
  have HUW := Lib.hid (Ints.keep HU.out (Same.of_grow hWg))
  clear q0 q1 q2 hsz
  refine Hold.go ?_
  by_cases hok : okP p t = true
  · have HE := Lib.hid (eP_ok hok)
    have HRP := Lib.hid (rpT_ok (x := x) hok)
    have HOK := Lib.hid hok
    refine (at_any p t _ _ _ HVW.out HUW.out hs hpl).mono ?_
    rintro e w2 ⟨v2, rfl, h2, hb2⟩
    rw [HE.out]
    obtain ⟨A2, c2, rfl, -⟩ := h2.shape
    generalize (atT p t).rule = ar at *
    generalize (atT p t).args.length = an at *
    have e00 := (Below.cell hb2 hz0).trans c00
    have e01 := (Below.cell hb2 hz0).trans c01
    have e10 := (Below.cell hb2 hz1).trans c10
    have e11 := (Below.cell hb2 hz1).trans c11
    have e20 := (Below.cell hb2 hz2).trans c20
    have e21 := (Below.cell hb2 hz2).trans c21
    have g20 := (Below.frozen hb2 (p := ⟨w.heap.size + 2, 0, none⟩) hz2).trans f20
    have g21 := (Below.frozen hb2 (p := ⟨w.heap.size + 2, 1, none⟩) hz2).trans f21
    have HB2 := Lib.hid hb2
    clear h2 hb2 hok c00 c01 c10 c11 c20 c21 f00 f01 f10 f11 f20 f21 hz0 hz1 hz2
    have hz0 : w.heap.size < w2.heap.size := cell_lt e00
    have hz1 : w.heap.size + 1 < w2.heap.size := cell_lt e10
    have hz2 : w.heap.size + 2 < w2.heap.size := cell_lt e20
    refine Hold.stop ?_
    refine Hold.go ?_
    go_wp2_with (go_at_call 42; refine Hold.stop ?_)
    have hG3 : Grow w2 (w2.alloc (.cells #[.int .i64 ar, .slice A2 an c2] 24)) := grow_alloc _ _
    generalize hW3 : w2.alloc (.cells #[.int .i64 ar, .slice A2 an c2] 24) = w3 at *
    clear hW3
    refine Hold.go ?_
    refine (put_any p t x _ _ _ _ (HVW.out.keep (Same.of_grow (Below.step HB2.out hG3))) (Ints.keep HUW.out (Same.of_grow (Below.step HB2.out hG3))) (HXW.out.keep (Same.of_grow (Below.step HB2.out hG3))) HOK.out hs hsx hpl).mono ?_
    rintro e w4 ⟨v4, rfl, h4, hb4⟩
    refine Hold.stop ?_
    obtain ⟨A4, c4, rfl, -⟩ := h4.shape
    have hG4 := Below.step hG3 hb4
    have k20 := (Below.cell hG4 hz2).trans e20
    have k21 := (Below.cell hG4 hz2).trans e21
    have m20 := (Below.frozen hG4 (p := ⟨w.heap.size + 2, 0, none⟩) hz2).trans g20
    have m21 := (Below.frozen hG4 (p := ⟨w.heap.size + 2, 1, none⟩) hz2).trans g21
    have H4 := Lib.hid h4
    have HB4 := Lib.hid (Below.step (Below.step hWg HB2.out) hG4)
    have hz5 : w.heap.size + 2 < w3.heap.size := Nat.lt_of_lt_of_le hz2 hG3.size
    generalize (put p t x).rule = pr at *
    generalize (put p t x).args.length = pn at *
    clear h4 hb4 hG4 hG3
    refine Hold.go ?_
    go_wp2_with fail
    refine bodyPost_ret (v := .tuple #[.agg #[.int .i64 pr, .slice A4 pn c4], .int .i64 0]) (by simp [results, Try.results28, go_sem, k20, k21, m20, m21]) rfl ?_
    rw [HRP.out, HE.out]
    refine ⟨_, rfl, TmV.mono (TmV.keep (TmV.keep H4.out (Same.set _ ?_)) (Same.set _ ?_)) (From.mono (by omega)), ?_⟩
    · show ¬ _ ≤ w.heap.size + 2; omega
    · show ¬ _ ≤ w.heap.size + 2; omega
    · exact (HB4.out.setCell (by show _ ≤ w.heap.size + 2; omega) _).setCell (by show _ ≤ w.heap.size + 2; omega) _
  · replace hok : okP p t = false := by simpa using hok
    have HE := Lib.hid (eP_no hok)
    have HRP := Lib.hid (rpT_no (x := x) hok)
    have HOK := Lib.hid hok
    refine (at_any p t _ _ _ HVW.out HUW.out hs hpl).mono ?_
    rintro e w2 ⟨v2, rfl, h2, hb2⟩
    rw [HE.out]
    obtain ⟨A2, c2, rfl, -⟩ := h2.shape
    generalize (atT p t).rule = ar at *
    generalize (atT p t).args.length = an at *
    have e00 := (Below.cell hb2 hz0).trans c00
    have e01 := (Below.cell hb2 hz0).trans c01
    have e10 := (Below.cell hb2 hz1).trans c10
    have e11 := (Below.cell hb2 hz1).trans c11
    have e20 := (Below.cell hb2 hz2).trans c20
    have e21 := (Below.cell hb2 hz2).trans c21
    have g20 := (Below.frozen hb2 (p := ⟨w.heap.size + 2, 0, none⟩) hz2).trans f20
    have g21 := (Below.frozen hb2 (p := ⟨w.heap.size + 2, 1, none⟩) hz2).trans f21
    have HB2 := Lib.hid hb2
    clear h2 hb2 hok c00 c01 c10 c11 c20 c21 f00 f01 f10 f11 f20 f21 hz0 hz1 hz2
    have hz0 : w.heap.size < w2.heap.size := cell_lt e00
    have hz1 : w.heap.size + 1 < w2.heap.size := cell_lt e10
    have hz2 : w.heap.size + 2 < w2.heap.size := cell_lt e20
    refine Hold.stop ?_
    refine Hold.go ?_
    go_wp2_with fail
    refine bodyPost_ret (v := .tuple #[.agg #[.int .i64 0, .slice none 0 0], .int .i64 7]) (by simp [results, Try.results28, go_sem, e20, e21, g20, g21, hz2]) rfl ?_
    rw [HRP.out, HE.out]
    refine ⟨_, rfl, tmv_z, ?_⟩
    refine Below.step (((Below.step hWg HB2.out).setCell ?_ _).setCell ?_ _) (grow_alloc _ _)
    · show _ ≤ w.heap.size + 2; omega
    · show _ ≤ w.heap.size + 2; omega
end Go.Proofs.Ytkimcgcbdfkobaa
