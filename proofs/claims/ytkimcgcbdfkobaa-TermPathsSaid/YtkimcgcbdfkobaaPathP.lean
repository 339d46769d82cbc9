/- Replace of the program: put. -/
import Derived.Test.YtkimcgcbdfkobaaPathA
set_option linter.unusedVariables false
set_option linter.unusedSimpArgs false
namespace Go.Proofs.Ytkimcgcbdfkobaa
open Go Go.RowKit

set_option maxHeartbeats 4000000 in
theorem put_any : ∀ (p : List Int) (t x : Tm) (v u s : Value) (w : World), TmV Any w v t → Ints Any w u p → TmV Any w s x → okP p t = true → t.size ≤ 1000000 → x.size ≤ 1000000 → p.length ≤ 1000000 →
    Calls Try.prog 42 #[v, u, s] w (RetTm w (put p t x)) := by
  intro p
  induction p with
  | nil =>
    intro t x v u s w hv hu hx hok hs hsx hpl
    have HX := Lib.hid hx
    obtain ⟨A, cap, rfl, hr, hc, hm, -⟩ := hv.shape
    obtain ⟨B, cu, rfl, hcu1, hcu2, -⟩ := hu.form
    obtain ⟨X, cx, rfl, hxr, hxc, hxm, -⟩ := hx.shape
    clear hv hu hx
    generalize t.args.length = n0 at *
    generalize t.rule = r at *
    generalize hnx : x.args.length = nx at *
    generalize hxr0 : x.rule = xr at *
    have hWg : Grow w (((w.alloc (.cells #[.int .i64 r, .slice A n0 cap] 24)).alloc (.cells #[.int .i64 xr, .slice X nx cx] 24)).alloc (.cells #[.int .i64 0, .slice none 0 0] 24)) := Below.step (Below.step (grow_alloc (w) (.cells #[.int .i64 r, .slice A n0 cap] 24)) (grow_alloc (w.alloc (.cells #[.int .i64 r, .slice A n0 cap] 24)) (.cells #[.int .i64 xr, .slice X nx cx] 24))) (grow_alloc ((w.alloc (.cells #[.int .i64 r, .slice A n0 cap] 24)).alloc (.cells #[.int .i64 xr, .slice X nx cx] 24)) (.cells #[.int .i64 0, .slice none 0 0] 24))
    have hsz : (((w.alloc (.cells #[.int .i64 r, .slice A n0 cap] 24)).alloc (.cells #[.int .i64 xr, .slice X nx cx] 24)).alloc (.cells #[.int .i64 0, .slice none 0 0] 24)).heap.size = w.heap.size + 3 := by simp
    have q0 : (((w.alloc (.cells #[.int .i64 r, .slice A n0 cap] 24)).alloc (.cells #[.int .i64 xr, .slice X nx cx] 24)).alloc (.cells #[.int .i64 0, .slice none 0 0] 24)).heap[w.heap.size]? = some (.cells #[.int .i64 r, .slice A n0 cap] 24 (0, 0)) := by
      rw [Below.heap_alloc _ _ _ (by simp <;> omega), Below.heap_alloc _ _ _ (by simp)]
      have := heap_alloc_new (w) (.cells #[.int .i64 r, .slice A n0 cap] 24)
      simpa using this
    have q1 : (((w.alloc (.cells #[.int .i64 r, .slice A n0 cap] 24)).alloc (.cells #[.int .i64 xr, .slice X nx cx] 24)).alloc (.cells #[.int .i64 0, .slice none 0 0] 24)).heap[w.heap.size + 1]? = some (.cells #[.int .i64 xr, .slice X nx cx] 24 (0, 0)) := by
      rw [Below.heap_alloc _ _ _ (by simp)]
      have := heap_alloc_new (w.alloc (.cells #[.int .i64 r, .slice A n0 cap] 24)) (.cells #[.int .i64 xr, .slice X nx cx] 24)
      simpa using this
    have q2 : (((w.alloc (.cells #[.int .i64 r, .slice A n0 cap] 24)).alloc (.cells #[.int .i64 xr, .slice X nx cx] 24)).alloc (.cells #[.int .i64 0, .slice none 0 0] 24)).heap[w.heap.size + 2]? = some (.cells #[.int .i64 0, .slice none 0 0] 24 (0, 0)) := by
      have := heap_alloc_new ((w.alloc (.cells #[.int .i64 r, .slice A n0 cap] 24)).alloc (.cells #[.int .i64 xr, .slice X nx cx] 24)) (.cells #[.int .i64 0, .slice none 0 0] 24)
      simpa using this
    go_enter Try.func42, Try.ntmps42
    go_wp2_with (go_at_call 41; refine Hold.stop ?_)
    generalize hWd : ((w.alloc (.cells #[.int .i64 r, .slice A n0 cap] 24)).alloc (.cells #[.int .i64 xr, .slice X nx cx] 24)).alloc (.cells #[.int .i64 0, .slice none 0 0] 24) = W at *
    clear hWd
    have c00 : W.cell? ⟨w.heap.size, 0, none⟩ = some (.int .i64 r) := by simp [World.cell?, q0]
    have c01 : W.cell? ⟨w.heap.size, 1, none⟩ = some (.slice A n0 cap) := by simp [World.cell?, q0]
    have f00 : W.frozen? ⟨w.heap.size, 0, none⟩ = false := by simp [World.frozen?, q0]
    have f01 : W.frozen? ⟨w.heap.size, 1, none⟩ = false := by simp [World.frozen?, q0]
    have c10 : W.cell? ⟨w.heap.size + 1, 0, none⟩ = some (.int .i64 xr) := by simp [World.cell?, q1]
    have c11 : W.cell? ⟨w.heap.size + 1, 1, none⟩ = some (.slice X nx cx) := by simp [World.cell?, q1]
    have f10 : W.frozen? ⟨w.heap.size + 1, 0, none⟩ = false := by simp [World.frozen?, q1]
    have f11 : W.frozen? ⟨w.heap.size + 1, 1, none⟩ = false := by simp [World.frozen?, q1]
    have c20 : W.cell? ⟨w.heap.size + 2, 0, none⟩ = some (.int .i64 0) := by simp [World.cell?, q2]
    have c21 : W.cell? ⟨w.heap.size + 2, 1, none⟩ = some (.slice none 0 0) := by simp [World.cell?, q2]
    have f20 : W.frozen? ⟨w.heap.size + 2, 0, none⟩ = false := by simp [World.frozen?, q2]
    have f21 : W.frozen? ⟨w.heap.size + 2, 1, none⟩ = false := by simp [World.frozen?, q2]
    have hzr : w.heap.size + 2 < W.heap.size := cell_lt c20
    clear q0 q1 q2 hsz
    refine Hold.go ?_
    refine (clone_any x _ _ (HX.out.keep (Same.of_grow hWg)) hsx).mono ?_
    rintro e w2 ⟨v2, rfl, h2, hb2⟩
    refine Hold.stop ?_
    have e20 := (Below.cell hb2 hzr).trans c20
    have e21 := (Below.cell hb2 hzr).trans c21
    have g20 := (Below.frozen hb2 (p := ⟨w.heap.size + 2, 0, none⟩) hzr).trans f20
    have g21 := (Below.frozen hb2 (p := ⟨w.heap.size + 2, 1, none⟩) hzr).trans f21
    obtain ⟨A2, c2, rfl, -⟩ := h2.shape
    have H2 := Lib.hid h2
    have HB2 := Lib.hid hb2
    clear h2 hb2
    refine Hold.go ?_
    go_wp2_with fail
    refine bodyPost_ret (v := .agg #[.int .i64 x.rule, .slice A2 x.args.length c2]) (by simp [results, Try.results42, go_sem, e20, e21, g20, g21, hxr0, hnx]) rfl ?_
    refine ⟨_, rfl, TmV.mono (TmV.keep (TmV.keep H2.out (Same.set _ ?_)) (Same.set _ ?_)) (From.mono (by omega)), ?_⟩
    · show ¬ _ ≤ w.heap.size + 2; omega
    · show ¬ _ ≤ w.heap.size + 2; omega
    · exact ((hWg.trans (HB2.out.mono (by omega))).setCell (by show _ ≤ w.heap.size + 2; omega) _).setCell (by show _ ≤ w.heap.size + 2; omega) _
  | cons n p ih =>
    intro t x v u s w hv hu hx hok hs hsx hpl
    obtain ⟨hi0, hi1, hok2⟩ := okP_cons hok
    have hkid := arg_size hi0 hi1
    have hput : put (n :: p) t x = .mk t.rule (t.args.set n.toNat (put p (t.arg n) x)) := rfl
    have hagx : ∀ k (h : k < t.args.length), n = k → t.arg n = t.args[k] := fun k h e => arg_get e h
    generalize t.arg n = y0 at *
    obtain ⟨r, l, rfl⟩ : ∃ r l, t = .mk r l := ⟨t.rule, t.args, by cases t; rfl⟩
    simp only [Tm.args, Tm.rule] at hi1 hput hagx
    rw [hput]
    obtain ⟨j, hj⟩ : ∃ j : Nat, n = j := ⟨n.toNat, by omega⟩
    subst hj
    simp only [Int.toNat_natCast]
    have hjl : j < l.length := by omega
    have HAGX := Lib.hid (hagx j hjl rfl)
    generalize hLd : l.set j (put p y0 x) = L
    have HLD := Lib.hid hLd
    have hLl : L.length = l.length := by rw [← hLd]; simp
    have HV := Lib.hid (hv.bound.mono (S' := Lt w.heap.size) fun b hb => hb.2)
    have HX := Lib.hid (hx.bound.mono (S' := Lt w.heap.size) fun b hb => hb.2)
    obtain ⟨A, cap, rfl, hr, hc, hm, hl⟩ := HV.out.form
    have HR := Lib.hid hr
    have HUB := Lib.hid (hu.bound.mono (S' := Lt w.heap.size) fun b hb => hb.2)
    obtain ⟨B, cu, rfl, hcu1, hcu2, hg⟩ := HUB.out.form
    have HU := Lib.hid hu
    obtain ⟨-, b0, o0, hB, hbb, hcn⟩ := hg 0 (by simp)
    simp only [Nat.add_zero, List.getElem_cons_zero] at hcn
    simp only [List.length_cons] at hpl hcu1 HU HUB
    have hlp : ((j : Int) :: p).length = p.length + 1 := rfl
    rw [hlp]
    obtain ⟨X, cx, rfl, hxr, hxc, hxm, -⟩ := HX.out.shape
    have HL := Lib.hid hl
    have IH := Lib.hid ih
    have HOK := Lib.hid hok2
    simp only [Tm.size] at hs hkid
    have hlen := Tm.sizeL_len l
    clear hv hu hx hg ih hl hok hok2 hput hagx hLd hlp
    generalize hnx : x.args.length = nx at *
    generalize hxr0 : x.rule = xr at *
    have hWg : Grow w ((((w.alloc (.cells #[.int .i64 r, .slice A l.length cap] 24)).alloc (.cells #[.int .i64 xr, .slice X nx cx] 24)).alloc (.cells #[.int .i64 0, .slice none 0 0] 24)).alloc (.cells #[.int .i64 r, .slice none 0 0] 24)) := Below.step (Below.step (Below.step (grow_alloc (w) (.cells #[.int .i64 r, .slice A l.length cap] 24)) (grow_alloc (w.alloc (.cells #[.int .i64 r, .slice A l.length cap] 24)) (.cells #[.int .i64 xr, .slice X nx cx] 24))) (grow_alloc ((w.alloc (.cells #[.int .i64 r, .slice A l.length cap] 24)).alloc (.cells #[.int .i64 xr, .slice X nx cx] 24)) (.cells #[.int .i64 0, .slice none 0 0] 24))) (grow_alloc (((w.alloc (.cells #[.int .i64 r, .slice A l.length cap] 24)).alloc (.cells #[.int .i64 xr, .slice X nx cx] 24)).alloc (.cells #[.int .i64 0, .slice none 0 0] 24)) (.cells #[.int .i64 r, .slice none 0 0] 24))
    have hsz : ((((w.alloc (.cells #[.int .i64 r, .slice A l.length cap] 24)).alloc (.cells #[.int .i64 xr, .slice X nx cx] 24)).alloc (.cells #[.int .i64 0, .slice none 0 0] 24)).alloc (.cells #[.int .i64 r, .slice none 0 0] 24)).heap.size = w.heap.size + 4 := by simp
    have q0 : ((((w.alloc (.cells #[.int .i64 r, .slice A l.length cap] 24)).alloc (.cells #[.int .i64 xr, .slice X nx cx] 24)).alloc (.cells #[.int .i64 0, .slice none 0 0] 24)).alloc (.cells #[.int .i64 r, .slice none 0 0] 24)).heap[w.heap.size]? = some (.cells #[.int .i64 r, .slice A l.length cap] 24 (0, 0)) := by
      rw [Below.heap_alloc _ _ _ (by simp <;> omega), Below.heap_alloc _ _ _ (by simp <;> omega), Below.heap_alloc _ _ _ (by simp)]
      have := heap_alloc_new (w) (.cells #[.int .i64 r, .slice A l.length cap] 24)
      simpa using this
    have q1 : ((((w.alloc (.cells #[.int .i64 r, .slice A l.length cap] 24)).alloc (.cells #[.int .i64 xr, .slice X nx cx] 24)).alloc (.cells #[.int .i64 0, .slice none 0 0] 24)).alloc (.cells #[.int .i64 r, .slice none 0 0] 24)).heap[w.heap.size + 1]? = some (.cells #[.int .i64 xr, .slice X nx cx] 24 (0, 0)) := by
      rw [Below.heap_alloc _ _ _ (by simp <;> omega), Below.heap_alloc _ _ _ (by simp)]
      have := heap_alloc_new (w.alloc (.cells #[.int .i64 r, .slice A l.length cap] 24)) (.cells #[.int .i64 xr, .slice X nx cx] 24)
      simpa using this
    have q2 : ((((w.alloc (.cells #[.int .i64 r, .slice A l.length cap] 24)).alloc (.cells #[.int .i64 xr, .slice X nx cx] 24)).alloc (.cells #[.int .i64 0, .slice none 0 0] 24)).alloc (.cells #[.int .i64 r, .slice none 0 0] 24)).heap[w.heap.size + 2]? = some (.cells #[.int .i64 0, .slice none 0 0] 24 (0, 0)) := by
      rw [Below.heap_alloc _ _ _ (by simp)]
      have := heap_alloc_new ((w.alloc (.cells #[.int .i64 r, .slice A l.length cap] 24)).alloc (.cells #[.int .i64 xr, .slice X nx cx] 24)) (.cells #[.int .i64 0, .slice none 0 0] 24)
      simpa using this
    have q3 : ((((w.alloc (.cells #[.int .i64 r, .slice A l.length cap] 24)).alloc (.cells #[.int .i64 xr, .slice X nx cx] 24)).alloc (.cells #[.int .i64 0, .slice none 0 0] 24)).alloc (.cells #[.int .i64 r, .slice none 0 0] 24)).heap[w.heap.size + 3]? = some (.cells #[.int .i64 r, .slice none 0 0] 24 (0, 0)) := by
      have := heap_alloc_new (((w.alloc (.cells #[.int .i64 r, .slice A l.length cap] 24)).alloc (.cells #[.int .i64 xr, .slice X nx cx] 24)).alloc (.cells #[.int .i64 0, .slice none 0 0] 24)) (.cells #[.int .i64 r, .slice none 0 0] 24)
      simpa using this
    go_enter Try.func42, Try.ntmps42
    have hcut : ∀ w, (Instr.slice 29 (.slice B (p.length + 1) cu) (some (.int .i64 1)) none none).run Try.prog w = .ok (.slice (cutAt B cu 1 1) p.length (cu - 1)) w := run_cut Try.underlying29 size_int B (p.length + 1) cu 1 (by omega)
    have HPD := Lib.hid (RepSl.drop' HUB.out (k := 1) (by simp))
    simp only [List.drop_succ_cons, List.drop_zero, Nat.add_sub_cancel] at HPD
    generalize hcA : cutAt B cu 1 1 = CA at *
    clear hcA
    subst hB
    go_wp2_with fail
    generalize hWd : (((w.alloc (.cells #[.int .i64 r, .slice A l.length cap] 24)).alloc (.cells #[.int .i64 xr, .slice X nx cx] 24)).alloc (.cells #[.int .i64 0, .slice none 0 0] 24)).alloc (.cells #[.int .i64 r, .slice none 0 0] 24) = W at *
    have HSZ := Lib.hid hsz
    have Q0 := Lib.hid q0
    have Q1 := Lib.hid q1
    have Q2 := Lib.hid q2
    have Q3 := Lib.hid q3
    clear hWd hsz q0 q1 q2 q3
    go_loopw [21] (fun i wr => ∃ (k : Nat) (v : Value), k ≤ l.length ∧ i = .int .i64 k ∧ Hid (wr.heap[w.heap.size + 3]? = some (.cells #[.int .i64 r, v] 24 (0, 0))) ∧ Hid (Own (From (w.heap.size + 4)) (w.heap.size + 4) 24 2 RepTm wr v (L.take k)) ∧ Hid (Below (w.heap.size + 3) W wr)) (fun i _ => l.length - (intOf i).toNat)
    case atStart => exact ⟨0, _, by omega, by simp, Q3, Lib.hid Own.nil, Lib.hid (Below.refl _ _)⟩
    case round =>
      obtain ⟨k, v, hk, rfl, hb2o, ho, hbl⟩ := hrel
      have hz : w.heap.size + 4 ≤ wr.heap.size := by have := hbl.out.size; have := HSZ.out; omega
      have hb0 : wr.heap[w.heap.size]? = some (.cells #[.int .i64 r, .slice A l.length cap] 24 (0, 0)) := (hbl.out.block _ (by omega)).trans Q0.out
      have hb1 : wr.heap[w.heap.size + 1]? = some (.cells #[.int .i64 xr, .slice X nx cx] 24 (0, 0)) := (hbl.out.block _ (by omega)).trans Q1.out
      have hb2 : wr.heap[w.heap.size + 2]? = some (.cells #[.int .i64 0, .slice none 0 0] 24 (0, 0)) := (hbl.out.block _ (by omega)).trans Q2.out
      have hb3 := hb2o.out
      have c00 : wr.cell? ⟨w.heap.size, 0, none⟩ = some (.int .i64 r) := by simp [World.cell?, hb0]
      have c01 : wr.cell? ⟨w.heap.size, 1, none⟩ = some (.slice A l.length cap) := by simp [World.cell?, hb0]
      have f00 : wr.frozen? ⟨w.heap.size, 0, none⟩ = false := by simp [World.frozen?, hb0]
      have f01 : wr.frozen? ⟨w.heap.size, 1, none⟩ = false := by simp [World.frozen?, hb0]
      have c10 : wr.cell? ⟨w.heap.size + 1, 0, none⟩ = some (.int .i64 xr) := by simp [World.cell?, hb1]
      have c11 : wr.cell? ⟨w.heap.size + 1, 1, none⟩ = some (.slice X nx cx) := by simp [World.cell?, hb1]
      have f10 : wr.frozen? ⟨w.heap.size + 1, 0, none⟩ = false := by simp [World.frozen?, hb1]
      have f11 : wr.frozen? ⟨w.heap.size + 1, 1, none⟩ = false := by simp [World.frozen?, hb1]
      have c20 : wr.cell? ⟨w.heap.size + 2, 0, none⟩ = some (.int .i64 0) := by simp [World.cell?, hb2]
      have c21 : wr.cell? ⟨w.heap.size + 2, 1, none⟩ = some (.slice none 0 0) := by simp [World.cell?, hb2]
      have f20 : wr.frozen? ⟨w.heap.size + 2, 0, none⟩ = false := by simp [World.frozen?, hb2]
      have f21 : wr.frozen? ⟨w.heap.size + 2, 1, none⟩ = false := by simp [World.frozen?, hb2]
      have c30 : wr.cell? ⟨w.heap.size + 3, 0, none⟩ = some (.int .i64 r) := by simp [World.cell?, hb3]
      have c31 : wr.cell? ⟨w.heap.size + 3, 1, none⟩ = some (v) := by simp [World.cell?, hb3]
      have f30 : wr.frozen? ⟨w.heap.size + 3, 0, none⟩ = false := by simp [World.frozen?, hb3]
      have f31 : wr.frozen? ⟨w.heap.size + 3, 1, none⟩ = false := by simp [World.frozen?, hb3]
      have hcnr : wr.cell? ⟨b0, o0, none⟩ = some (.int .i64 (j : Int)) := (hbl.out.cell (p := ⟨b0, o0, none⟩) (by unfold Lt at hbb; show b0 < _; omega)).trans ((hWg.cell (p := ⟨b0, o0, none⟩) (by unfold Lt at hbb; exact hbb)).trans hcn)
      have hb0r : b0 < wr.heap.size := cell_lt hcnr
      have hz0 : w.heap.size < wr.heap.size := by omega
      have hz1 : w.heap.size + 1 < wr.heap.size := by omega
      have hz3 : w.heap.size + 3 < wr.heap.size := by omega
      have HVO := Same.of_below (S := Lt w.heap.size) (hWg.trans (hbl.out.mono (by omega : w.heap.size ≤ w.heap.size + 3))) (fun b hb => hb)
      clear hb0 hb1 hb2 hb3
      by_cases hlt : k < l.length
      · obtain ⟨b, o, A', n', c', rfl, hbb2, d1, d2, hv⟩ := (Tms.keep HL.out HVO).get hlt
        have HY := Lib.hid (hv.mono (S' := Any) fun _ _ => trivial)
        have h1 : l[k].size ≤ 1000000 := by have := Tm.sizeL_mem (List.getElem_mem hlt); omega
        have hbw : b < wr.heap.size := by unfold Lt at hbb2; omega
        have HXR := Lib.hid ((TmV.keep HX.out HVO).mono (S' := Any) fun _ _ => trivial)
        have HPR := Lib.hid ((Ints.keep HPD.out HVO).mono (S' := Any) fun _ _ => trivial)
        have htk := List.take_succ_eq_append_getElem (show k < L.length by omega)
        have hLk : L[k]'(by omega) = if j = k then put p y0 x else l[k] := by
          have := HLD.out
          subst this
          rw [List.getElem_set]
        have hyk : j = k → y0 = l[k] := fun e => by subst e; exact HAGX.out
        rw [hLk] at htk
        clear hLk hv hbb2 HVO
        generalize l[k] = y at *
        obtain ⟨yr, hyr⟩ : ∃ yr, yr = y.rule := ⟨_, rfl⟩
        rw [← hyr] at d1 HY
        clear hyr
        by_cases hkj : j = k
        · rw [if_pos hkj] at htk
          obtain rfl := hyk hkj
          generalize hzd : put p y0 x = z at *
          have HZD := Lib.hid hzd
          have HTK := Lib.hid htk
          clear htk hyk hzd
          have hjk1 : (k : Int) = (j : Int) := by omega
          go_wp2_with fail
          have hbr : Grow wr (wr.alloc (.cells #[.int .i64 yr, .slice A' n' c'] 24)) := grow_alloc _ _
          have hboxq := heap_alloc_new wr (.cells #[.int .i64 yr, .slice A' n' c'] 24)
          have zr : wr.heap.size < (wr.alloc (.cells #[.int .i64 yr, .slice A' n' c'] 24)).heap.size := by simp
          generalize hWQ : (wr.alloc (.cells #[.int .i64 yr, .slice A' n' c'] 24)) = wq at *
          clear hWQ
          have q10 := (Below.cell hbr hz1).trans c10
          have q11 := (Below.cell hbr hz1).trans c11
          have qbx0 : wq.cell? ⟨wr.heap.size, 0, none⟩ = some (.int .i64 yr) := by simp [World.cell?, hboxq]
          have qbx1 : wq.cell? ⟨wr.heap.size, 1, none⟩ = some (.slice A' n' c') := by simp [World.cell?, hboxq]
          have hz1q : w.heap.size + 1 < wq.heap.size := cell_lt q10
          refine wp_region_rel (fun w' => Grow (wq) w') (by kernel_rfl) (grow_drew _) (fun a b h k => Below.step h k) ?_
          apply Exists.intro
          constructor
          iterate 4 (first | (apply rel_det; rfl; intro w1 hC1 hF1; obtain ⟨hc1, hf1⟩ := bcell hC1; go_simp; (first | exact ⟨Below.refl _ _, rfl⟩ | fail); intro K hK; go_simp; refine hK _ ?_; clear hK K) | (apply rel_skip; rfl; intro K hK; go_simp; refine hK _ ?_; clear hK K))
          apply rel_some (G := fun v w' => TmV (From wq.heap.size) w' v z) (hG := fun v w w' h hb => h.keep (Same.of_grow hb))
          · rfl
          · intro w1 hC1 hF1; obtain ⟨hc1, hf1⟩ := bcell hC1; go_simp; (go_at_call 42; exact rel_fresh (Rp := fun S w v => TmV S w v z) (fun h hS => h.mono hS) hC1.size (by have := IH.out y0 x _ _ _ _ (HY.out.keep (Same.of_grow (Below.step hbr hC1))) (Ints.keep HPR.out (Same.of_grow (Below.step hbr hC1))) (HXR.out.keep (Same.of_grow (Below.step hbr hC1))) HOK.out h1 hsx (by omega); rw [HZD.out] at this; exact this))
          intro vc K hK; go_simp; refine hK _ ?_; clear hK K
          refine rel_nil (fun w2 hC2 hF2 => ?_)
          rotate_left
          kernel_rfl
          have h2 := (hF2 4 : TmV (From wq.heap.size) w2 vc z)
          have hb2 := hC2
          clear hF2 hC2
          refine Hold.stop ?_
          obtain ⟨A2, c2, rfl, -⟩ := h2.shape
          have hgw : Grow wr w2 := Below.step hbr hb2
          have hbox2 : w2.heap[wr.heap.size]? = some (.cells #[.int .i64 yr, .slice A' n' c'] 24 (0, 0)) := (hb2.block _ zr).trans hboxq
          have hb3 : w2.heap[w.heap.size + 3]? = some (.cells #[.int .i64 r, v] 24 (0, 0)) := (hgw.block _ hz3).trans hb2o.out
          generalize z.rule = zr2 at *
          generalize z.args.length = zn at *
          have H2 := Lib.hid h2
          have HGW := Lib.hid hgw
          have b20 : w2.cell? ⟨wr.heap.size, 0, none⟩ = some (.int .i64 yr) := by simp [World.cell?, hbox2]
          have b21 : w2.cell? ⟨wr.heap.size, 1, none⟩ = some (.slice A' n' c') := by simp [World.cell?, hbox2]
          have bf0 : w2.frozen? ⟨wr.heap.size, 0, none⟩ = false := by simp [World.frozen?, hbox2]
          have bf1 : w2.frozen? ⟨wr.heap.size, 1, none⟩ = false := by simp [World.frozen?, hbox2]
          have HBX := Lib.hid hbox2
          have HB3 := Lib.hid hb3
          clear h2 hgw hb2 hbox2 hb3
          refine Hold.go ?_
          go_upto_region 10 with fail
          have hw3g : Grow wr ((w2.setCell ⟨wr.heap.size, 0, none⟩ (.int .i64 zr2)).setCell ⟨wr.heap.size, 1, none⟩ (.slice A2 zn c2)) := (HGW.out.setCell (Nat.le_refl _) _).setCell (Nat.le_refl _) _
          have hw3h : TmV (From (wr.heap.size + 1)) ((w2.setCell ⟨wr.heap.size, 0, none⟩ (.int .i64 zr2)).setCell ⟨wr.heap.size, 1, none⟩ (.slice A2 zn c2)) (.agg #[.int .i64 zr2, .slice A2 zn c2]) z := ((H2.out.mono fun b hb => Nat.le_trans zr hb).keep (Same.set _ (by show ¬ _ ≤ wr.heap.size; omega))).keep (Same.set _ (by show ¬ _ ≤ wr.heap.size; omega))
          have hw3b : ((w2.setCell ⟨wr.heap.size, 0, none⟩ (.int .i64 zr2)).setCell ⟨wr.heap.size, 1, none⟩ (.slice A2 zn c2)).heap[wr.heap.size]? = some (.cells #[.int .i64 zr2, .slice A2 zn c2] 24 (0, 0)) := by
            have := HBX.out
            simp only [World.setCell, Array.getElem?_modify, this]
            simp
          have hw33 : ((w2.setCell ⟨wr.heap.size, 0, none⟩ (.int .i64 zr2)).setCell ⟨wr.heap.size, 1, none⟩ (.slice A2 zn c2)).heap[w.heap.size + 3]? = some (.cells #[.int .i64 r, v] 24 (0, 0)) := by
            rw [Below.heap_setCell _ _ _ _ (by show w.heap.size + 3 ≠ wr.heap.size; omega), Below.heap_setCell _ _ _ _ (by show w.heap.size + 3 ≠ wr.heap.size; omega)]
            exact HB3.out
          generalize hw3e : (w2.setCell ⟨wr.heap.size, 0, none⟩ (.int .i64 zr2)).setCell ⟨wr.heap.size, 1, none⟩ (.slice A2 zn c2) = w3 at *
          clear hw3e
          have e30 : w3.cell? ⟨w.heap.size + 3, 0, none⟩ = some (.int .i64 r) := by simp [World.cell?, hw33]
          have e31 : w3.cell? ⟨w.heap.size + 3, 1, none⟩ = some v := by simp [World.cell?, hw33]
          have e90 : w3.cell? ⟨wr.heap.size, 0, none⟩ = some (.int .i64 zr2) := by simp [World.cell?, hw3b]
          have e91 : w3.cell? ⟨wr.heap.size, 1, none⟩ = some (.slice A2 zn c2) := by simp [World.cell?, hw3b]
          have HW33 := Lib.hid hw33
          have HG3 := Lib.hid hw3g
          have HW3H := Lib.hid hw3h
          clear hw3b hw33 hw3g hw3h b20 b21 bf0 bf1
          go_wp2_with (at_builtin; refine Hold.stop ?_)
          refine Hold.go ?_
          have hz4 : w.heap.size + 4 ≤ w3.heap.size := Nat.le_trans hz HG3.out.size
          have HO := Lib.hid (ho.out.grow keptTm HG3.out)
          have HL1 := Lib.hid (RepSl.mono (tms_lit1 HW3H.out.cells) (S' := Any) (R' := RepTm (fun b => From (w.heap.size + 4) b ∧ v.ownBlock ≠ some b) (w3.alloc (.cells #[.int .i64 zr2, .slice A2 zn c2] 24))) (fun _ h => h) fun cs x _ h => h.mono fun b hb => ⟨by unfold From at *; omega, fun e => by have := (ho.out.block b e).2; unfold From at hb; omega⟩)
          refine wpList_append_Own (ys := [z]) elt_tm keptTm rfl (.tmp 39) (.tmp 41) rfl rfl rfl (HO.out.grow keptTm (grow_alloc _ _)) HL1.out (by simp; omega) (by simp; omega) (by simp; omega) ?_
          intro v4 w4 ho4 hg4 hv4
          have hne : v4 ≠ .slice none 0 0 := fun e => by
            subst e
            obtain ⟨cs, ⟨hcl, hc2⟩, _⟩ := ho4
            rcases hc2 with ⟨_, h0⟩ | ⟨g, cap, cur, h0, _⟩
            · simp at h0
            · cases h0
          have hlen4 : (L.take k ++ [z]).length = k + 1 := by simp; omega
          have hshape : ∃ g cap4, v4 = .slice (some ⟨g, 0, none⟩) (k + 1) cap4 := by
            rcases ho4.form with ⟨h0, _⟩ | ⟨g, cap4, h0, _⟩
            · exact absurd h0 hne
            · rw [hlen4] at h0; exact ⟨g, cap4, h0⟩
          clear hlen4
          obtain ⟨g, cap4, rfl⟩ := hshape
          have hrow : ∀ b, v.ownBlock = some b → w.heap.size + 4 ≤ b := fun b h => (HO.out.block b h).1
          have hblk2 : w4.heap[w.heap.size + 3]? = some (.cells #[.int .i64 r, v] 24 (0, 0)) :=
            (hg4.block _ (by simp; omega) (fun e => by have := hrow _ e.symm; omega)).trans ((Below.heap_alloc _ _ _ (by omega)).trans HW33.out)
          have e20 : w4.cell? ⟨w.heap.size + 3, 0, none⟩ = some (.int .i64 r) := by simp [World.cell?, hblk2]
          have e21 : w4.cell? ⟨w.heap.size + 3, 1, none⟩ = some v := by simp [World.cell?, hblk2]
          have g21 : w4.frozen? ⟨w.heap.size + 3, 1, none⟩ = false := by simp [World.frozen?, hblk2]
          have HBLK2 := Lib.hid hblk2
          have HO4 := Lib.hid ho4
          have HB4 := Lib.hid (((HG3.out.mono (show w.heap.size + 3 ≤ wr.heap.size by omega)).trans ((grow_alloc w3 _).mono (show w.heap.size + 3 ≤ w3.heap.size by omega))).trans (below_of_grown hg4 (by simp; omega) fun b h => by have := hrow b h; omega))
          clear hblk2 ho4 hg4 hv4 hne hrow
          go_wp2_with fail
          have r1 : Hid ((w4.setCell ⟨w.heap.size + 3, 1, none⟩ (.slice (some ⟨g, 0, none⟩) (k + 1) cap4)).heap[w.heap.size + 3]? = some (.cells #[.int .i64 r, .slice (some ⟨g, 0, none⟩) (k + 1) cap4] 24 (0, 0))) := by
            have := HBLK2.out
            show _ = _
            simp only [World.setCell, Array.getElem?_modify, this]
            simp
          have r2 : Hid (Own (From (w.heap.size + 4)) (w.heap.size + 4) 24 2 RepTm (w4.setCell ⟨w.heap.size + 3, 1, none⟩ (.slice (some ⟨g, 0, none⟩) (k + 1) cap4)) (.slice (some ⟨g, 0, none⟩) (k + 1) cap4) (L.take (k + 1))) := by
            show Own _ _ _ _ _ _ _ _
            rw [HTK.out]
            exact HO4.out.set keptTm (by show w.heap.size + 3 < _; omega) (by unfold From; show ¬ _ ≤ w.heap.size + 3; omega) _
          have r3 : Hid (Below (w.heap.size + 3) W (w4.setCell ⟨w.heap.size + 3, 1, none⟩ (.slice (some ⟨g, 0, none⟩) (k + 1) cap4))) := (hbl.out.trans HB4.out).setCell (by show _ ≤ w.heap.size + 3; omega) _
          go_roundw
          case rel =>
            (repeat apply Exists.intro)
            exact ⟨⟨k + 1, .slice (some ⟨g, 0, none⟩) (k + 1) cap4, by omega, by go_num, r1, r2, r3⟩, rfl⟩
          case measure => simp [intOf]; omega
        · rw [if_neg hkj] at htk
          clear hyk
          generalize hzd : y = z at *
          have HTK := Lib.hid htk
          clear htk hzd
          have hjk1 : ¬ (k : Int) = (j : Int) := by omega
          go_wp2_with (go_at_call 41; refine Hold.stop ?_)
          have hbr : Grow wr (wr.alloc (.cells #[.int .i64 yr, .slice A' n' c'] 24)) := grow_alloc _ _
          have hboxq := heap_alloc_new wr (.cells #[.int .i64 yr, .slice A' n' c'] 24)
          have zr : wr.heap.size < (wr.alloc (.cells #[.int .i64 yr, .slice A' n' c'] 24)).heap.size := by simp
          generalize hWQ : (wr.alloc (.cells #[.int .i64 yr, .slice A' n' c'] 24)) = wq at *
          clear hWQ
          refine Hold.go ?_
          refine (clone_any z _ _ (HY.out.keep (Same.of_grow hbr)) h1).mono ?_
          rintro e w2 ⟨v2, rfl, h2, hb2⟩
          refine Hold.stop ?_
          obtain ⟨A2, c2, rfl, -⟩ := h2.shape
          have hgw : Grow wr w2 := Below.step hbr hb2
          have hbox2 : w2.heap[wr.heap.size]? = some (.cells #[.int .i64 yr, .slice A' n' c'] 24 (0, 0)) := (hb2.block _ zr).trans hboxq
          have hb3 : w2.heap[w.heap.size + 3]? = some (.cells #[.int .i64 r, v] 24 (0, 0)) := (hgw.block _ hz3).trans hb2o.out
          generalize z.rule = zr2 at *
          generalize z.args.length = zn at *
          have H2 := Lib.hid h2
          have HGW := Lib.hid hgw
          have b20 : w2.cell? ⟨wr.heap.size, 0, none⟩ = some (.int .i64 yr) := by simp [World.cell?, hbox2]
          have b21 : w2.cell? ⟨wr.heap.size, 1, none⟩ = some (.slice A' n' c') := by simp [World.cell?, hbox2]
          have bf0 : w2.frozen? ⟨wr.heap.size, 0, none⟩ = false := by simp [World.frozen?, hbox2]
          have bf1 : w2.frozen? ⟨wr.heap.size, 1, none⟩ = false := by simp [World.frozen?, hbox2]
          have HBX := Lib.hid hbox2
          have HB3 := Lib.hid hb3
          clear h2 hgw hb2 hbox2 hb3
          refine Hold.go ?_
          go_upto_region 10 with fail
          have hw3g : Grow wr ((w2.setCell ⟨wr.heap.size, 0, none⟩ (.int .i64 zr2)).setCell ⟨wr.heap.size, 1, none⟩ (.slice A2 zn c2)) := (HGW.out.setCell (Nat.le_refl _) _).setCell (Nat.le_refl _) _
          have hw3h : TmV (From (wr.heap.size + 1)) ((w2.setCell ⟨wr.heap.size, 0, none⟩ (.int .i64 zr2)).setCell ⟨wr.heap.size, 1, none⟩ (.slice A2 zn c2)) (.agg #[.int .i64 zr2, .slice A2 zn c2]) z := ((H2.out.mono fun b hb => Nat.le_trans zr hb).keep (Same.set _ (by show ¬ _ ≤ wr.heap.size; omega))).keep (Same.set _ (by show ¬ _ ≤ wr.heap.size; omega))
          have hw3b : ((w2.setCell ⟨wr.heap.size, 0, none⟩ (.int .i64 zr2)).setCell ⟨wr.heap.size, 1, none⟩ (.slice A2 zn c2)).heap[wr.heap.size]? = some (.cells #[.int .i64 zr2, .slice A2 zn c2] 24 (0, 0)) := by
            have := HBX.out
            simp only [World.setCell, Array.getElem?_modify, this]
            simp
          have hw33 : ((w2.setCell ⟨wr.heap.size, 0, none⟩ (.int .i64 zr2)).setCell ⟨wr.heap.size, 1, none⟩ (.slice A2 zn c2)).heap[w.heap.size + 3]? = some (.cells #[.int .i64 r, v] 24 (0, 0)) := by
            rw [Below.heap_setCell _ _ _ _ (by show w.heap.size + 3 ≠ wr.heap.size; omega), Below.heap_setCell _ _ _ _ (by show w.heap.size + 3 ≠ wr.heap.size; omega)]
            exact HB3.out
          generalize hw3e : (w2.setCell ⟨wr.heap.size, 0, none⟩ (.int .i64 zr2)).setCell ⟨wr.heap.size, 1, none⟩ (.slice A2 zn c2) = w3 at *
          clear hw3e
          have e30 : w3.cell? ⟨w.heap.size + 3, 0, none⟩ = some (.int .i64 r) := by simp [World.cell?, hw33]
          have e31 : w3.cell? ⟨w.heap.size + 3, 1, none⟩ = some v := by simp [World.cell?, hw33]
          have e90 : w3.cell? ⟨wr.heap.size, 0, none⟩ = some (.int .i64 zr2) := by simp [World.cell?, hw3b]
          have e91 : w3.cell? ⟨wr.heap.size, 1, none⟩ = some (.slice A2 zn c2) := by simp [World.cell?, hw3b]
          have HW33 := Lib.hid hw33
          have HG3 := Lib.hid hw3g
          have HW3H := Lib.hid hw3h
          clear hw3b hw33 hw3g hw3h b20 b21 bf0 bf1
          go_wp2_with (at_builtin; refine Hold.stop ?_)
          refine Hold.go ?_
          have hz4 : w.heap.size + 4 ≤ w3.heap.size := Nat.le_trans hz HG3.out.size
          have HO := Lib.hid (ho.out.grow keptTm HG3.out)
          have HL1 := Lib.hid (RepSl.mono (tms_lit1 HW3H.out.cells) (S' := Any) (R' := RepTm (fun b => From (w.heap.size + 4) b ∧ v.ownBlock ≠ some b) (w3.alloc (.cells #[.int .i64 zr2, .slice A2 zn c2] 24))) (fun _ h => h) fun cs x _ h => h.mono fun b hb => ⟨by unfold From at *; omega, fun e => by have := (ho.out.block b e).2; unfold From at hb; omega⟩)
          refine wpList_append_Own (ys := [z]) elt_tm keptTm rfl (.tmp 39) (.tmp 41) rfl rfl rfl (HO.out.grow keptTm (grow_alloc _ _)) HL1.out (by simp; omega) (by simp; omega) (by simp; omega) ?_
          intro v4 w4 ho4 hg4 hv4
          have hne : v4 ≠ .slice none 0 0 := fun e => by
            subst e
            obtain ⟨cs, ⟨hcl, hc2⟩, _⟩ := ho4
            rcases hc2 with ⟨_, h0⟩ | ⟨g, cap, cur, h0, _⟩
            · simp at h0
            · cases h0
          have hlen4 : (L.take k ++ [z]).length = k + 1 := by simp; omega
          have hshape : ∃ g cap4, v4 = .slice (some ⟨g, 0, none⟩) (k + 1) cap4 := by
            rcases ho4.form with ⟨h0, _⟩ | ⟨g, cap4, h0, _⟩
            · exact absurd h0 hne
            · rw [hlen4] at h0; exact ⟨g, cap4, h0⟩
          clear hlen4
          obtain ⟨g, cap4, rfl⟩ := hshape
          have hrow : ∀ b, v.ownBlock = some b → w.heap.size + 4 ≤ b := fun b h => (HO.out.block b h).1
          have hblk2 : w4.heap[w.heap.size + 3]? = some (.cells #[.int .i64 r, v] 24 (0, 0)) :=
            (hg4.block _ (by simp; omega) (fun e => by have := hrow _ e.symm; omega)).trans ((Below.heap_alloc _ _ _ (by omega)).trans HW33.out)
          have e20 : w4.cell? ⟨w.heap.size + 3, 0, none⟩ = some (.int .i64 r) := by simp [World.cell?, hblk2]
          have e21 : w4.cell? ⟨w.heap.size + 3, 1, none⟩ = some v := by simp [World.cell?, hblk2]
          have g21 : w4.frozen? ⟨w.heap.size + 3, 1, none⟩ = false := by simp [World.frozen?, hblk2]
          have HBLK2 := Lib.hid hblk2
          have HO4 := Lib.hid ho4
          have HB4 := Lib.hid (((HG3.out.mono (show w.heap.size + 3 ≤ wr.heap.size by omega)).trans ((grow_alloc w3 _).mono (show w.heap.size + 3 ≤ w3.heap.size by omega))).trans (below_of_grown hg4 (by simp; omega) fun b h => by have := hrow b h; omega))
          clear hblk2 ho4 hg4 hv4 hne hrow
          go_wp2_with fail
          have r1 : Hid ((w4.setCell ⟨w.heap.size + 3, 1, none⟩ (.slice (some ⟨g, 0, none⟩) (k + 1) cap4)).heap[w.heap.size + 3]? = some (.cells #[.int .i64 r, .slice (some ⟨g, 0, none⟩) (k + 1) cap4] 24 (0, 0))) := by
            have := HBLK2.out
            show _ = _
            simp only [World.setCell, Array.getElem?_modify, this]
            simp
          have r2 : Hid (Own (From (w.heap.size + 4)) (w.heap.size + 4) 24 2 RepTm (w4.setCell ⟨w.heap.size + 3, 1, none⟩ (.slice (some ⟨g, 0, none⟩) (k + 1) cap4)) (.slice (some ⟨g, 0, none⟩) (k + 1) cap4) (L.take (k + 1))) := by
            show Own _ _ _ _ _ _ _ _
            rw [HTK.out]
            exact HO4.out.set keptTm (by show w.heap.size + 3 < _; omega) (by unfold From; show ¬ _ ≤ w.heap.size + 3; omega) _
          have r3 : Hid (Below (w.heap.size + 3) W (w4.setCell ⟨w.heap.size + 3, 1, none⟩ (.slice (some ⟨g, 0, none⟩) (k + 1) cap4))) := (hbl.out.trans HB4.out).setCell (by show _ ≤ w.heap.size + 3; omega) _
          go_roundw
          case rel =>
            (repeat apply Exists.intro)
            exact ⟨⟨k + 1, .slice (some ⟨g, 0, none⟩) (k + 1) cap4, by omega, by go_num, r1, r2, r3⟩, rfl⟩
          case measure => simp [intOf]; omega
      · have h0 : k = L.length := by omega
        subst h0
        have ho' := ho.out
        rw [List.take_length] at ho'
        have hshape : ∃ B' n cap4, v = .slice B' n cap4 := by
          rcases ho'.form with ⟨h0, _⟩ | ⟨g, cap4, h0, _⟩
          · exact ⟨_, _, _, h0⟩
          · exact ⟨_, _, _, h0⟩
        obtain ⟨B', n4, cap4, rfl⟩ := hshape
        have HO := Lib.hid ho'
        clear ho'
        go_wp2_with fail
        refine bodyPost_ret (v := .agg #[.int .i64 r, .slice B' n4 cap4]) (by simp [results, Try.results42, go_sem, c20, c21, f20, f21, c30, c31]) rfl ?_
        have hT : TmV (From (w.heap.size + 4)) wr (.agg #[.int .i64 r, .slice B' n4 cap4]) (.mk r L) := TmV.of HR.out (HO.out.rep keptTm)
        refine ⟨_, rfl, TmV.mono (TmV.keep (TmV.keep hT (Same.set _ ?_)) (Same.set _ ?_)) (From.mono (by omega)), ?_⟩
        · show ¬ w.heap.size + 4 ≤ w.heap.size + 2; omega
        · show ¬ w.heap.size + 4 ≤ w.heap.size + 2; omega
        · exact ((hWg.trans (hbl.out.mono (by omega))).setCell (by show _ ≤ w.heap.size + 2; omega) _).setCell (by show _ ≤ w.heap.size + 2; omega) _
end Go.Proofs.Ytkimcgcbdfkobaa
