/- Replace of the specification. -/
import Derived.Test.YtkimcgcbdfkobaaPathO
set_option linter.unusedVariables false
set_option linter.unusedSimpArgs false
namespace Go.Proofs.Ytkimcgcbdfkobaa
open Go Go.RowKit
local notation "LATE" => (13 : Nat)

/-- a term in new blocks, none of which is this one -/
def SEP (B : Nat) (ob : Option Nat) (w : World) (v : Value) (t : Tm) : Prop := TmV (fun b => B ≤ b ∧ b < w.heap.size ∧ ob ≠ some b) w v t
theorem SEP.keep {B : Nat} {ob : Option Nat} {w w' : World} {v : Value} {t : Tm} (h : SEP B ob w v t) (hb : Grow w w') : SEP B ob w' v t :=
  (TmV.keep h (Same.of_grow hb)).mono fun b hb' => ⟨hb'.1, Nat.lt_of_lt_of_le hb'.2.1 hb.size, hb'.2.2⟩
theorem SEP.obs {B b : Nat} {w w' : World} {v : Value} {t : Tm} (h : SEP B none w v t) (hb : Grow w w') (hle : w.heap.size ≤ b) : SEP B (some b) w' v t :=
  (TmV.keep h (Same.of_grow hb)).mono fun c hc => ⟨hc.1, Nat.lt_of_lt_of_le hc.2.1 hb.size, fun e => by have := Option.some.inj e; have := hc.2.1; omega⟩
def TEP (B : Nat) (ob : Option Nat) (w : World) (v : Value) (t : Tm) (e : Int) : Prop := ∃ tv, v = .tuple #[tv, .int .i64 e] ∧ SEP B ob w tv t
theorem TEP.keep {B : Nat} {ob : Option Nat} {w w' : World} {v : Value} {t : Tm} {e : Int} (h : TEP B ob w v t e) (hb : Grow w w') : TEP B ob w' v t e := let ⟨tv, h1, h2⟩ := h; ⟨tv, h1, h2.keep hb⟩
theorem TEP.obs {B b : Nat} {w w' : World} {v : Value} {t : Tm} {e : Int} (h : TEP B none w v t e) (hb : Grow w w') (hle : w.heap.size ≤ b) : TEP B (some b) w' v t e := let ⟨tv, h1, h2⟩ := h; ⟨tv, h1, h2.obs hb hle⟩
theorem rel_tep {f : FuncId} {args : Array Value} {w : World} {t : Tm} {e : Int} {B : Nat} {ob : Option Nat} {hG : ∀ v ob w w', TEP B ob w v t e → Below w.heap.size w w' → TEP B ob w' v t e} {hO : ∀ v w w' b, TEP B none w v t e → Below w.heap.size w w' → w.heap.size ≤ b → TEP B (some b) w' v t e}
    (hB : B ≤ w.heap.size) (ho : RR.ObOk ob w) (h : Calls Try.prog f args w (RetTE w t e)) : Calls Try.prog f args w (RetBy (RR.StepOk (.rel (fun v ob w => TEP B ob w v t e) hG hO) ob w)) :=
  h.mono fun en w' ⟨v, he, hr, hb⟩ => ⟨_, he, hb, v, rfl, hr.bound.mono fun b hb' => ⟨Nat.le_trans hB hb'.1, hb'.2, fun e => by have h1 := ho b e; have h2 : w.heap.size ≤ b := hb'.1; omega⟩⟩
/-- a new box -/
def BOXP (B b : Nat) (v : Value) (w : World) : Prop := v = .pointer (some ⟨b, 0, none⟩) ∧ B ≤ b ∧ w.heap[b]? = some (.cells #[.int .i64 0, .slice none 0 0] 24 (0, 0))
theorem BOXP.keep {B b : Nat} {w w' : World} {v : Value} (h : BOXP B b v w) (hb : Grow w w') : BOXP B b v w' := by
  obtain ⟨h1, h2, h5⟩ := h
  refine ⟨h1, h2, ?_⟩
  rw [hb.block b (by
    rcases Nat.lt_or_ge b w.heap.size with h | h
    · exact h
    · simp [Array.getElem?_eq_none h] at h5)]
  exact h5

set_option maxHeartbeats 4000000 in
theorem refreplace_any : ∀ (p : List Int) (t x : Tm) (v u s : Value) (w : World), TmV Any w v t → Ints Any w u p → TmV Any w s x → t.size ≤ 1000000 → x.size ≤ 1000000 → p.length ≤ 1000000 →
    Calls Try.prog 29 #[v, u, s] w (RetTE w (rpT p t x) (eP p t)) := by
  intro p
  induction p with
  | nil =>
    intro t x v u s w hv hu hx hs hsx hpl
    have HX := Lib.hid hx
    obtain ⟨A, cap, rfl, hr, hc, hm, -⟩ := hv.shape
    obtain ⟨B, cu, rfl, hcu1, hcu2, -⟩ := hu.form
    obtain ⟨X, cx, rfl, hxr, hxc, hxm, -⟩ := hx.shape
    clear hv hu hx
    generalize t.args.length = n0 at *
    generalize t.rule = r at *
    generalize hnx : x.args.length = nx at *
    generalize hxr0 : x.rule = xr at *
    have hWg : Grow w (((w.alloc (.cells #[.int .i64 r, .slice A n0 cap] 24)).alloc (.cells #[.int .i64 xr, .slice X nx cx] 24)).alloc (.cells #[.int .i64 0, .slice none 0 0] 24)) := Below.step (Below.step (grow_alloc (w) (.cells #[.int .i64 r, .slice A n0 cap] 24)) (grow_alloc (w.alloc (.cells #[.int .i64 r, .slice A n0 cap] 24)) (.cells #[.int .i64 xr, .slice X nx cx] 24))) (grow_alloc ((w.alloc (.cells #[.int .i64 r, .slice A n0 cap] 24)).alloc (.cells #[.int .i64 xr, .slice X nx cx] 24)) (.cells #[.int .i64 0, .slice none 0 0] 24))
    have hsz : (((w.alloc (.cells #[.int .i64 r, .slice A n0 cap] 24)).alloc (.cells #[.int .i64 xr, .slice X nx cx] 24)).alloc (.cells #[.int .i64 0, .slice none 0 0] 24)).heap.size = w.heap.size + 3 := by simp
    have q0 : (((w.alloc (.cells #[.int .i64 r, .slice A n0 cap] 24)).alloc (.cells #[.int .i64 xr, .slice X nx cx] 24)).alloc (.cells #[.int .i64 0, .slice none 0 0] 24)).heap[w.heap.size]? = some (.cells #[.int .i64 r, .slice A n0 cap] 24 (0, 0)) := by
      rw [Below.heap_alloc _ _ _ (by simp <;> omega), Below.heap_alloc _ _ _ (by simp)]
      have := heap_alloc_new (w) (.cells #[.int .i64 r, .slice A n0 cap] 24)
      simpa using this
    have q1 : (((w.alloc (.cells #[.int .i64 r, .slice A n0 cap] 24)).alloc (.cells #[.int .i64 xr, .slice X nx cx] 24)).alloc (.cells #[.int .i64 0, .slice none 0 0] 24)).heap[w.heap.size + 1]? = some (.cells #[.int .i64 xr, .slice X nx cx] 24 (0, 0)) := by
      rw [Below.heap_alloc _ _ _ (by simp)]
      have := heap_alloc_new (w.alloc (.cells #[.int .i64 r, .slice A n0 cap] 24)) (.cells #[.int .i64 xr, .slice X nx cx] 24)
      simpa using this
    have q2 : (((w.alloc (.cells #[.int .i64 r, .slice A n0 cap] 24)).alloc (.cells #[.int .i64 xr, .slice X nx cx] 24)).alloc (.cells #[.int .i64 0, .slice none 0 0] 24)).heap[w.heap.size + 2]? = some (.cells #[.int .i64 0, .slice none 0 0] 24 (0, 0)) := by
      have := heap_alloc_new ((w.alloc (.cells #[.int .i64 r, .slice A n0 cap] 24)).alloc (.cells #[.int .i64 xr, .slice X nx cx] 24)) (.cells #[.int .i64 0, .slice none 0 0] 24)
      simpa using this
    go_enter Try.func29, Try.ntmps29
    go_wp2_with (go_at_call 40; refine Hold.stop ?_)
    generalize hWd : ((w.alloc (.cells #[.int .i64 r, .slice A n0 cap] 24)).alloc (.cells #[.int .i64 xr, .slice X nx cx] 24)).alloc (.cells #[.int .i64 0, .slice none 0 0] 24) = W at *
    clear hWd
    have c00 : W.cell? ⟨w.heap.size, 0, none⟩ = some (.int .i64 r) := by simp [World.cell?, q0]
    have c01 : W.cell? ⟨w.heap.size, 1, none⟩ = some (.slice A n0 cap) := by simp [World.cell?, q0]
    have f00 : W.frozen? ⟨w.heap.size, 0, none⟩ = false := by simp [World.frozen?, q0]
    have f01 : W.frozen? ⟨w.heap.size, 1, none⟩ = false := by simp [World.frozen?, q0]
    have c10 : W.cell? ⟨w.heap.size + 1, 0, none⟩ = some (.int .i64 xr) := by simp [World.cell?, q1]
    have c11 : W.cell? ⟨w.heap.size + 1, 1, none⟩ = some (.slice X nx cx) := by simp [World.cell?, q1]
    have f10 : W.frozen? ⟨w.heap.size + 1, 0, none⟩ = false := by simp [World.frozen?, q1]
    have f11 : W.frozen? ⟨w.heap.size + 1, 1, none⟩ = false := by simp [World.frozen?, q1]
    have c20 : W.cell? ⟨w.heap.size + 2, 0, none⟩ = some (.int .i64 0) := by simp [World.cell?, q2]
    have c21 : W.cell? ⟨w.heap.size + 2, 1, none⟩ = some (.slice none 0 0) := by simp [World.cell?, q2]
    have f20 : W.frozen? ⟨w.heap.size + 2, 0, none⟩ = false := by simp [World.frozen?, q2]
    have f21 : W.frozen? ⟨w.heap.size + 2, 1, none⟩ = false := by simp [World.frozen?, q2]
    have hzr : w.heap.size + 2 < W.heap.size := cell_lt c20
    clear q0 q1 q2 hsz
    refine Hold.go ?_
    refine (refclone_any x _ _ (HX.out.keep (Same.of_grow hWg)) hsx).mono ?_
    rintro e w2 ⟨v2, rfl, h2, hb2⟩
    refine Hold.stop ?_
    have e20 := (Below.cell hb2 hzr).trans c20
    have e21 := (Below.cell hb2 hzr).trans c21
    have g20 := (Below.frozen hb2 (p := ⟨w.heap.size + 2, 0, none⟩) hzr).trans f20
    have g21 := (Below.frozen hb2 (p := ⟨w.heap.size + 2, 1, none⟩) hzr).trans f21
    obtain ⟨A2, c2, rfl, -⟩ := h2.shape
    have H2 := Lib.hid h2
    have HB2 := Lib.hid hb2
    clear h2 hb2
    refine Hold.go ?_
    go_wp2_with fail
    refine bodyPost_ret (v := .tuple #[.agg #[.int .i64 x.rule, .slice A2 x.args.length c2], .int .i64 0]) (by simp [results, Try.results29, go_sem, e20, e21, g20, g21, hxr0, hnx]) rfl ?_
    refine ⟨_, rfl, TmV.mono (TmV.keep (TmV.keep H2.out (Same.set _ ?_)) (Same.set _ ?_)) (From.mono (by omega)), ?_⟩
    · show ¬ _ ≤ w.heap.size + 2; omega
    · show ¬ _ ≤ w.heap.size + 2; omega
    · exact ((hWg.trans (HB2.out.mono (by omega))).setCell (by show _ ≤ w.heap.size + 2; omega) _).setCell (by show _ ≤ w.heap.size + 2; omega) _
  | cons n p ih =>
    intro t x v u s w hv hu hx hs hsx hpl
    have HV := Lib.hid (hv.bound.mono (S' := Lt w.heap.size) fun b hb => hb.2)
    have HX := Lib.hid hx
    obtain ⟨A, cap, rfl, hr, hc, hm, -⟩ := hv.shape
    obtain ⟨X, cx, rfl, hxr, hxc, hxm, -⟩ := hx.shape
    obtain ⟨B, cu, rfl, hcu1, hcu2, hg⟩ := (hu.bound.mono (S' := Lt w.heap.size) fun b hb => hb.2).form
    have HU := Lib.hid hu
    obtain ⟨⟨hn1, hn2⟩, b, o, hB, hbb, hcn⟩ := hg 0 (by simp)
    simp only [Nat.add_zero, List.getElem_cons_zero] at hcn hn1 hn2
    simp only [List.length_cons] at hpl hcu1 HU
    have hlp : (n :: p).length = p.length + 1 := rfl
    rw [hlp]
    have IH := Lib.hid ih
    clear hv hu hx hg ih
    generalize hn0 : t.args.length = n0 at *
    generalize htr : t.rule = r at *
    have HTR := Lib.hid htr
    generalize hnx : x.args.length = nx at *
    generalize hxr0 : x.rule = xr at *
    clear htr
    have hWg : Grow w (((w.alloc (.cells #[.int .i64 r, .slice A n0 cap] 24)).alloc (.cells #[.int .i64 xr, .slice X nx cx] 24)).alloc (.cells #[.int .i64 0, .slice none 0 0] 24)) := Below.step (Below.step (grow_alloc (w) (.cells #[.int .i64 r, .slice A n0 cap] 24)) (grow_alloc (w.alloc (.cells #[.int .i64 r, .slice A n0 cap] 24)) (.cells #[.int .i64 xr, .slice X nx cx] 24))) (grow_alloc ((w.alloc (.cells #[.int .i64 r, .slice A n0 cap] 24)).alloc (.cells #[.int .i64 xr, .slice X nx cx] 24)) (.cells #[.int .i64 0, .slice none 0 0] 24))
    have hsz : (((w.alloc (.cells #[.int .i64 r, .slice A n0 cap] 24)).alloc (.cells #[.int .i64 xr, .slice X nx cx] 24)).alloc (.cells #[.int .i64 0, .slice none 0 0] 24)).heap.size = w.heap.size + 3 := by simp
    have q0 : (((w.alloc (.cells #[.int .i64 r, .slice A n0 cap] 24)).alloc (.cells #[.int .i64 xr, .slice X nx cx] 24)).alloc (.cells #[.int .i64 0, .slice none 0 0] 24)).heap[w.heap.size]? = some (.cells #[.int .i64 r, .slice A n0 cap] 24 (0, 0)) := by
      rw [Below.heap_alloc _ _ _ (by simp <;> omega), Below.heap_alloc _ _ _ (by simp)]
      have := heap_alloc_new (w) (.cells #[.int .i64 r, .slice A n0 cap] 24)
      simpa using this
    have q1 : (((w.alloc (.cells #[.int .i64 r, .slice A n0 cap] 24)).alloc (.cells #[.int .i64 xr, .slice X nx cx] 24)).alloc (.cells #[.int .i64 0, .slice none 0 0] 24)).heap[w.heap.size + 1]? = some (.cells #[.int .i64 xr, .slice X nx cx] 24 (0, 0)) := by
      rw [Below.heap_alloc _ _ _ (by simp)]
      have := heap_alloc_new (w.alloc (.cells #[.int .i64 r, .slice A n0 cap] 24)) (.cells #[.int .i64 xr, .slice X nx cx] 24)
      simpa using this
    have q2 : (((w.alloc (.cells #[.int .i64 r, .slice A n0 cap] 24)).alloc (.cells #[.int .i64 xr, .slice X nx cx] 24)).alloc (.cells #[.int .i64 0, .slice none 0 0] 24)).heap[w.heap.size + 2]? = some (.cells #[.int .i64 0, .slice none 0 0] 24 (0, 0)) := by
      have := heap_alloc_new ((w.alloc (.cells #[.int .i64 r, .slice A n0 cap] 24)).alloc (.cells #[.int .i64 xr, .slice X nx cx] 24)) (.cells #[.int .i64 0, .slice none 0 0] 24)
      simpa using this
    go_enter Try.func29, Try.ntmps29
    have hcut : ∀ w, (Instr.slice 29 (.slice B (p.length + 1) cu) (some (.int .i64 1)) none none).run Try.prog w = .ok (.slice (cutAt B cu 1 1) p.length (cu - 1)) w := run_cut Try.underlying29 size_int B (p.length + 1) cu 1 (by omega)
    subst hB
    go_wp2_with fail
    generalize hWd : ((w.alloc (.cells #[.int .i64 r, .slice A n0 cap] 24)).alloc (.cells #[.int .i64 xr, .slice X nx cx] 24)).alloc (.cells #[.int .i64 0, .slice none 0 0] 24) = W at *
    clear hWd
    have c00 : W.cell? ⟨w.heap.size, 0, none⟩ = some (.int .i64 r) := by simp [World.cell?, q0]
    have c01 : W.cell? ⟨w.heap.size, 1, none⟩ = some (.slice A n0 cap) := by simp [World.cell?, q0]
    have f00 : W.frozen? ⟨w.heap.size, 0, none⟩ = false := by simp [World.frozen?, q0]
    have f01 : W.frozen? ⟨w.heap.size, 1, none⟩ = false := by simp [World.frozen?, q0]
    have c10 : W.cell? ⟨w.heap.size + 1, 0, none⟩ = some (.int .i64 xr) := by simp [World.cell?, q1]
    have c11 : W.cell? ⟨w.heap.size + 1, 1, none⟩ = some (.slice X nx cx) := by simp [World.cell?, q1]
    have f10 : W.frozen? ⟨w.heap.size + 1, 0, none⟩ = false := by simp [World.frozen?, q1]
    have f11 : W.frozen? ⟨w.heap.size + 1, 1, none⟩ = false := by simp [World.frozen?, q1]
    have c20 : W.cell? ⟨w.heap.size + 2, 0, none⟩ = some (.int .i64 0) := by simp [World.cell?, q2]
    have c21 : W.cell? ⟨w.heap.size + 2, 1, none⟩ = some (.slice none 0 0) := by simp [World.cell?, q2]
    have f20 : W.frozen? ⟨w.heap.size + 2, 0, none⟩ = false := by simp [World.frozen?, q2]
    have f21 : W.frozen? ⟨w.heap.size + 2, 1, none⟩ = false := by simp [World.frozen?, q2]
    have hz2 : w.heap.size + 2 < W.heap.size := cell_lt c20
    have hz1 : w.heap.size + 1 < W.heap.size := cell_lt c10
    have hz0 : w.heap.size < W.heap.size := cell_lt c00
    have hcnW := (hWg.cell (p := ⟨b, o, none⟩) (by unfold Lt at hbb; exact hbb)).trans hcn
    have hbW : b < W.heap.size := cell_lt hcnW
    have HVW := Lib.hid (HV.out.keep (Same.of_grow hWg))
    have HUW := Lib.hid (HU.out.keep (Same.of_grow hWg))
    have HXW := Lib.hid (HX.out.keep (Same.of_grow hWg))
    clear q0 q1 q2 hcn hsz
    have hk0 : (0 : Int) < (p.length : Int) + 1 := by omega
    by_cases hin : 0 ≤ n ∧ n < n0
    · obtain ⟨hi0, hi1⟩ := hin
      have hd0 : decide (n < 0) = false := by rw [decide_eq_false_iff_not]; omega
      have hd1 : decide ((n0 : Int) ≤ n) = false := by rw [decide_eq_false_iff_not]; omega
      have HOKP := Lib.hid (okP_in (n := n) (p := p) (t := t) hi0 (by omega))
      have HPUT := Lib.hid (show put (n :: p) t x = .mk t.rule (t.args.set n.toNat (put p (t.arg n) x)) from rfl)
      obtain ⟨j, hj⟩ : ∃ j : Nat, n = j := ⟨n.toNat, by omega⟩
      subst hj
      simp only [Int.toNat_natCast] at HPUT
      have hjl : j < t.args.length := by omega
      obtain ⟨-, -, hl⟩ := HVW.out.agg_eq
      obtain ⟨b2, o2, A', n', c', rfl, hbb2, d1, d2, hve⟩ := hl.get hjl
      have HSZ2 := Lib.hid (show (t.arg (j : Int)).size < t.size from arg_size (by omega) (by omega))
      have HAG := Lib.hid (arg_get (t := t) rfl hjl)
      obtain ⟨-, rfl, -⟩ := hve.agg_eq
      clear hl
      rw [← HAG.out] at d1 d2 hve
      have HVE := Lib.hid (hve.mono (S' := Any) fun _ _ => trivial)
      have hbw2 : b2 < W.heap.size := cell_lt d1
      have HPD := Lib.hid (RepSl.drop' HUW.out (k := 1) (by simp))
      simp only [List.drop_succ_cons, List.drop_zero, Nat.add_sub_cancel] at HPD
      clear hve
      generalize t.arg (j : Int) = y at *
      generalize y.rule = yr' at *
      have hw1 : IntKind.i64.wrap (j : Int) = j := IntWalk.i64_in _ (by omega)
      generalize hcA : cutAt (some ⟨b, o, none⟩) cu 1 1 = CA at *
      clear hcA
      refine wp_region_rel (fun w' => Grow (W) w') (by kernel_rfl) (grow_drew _) (fun a b h k => Below.step h k) ?_
      apply Exists.intro
      constructor
      repeat (first | (apply rel_det; rfl; intro w1 hC1 hF1; obtain ⟨hc1, hf1⟩ := bcell hC1; go_simp; (first | exact ⟨Below.refl _ _, rfl⟩ | fail); intro K hK; go_simp; refine hK _ ?_; clear hK K) | (apply rel_skip; rfl; intro K hK; go_simp; refine hK _ ?_; clear hK K))
      refine rel_nil (fun w2 hC2 hF2 => ?_)
      refine wpList_nil ?_
      rotate_left
      kernel_rfl
      have c00q := (Below.cell hC2 hz0).trans c00
      have c01q := (Below.cell hC2 hz0).trans c01
      have c10q := (Below.cell hC2 hz1).trans c10
      have c11q := (Below.cell hC2 hz1).trans c11
      have c20q := (Below.cell hC2 hz2).trans c20
      have c21q := (Below.cell hC2 hz2).trans c21
      have f20q := (Below.frozen hC2 (p := ⟨w.heap.size + 2, 0, none⟩) hz2).trans f20
      have f21q := (Below.frozen hC2 (p := ⟨w.heap.size + 2, 1, none⟩) hz2).trans f21
      have hcnq := (Below.cell hC2 hbW).trans hcnW
      have d1q := (Below.cell hC2 (by exact hbw2)).trans d1
      have d2q := (Below.cell hC2 (by exact hbw2)).trans d2
      have HVEq := Lib.hid (HVE.out.keep (Same.of_grow hC2))
      have HVq := Lib.hid (HVW.out.keep (Same.of_grow hC2))
      have HXq := Lib.hid (HXW.out.keep (Same.of_grow hC2))
      have HPDq := Lib.hid (Ints.keep HPD.out (Same.of_grow hC2))
      have hWq := Below.step hWg hC2
      clear hF2 hC2 hWg c00 c01 c10 c11 c20 c21 f00 f01 f10 f11 f20 f21 hcnW d1 d2 HVE HPD hz0 hz1 hz2 hbW hbw2 HVW HUW HXW
      generalize w2 = wq at *
      have hz2 : w.heap.size + 2 < wq.heap.size := cell_lt c20q
      have hz1 : w.heap.size + 1 < wq.heap.size := cell_lt c10q
      have hz0 : w.heap.size < wq.heap.size := cell_lt c00q
      have hbW : b < wq.heap.size := cell_lt hcnq
      have hbw2 : b2 < wq.heap.size := cell_lt d1q
      go_wp2_with fail
      refine RR.wp_region_rel LATE (fun w' => Grow (wq) w') (by kernel_rfl) (grow_drew _) (fun a b h k => Below.step h k) ?_
      apply Exists.intro
      constructor
      iterate 10 (first | (apply RR.rel_det; rfl; intro w1 ob1 hC1 hO1 hF1; obtain ⟨hc1, hf1⟩ := bcell hC1; go_simp; (first | exact ⟨Below.refl _ _, rfl⟩ | fail); intro K hK; go_simp; refine hK _ ?_; clear hK K) | (apply RR.rel_skip; rfl; intro K hK; go_simp; refine hK _ ?_; clear hK K))
      apply RR.rel_some (G := fun v ob w' => TEP wq.heap.size ob w' v (rpT p y x) (eP p y)) (hG := fun v ob w w' h hb => h.keep hb) (hO := fun v w w' b h hb hle => h.obs hb hle)
      · rfl
      · intro w1 ob1 hC1 hO1 hF1; obtain ⟨hc1, hf1⟩ := bcell hC1; go_simp; (go_at_call 29; exact rel_tep hC1.size hO1 (IH.out y x _ _ _ _ (HVEq.out.keep (Same.of_grow hC1)) (Ints.keep HPDq.out (Same.of_grow hC1)) (HXq.out.keep (Same.of_grow hC1)) (by have := HSZ2.out; omega) hsx (by omega)))
      intro vt K hK; go_simp; refine hK _ ?_; clear hK K
      apply RR.rel_some (G := fun v ob w' => TEP wq.heap.size ob w' v (rpT p y x) (eP p y)) (hG := fun v ob w w' h hb => h.keep hb) (hO := fun v w w' b h hb hle => h.obs hb hle)
      · rfl
      · intro w1 ob1 hC1 hO1 hF1
        have HTV := Lib.hid (hF1 10 rfl : TEP wq.heap.size ob1 w1 vt (rpT p y x) (eP p y))
        clear hF1
        go_simp
        exact ⟨Below.refl _ _, HTV.out⟩
      intro v30 K hK; go_simp; refine hK _ ?_; clear hK K
      apply RR.rel_some (G := fun v ob w' => SEP wq.heap.size ob w' v (rpT p y x)) (hG := fun v ob w w' h hb => h.keep hb) (hO := fun v w w' b h hb hle => h.obs hb hle)
      · rfl
      · intro w1 ob1 hC1 hO1 hF1
        obtain ⟨tv, rfl, htv⟩ := (hF1 11 rfl : TEP wq.heap.size ob1 w1 v30 (rpT p y x) (eP p y))
        have HTV := Lib.hid htv
        clear htv hF1
        go_simp
        exact ⟨Below.refl _ _, HTV.out⟩
      intro v42 K hK; go_simp; refine hK _ ?_; clear hK K
      apply RR.rel_det (c := .int .i64 (eP p y))
      · rfl
      · intro w1 ob1 hC1 hO1 hF1
        obtain ⟨tv, rfl, htv⟩ := (hF1 11 rfl : TEP wq.heap.size ob1 w1 v30 (rpT p y x) (eP p y))
        clear htv hF1
        go_simp
        exact ⟨Below.refl _ _, rfl⟩
      intro K hK; go_simp; refine hK _ ?_; clear hK K
      apply RR.rel_new (G := fun b v w' => BOXP wq.heap.size b v w') (hG := fun b v w w' h hb => h.keep hb)
      · rfl
      · intro w1 ob1 hC1 hO1 hF1
        clear hF1
        go_simp
        exact ⟨grow_alloc _ _, w1.heap.size, Nat.le_refl _, by simp, rfl, hC1.size, heap_alloc_new _ _⟩
      intro v8 K hK; go_simp; refine hK _ ?_; clear hK K
      refine RR.rel_nil (fun w2 ob hC2 hO2 hF2 => ?_)
      rotate_left
      exact ⟨by kernel_rfl, rfl, _, rfl⟩
      obtain ⟨b8, rfl, rfl, hb8, hblk⟩ := (hF2 14 : ∃ b, ob = some b ∧ BOXP wq.heap.size b v8 w2)
      obtain ⟨tv30, rfl, -⟩ := (hF2 11 : TEP wq.heap.size (some b8) w2 v30 (rpT p y x) (eP p y))
      have hzT := (hF2 12 : SEP wq.heap.size (some b8) w2 v42 (rpT p y x))
      obtain ⟨Az, cz, rfl, -⟩ := hzT.shape
      have k80 : w2.cell? ⟨b8, 0, none⟩ = some (.int .i64 0) := by simp [World.cell?, hblk]
      have k81 : w2.cell? ⟨b8, 1, none⟩ = some (.slice none 0 0) := by simp [World.cell?, hblk]
      have kf0 : w2.frozen? ⟨b8, 0, none⟩ = false := by simp [World.frozen?, hblk]
      have kf1 : w2.frozen? ⟨b8, 1, none⟩ = false := by simp [World.frozen?, hblk]
      generalize hz : rpT p y x = z at *
      have HZ := Lib.hid hz
      generalize z.rule = zr at *
      generalize z.args.length = zn at *
      generalize hev : eP p y = e at *
      have HEV := Lib.hid hev
      have HZT := Lib.hid hzT
      have HBLK := Lib.hid hblk
      have HC2 := Lib.hid hC2
      clear hzT hblk hF2 hO2 hz hev hC2
      refine ⟨?_, fun o rest q old hl hq K hK => ?_⟩
      · go_upto_region 6 with fail
        have hG3 : Grow wq ((w2.setCell ⟨b8, 0, none⟩ (.int .i64 zr)).setCell ⟨b8, 1, none⟩ (.slice Az zn cz)) := (HC2.out.setCell (by show _ ≤ b8; omega) _).setCell (by show _ ≤ b8; omega) _
        have hw3h : SEP wq.heap.size (some b8) ((w2.setCell ⟨b8, 0, none⟩ (.int .i64 zr)).setCell ⟨b8, 1, none⟩ (.slice Az zn cz)) (.agg #[.int .i64 zr, .slice Az zn cz]) z := by
          unfold SEP
          rw [show ((w2.setCell ⟨b8, 0, none⟩ (.int .i64 zr)).setCell ⟨b8, 1, none⟩ (.slice Az zn cz)).heap.size = w2.heap.size by simp [World.setCell]]
          exact (TmV.keep HZT.out (Same.set _ fun h => h.2.2 rfl)).keep (Same.set _ fun h => h.2.2 rfl)
        have hw3b : ((w2.setCell ⟨b8, 0, none⟩ (.int .i64 zr)).setCell ⟨b8, 1, none⟩ (.slice Az zn cz)).heap[b8]? = some (.cells #[.int .i64 zr, .slice Az zn cz] 24 (0, 0)) := by
          have := HBLK.out
          simp only [World.setCell, Array.getElem?_modify, this]
          simp
        have hw3s : ((w2.setCell ⟨b8, 0, none⟩ (.int .i64 zr)).setCell ⟨b8, 1, none⟩ (.slice Az zn cz)).heap.size = w2.heap.size := by simp [World.setCell]
        generalize hw3e : (w2.setCell ⟨b8, 0, none⟩ (.int .i64 zr)).setCell ⟨b8, 1, none⟩ (.slice Az zn cz) = w3 at *
        clear hw3e
        have e80 : w3.cell? ⟨b8, 0, none⟩ = some (.int .i64 zr) := by simp [World.cell?, hw3b]
        have e81 : w3.cell? ⟨b8, 1, none⟩ = some (.slice Az zn cz) := by simp [World.cell?, hw3b]
        have HW3H := Lib.hid hw3h
        have HW3S := Lib.hid hw3s
        have hG := Below.step hWq hG3
        have e00 := (Below.cell hG3 hz0).trans c00q
        have e01 := (Below.cell hG3 hz0).trans c01q
        have e20 := (Below.cell hG3 hz2).trans c20q
        have e21 := (Below.cell hG3 hz2).trans c21q
        have g20 := (Below.frozen hG3 (p := ⟨w.heap.size + 2, 0, none⟩) hz2).trans f20q
        have g21 := (Below.frozen hG3 (p := ⟨w.heap.size + 2, 1, none⟩) hz2).trans f21q
        have e30 := (Below.cell hG3 hbW).trans hcnq
        have HV3 := Lib.hid (HVq.out.keep (Same.of_grow hG3))
        have HG3 := Lib.hid hG3
        clear hw3b hw3h hw3s k80 k81 kf0 kf1 c00q c01q c10q c11q c20q c21q f20q f21q hcnq d1q d2q hcut
        by_cases hok : okP p y = true
        · have he : e = 0 := by rw [← HEV.out]; exact eP_ok hok
          subst he
          have hzp : put p y x = z := by rw [← rpT_ok hok]; exact HZ.out
          have HR := Lib.hid (show rpT ((j : Int) :: p) t x = .mk t.rule (t.args.set j z) by rw [rpT_ok (by rw [HOKP.out]; exact hok), HPUT.out, hzp])
          have HE := Lib.hid (show eP ((j : Int) :: p) t = 0 from eP_ok (by rw [HOKP.out]; exact hok))
          clear hok hzp
          go_wp2_with (go_at_call 40; refine Hold.stop ?_)
          refine Hold.go ?_
          refine (refclone_own t _ _ (HV3.out.mono (S' := Any) fun _ _ => trivial) hs).mono ?_
          rintro e w4 ⟨Ac, na, ca, rfl, hri, how, hb4⟩
          refine Hold.stop ?_
          obtain ⟨g, rfl, rfl, hg1, hg2⟩ : ∃ g, Ac = some ⟨g, 0, none⟩ ∧ na = n0 ∧ w3.heap.size ≤ g ∧ g < w4.heap.size := by
            rcases how.form with ⟨_, h1⟩ | ⟨g, cap5, h0, h1, h2, _⟩
            · rw [h1] at hjl; simp at hjl
            · injection h0 with h3 h4 h5
              exact ⟨g, h3, h4.trans hn0, h1, h2⟩
          generalize t.rule = rr at *
          have HRI := Lib.hid hri
          have HOW := Lib.hid how
          have hz3 : w.heap.size + 2 < w3.heap.size := cell_lt e20
          have hz0' : w.heap.size < w3.heap.size := cell_lt e00
          have hb3' : b < w3.heap.size := cell_lt e30
          have hb8' : b8 < w3.heap.size := cell_lt e80
          have HB4 := Lib.hid hb4
          clear how hri hb4
          refine Hold.go ?_
          go_wp2_with fail
          have hb5 : Grow w3 (w4.alloc (.cells #[.int .i64 rr, .slice (some ⟨g, 0, none⟩) na ca] 24)) := Below.step HB4.out (grow_alloc _ _)
          have hblk5 := heap_alloc_new w4 (.cells #[.int .i64 rr, .slice (some ⟨g, 0, none⟩) na ca] 24)
          have how5 := HOW.out.grow keptTm (grow_alloc w4 (.cells #[.int .i64 rr, .slice (some ⟨g, 0, none⟩) na ca] 24))
          have hs5 : w4.heap.size < (w4.alloc (.cells #[.int .i64 rr, .slice (some ⟨g, 0, none⟩) na ca] 24)).heap.size := by simp
          generalize hW5 : w4.alloc (.cells #[.int .i64 rr, .slice (some ⟨g, 0, none⟩) na ca] 24) = w5 at *
          clear hW5
          have k0 : w5.cell? ⟨w4.heap.size, 0, none⟩ = some (.int .i64 rr) := by simp [World.cell?, hblk5]
          have k1 : w5.cell? ⟨w4.heap.size, 1, none⟩ = some (.slice (some ⟨g, 0, none⟩) na ca) := by simp [World.cell?, hblk5]
          have k30 := (Below.cell hb5 hb3').trans e30
          have k80 := (Below.cell hb5 hb8').trans e80
          have k81 := (Below.cell hb5 hb8').trans e81
          have hbl3 : b < w5.heap.size := cell_lt k30
          have hbl8 : b8 < w5.heap.size := cell_lt k80
          have HOW5 := Lib.hid how5
          have HB5 := Lib.hid hb5
          have HBK5 := Lib.hid hblk5
          clear how5 hb5 hblk5
          refine wp_region_rel (fun w' => Grow (w5) w') (by kernel_rfl) (grow_drew _) (fun a b h k => Below.step h k) ?_
          apply Exists.intro
          constructor
          iterate 7 (first | (apply rel_det; rfl; intro w1 hC1 hF1; obtain ⟨hc1, hf1⟩ := bcell hC1; go_simp; (first | exact ⟨Below.refl _ _, rfl⟩ | fail); intro K hK; go_simp; refine hK _ ?_; clear hK K) | (apply rel_skip; rfl; intro K hK; go_simp; refine hK _ ?_; clear hK K))
          refine rel_nil (fun w2 hC2 hF2 => ?_)
          rotate_left
          kernel_rfl
          have how6 := HOW5.out.grow keptTm hC2
          obtain ⟨bq, oq, A6, n6, c6, hbq, -, l1, l2, -⟩ := Tms.get (how6.rep keptTm) hjl
          simp only [Option.some.injEq, Addr.mk.injEq] at hbq
          obtain ⟨rfl, rfl, -⟩ := hbq
          simp only [Nat.zero_add] at l1 l2
          have m1 := (how6.free (j * 2)).2
          have m2 := (how6.free (j * 2 + 1)).2
          have HOW6 := Lib.hid how6
          have HB6 := Lib.hid (Below.step HB5.out hC2)
          have HBK6 := Lib.hid ((hC2.block _ hs5).trans HBK5.out)
          clear how6 hC2 hF2
          go_upto_region 10 with fail
          have hG6 : Grow w3 ((w2.setCell ⟨g, j * 2, none⟩ (.int .i64 zr)).setCell ⟨g, j * 2 + 1, none⟩ (.slice Az zn cz)) := (HB6.out.setCell (by show _ ≤ g; omega) _).setCell (by show _ ≤ g; omega) _
          have hT6 : Tms (fun b => w3.heap.size ≤ b ∨ From wq.heap.size b) ((w2.setCell ⟨g, j * 2, none⟩ (.int .i64 zr)).setCell ⟨g, j * 2 + 1, none⟩ (.slice Az zn cz)) (.slice (some ⟨g, 0, none⟩) na ca) (t.args.set j z) :=
            Own.setAt (HOW6.out.weaken keptTm (Nat.le_refl _) (From.mono HG3.out.size)) hjl (((TmV.keep HW3H.out (Same.of_grow HB6.out)).cells).mono fun c hc => ⟨hc.1, fun e => by have := hc.2.1; omega⟩)
          have hB10 : ((w2.setCell ⟨g, j * 2, none⟩ (.int .i64 zr)).setCell ⟨g, j * 2 + 1, none⟩ (.slice Az zn cz)).heap[w4.heap.size]? = some (.cells #[.int .i64 rr, .slice (some ⟨g, 0, none⟩) na ca] 24 (0, 0)) := by
            rw [Below.heap_setCell _ _ _ _ (by show w4.heap.size ≠ g; omega), Below.heap_setCell _ _ _ _ (by show w4.heap.size ≠ g; omega)]
            exact HBK6.out
          generalize hw6e : (w2.setCell ⟨g, j * 2, none⟩ (.int .i64 zr)).setCell ⟨g, j * 2 + 1, none⟩ (.slice Az zn cz) = w6 at *
          clear hw6e l1 l2 m1 m2
          have k0 : w6.cell? ⟨w4.heap.size, 0, none⟩ = some (.int .i64 rr) := by simp [World.cell?, hB10]
          have k1 : w6.cell? ⟨w4.heap.size, 1, none⟩ = some (.slice (some ⟨g, 0, none⟩) na ca) := by simp [World.cell?, hB10]
          have e20' := (Below.cell hG6 hz3).trans e20
          have e21' := (Below.cell hG6 hz3).trans e21
          have g20' := (Below.frozen hG6 (p := ⟨w.heap.size + 2, 0, none⟩) hz3).trans g20
          have g21' := (Below.frozen hG6 (p := ⟨w.heap.size + 2, 1, none⟩) hz3).trans g21
          have HT6 := Lib.hid hT6
          have HG6 := Lib.hid hG6
          clear hB10 hG6 hT6
          go_wp2_with fail
          refine bodyPost_ret (v := .tuple #[.agg #[.int .i64 rr, .slice (some ⟨g, 0, none⟩) na ca], .int .i64 0]) (by simp [results, Try.results29, go_sem, e20', e21', g20', g21']) rfl ?_
          rw [HR.out, HE.out]
          have hT : TmV (fun b => w3.heap.size ≤ b ∨ From wq.heap.size b) w6 (.agg #[.int .i64 rr, .slice (some ⟨g, 0, none⟩) na ca]) (.mk rr (t.args.set j z)) := TmV.of HRI.out HT6.out
          have hS : ∀ a : Addr, a.block = w.heap.size + 2 → ¬ (w3.heap.size ≤ a.block ∨ From wq.heap.size a.block) := fun a ha => by unfold From; omega
          refine ⟨_, rfl, TmV.mono (TmV.keep (TmV.keep hT (Same.set _ (hS _ rfl))) (Same.set _ (hS _ rfl))) (fun c hc => by unfold From at *; omega), ?_⟩
          exact ((Below.step hG HG6.out).setCell (by show _ ≤ w.heap.size + 2; omega) _).setCell (by show _ ≤ w.heap.size + 2; omega) _
        · replace hok : okP p y = false := by simpa using hok
          have he : e = 7 := by rw [← HEV.out]; exact eP_no hok
          subst he
          have HRP := Lib.hid (show rpT ((j : Int) :: p) t x = zT from rpT_no (by rw [HOKP.out]; exact hok))
          have HE := Lib.hid (show eP ((j : Int) :: p) t = 7 from eP_no (by rw [HOKP.out]; exact hok))
          clear hok
          go_wp2_with fail
          refine bodyPost_ret (v := .tuple #[.agg #[.int .i64 0, .slice none 0 0], .int .i64 7]) (by simp [results, Try.results29, go_sem, e20, e21, g20, g21]) rfl ?_
          rw [HRP.out, HE.out]
          exact ⟨_, rfl, tmv_z, (hG.setCell (by show _ ≤ w.heap.size + 2; omega) _).setCell (by show _ ≤ w.heap.size + 2; omega) _⟩
      · cases hl; cases hq; go_simp; refine hK _ ?_; clear hK K
        go_upto_region 6 with fail
        have hG3 : Grow wq ((w2.setCell ⟨b8, 0, none⟩ (.int .i64 zr)).setCell ⟨b8, 1, none⟩ (.slice Az zn cz)) := (HC2.out.setCell (by show _ ≤ b8; omega) _).setCell (by show _ ≤ b8; omega) _
        have hw3h : SEP wq.heap.size (some b8) ((w2.setCell ⟨b8, 0, none⟩ (.int .i64 zr)).setCell ⟨b8, 1, none⟩ (.slice Az zn cz)) (.agg #[.int .i64 zr, .slice Az zn cz]) z := by
          unfold SEP
          rw [show ((w2.setCell ⟨b8, 0, none⟩ (.int .i64 zr)).setCell ⟨b8, 1, none⟩ (.slice Az zn cz)).heap.size = w2.heap.size by simp [World.setCell]]
          exact (TmV.keep HZT.out (Same.set _ fun h => h.2.2 rfl)).keep (Same.set _ fun h => h.2.2 rfl)
        have hw3b : ((w2.setCell ⟨b8, 0, none⟩ (.int .i64 zr)).setCell ⟨b8, 1, none⟩ (.slice Az zn cz)).heap[b8]? = some (.cells #[.int .i64 zr, .slice Az zn cz] 24 (0, 0)) := by
          have := HBLK.out
          simp only [World.setCell, Array.getElem?_modify, this]
          simp
        have hw3s : ((w2.setCell ⟨b8, 0, none⟩ (.int .i64 zr)).setCell ⟨b8, 1, none⟩ (.slice Az zn cz)).heap.size = w2.heap.size := by simp [World.setCell]
        generalize hw3e : (w2.setCell ⟨b8, 0, none⟩ (.int .i64 zr)).setCell ⟨b8, 1, none⟩ (.slice Az zn cz) = w3 at *
        clear hw3e
        have e80 : w3.cell? ⟨b8, 0, none⟩ = some (.int .i64 zr) := by simp [World.cell?, hw3b]
        have e81 : w3.cell? ⟨b8, 1, none⟩ = some (.slice Az zn cz) := by simp [World.cell?, hw3b]
        have HW3H := Lib.hid hw3h
        have HW3S := Lib.hid hw3s
        have hG := Below.step hWq hG3
        have e00 := (Below.cell hG3 hz0).trans c00q
        have e01 := (Below.cell hG3 hz0).trans c01q
        have e20 := (Below.cell hG3 hz2).trans c20q
        have e21 := (Below.cell hG3 hz2).trans c21q
        have g20 := (Below.frozen hG3 (p := ⟨w.heap.size + 2, 0, none⟩) hz2).trans f20q
        have g21 := (Below.frozen hG3 (p := ⟨w.heap.size + 2, 1, none⟩) hz2).trans f21q
        have e30 := (Below.cell hG3 hbW).trans hcnq
        have HV3 := Lib.hid (HVq.out.keep (Same.of_grow hG3))
        have HG3 := Lib.hid hG3
        clear hw3b hw3h hw3s k80 k81 kf0 kf1 c00q c01q c10q c11q c20q c21q f20q f21q hcnq d1q d2q hcut
        by_cases hok : okP p y = true
        · have he : e = 0 := by rw [← HEV.out]; exact eP_ok hok
          subst he
          have hzp : put p y x = z := by rw [← rpT_ok hok]; exact HZ.out
          have HR := Lib.hid (show rpT ((j : Int) :: p) t x = .mk t.rule (t.args.set j z) by rw [rpT_ok (by rw [HOKP.out]; exact hok), HPUT.out, hzp])
          have HE := Lib.hid (show eP ((j : Int) :: p) t = 0 from eP_ok (by rw [HOKP.out]; exact hok))
          clear hok hzp
          go_wp2_with (go_at_call 40; refine Hold.stop ?_)
          refine Hold.go ?_
          refine (refclone_own t _ _ (HV3.out.mono (S' := Any) fun _ _ => trivial) hs).mono ?_
          rintro e w4 ⟨Ac, na, ca, rfl, hri, how, hb4⟩
          refine Hold.stop ?_
          obtain ⟨g, rfl, rfl, hg1, hg2⟩ : ∃ g, Ac = some ⟨g, 0, none⟩ ∧ na = n0 ∧ w3.heap.size ≤ g ∧ g < w4.heap.size := by
            rcases how.form with ⟨_, h1⟩ | ⟨g, cap5, h0, h1, h2, _⟩
            · rw [h1] at hjl; simp at hjl
            · injection h0 with h3 h4 h5
              exact ⟨g, h3, h4.trans hn0, h1, h2⟩
          generalize t.rule = rr at *
          have HRI := Lib.hid hri
          have HOW := Lib.hid how
          have hz3 : w.heap.size + 2 < w3.heap.size := cell_lt e20
          have hz0' : w.heap.size < w3.heap.size := cell_lt e00
          have hb3' : b < w3.heap.size := cell_lt e30
          have hb8' : b8 < w3.heap.size := cell_lt e80
          have HB4 := Lib.hid hb4
          clear how hri hb4
          refine Hold.go ?_
          go_wp2_with fail
          have hb5 : Grow w3 (w4.alloc (.cells #[.int .i64 rr, .slice (some ⟨g, 0, none⟩) na ca] 24)) := Below.step HB4.out (grow_alloc _ _)
          have hblk5 := heap_alloc_new w4 (.cells #[.int .i64 rr, .slice (some ⟨g, 0, none⟩) na ca] 24)
          have how5 := HOW.out.grow keptTm (grow_alloc w4 (.cells #[.int .i64 rr, .slice (some ⟨g, 0, none⟩) na ca] 24))
          have hs5 : w4.heap.size < (w4.alloc (.cells #[.int .i64 rr, .slice (some ⟨g, 0, none⟩) na ca] 24)).heap.size := by simp
          generalize hW5 : w4.alloc (.cells #[.int .i64 rr, .slice (some ⟨g, 0, none⟩) na ca] 24) = w5 at *
          clear hW5
          have k0 : w5.cell? ⟨w4.heap.size, 0, none⟩ = some (.int .i64 rr) := by simp [World.cell?, hblk5]
          have k1 : w5.cell? ⟨w4.heap.size, 1, none⟩ = some (.slice (some ⟨g, 0, none⟩) na ca) := by simp [World.cell?, hblk5]
          have k30 := (Below.cell hb5 hb3').trans e30
          have k80 := (Below.cell hb5 hb8').trans e80
          have k81 := (Below.cell hb5 hb8').trans e81
          have hbl3 : b < w5.heap.size := cell_lt k30
          have hbl8 : b8 < w5.heap.size := cell_lt k80
          have HOW5 := Lib.hid how5
          have HB5 := Lib.hid hb5
          have HBK5 := Lib.hid hblk5
          clear how5 hb5 hblk5
          refine wp_region_rel (fun w' => Grow (w5) w') (by kernel_rfl) (grow_drew _) (fun a b h k => Below.step h k) ?_
          apply Exists.intro
          constructor
          iterate 7 (first | (apply rel_det; rfl; intro w1 hC1 hF1; obtain ⟨hc1, hf1⟩ := bcell hC1; go_simp; (first | exact ⟨Below.refl _ _, rfl⟩ | fail); intro K hK; go_simp; refine hK _ ?_; clear hK K) | (apply rel_skip; rfl; intro K hK; go_simp; refine hK _ ?_; clear hK K))
          refine rel_nil (fun w2 hC2 hF2 => ?_)
          rotate_left
          kernel_rfl
          have how6 := HOW5.out.grow keptTm hC2
          obtain ⟨bq, oq, A6, n6, c6, hbq, -, l1, l2, -⟩ := Tms.get (how6.rep keptTm) hjl
          simp only [Option.some.injEq, Addr.mk.injEq] at hbq
          obtain ⟨rfl, rfl, -⟩ := hbq
          simp only [Nat.zero_add] at l1 l2
          have m1 := (how6.free (j * 2)).2
          have m2 := (how6.free (j * 2 + 1)).2
          have HOW6 := Lib.hid how6
          have HB6 := Lib.hid (Below.step HB5.out hC2)
          have HBK6 := Lib.hid ((hC2.block _ hs5).trans HBK5.out)
          clear how6 hC2 hF2
          go_upto_region 10 with fail
          have hG6 : Grow w3 ((w2.setCell ⟨g, j * 2, none⟩ (.int .i64 zr)).setCell ⟨g, j * 2 + 1, none⟩ (.slice Az zn cz)) := (HB6.out.setCell (by show _ ≤ g; omega) _).setCell (by show _ ≤ g; omega) _
          have hT6 : Tms (fun b => w3.heap.size ≤ b ∨ From wq.heap.size b) ((w2.setCell ⟨g, j * 2, none⟩ (.int .i64 zr)).setCell ⟨g, j * 2 + 1, none⟩ (.slice Az zn cz)) (.slice (some ⟨g, 0, none⟩) na ca) (t.args.set j z) :=
            Own.setAt (HOW6.out.weaken keptTm (Nat.le_refl _) (From.mono HG3.out.size)) hjl (((TmV.keep HW3H.out (Same.of_grow HB6.out)).cells).mono fun c hc => ⟨hc.1, fun e => by have := hc.2.1; omega⟩)
          have hB10 : ((w2.setCell ⟨g, j * 2, none⟩ (.int .i64 zr)).setCell ⟨g, j * 2 + 1, none⟩ (.slice Az zn cz)).heap[w4.heap.size]? = some (.cells #[.int .i64 rr, .slice (some ⟨g, 0, none⟩) na ca] 24 (0, 0)) := by
            rw [Below.heap_setCell _ _ _ _ (by show w4.heap.size ≠ g; omega), Below.heap_setCell _ _ _ _ (by show w4.heap.size ≠ g; omega)]
            exact HBK6.out
          generalize hw6e : (w2.setCell ⟨g, j * 2, none⟩ (.int .i64 zr)).setCell ⟨g, j * 2 + 1, none⟩ (.slice Az zn cz) = w6 at *
          clear hw6e l1 l2 m1 m2
          have k0 : w6.cell? ⟨w4.heap.size, 0, none⟩ = some (.int .i64 rr) := by simp [World.cell?, hB10]
          have k1 : w6.cell? ⟨w4.heap.size, 1, none⟩ = some (.slice (some ⟨g, 0, none⟩) na ca) := by simp [World.cell?, hB10]
          have e20' := (Below.cell hG6 hz3).trans e20
          have e21' := (Below.cell hG6 hz3).trans e21
          have g20' := (Below.frozen hG6 (p := ⟨w.heap.size + 2, 0, none⟩) hz3).trans g20
          have g21' := (Below.frozen hG6 (p := ⟨w.heap.size + 2, 1, none⟩) hz3).trans g21
          have HT6 := Lib.hid hT6
          have HG6 := Lib.hid hG6
          clear hB10 hG6 hT6
          go_wp2_with fail
          refine bodyPost_ret (v := .tuple #[.agg #[.int .i64 rr, .slice (some ⟨g, 0, none⟩) na ca], .int .i64 0]) (by simp [results, Try.results29, go_sem, e20', e21', g20', g21']) rfl ?_
          rw [HR.out, HE.out]
          have hT : TmV (fun b => w3.heap.size ≤ b ∨ From wq.heap.size b) w6 (.agg #[.int .i64 rr, .slice (some ⟨g, 0, none⟩) na ca]) (.mk rr (t.args.set j z)) := TmV.of HRI.out HT6.out
          have hS : ∀ a : Addr, a.block = w.heap.size + 2 → ¬ (w3.heap.size ≤ a.block ∨ From wq.heap.size a.block) := fun a ha => by unfold From; omega
          refine ⟨_, rfl, TmV.mono (TmV.keep (TmV.keep hT (Same.set _ (hS _ rfl))) (Same.set _ (hS _ rfl))) (fun c hc => by unfold From at *; omega), ?_⟩
          exact ((Below.step hG HG6.out).setCell (by show _ ≤ w.heap.size + 2; omega) _).setCell (by show _ ≤ w.heap.size + 2; omega) _
        · replace hok : okP p y = false := by simpa using hok
          have he : e = 7 := by rw [← HEV.out]; exact eP_no hok
          subst he
          have HRP := Lib.hid (show rpT ((j : Int) :: p) t x = zT from rpT_no (by rw [HOKP.out]; exact hok))
          have HE := Lib.hid (show eP ((j : Int) :: p) t = 7 from eP_no (by rw [HOKP.out]; exact hok))
          clear hok
          go_wp2_with fail
          refine bodyPost_ret (v := .tuple #[.agg #[.int .i64 0, .slice none 0 0], .int .i64 7]) (by simp [results, Try.results29, go_sem, e20, e21, g20, g21]) rfl ?_
          rw [HRP.out, HE.out]
          exact ⟨_, rfl, tmv_z, (hG.setCell (by show _ ≤ w.heap.size + 2; omega) _).setCell (by show _ ≤ w.heap.size + 2; omega) _⟩
    · have hd : n < 0 ∨ (0 ≤ n ∧ (n0 : Int) ≤ n) := by omega
      have hno : okP (n :: p) t = false := okP_out (by omega)
      have HE := Lib.hid (eP_no hno)
      have HRP := Lib.hid (rpT_no (x := x) hno)
      clear hno hin
      rcases hd with hd | ⟨hd0, hd⟩
      · have hd0 : decide (n < 0) = true := by rw [decide_eq_true_eq]; omega
        refine wp_region_rel (fun w' => Grow (W) w') (by kernel_rfl) (grow_drew _) (fun a b h k => Below.step h k) ?_
        apply Exists.intro
        constructor
        repeat (first | (apply rel_det; rfl; intro w1 hC1 hF1; obtain ⟨hc1, hf1⟩ := bcell hC1; go_simp; (first | exact ⟨Below.refl _ _, rfl⟩ | fail); intro K hK; go_simp; refine hK _ ?_; clear hK K) | (apply rel_skip; rfl; intro K hK; go_simp; refine hK _ ?_; clear hK K))
        refine rel_nil (fun w2 hC2 hF2 => ?_)
        refine wpList_nil ?_
        rotate_left
        kernel_rfl
        have e20 := (Below.cell hC2 hz2).trans c20
        have e21 := (Below.cell hC2 hz2).trans c21
        have g20 := (Below.frozen hC2 (p := ⟨w.heap.size + 2, 0, none⟩) hz2).trans f20
        have g21 := (Below.frozen hC2 (p := ⟨w.heap.size + 2, 1, none⟩) hz2).trans f21
        go_wp2_with fail
        refine bodyPost_ret (v := .tuple #[.agg #[.int .i64 0, .slice none 0 0], .int .i64 7]) (by simp [results, Try.results29, go_sem, e20, e21, g20, g21]) rfl ?_
        rw [HRP.out, HE.out]
        exact ⟨_, rfl, tmv_z, ((Below.step hWg hC2).setCell (by show _ ≤ w.heap.size + 2; omega) _).setCell (by show _ ≤ w.heap.size + 2; omega) _⟩
      · have hd1 : decide (n < 0) = false := by rw [decide_eq_false_iff_not]; omega
        have hd2 : decide ((n0 : Int) ≤ n) = true := by rw [decide_eq_true_eq]; omega
        refine wp_region_rel (fun w' => Grow (W) w') (by kernel_rfl) (grow_drew _) (fun a b h k => Below.step h k) ?_
        apply Exists.intro
        constructor
        repeat (first | (apply rel_det; rfl; intro w1 hC1 hF1; obtain ⟨hc1, hf1⟩ := bcell hC1; go_simp; (first | exact ⟨Below.refl _ _, rfl⟩ | fail); intro K hK; go_simp; refine hK _ ?_; clear hK K) | (apply rel_skip; rfl; intro K hK; go_simp; refine hK _ ?_; clear hK K))
        refine rel_nil (fun w2 hC2 hF2 => ?_)
        refine wpList_nil ?_
        rotate_left
        kernel_rfl
        have e20 := (Below.cell hC2 hz2).trans c20
        have e21 := (Below.cell hC2 hz2).trans c21
        have g20 := (Below.frozen hC2 (p := ⟨w.heap.size + 2, 0, none⟩) hz2).trans f20
        have g21 := (Below.frozen hC2 (p := ⟨w.heap.size + 2, 1, none⟩) hz2).trans f21
        go_wp2_with fail
        refine bodyPost_ret (v := .tuple #[.agg #[.int .i64 0, .slice none 0 0], .int .i64 7]) (by simp [results, Try.results29, go_sem, e20, e21, g20, g21]) rfl ?_
        rw [HRP.out, HE.out]
        exact ⟨_, rfl, tmv_z, ((Below.step hWg hC2).setCell (by show _ ≤ w.heap.size + 2; omega) _).setCell (by show _ ≤ w.heap.size + 2; omega) _⟩
end Go.Proofs.Ytkimcgcbdfkobaa
