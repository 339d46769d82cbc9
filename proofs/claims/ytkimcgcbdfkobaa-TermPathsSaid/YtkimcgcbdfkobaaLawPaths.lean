/- The law TermPaths holds for every pair of terms and every path.
   Conditions: none beyond the given statement's own. -/
import Derived.Test.YtkimcgcbdfkobaaPathS
import Derived.Test.YtkimcgcbdfkobaaSmall
import Derived.Test.YtkimcgcbdfkobaaOrd
import Derived.Test.YtkimcgcbdfkobaaOpenTm
import Derived.Test.YtkimcgcbdfkobaaOpenLang
set_option linter.unusedVariables false
set_option linter.unusedSimpArgs false
namespace Go.Proofs.Ytkimcgcbdfkobaa
open Go Go.RowKit

set_option maxHeartbeats 8000000 in
theorem paths_walk (t0 t1 : Tm) (p : List Int) (v0 vp v1 : Value) (w : World) (hv0 : TmV Any w v0 t0) (hp : Ints Any w vp p) (hv1 : TmV Any w v1 t1) :
    Calls Try.prog 8 #[v0, vp, v1] w fun e w' => e = .returned (.bool true) ∧ Grow w w' := by
  have HSM := Lib.hid (show smallB [t0, t1] = (withinB t0 40 && withinB t1 40) by simp [smallB])
  have HP := Lib.hid hp
  obtain ⟨Ap, cp, rfl, hcp1, hcp2, -⟩ := hp.form
  clear hp
  have HV0 := Lib.hid hv0
  obtain ⟨r0, l0, hsr0⟩ : ∃ r l, t0 = .mk r l := ⟨t0.rule, t0.args, by cases t0; rfl⟩
  rw [hsr0] at hv0
  obtain ⟨A0, cap0, rfl, hr0, hc0, hm0, hl0⟩ := hv0.form
  have HSR0 := Lib.hid hsr0
  clear hv0 hl0 hsr0
  have HV1 := Lib.hid hv1
  obtain ⟨r1, l1, hsr1⟩ : ∃ r l, t1 = .mk r l := ⟨t1.rule, t1.args, by cases t1; rfl⟩
  rw [hsr1] at hv1
  obtain ⟨A1, cap1, rfl, hr1, hc1, hm1, hl1⟩ := hv1.form
  have HSR1 := Lib.hid hsr1
  clear hv1 hl1 hsr1
  have hW : Grow w ((w.alloc (.cells #[.int .i64 r0, .slice A0 l0.length cap0] 24)).alloc (.cells #[.int .i64 r1, .slice A1 l1.length cap1] 24)) := (Below.step (grow_alloc _ _) (grow_alloc _ _))
  have HLIT : Hid (Tms Any (((w.alloc (.cells #[.int .i64 r0, .slice A0 l0.length cap0] 24)).alloc (.cells #[.int .i64 r1, .slice A1 l1.length cap1] 24)).alloc (.cells #[.int .i64 r0, .slice A0 l0.length cap0, .int .i64 r1, .slice A1 l1.length cap1] 24)) (.slice (some ⟨w.heap.size + 2, 0, none⟩) 2 2) [t0, t1]) := by
    have hG : Grow w (((w.alloc (.cells #[.int .i64 r0, .slice A0 l0.length cap0] 24)).alloc (.cells #[.int .i64 r1, .slice A1 l1.length cap1] 24)).alloc (.cells #[.int .i64 r0, .slice A0 l0.length cap0, .int .i64 r1, .slice A1 l1.length cap1] 24)) := Below.step (Below.step (grow_alloc _ _) (grow_alloc _ _)) (grow_alloc _ _)
    have hrep0 := HV0.out.cells.keep (Same.of_grow hG)
    have hrep1 := HV1.out.cells.keep (Same.of_grow hG)
    have hblk := heap_alloc_new ((w.alloc (.cells #[.int .i64 r0, .slice A0 l0.length cap0] 24)).alloc (.cells #[.int .i64 r1, .slice A1 l1.length cap1] 24)) (.cells #[.int .i64 r0, .slice A0 l0.length cap0, .int .i64 r1, .slice A1 l1.length cap1] 24)
    simp only [World.size_alloc, Nat.add_assoc, Nat.reduceAdd] at hblk
    exact sl_lit [[.int .i64 r0, .slice A0 l0.length cap0], [.int .i64 r1, .slice A1 l1.length cap1]] [t0, t1] hblk rfl trivial (by simp) rfl (by simp)
      (fun i cs x hi hx => by
        match i, hi, hx with
        | 0, hi, hx => cases hi; cases hx; exact hrep0
        | 1, hi, hx => cases hi; cases hx; exact hrep1
        | k + 2, hi, _ => simp at hi)
  go_enter Try.func8, Try.ntmps8
  by_cases hw : (withinB t0 40 && withinB t1 40) = true
  · have hw2 := hw
    simp only [Bool.and_eq_true] at hw2
    have hsz0 : t0.size ≤ 40 := by have := of_decide_eq_true hw2.1; omega
    have hsz1 : t1.size ≤ 40 := by have := of_decide_eq_true hw2.2; omega
    clear hw2
    go_wp2_with (go_at_call 9; refine (small_any _ _ _ HLIT.out).mono ?_; rintro e w1 ⟨rfl, hb1⟩; rw [HSM.out, hw]; refine Hold.stop ?_)
    have hG1 : Grow ((w.alloc (.cells #[.int .i64 r0, .slice A0 l0.length cap0] 24)).alloc (.cells #[.int .i64 r1, .slice A1 l1.length cap1] 24)) w1 := Below.step (grow_alloc _ _) hb1
    have HV0' := Lib.hid (HV0.out.keep (Same.of_grow (Below.step hW hG1)))
    have HV1' := Lib.hid (HV1.out.keep (Same.of_grow (Below.step hW hG1)))
    have HP' := Lib.hid (Ints.keep HP.out (Same.of_grow (Below.step hW hG1)))
    have HW := Lib.hid (Below.step hW hG1)
    have zz : w.heap.size + 1 < ((w.alloc (.cells #[.int .i64 r0, .slice A0 l0.length cap0] 24)).alloc (.cells #[.int .i64 r1, .slice A1 l1.length cap1] 24)).heap.size := by simp
    have zz0 : w.heap.size < ((w.alloc (.cells #[.int .i64 r0, .slice A0 l0.length cap0] 24)).alloc (.cells #[.int .i64 r1, .slice A1 l1.length cap1] 24)).heap.size := by simp <;> omega
    have kt0 : w1.cell? ⟨w.heap.size, 0, none⟩ = some (.int .i64 r0) := by rw [Below.cell hG1 zz0]; simp
    have kt1 : w1.cell? ⟨w.heap.size, 1, none⟩ = some (.slice A0 l0.length cap0) := by rw [Below.cell hG1 zz0]; simp
    have kx0 : w1.cell? ⟨w.heap.size + 1, 0, none⟩ = some (.int .i64 r1) := by rw [Below.cell hG1 zz]; simp
    have kx1 : w1.cell? ⟨w.heap.size + 1, 1, none⟩ = some (.slice A1 l1.length cap1) := by rw [Below.cell hG1 zz]; simp
    have ktz : w.heap.size < w1.heap.size := cell_lt kt0
    have kxz : w.heap.size + 1 < w1.heap.size := cell_lt kx0
    clear HV0 HV1 HP hb1 hG1 zz zz0 HLIT hW HSR0 HSR1 HSM hw
    have Ht := HV0'
    have Hx := HV1'
    have HP := HP'
    clear HV0' HV1' HP'
    generalize l0.length = n0 at *
    generalize l1.length = n1 at *
    refine Hold.go ?_
    by_cases hpl : p.length ≤ 20
    · have hd20 : decide ((20 : Int) < (p.length : Int)) = false := by rw [decide_eq_false_iff_not]; omega
      go_wp2_with (go_at_call 26; refine Hold.stop ?_)
      obtain ⟨za, hza⟩ : ∃ za, za = atT p t0 := ⟨_, rfl⟩
      obtain ⟨zc, hzc⟩ : ∃ zc, zc = rpT p t0 t1 := ⟨_, rfl⟩
      have HZA := Lib.hid hza.symm
      have HZC := Lib.hid hzc.symm
      have hsa : za.size ≤ 1000000 := by rw [hza]; have := atT_size p t0; omega
      have hsc : zc.size ≤ 1000000 := by
        rw [hzc]; unfold rpT; split
        · have := putT_size p t0 t1 (by assumption); omega
        · simp [zT, Tm.size, Tm.sizeL]
      have HCA := Lib.hid (cmpT_self za)
      have HCC := Lib.hid (cmpT_self zc)
      have HCX := Lib.hid (cmpT_self t1)
      have HCT := Lib.hid (cmpT_self t0)
      clear hza hzc
      by_cases hok : okP p t0 = true
      · have HE := Lib.hid (eP_ok hok)
        have hput : zc = put p t0 t1 := by rw [← HZC.out]; exact rpT_ok hok
        have HY1 := Lib.hid (show atT p zc = t1 by rw [hput]; exact put_atT t1 hok)
        have hok2 : okP p zc = true := by rw [hput]; exact put_okP t1 hok
        have HY2 := Lib.hid (eP_ok hok2)
        have HZ1 := Lib.hid (show rpT p zc za = t0 by rw [rpT_ok hok2, hput, ← HZA.out]; exact put_back p t0 t1 hok)
        clear hok hok2 hput
        refine Hold.go ?_
        refine (at_any p t0 _ _ _ Ht.out HP.out (by omega) (by omega)).mono ?_
        rintro e ua ⟨va, rfl, ha, hba⟩
        rw [HE.out]
        rw [HZA.out] at ha
        obtain ⟨Aa, ca, rfl, -⟩ := ha.shape
        generalize za.rule = ra at *
        generalize za.args.length = na at *
        have Ha := Lib.hid (ha.mono (S' := Any) fun _ _ => trivial)
        have HBa := Lib.hid hba
        clear ha hba
        have ktx0 := (Below.cell HBa.out ktz).trans kt0
        have ktx1 := (Below.cell HBa.out ktz).trans kt1
        have kxx0 := (Below.cell HBa.out kxz).trans kx0
        have kxx1 := (Below.cell HBa.out kxz).trans kx1
        clear kt0 kt1 ktz
        have kt0 := ktx0
        have kt1 := ktx1
        clear ktx0 ktx1
        have ktz : w.heap.size < ua.heap.size := cell_lt kt0
        have Htn := Lib.hid (Ht.out.keep (Same.of_grow HBa.out))
        clear Ht
        have Ht := Htn
        clear Htn
        clear kx0 kx1 kxz
        have kx0 := kxx0
        have kx1 := kxx1
        clear kxx0 kxx1
        have kxz : w.heap.size + 1 < ua.heap.size := cell_lt kx0
        have Hxn := Lib.hid (Hx.out.keep (Same.of_grow HBa.out))
        clear Hx
        have Hx := Hxn
        clear Hxn
        have HPn := Lib.hid (Ints.keep HP.out (Same.of_grow HBa.out))
        clear HP
        have HP := HPn
        clear HPn
        have HWn := Lib.hid (Below.step HW.out HBa.out)
        clear HW
        have HW := HWn
        clear HWn
        refine Hold.stop ?_
        refine Hold.go ?_
        go_wp2_with (go_at_call 27; refine Hold.stop ?_)
        have hga : Grow ua (ua.alloc (.cells #[.int .i64 ra, .slice Aa na ca] 24)) := grow_alloc _ _
        have ka0 : (ua.alloc (.cells #[.int .i64 ra, .slice Aa na ca] 24)).cell? ⟨ua.heap.size, 0, none⟩ = some (.int .i64 ra) := by simp
        have ka1 : (ua.alloc (.cells #[.int .i64 ra, .slice Aa na ca] 24)).cell? ⟨ua.heap.size, 1, none⟩ = some (.slice Aa na ca) := by simp
        generalize hda : ua.alloc (.cells #[.int .i64 ra, .slice Aa na ca] 24) = Wa at *
        clear hda
        have HGa := Lib.hid hga
        clear hga
        have kaz : ua.heap.size < Wa.heap.size := cell_lt ka0
        have ktx0 := (Below.cell HGa.out ktz).trans kt0
        have ktx1 := (Below.cell HGa.out ktz).trans kt1
        have kxx0 := (Below.cell HGa.out kxz).trans kx0
        have kxx1 := (Below.cell HGa.out kxz).trans kx1
        clear kt0 kt1 ktz
        have kt0 := ktx0
        have kt1 := ktx1
        clear ktx0 ktx1
        have ktz : w.heap.size < Wa.heap.size := cell_lt kt0
        have Htn := Lib.hid (Ht.out.keep (Same.of_grow HGa.out))
        clear Ht
        have Ht := Htn
        clear Htn
        clear kx0 kx1 kxz
        have kx0 := kxx0
        have kx1 := kxx1
        clear kxx0 kxx1
        have kxz : w.heap.size + 1 < Wa.heap.size := cell_lt kx0
        have Hxn := Lib.hid (Hx.out.keep (Same.of_grow HGa.out))
        clear Hx
        have Hx := Hxn
        clear Hxn
        have Han := Lib.hid (Ha.out.keep (Same.of_grow HGa.out))
        clear Ha
        have Ha := Han
        clear Han
        have HPn := Lib.hid (Ints.keep HP.out (Same.of_grow HGa.out))
        clear HP
        have HP := HPn
        clear HPn
        have HWn := Lib.hid (Below.step HW.out HGa.out)
        clear HW
        have HW := HWn
        clear HWn
        refine Hold.go ?_
        refine (refat_any p t0 _ _ _ Ht.out HP.out (by omega) (by omega)).mono ?_
        rintro e ub ⟨vb, rfl, hb, hbb⟩
        rw [HE.out]
        rw [HZA.out] at hb
        obtain ⟨Ab, cb, rfl, -⟩ := hb.shape
        generalize za.rule = rb at *
        generalize za.args.length = nb at *
        have Hb := Lib.hid (hb.mono (S' := Any) fun _ _ => trivial)
        have HBb := Lib.hid hbb
        clear hb hbb
        have ktx0 := (Below.cell HBb.out ktz).trans kt0
        have ktx1 := (Below.cell HBb.out ktz).trans kt1
        have kxx0 := (Below.cell HBb.out kxz).trans kx0
        have kxx1 := (Below.cell HBb.out kxz).trans kx1
        have kax0 := (Below.cell HBb.out kaz).trans ka0
        have kax1 := (Below.cell HBb.out kaz).trans ka1
        clear kt0 kt1 ktz
        have kt0 := ktx0
        have kt1 := ktx1
        clear ktx0 ktx1
        have ktz : w.heap.size < ub.heap.size := cell_lt kt0
        have Htn := Lib.hid (Ht.out.keep (Same.of_grow HBb.out))
        clear Ht
        have Ht := Htn
        clear Htn
        clear kx0 kx1 kxz
        have kx0 := kxx0
        have kx1 := kxx1
        clear kxx0 kxx1
        have kxz : w.heap.size + 1 < ub.heap.size := cell_lt kx0
        have Hxn := Lib.hid (Hx.out.keep (Same.of_grow HBb.out))
        clear Hx
        have Hx := Hxn
        clear Hxn
        clear ka0 ka1 kaz
        have ka0 := kax0
        have ka1 := kax1
        clear kax0 kax1
        have kaz : ua.heap.size < ub.heap.size := cell_lt ka0
        have Han := Lib.hid (Ha.out.keep (Same.of_grow HBb.out))
        clear Ha
        have Ha := Han
        clear Han
        have HPn := Lib.hid (Ints.keep HP.out (Same.of_grow HBb.out))
        clear HP
        have HP := HPn
        clear HPn
        have HWn := Lib.hid (Below.step HW.out HBb.out)
        clear HW
        have HW := HWn
        clear HWn
        refine Hold.stop ?_
        refine Hold.go ?_
        go_wp2_with (go_at_call 28; refine Hold.stop ?_)
        have hgb : Grow ub (ub.alloc (.cells #[.int .i64 rb, .slice Ab nb cb] 24)) := grow_alloc _ _
        have kb0 : (ub.alloc (.cells #[.int .i64 rb, .slice Ab nb cb] 24)).cell? ⟨ub.heap.size, 0, none⟩ = some (.int .i64 rb) := by simp
        have kb1 : (ub.alloc (.cells #[.int .i64 rb, .slice Ab nb cb] 24)).cell? ⟨ub.heap.size, 1, none⟩ = some (.slice Ab nb cb) := by simp
        generalize hdb : ub.alloc (.cells #[.int .i64 rb, .slice Ab nb cb] 24) = Wb at *
        clear hdb
        have HGb := Lib.hid hgb
        clear hgb
        have kbz : ub.heap.size < Wb.heap.size := cell_lt kb0
        have ktx0 := (Below.cell HGb.out ktz).trans kt0
        have ktx1 := (Below.cell HGb.out ktz).trans kt1
        have kxx0 := (Below.cell HGb.out kxz).trans kx0
        have kxx1 := (Below.cell HGb.out kxz).trans kx1
        have kax0 := (Below.cell HGb.out kaz).trans ka0
        have kax1 := (Below.cell HGb.out kaz).trans ka1
        clear kt0 kt1 ktz
        have kt0 := ktx0
        have kt1 := ktx1
        clear ktx0 ktx1
        have ktz : w.heap.size < Wb.heap.size := cell_lt kt0
        have Htn := Lib.hid (Ht.out.keep (Same.of_grow HGb.out))
        clear Ht
        have Ht := Htn
        clear Htn
        clear kx0 kx1 kxz
        have kx0 := kxx0
        have kx1 := kxx1
        clear kxx0 kxx1
        have kxz : w.heap.size + 1 < Wb.heap.size := cell_lt kx0
        have Hxn := Lib.hid (Hx.out.keep (Same.of_grow HGb.out))
        clear Hx
        have Hx := Hxn
        clear Hxn
        clear ka0 ka1 kaz
        have ka0 := kax0
        have ka1 := kax1
        clear kax0 kax1
        have kaz : ua.heap.size < Wb.heap.size := cell_lt ka0
        have Han := Lib.hid (Ha.out.keep (Same.of_grow HGb.out))
        clear Ha
        have Ha := Han
        clear Han
        have Hbn := Lib.hid (Hb.out.keep (Same.of_grow HGb.out))
        clear Hb
        have Hb := Hbn
        clear Hbn
        have HPn := Lib.hid (Ints.keep HP.out (Same.of_grow HGb.out))
        clear HP
        have HP := HPn
        clear HPn
        have HWn := Lib.hid (Below.step HW.out HGb.out)
        clear HW
        have HW := HWn
        clear HWn
        refine Hold.go ?_
        refine (replace_any p t0 t1 _ _ _ _ Ht.out HP.out Hx.out (by omega) (by omega) (by omega)).mono ?_
        rintro e uc ⟨vc, rfl, hc, hbc⟩
        rw [HE.out]
        rw [HZC.out] at hc
        obtain ⟨Ac, cc, rfl, -⟩ := hc.shape
        generalize zc.rule = rc at *
        generalize zc.args.length = nc at *
        have Hc := Lib.hid (hc.mono (S' := Any) fun _ _ => trivial)
        have HBc := Lib.hid hbc
        clear hc hbc
        have ktx0 := (Below.cell HBc.out ktz).trans kt0
        have ktx1 := (Below.cell HBc.out ktz).trans kt1
        have kxx0 := (Below.cell HBc.out kxz).trans kx0
        have kxx1 := (Below.cell HBc.out kxz).trans kx1
        have kax0 := (Below.cell HBc.out kaz).trans ka0
        have kax1 := (Below.cell HBc.out kaz).trans ka1
        have kbx0 := (Below.cell HBc.out kbz).trans kb0
        have kbx1 := (Below.cell HBc.out kbz).trans kb1
        clear kt0 kt1 ktz
        have kt0 := ktx0
        have kt1 := ktx1
        clear ktx0 ktx1
        have ktz : w.heap.size < uc.heap.size := cell_lt kt0
        have Htn := Lib.hid (Ht.out.keep (Same.of_grow HBc.out))
        clear Ht
        have Ht := Htn
        clear Htn
        clear kx0 kx1 kxz
        have kx0 := kxx0
        have kx1 := kxx1
        clear kxx0 kxx1
        have kxz : w.heap.size + 1 < uc.heap.size := cell_lt kx0
        have Hxn := Lib.hid (Hx.out.keep (Same.of_grow HBc.out))
        clear Hx
        have Hx := Hxn
        clear Hxn
        clear ka0 ka1 kaz
        have ka0 := kax0
        have ka1 := kax1
        clear kax0 kax1
        have kaz : ua.heap.size < uc.heap.size := cell_lt ka0
        have Han := Lib.hid (Ha.out.keep (Same.of_grow HBc.out))
        clear Ha
        have Ha := Han
        clear Han
        clear kb0 kb1 kbz
        have kb0 := kbx0
        have kb1 := kbx1
        clear kbx0 kbx1
        have kbz : ub.heap.size < uc.heap.size := cell_lt kb0
        have Hbn := Lib.hid (Hb.out.keep (Same.of_grow HBc.out))
        clear Hb
        have Hb := Hbn
        clear Hbn
        have HPn := Lib.hid (Ints.keep HP.out (Same.of_grow HBc.out))
        clear HP
        have HP := HPn
        clear HPn
        have HWn := Lib.hid (Below.step HW.out HBc.out)
        clear HW
        have HW := HWn
        clear HWn
        refine Hold.stop ?_
        refine Hold.go ?_
        go_wp2_with (go_at_call 29; refine Hold.stop ?_)
        have hgc : Grow uc (uc.alloc (.cells #[.int .i64 rc, .slice Ac nc cc] 24)) := grow_alloc _ _
        have kc0 : (uc.alloc (.cells #[.int .i64 rc, .slice Ac nc cc] 24)).cell? ⟨uc.heap.size, 0, none⟩ = some (.int .i64 rc) := by simp
        have kc1 : (uc.alloc (.cells #[.int .i64 rc, .slice Ac nc cc] 24)).cell? ⟨uc.heap.size, 1, none⟩ = some (.slice Ac nc cc) := by simp
        generalize hdc : uc.alloc (.cells #[.int .i64 rc, .slice Ac nc cc] 24) = Wc at *
        clear hdc
        have HGc := Lib.hid hgc
        clear hgc
        have kcz : uc.heap.size < Wc.heap.size := cell_lt kc0
        have ktx0 := (Below.cell HGc.out ktz).trans kt0
        have ktx1 := (Below.cell HGc.out ktz).trans kt1
        have kxx0 := (Below.cell HGc.out kxz).trans kx0
        have kxx1 := (Below.cell HGc.out kxz).trans kx1
        have kax0 := (Below.cell HGc.out kaz).trans ka0
        have kax1 := (Below.cell HGc.out kaz).trans ka1
        have kbx0 := (Below.cell HGc.out kbz).trans kb0
        have kbx1 := (Below.cell HGc.out kbz).trans kb1
        clear kt0 kt1 ktz
        have kt0 := ktx0
        have kt1 := ktx1
        clear ktx0 ktx1
        have ktz : w.heap.size < Wc.heap.size := cell_lt kt0
        have Htn := Lib.hid (Ht.out.keep (Same.of_grow HGc.out))
        clear Ht
        have Ht := Htn
        clear Htn
        clear kx0 kx1 kxz
        have kx0 := kxx0
        have kx1 := kxx1
        clear kxx0 kxx1
        have kxz : w.heap.size + 1 < Wc.heap.size := cell_lt kx0
        have Hxn := Lib.hid (Hx.out.keep (Same.of_grow HGc.out))
        clear Hx
        have Hx := Hxn
        clear Hxn
        clear ka0 ka1 kaz
        have ka0 := kax0
        have ka1 := kax1
        clear kax0 kax1
        have kaz : ua.heap.size < Wc.heap.size := cell_lt ka0
        have Han := Lib.hid (Ha.out.keep (Same.of_grow HGc.out))
        clear Ha
        have Ha := Han
        clear Han
        clear kb0 kb1 kbz
        have kb0 := kbx0
        have kb1 := kbx1
        clear kbx0 kbx1
        have kbz : ub.heap.size < Wc.heap.size := cell_lt kb0
        have Hbn := Lib.hid (Hb.out.keep (Same.of_grow HGc.out))
        clear Hb
        have Hb := Hbn
        clear Hbn
        have Hcn := Lib.hid (Hc.out.keep (Same.of_grow HGc.out))
        clear Hc
        have Hc := Hcn
        clear Hcn
        have HPn := Lib.hid (Ints.keep HP.out (Same.of_grow HGc.out))
        clear HP
        have HP := HPn
        clear HPn
        have HWn := Lib.hid (Below.step HW.out HGc.out)
        clear HW
        have HW := HWn
        clear HWn
        refine Hold.go ?_
        refine (refreplace_any p t0 t1 _ _ _ _ Ht.out HP.out Hx.out (by omega) (by omega) (by omega)).mono ?_
        rintro e ud ⟨vd, rfl, hd, hbd⟩
        rw [HE.out]
        rw [HZC.out] at hd
        obtain ⟨Ad, cd, rfl, -⟩ := hd.shape
        generalize zc.rule = rd at *
        generalize zc.args.length = nd at *
        have Hd := Lib.hid (hd.mono (S' := Any) fun _ _ => trivial)
        have HBd := Lib.hid hbd
        clear hd hbd
        have ktx0 := (Below.cell HBd.out ktz).trans kt0
        have ktx1 := (Below.cell HBd.out ktz).trans kt1
        have kxx0 := (Below.cell HBd.out kxz).trans kx0
        have kxx1 := (Below.cell HBd.out kxz).trans kx1
        have kax0 := (Below.cell HBd.out kaz).trans ka0
        have kax1 := (Below.cell HBd.out kaz).trans ka1
        have kbx0 := (Below.cell HBd.out kbz).trans kb0
        have kbx1 := (Below.cell HBd.out kbz).trans kb1
        have kcx0 := (Below.cell HBd.out kcz).trans kc0
        have kcx1 := (Below.cell HBd.out kcz).trans kc1
        clear kt0 kt1 ktz
        have kt0 := ktx0
        have kt1 := ktx1
        clear ktx0 ktx1
        have ktz : w.heap.size < ud.heap.size := cell_lt kt0
        have Htn := Lib.hid (Ht.out.keep (Same.of_grow HBd.out))
        clear Ht
        have Ht := Htn
        clear Htn
        clear kx0 kx1 kxz
        have kx0 := kxx0
        have kx1 := kxx1
        clear kxx0 kxx1
        have kxz : w.heap.size + 1 < ud.heap.size := cell_lt kx0
        have Hxn := Lib.hid (Hx.out.keep (Same.of_grow HBd.out))
        clear Hx
        have Hx := Hxn
        clear Hxn
        clear ka0 ka1 kaz
        have ka0 := kax0
        have ka1 := kax1
        clear kax0 kax1
        have kaz : ua.heap.size < ud.heap.size := cell_lt ka0
        have Han := Lib.hid (Ha.out.keep (Same.of_grow HBd.out))
        clear Ha
        have Ha := Han
        clear Han
        clear kb0 kb1 kbz
        have kb0 := kbx0
        have kb1 := kbx1
        clear kbx0 kbx1
        have kbz : ub.heap.size < ud.heap.size := cell_lt kb0
        have Hbn := Lib.hid (Hb.out.keep (Same.of_grow HBd.out))
        clear Hb
        have Hb := Hbn
        clear Hbn
        clear kc0 kc1 kcz
        have kc0 := kcx0
        have kc1 := kcx1
        clear kcx0 kcx1
        have kcz : uc.heap.size < ud.heap.size := cell_lt kc0
        have Hcn := Lib.hid (Hc.out.keep (Same.of_grow HBd.out))
        clear Hc
        have Hc := Hcn
        clear Hcn
        have HPn := Lib.hid (Ints.keep HP.out (Same.of_grow HBd.out))
        clear HP
        have HP := HPn
        clear HPn
        have HWn := Lib.hid (Below.step HW.out HBd.out)
        clear HW
        have HW := HWn
        clear HWn
        refine Hold.stop ?_
        refine Hold.go ?_
        go_wp2_with (go_at_call 18; refine Hold.stop ?_)
        have hgd : Grow ud (ud.alloc (.cells #[.int .i64 rd, .slice Ad nd cd] 24)) := grow_alloc _ _
        have kd0 : (ud.alloc (.cells #[.int .i64 rd, .slice Ad nd cd] 24)).cell? ⟨ud.heap.size, 0, none⟩ = some (.int .i64 rd) := by simp
        have kd1 : (ud.alloc (.cells #[.int .i64 rd, .slice Ad nd cd] 24)).cell? ⟨ud.heap.size, 1, none⟩ = some (.slice Ad nd cd) := by simp
        generalize hdd : ud.alloc (.cells #[.int .i64 rd, .slice Ad nd cd] 24) = Wd at *
        clear hdd
        have HGd := Lib.hid hgd
        clear hgd
        have kdz : ud.heap.size < Wd.heap.size := cell_lt kd0
        have ktx0 := (Below.cell HGd.out ktz).trans kt0
        have ktx1 := (Below.cell HGd.out ktz).trans kt1
        have kxx0 := (Below.cell HGd.out kxz).trans kx0
        have kxx1 := (Below.cell HGd.out kxz).trans kx1
        have kax0 := (Below.cell HGd.out kaz).trans ka0
        have kax1 := (Below.cell HGd.out kaz).trans ka1
        have kbx0 := (Below.cell HGd.out kbz).trans kb0
        have kbx1 := (Below.cell HGd.out kbz).trans kb1
        have kcx0 := (Below.cell HGd.out kcz).trans kc0
        have kcx1 := (Below.cell HGd.out kcz).trans kc1
        clear kt0 kt1 ktz
        have kt0 := ktx0
        have kt1 := ktx1
        clear ktx0 ktx1
        have ktz : w.heap.size < Wd.heap.size := cell_lt kt0
        have Htn := Lib.hid (Ht.out.keep (Same.of_grow HGd.out))
        clear Ht
        have Ht := Htn
        clear Htn
        clear kx0 kx1 kxz
        have kx0 := kxx0
        have kx1 := kxx1
        clear kxx0 kxx1
        have kxz : w.heap.size + 1 < Wd.heap.size := cell_lt kx0
        have Hxn := Lib.hid (Hx.out.keep (Same.of_grow HGd.out))
        clear Hx
        have Hx := Hxn
        clear Hxn
        clear ka0 ka1 kaz
        have ka0 := kax0
        have ka1 := kax1
        clear kax0 kax1
        have kaz : ua.heap.size < Wd.heap.size := cell_lt ka0
        have Han := Lib.hid (Ha.out.keep (Same.of_grow HGd.out))
        clear Ha
        have Ha := Han
        clear Han
        clear kb0 kb1 kbz
        have kb0 := kbx0
        have kb1 := kbx1
        clear kbx0 kbx1
        have kbz : ub.heap.size < Wd.heap.size := cell_lt kb0
        have Hbn := Lib.hid (Hb.out.keep (Same.of_grow HGd.out))
        clear Hb
        have Hb := Hbn
        clear Hbn
        clear kc0 kc1 kcz
        have kc0 := kcx0
        have kc1 := kcx1
        clear kcx0 kcx1
        have kcz : uc.heap.size < Wd.heap.size := cell_lt kc0
        have Hcn := Lib.hid (Hc.out.keep (Same.of_grow HGd.out))
        clear Hc
        have Hc := Hcn
        clear Hcn
        have Hdn := Lib.hid (Hd.out.keep (Same.of_grow HGd.out))
        clear Hd
        have Hd := Hdn
        clear Hdn
        have HPn := Lib.hid (Ints.keep HP.out (Same.of_grow HGd.out))
        clear HP
        have HP := HPn
        clear HPn
        have HWn := Lib.hid (Below.step HW.out HGd.out)
        clear HW
        have HW := HWn
        clear HWn
        refine Hold.go ?_
        refine (refcompare_any za za _ _ _ Ha.out Hb.out hsa hsa).mono ?_
        rintro e ue ⟨rfl, hbe⟩
        rw [HCA.out]
        have HBe := Lib.hid hbe
        clear hbe
        have ktx0 := (Below.cell HBe.out ktz).trans kt0
        have ktx1 := (Below.cell HBe.out ktz).trans kt1
        have kxx0 := (Below.cell HBe.out kxz).trans kx0
        have kxx1 := (Below.cell HBe.out kxz).trans kx1
        have kax0 := (Below.cell HBe.out kaz).trans ka0
        have kax1 := (Below.cell HBe.out kaz).trans ka1
        have kbx0 := (Below.cell HBe.out kbz).trans kb0
        have kbx1 := (Below.cell HBe.out kbz).trans kb1
        have kcx0 := (Below.cell HBe.out kcz).trans kc0
        have kcx1 := (Below.cell HBe.out kcz).trans kc1
        have kdx0 := (Below.cell HBe.out kdz).trans kd0
        have kdx1 := (Below.cell HBe.out kdz).trans kd1
        clear kt0 kt1 ktz
        have kt0 := ktx0
        have kt1 := ktx1
        clear ktx0 ktx1
        have ktz : w.heap.size < ue.heap.size := cell_lt kt0
        have Htn := Lib.hid (Ht.out.keep (Same.of_grow HBe.out))
        clear Ht
        have Ht := Htn
        clear Htn
        clear kx0 kx1 kxz
        have kx0 := kxx0
        have kx1 := kxx1
        clear kxx0 kxx1
        have kxz : w.heap.size + 1 < ue.heap.size := cell_lt kx0
        have Hxn := Lib.hid (Hx.out.keep (Same.of_grow HBe.out))
        clear Hx
        have Hx := Hxn
        clear Hxn
        clear ka0 ka1 kaz
        have ka0 := kax0
        have ka1 := kax1
        clear kax0 kax1
        have kaz : ua.heap.size < ue.heap.size := cell_lt ka0
        have Han := Lib.hid (Ha.out.keep (Same.of_grow HBe.out))
        clear Ha
        have Ha := Han
        clear Han
        clear kb0 kb1 kbz
        have kb0 := kbx0
        have kb1 := kbx1
        clear kbx0 kbx1
        have kbz : ub.heap.size < ue.heap.size := cell_lt kb0
        have Hbn := Lib.hid (Hb.out.keep (Same.of_grow HBe.out))
        clear Hb
        have Hb := Hbn
        clear Hbn
        clear kc0 kc1 kcz
        have kc0 := kcx0
        have kc1 := kcx1
        clear kcx0 kcx1
        have kcz : uc.heap.size < ue.heap.size := cell_lt kc0
        have Hcn := Lib.hid (Hc.out.keep (Same.of_grow HBe.out))
        clear Hc
        have Hc := Hcn
        clear Hcn
        clear kd0 kd1 kdz
        have kd0 := kdx0
        have kd1 := kdx1
        clear kdx0 kdx1
        have kdz : ud.heap.size < ue.heap.size := cell_lt kd0
        have Hdn := Lib.hid (Hd.out.keep (Same.of_grow HBe.out))
        clear Hd
        have Hd := Hdn
        clear Hdn
        have HPn := Lib.hid (Ints.keep HP.out (Same.of_grow HBe.out))
        clear HP
        have HP := HPn
        clear HPn
        have HWn := Lib.hid (Below.step HW.out HBe.out)
        clear HW
        have HW := HWn
        clear HWn
        refine Hold.stop ?_
        refine Hold.go ?_
        go_wp2_with (go_at_call 18; refine Hold.stop ?_)
        refine Hold.go ?_
        refine (refcompare_any zc zc _ _ _ Hc.out Hd.out hsc hsc).mono ?_
        rintro e uf ⟨rfl, hbf⟩
        rw [HCC.out]
        have HBf := Lib.hid hbf
        clear hbf
        have ktx0 := (Below.cell HBf.out ktz).trans kt0
        have ktx1 := (Below.cell HBf.out ktz).trans kt1
        have kxx0 := (Below.cell HBf.out kxz).trans kx0
        have kxx1 := (Below.cell HBf.out kxz).trans kx1
        have kax0 := (Below.cell HBf.out kaz).trans ka0
        have kax1 := (Below.cell HBf.out kaz).trans ka1
        have kbx0 := (Below.cell HBf.out kbz).trans kb0
        have kbx1 := (Below.cell HBf.out kbz).trans kb1
        have kcx0 := (Below.cell HBf.out kcz).trans kc0
        have kcx1 := (Below.cell HBf.out kcz).trans kc1
        have kdx0 := (Below.cell HBf.out kdz).trans kd0
        have kdx1 := (Below.cell HBf.out kdz).trans kd1
        clear kt0 kt1 ktz
        have kt0 := ktx0
        have kt1 := ktx1
        clear ktx0 ktx1
        have ktz : w.heap.size < uf.heap.size := cell_lt kt0
        have Htn := Lib.hid (Ht.out.keep (Same.of_grow HBf.out))
        clear Ht
        have Ht := Htn
        clear Htn
        clear kx0 kx1 kxz
        have kx0 := kxx0
        have kx1 := kxx1
        clear kxx0 kxx1
        have kxz : w.heap.size + 1 < uf.heap.size := cell_lt kx0
        have Hxn := Lib.hid (Hx.out.keep (Same.of_grow HBf.out))
        clear Hx
        have Hx := Hxn
        clear Hxn
        clear ka0 ka1 kaz
        have ka0 := kax0
        have ka1 := kax1
        clear kax0 kax1
        have kaz : ua.heap.size < uf.heap.size := cell_lt ka0
        have Han := Lib.hid (Ha.out.keep (Same.of_grow HBf.out))
        clear Ha
        have Ha := Han
        clear Han
        clear kb0 kb1 kbz
        have kb0 := kbx0
        have kb1 := kbx1
        clear kbx0 kbx1
        have kbz : ub.heap.size < uf.heap.size := cell_lt kb0
        have Hbn := Lib.hid (Hb.out.keep (Same.of_grow HBf.out))
        clear Hb
        have Hb := Hbn
        clear Hbn
        clear kc0 kc1 kcz
        have kc0 := kcx0
        have kc1 := kcx1
        clear kcx0 kcx1
        have kcz : uc.heap.size < uf.heap.size := cell_lt kc0
        have Hcn := Lib.hid (Hc.out.keep (Same.of_grow HBf.out))
        clear Hc
        have Hc := Hcn
        clear Hcn
        clear kd0 kd1 kdz
        have kd0 := kdx0
        have kd1 := kdx1
        clear kdx0 kdx1
        have kdz : ud.heap.size < uf.heap.size := cell_lt kd0
        have Hdn := Lib.hid (Hd.out.keep (Same.of_grow HBf.out))
        clear Hd
        have Hd := Hdn
        clear Hdn
        have HPn := Lib.hid (Ints.keep HP.out (Same.of_grow HBf.out))
        clear HP
        have HP := HPn
        clear HPn
        have HWn := Lib.hid (Below.step HW.out HBf.out)
        clear HW
        have HW := HWn
        clear HWn
        refine Hold.stop ?_
        refine Hold.go ?_
        go_wp2_with (go_at_call 26; refine Hold.stop ?_)
        refine Hold.go ?_
        refine (at_any p zc _ _ _ Hc.out HP.out hsc (by omega)).mono ?_
        rintro e uy ⟨vy, rfl, hy, hby⟩
        rw [HY2.out]
        rw [HY1.out] at hy
        obtain ⟨Ay, cy, rfl, -⟩ := hy.shape
        generalize t1.rule = ry at *
        generalize t1.args.length = ny at *
        have Hy := Lib.hid (hy.mono (S' := Any) fun _ _ => trivial)
        have HBy := Lib.hid hby
        clear hy hby
        have ktx0 := (Below.cell HBy.out ktz).trans kt0
        have ktx1 := (Below.cell HBy.out ktz).trans kt1
        have kxx0 := (Below.cell HBy.out kxz).trans kx0
        have kxx1 := (Below.cell HBy.out kxz).trans kx1
        have kax0 := (Below.cell HBy.out kaz).trans ka0
        have kax1 := (Below.cell HBy.out kaz).trans ka1
        have kbx0 := (Below.cell HBy.out kbz).trans kb0
        have kbx1 := (Below.cell HBy.out kbz).trans kb1
        have kcx0 := (Below.cell HBy.out kcz).trans kc0
        have kcx1 := (Below.cell HBy.out kcz).trans kc1
        have kdx0 := (Below.cell HBy.out kdz).trans kd0
        have kdx1 := (Below.cell HBy.out kdz).trans kd1
        clear kt0 kt1 ktz
        have kt0 := ktx0
        have kt1 := ktx1
        clear ktx0 ktx1
        have ktz : w.heap.size < uy.heap.size := cell_lt kt0
        have Htn := Lib.hid (Ht.out.keep (Same.of_grow HBy.out))
        clear Ht
        have Ht := Htn
        clear Htn
        clear kx0 kx1 kxz
        have kx0 := kxx0
        have kx1 := kxx1
        clear kxx0 kxx1
        have kxz : w.heap.size + 1 < uy.heap.size := cell_lt kx0
        have Hxn := Lib.hid (Hx.out.keep (Same.of_grow HBy.out))
        clear Hx
        have Hx := Hxn
        clear Hxn
        clear ka0 ka1 kaz
        have ka0 := kax0
        have ka1 := kax1
        clear kax0 kax1
        have kaz : ua.heap.size < uy.heap.size := cell_lt ka0
        have Han := Lib.hid (Ha.out.keep (Same.of_grow HBy.out))
        clear Ha
        have Ha := Han
        clear Han
        clear kb0 kb1 kbz
        have kb0 := kbx0
        have kb1 := kbx1
        clear kbx0 kbx1
        have kbz : ub.heap.size < uy.heap.size := cell_lt kb0
        have Hbn := Lib.hid (Hb.out.keep (Same.of_grow HBy.out))
        clear Hb
        have Hb := Hbn
        clear Hbn
        clear kc0 kc1 kcz
        have kc0 := kcx0
        have kc1 := kcx1
        clear kcx0 kcx1
        have kcz : uc.heap.size < uy.heap.size := cell_lt kc0
        have Hcn := Lib.hid (Hc.out.keep (Same.of_grow HBy.out))
        clear Hc
        have Hc := Hcn
        clear Hcn
        clear kd0 kd1 kdz
        have kd0 := kdx0
        have kd1 := kdx1
        clear kdx0 kdx1
        have kdz : ud.heap.size < uy.heap.size := cell_lt kd0
        have Hdn := Lib.hid (Hd.out.keep (Same.of_grow HBy.out))
        clear Hd
        have Hd := Hdn
        clear Hdn
        have HPn := Lib.hid (Ints.keep HP.out (Same.of_grow HBy.out))
        clear HP
        have HP := HPn
        clear HPn
        have HWn := Lib.hid (Below.step HW.out HBy.out)
        clear HW
        have HW := HWn
        clear HWn
        refine Hold.stop ?_
        refine Hold.go ?_
        go_wp2_with (go_at_call 28; refine Hold.stop ?_)
        have hgy : Grow uy (uy.alloc (.cells #[.int .i64 ry, .slice Ay ny cy] 24)) := grow_alloc _ _
        have ky0 : (uy.alloc (.cells #[.int .i64 ry, .slice Ay ny cy] 24)).cell? ⟨uy.heap.size, 0, none⟩ = some (.int .i64 ry) := by simp
        have ky1 : (uy.alloc (.cells #[.int .i64 ry, .slice Ay ny cy] 24)).cell? ⟨uy.heap.size, 1, none⟩ = some (.slice Ay ny cy) := by simp
        generalize hdy : uy.alloc (.cells #[.int .i64 ry, .slice Ay ny cy] 24) = Wy at *
        clear hdy
        have HGy := Lib.hid hgy
        clear hgy
        have kyz : uy.heap.size < Wy.heap.size := cell_lt ky0
        have ktx0 := (Below.cell HGy.out ktz).trans kt0
        have ktx1 := (Below.cell HGy.out ktz).trans kt1
        have kxx0 := (Below.cell HGy.out kxz).trans kx0
        have kxx1 := (Below.cell HGy.out kxz).trans kx1
        have kax0 := (Below.cell HGy.out kaz).trans ka0
        have kax1 := (Below.cell HGy.out kaz).trans ka1
        have kbx0 := (Below.cell HGy.out kbz).trans kb0
        have kbx1 := (Below.cell HGy.out kbz).trans kb1
        have kcx0 := (Below.cell HGy.out kcz).trans kc0
        have kcx1 := (Below.cell HGy.out kcz).trans kc1
        have kdx0 := (Below.cell HGy.out kdz).trans kd0
        have kdx1 := (Below.cell HGy.out kdz).trans kd1
        clear kt0 kt1 ktz
        have kt0 := ktx0
        have kt1 := ktx1
        clear ktx0 ktx1
        have ktz : w.heap.size < Wy.heap.size := cell_lt kt0
        have Htn := Lib.hid (Ht.out.keep (Same.of_grow HGy.out))
        clear Ht
        have Ht := Htn
        clear Htn
        clear kx0 kx1 kxz
        have kx0 := kxx0
        have kx1 := kxx1
        clear kxx0 kxx1
        have kxz : w.heap.size + 1 < Wy.heap.size := cell_lt kx0
        have Hxn := Lib.hid (Hx.out.keep (Same.of_grow HGy.out))
        clear Hx
        have Hx := Hxn
        clear Hxn
        clear ka0 ka1 kaz
        have ka0 := kax0
        have ka1 := kax1
        clear kax0 kax1
        have kaz : ua.heap.size < Wy.heap.size := cell_lt ka0
        have Han := Lib.hid (Ha.out.keep (Same.of_grow HGy.out))
        clear Ha
        have Ha := Han
        clear Han
        clear kb0 kb1 kbz
        have kb0 := kbx0
        have kb1 := kbx1
        clear kbx0 kbx1
        have kbz : ub.heap.size < Wy.heap.size := cell_lt kb0
        have Hbn := Lib.hid (Hb.out.keep (Same.of_grow HGy.out))
        clear Hb
        have Hb := Hbn
        clear Hbn
        clear kc0 kc1 kcz
        have kc0 := kcx0
        have kc1 := kcx1
        clear kcx0 kcx1
        have kcz : uc.heap.size < Wy.heap.size := cell_lt kc0
        have Hcn := Lib.hid (Hc.out.keep (Same.of_grow HGy.out))
        clear Hc
        have Hc := Hcn
        clear Hcn
        clear kd0 kd1 kdz
        have kd0 := kdx0
        have kd1 := kdx1
        clear kdx0 kdx1
        have kdz : ud.heap.size < Wy.heap.size := cell_lt kd0
        have Hdn := Lib.hid (Hd.out.keep (Same.of_grow HGy.out))
        clear Hd
        have Hd := Hdn
        clear Hdn
        have Hyn := Lib.hid (Hy.out.keep (Same.of_grow HGy.out))
        clear Hy
        have Hy := Hyn
        clear Hyn
        have HPn := Lib.hid (Ints.keep HP.out (Same.of_grow HGy.out))
        clear HP
        have HP := HPn
        clear HPn
        have HWn := Lib.hid (Below.step HW.out HGy.out)
        clear HW
        have HW := HWn
        clear HWn
        refine Hold.go ?_
        refine (replace_any p zc za _ _ _ _ Hc.out HP.out Ha.out hsc hsa (by omega)).mono ?_
        rintro e uz ⟨vz, rfl, hz, hbz⟩
        rw [HY2.out]
        rw [HZ1.out] at hz
        obtain ⟨Az, cz, rfl, -⟩ := hz.shape
        generalize t0.rule = rz at *
        generalize t0.args.length = nz at *
        have Hz := Lib.hid (hz.mono (S' := Any) fun _ _ => trivial)
        have HBz := Lib.hid hbz
        clear hz hbz
        have ktx0 := (Below.cell HBz.out ktz).trans kt0
        have ktx1 := (Below.cell HBz.out ktz).trans kt1
        have kxx0 := (Below.cell HBz.out kxz).trans kx0
        have kxx1 := (Below.cell HBz.out kxz).trans kx1
        have kax0 := (Below.cell HBz.out kaz).trans ka0
        have kax1 := (Below.cell HBz.out kaz).trans ka1
        have kbx0 := (Below.cell HBz.out kbz).trans kb0
        have kbx1 := (Below.cell HBz.out kbz).trans kb1
        have kcx0 := (Below.cell HBz.out kcz).trans kc0
        have kcx1 := (Below.cell HBz.out kcz).trans kc1
        have kdx0 := (Below.cell HBz.out kdz).trans kd0
        have kdx1 := (Below.cell HBz.out kdz).trans kd1
        have kyx0 := (Below.cell HBz.out kyz).trans ky0
        have kyx1 := (Below.cell HBz.out kyz).trans ky1
        clear kt0 kt1 ktz
        have kt0 := ktx0
        have kt1 := ktx1
        clear ktx0 ktx1
        have ktz : w.heap.size < uz.heap.size := cell_lt kt0
        have Htn := Lib.hid (Ht.out.keep (Same.of_grow HBz.out))
        clear Ht
        have Ht := Htn
        clear Htn
        clear kx0 kx1 kxz
        have kx0 := kxx0
        have kx1 := kxx1
        clear kxx0 kxx1
        have kxz : w.heap.size + 1 < uz.heap.size := cell_lt kx0
        have Hxn := Lib.hid (Hx.out.keep (Same.of_grow HBz.out))
        clear Hx
        have Hx := Hxn
        clear Hxn
        clear ka0 ka1 kaz
        have ka0 := kax0
        have ka1 := kax1
        clear kax0 kax1
        have kaz : ua.heap.size < uz.heap.size := cell_lt ka0
        have Han := Lib.hid (Ha.out.keep (Same.of_grow HBz.out))
        clear Ha
        have Ha := Han
        clear Han
        clear kb0 kb1 kbz
        have kb0 := kbx0
        have kb1 := kbx1
        clear kbx0 kbx1
        have kbz : ub.heap.size < uz.heap.size := cell_lt kb0
        have Hbn := Lib.hid (Hb.out.keep (Same.of_grow HBz.out))
        clear Hb
        have Hb := Hbn
        clear Hbn
        clear kc0 kc1 kcz
        have kc0 := kcx0
        have kc1 := kcx1
        clear kcx0 kcx1
        have kcz : uc.heap.size < uz.heap.size := cell_lt kc0
        have Hcn := Lib.hid (Hc.out.keep (Same.of_grow HBz.out))
        clear Hc
        have Hc := Hcn
        clear Hcn
        clear kd0 kd1 kdz
        have kd0 := kdx0
        have kd1 := kdx1
        clear kdx0 kdx1
        have kdz : ud.heap.size < uz.heap.size := cell_lt kd0
        have Hdn := Lib.hid (Hd.out.keep (Same.of_grow HBz.out))
        clear Hd
        have Hd := Hdn
        clear Hdn
        clear ky0 ky1 kyz
        have ky0 := kyx0
        have ky1 := kyx1
        clear kyx0 kyx1
        have kyz : uy.heap.size < uz.heap.size := cell_lt ky0
        have Hyn := Lib.hid (Hy.out.keep (Same.of_grow HBz.out))
        clear Hy
        have Hy := Hyn
        clear Hyn
        have HPn := Lib.hid (Ints.keep HP.out (Same.of_grow HBz.out))
        clear HP
        have HP := HPn
        clear HPn
        have HWn := Lib.hid (Below.step HW.out HBz.out)
        clear HW
        have HW := HWn
        clear HWn
        refine Hold.stop ?_
        refine Hold.go ?_
        go_wp2_with (go_at_call 18; refine Hold.stop ?_)
        have hgz : Grow uz (uz.alloc (.cells #[.int .i64 rz, .slice Az nz cz] 24)) := grow_alloc _ _
        have kz0 : (uz.alloc (.cells #[.int .i64 rz, .slice Az nz cz] 24)).cell? ⟨uz.heap.size, 0, none⟩ = some (.int .i64 rz) := by simp
        have kz1 : (uz.alloc (.cells #[.int .i64 rz, .slice Az nz cz] 24)).cell? ⟨uz.heap.size, 1, none⟩ = some (.slice Az nz cz) := by simp
        generalize hdz : uz.alloc (.cells #[.int .i64 rz, .slice Az nz cz] 24) = Wz at *
        clear hdz
        have HGz := Lib.hid hgz
        clear hgz
        have kzz : uz.heap.size < Wz.heap.size := cell_lt kz0
        have ktx0 := (Below.cell HGz.out ktz).trans kt0
        have ktx1 := (Below.cell HGz.out ktz).trans kt1
        have kxx0 := (Below.cell HGz.out kxz).trans kx0
        have kxx1 := (Below.cell HGz.out kxz).trans kx1
        have kax0 := (Below.cell HGz.out kaz).trans ka0
        have kax1 := (Below.cell HGz.out kaz).trans ka1
        have kbx0 := (Below.cell HGz.out kbz).trans kb0
        have kbx1 := (Below.cell HGz.out kbz).trans kb1
        have kcx0 := (Below.cell HGz.out kcz).trans kc0
        have kcx1 := (Below.cell HGz.out kcz).trans kc1
        have kdx0 := (Below.cell HGz.out kdz).trans kd0
        have kdx1 := (Below.cell HGz.out kdz).trans kd1
        have kyx0 := (Below.cell HGz.out kyz).trans ky0
        have kyx1 := (Below.cell HGz.out kyz).trans ky1
        clear kt0 kt1 ktz
        have kt0 := ktx0
        have kt1 := ktx1
        clear ktx0 ktx1
        have ktz : w.heap.size < Wz.heap.size := cell_lt kt0
        have Htn := Lib.hid (Ht.out.keep (Same.of_grow HGz.out))
        clear Ht
        have Ht := Htn
        clear Htn
        clear kx0 kx1 kxz
        have kx0 := kxx0
        have kx1 := kxx1
        clear kxx0 kxx1
        have kxz : w.heap.size + 1 < Wz.heap.size := cell_lt kx0
        have Hxn := Lib.hid (Hx.out.keep (Same.of_grow HGz.out))
        clear Hx
        have Hx := Hxn
        clear Hxn
        clear ka0 ka1 kaz
        have ka0 := kax0
        have ka1 := kax1
        clear kax0 kax1
        have kaz : ua.heap.size < Wz.heap.size := cell_lt ka0
        have Han := Lib.hid (Ha.out.keep (Same.of_grow HGz.out))
        clear Ha
        have Ha := Han
        clear Han
        clear kb0 kb1 kbz
        have kb0 := kbx0
        have kb1 := kbx1
        clear kbx0 kbx1
        have kbz : ub.heap.size < Wz.heap.size := cell_lt kb0
        have Hbn := Lib.hid (Hb.out.keep (Same.of_grow HGz.out))
        clear Hb
        have Hb := Hbn
        clear Hbn
        clear kc0 kc1 kcz
        have kc0 := kcx0
        have kc1 := kcx1
        clear kcx0 kcx1
        have kcz : uc.heap.size < Wz.heap.size := cell_lt kc0
        have Hcn := Lib.hid (Hc.out.keep (Same.of_grow HGz.out))
        clear Hc
        have Hc := Hcn
        clear Hcn
        clear kd0 kd1 kdz
        have kd0 := kdx0
        have kd1 := kdx1
        clear kdx0 kdx1
        have kdz : ud.heap.size < Wz.heap.size := cell_lt kd0
        have Hdn := Lib.hid (Hd.out.keep (Same.of_grow HGz.out))
        clear Hd
        have Hd := Hdn
        clear Hdn
        clear ky0 ky1 kyz
        have ky0 := kyx0
        have ky1 := kyx1
        clear kyx0 kyx1
        have kyz : uy.heap.size < Wz.heap.size := cell_lt ky0
        have Hyn := Lib.hid (Hy.out.keep (Same.of_grow HGz.out))
        clear Hy
        have Hy := Hyn
        clear Hyn
        have Hzn := Lib.hid (Hz.out.keep (Same.of_grow HGz.out))
        clear Hz
        have Hz := Hzn
        clear Hzn
        have HPn := Lib.hid (Ints.keep HP.out (Same.of_grow HGz.out))
        clear HP
        have HP := HPn
        clear HPn
        have HWn := Lib.hid (Below.step HW.out HGz.out)
        clear HW
        have HW := HWn
        clear HWn
        refine Hold.go ?_
        refine (refcompare_any t1 t1 _ _ _ Hy.out Hx.out (by omega) (by omega)).mono ?_
        rintro e ug ⟨rfl, hbg⟩
        rw [HCX.out]
        have HBg := Lib.hid hbg
        clear hbg
        have ktx0 := (Below.cell HBg.out ktz).trans kt0
        have ktx1 := (Below.cell HBg.out ktz).trans kt1
        have kxx0 := (Below.cell HBg.out kxz).trans kx0
        have kxx1 := (Below.cell HBg.out kxz).trans kx1
        have kax0 := (Below.cell HBg.out kaz).trans ka0
        have kax1 := (Below.cell HBg.out kaz).trans ka1
        have kbx0 := (Below.cell HBg.out kbz).trans kb0
        have kbx1 := (Below.cell HBg.out kbz).trans kb1
        have kcx0 := (Below.cell HBg.out kcz).trans kc0
        have kcx1 := (Below.cell HBg.out kcz).trans kc1
        have kdx0 := (Below.cell HBg.out kdz).trans kd0
        have kdx1 := (Below.cell HBg.out kdz).trans kd1
        have kyx0 := (Below.cell HBg.out kyz).trans ky0
        have kyx1 := (Below.cell HBg.out kyz).trans ky1
        have kzx0 := (Below.cell HBg.out kzz).trans kz0
        have kzx1 := (Below.cell HBg.out kzz).trans kz1
        clear kt0 kt1 ktz
        have kt0 := ktx0
        have kt1 := ktx1
        clear ktx0 ktx1
        have ktz : w.heap.size < ug.heap.size := cell_lt kt0
        have Htn := Lib.hid (Ht.out.keep (Same.of_grow HBg.out))
        clear Ht
        have Ht := Htn
        clear Htn
        clear kx0 kx1 kxz
        have kx0 := kxx0
        have kx1 := kxx1
        clear kxx0 kxx1
        have kxz : w.heap.size + 1 < ug.heap.size := cell_lt kx0
        have Hxn := Lib.hid (Hx.out.keep (Same.of_grow HBg.out))
        clear Hx
        have Hx := Hxn
        clear Hxn
        clear ka0 ka1 kaz
        have ka0 := kax0
        have ka1 := kax1
        clear kax0 kax1
        have kaz : ua.heap.size < ug.heap.size := cell_lt ka0
        have Han := Lib.hid (Ha.out.keep (Same.of_grow HBg.out))
        clear Ha
        have Ha := Han
        clear Han
        clear kb0 kb1 kbz
        have kb0 := kbx0
        have kb1 := kbx1
        clear kbx0 kbx1
        have kbz : ub.heap.size < ug.heap.size := cell_lt kb0
        have Hbn := Lib.hid (Hb.out.keep (Same.of_grow HBg.out))
        clear Hb
        have Hb := Hbn
        clear Hbn
        clear kc0 kc1 kcz
        have kc0 := kcx0
        have kc1 := kcx1
        clear kcx0 kcx1
        have kcz : uc.heap.size < ug.heap.size := cell_lt kc0
        have Hcn := Lib.hid (Hc.out.keep (Same.of_grow HBg.out))
        clear Hc
        have Hc := Hcn
        clear Hcn
        clear kd0 kd1 kdz
        have kd0 := kdx0
        have kd1 := kdx1
        clear kdx0 kdx1
        have kdz : ud.heap.size < ug.heap.size := cell_lt kd0
        have Hdn := Lib.hid (Hd.out.keep (Same.of_grow HBg.out))
        clear Hd
        have Hd := Hdn
        clear Hdn
        clear ky0 ky1 kyz
        have ky0 := kyx0
        have ky1 := kyx1
        clear kyx0 kyx1
        have kyz : uy.heap.size < ug.heap.size := cell_lt ky0
        have Hyn := Lib.hid (Hy.out.keep (Same.of_grow HBg.out))
        clear Hy
        have Hy := Hyn
        clear Hyn
        clear kz0 kz1 kzz
        have kz0 := kzx0
        have kz1 := kzx1
        clear kzx0 kzx1
        have kzz : uz.heap.size < ug.heap.size := cell_lt kz0
        have Hzn := Lib.hid (Hz.out.keep (Same.of_grow HBg.out))
        clear Hz
        have Hz := Hzn
        clear Hzn
        have HPn := Lib.hid (Ints.keep HP.out (Same.of_grow HBg.out))
        clear HP
        have HP := HPn
        clear HPn
        have HWn := Lib.hid (Below.step HW.out HBg.out)
        clear HW
        have HW := HWn
        clear HWn
        refine Hold.stop ?_
        refine Hold.go ?_
        go_wp2_with (go_at_call 18; refine Hold.stop ?_)
        refine Hold.go ?_
        refine (refcompare_any t0 t0 _ _ _ Hz.out Ht.out (by omega) (by omega)).mono ?_
        rintro e uh ⟨rfl, hbh⟩
        rw [HCT.out]
        have HBh := Lib.hid hbh
        clear hbh
        have ktx0 := (Below.cell HBh.out ktz).trans kt0
        have ktx1 := (Below.cell HBh.out ktz).trans kt1
        have kxx0 := (Below.cell HBh.out kxz).trans kx0
        have kxx1 := (Below.cell HBh.out kxz).trans kx1
        have kax0 := (Below.cell HBh.out kaz).trans ka0
        have kax1 := (Below.cell HBh.out kaz).trans ka1
        have kbx0 := (Below.cell HBh.out kbz).trans kb0
        have kbx1 := (Below.cell HBh.out kbz).trans kb1
        have kcx0 := (Below.cell HBh.out kcz).trans kc0
        have kcx1 := (Below.cell HBh.out kcz).trans kc1
        have kdx0 := (Below.cell HBh.out kdz).trans kd0
        have kdx1 := (Below.cell HBh.out kdz).trans kd1
        have kyx0 := (Below.cell HBh.out kyz).trans ky0
        have kyx1 := (Below.cell HBh.out kyz).trans ky1
        have kzx0 := (Below.cell HBh.out kzz).trans kz0
        have kzx1 := (Below.cell HBh.out kzz).trans kz1
        clear kt0 kt1 ktz
        have kt0 := ktx0
        have kt1 := ktx1
        clear ktx0 ktx1
        have ktz : w.heap.size < uh.heap.size := cell_lt kt0
        have Htn := Lib.hid (Ht.out.keep (Same.of_grow HBh.out))
        clear Ht
        have Ht := Htn
        clear Htn
        clear kx0 kx1 kxz
        have kx0 := kxx0
        have kx1 := kxx1
        clear kxx0 kxx1
        have kxz : w.heap.size + 1 < uh.heap.size := cell_lt kx0
        have Hxn := Lib.hid (Hx.out.keep (Same.of_grow HBh.out))
        clear Hx
        have Hx := Hxn
        clear Hxn
        clear ka0 ka1 kaz
        have ka0 := kax0
        have ka1 := kax1
        clear kax0 kax1
        have kaz : ua.heap.size < uh.heap.size := cell_lt ka0
        have Han := Lib.hid (Ha.out.keep (Same.of_grow HBh.out))
        clear Ha
        have Ha := Han
        clear Han
        clear kb0 kb1 kbz
        have kb0 := kbx0
        have kb1 := kbx1
        clear kbx0 kbx1
        have kbz : ub.heap.size < uh.heap.size := cell_lt kb0
        have Hbn := Lib.hid (Hb.out.keep (Same.of_grow HBh.out))
        clear Hb
        have Hb := Hbn
        clear Hbn
        clear kc0 kc1 kcz
        have kc0 := kcx0
        have kc1 := kcx1
        clear kcx0 kcx1
        have kcz : uc.heap.size < uh.heap.size := cell_lt kc0
        have Hcn := Lib.hid (Hc.out.keep (Same.of_grow HBh.out))
        clear Hc
        have Hc := Hcn
        clear Hcn
        clear kd0 kd1 kdz
        have kd0 := kdx0
        have kd1 := kdx1
        clear kdx0 kdx1
        have kdz : ud.heap.size < uh.heap.size := cell_lt kd0
        have Hdn := Lib.hid (Hd.out.keep (Same.of_grow HBh.out))
        clear Hd
        have Hd := Hdn
        clear Hdn
        clear ky0 ky1 kyz
        have ky0 := kyx0
        have ky1 := kyx1
        clear kyx0 kyx1
        have kyz : uy.heap.size < uh.heap.size := cell_lt ky0
        have Hyn := Lib.hid (Hy.out.keep (Same.of_grow HBh.out))
        clear Hy
        have Hy := Hyn
        clear Hyn
        clear kz0 kz1 kzz
        have kz0 := kzx0
        have kz1 := kzx1
        clear kzx0 kzx1
        have kzz : uz.heap.size < uh.heap.size := cell_lt kz0
        have Hzn := Lib.hid (Hz.out.keep (Same.of_grow HBh.out))
        clear Hz
        have Hz := Hzn
        clear Hzn
        have HPn := Lib.hid (Ints.keep HP.out (Same.of_grow HBh.out))
        clear HP
        have HP := HPn
        clear HPn
        have HWn := Lib.hid (Below.step HW.out HBh.out)
        clear HW
        have HW := HWn
        clear HWn
        refine Hold.stop ?_
        refine Hold.go ?_
        go_wp2_with (go_at_call 10; refine (alive_any _).mono ?_; rintro e w9 ⟨rfl, hb9⟩)
        go_ret
        exact ⟨by simp, Below.step HW.out hb9⟩
      · replace hok : okP p t0 = false := by simpa using hok
        have HE := Lib.hid (eP_no hok)
        clear hok
        refine Hold.go ?_
        refine (at_any p t0 _ _ _ Ht.out HP.out (by omega) (by omega)).mono ?_
        rintro e ua ⟨va, rfl, ha, hba⟩
        rw [HE.out]
        rw [HZA.out] at ha
        obtain ⟨Aa, ca, rfl, -⟩ := ha.shape
        generalize za.rule = ra at *
        generalize za.args.length = na at *
        have Ha := Lib.hid (ha.mono (S' := Any) fun _ _ => trivial)
        have HBa := Lib.hid hba
        clear ha hba
        have ktx0 := (Below.cell HBa.out ktz).trans kt0
        have ktx1 := (Below.cell HBa.out ktz).trans kt1
        have kxx0 := (Below.cell HBa.out kxz).trans kx0
        have kxx1 := (Below.cell HBa.out kxz).trans kx1
        clear kt0 kt1 ktz
        have kt0 := ktx0
        have kt1 := ktx1
        clear ktx0 ktx1
        have ktz : w.heap.size < ua.heap.size := cell_lt kt0
        have Htn := Lib.hid (Ht.out.keep (Same.of_grow HBa.out))
        clear Ht
        have Ht := Htn
        clear Htn
        clear kx0 kx1 kxz
        have kx0 := kxx0
        have kx1 := kxx1
        clear kxx0 kxx1
        have kxz : w.heap.size + 1 < ua.heap.size := cell_lt kx0
        have Hxn := Lib.hid (Hx.out.keep (Same.of_grow HBa.out))
        clear Hx
        have Hx := Hxn
        clear Hxn
        have HPn := Lib.hid (Ints.keep HP.out (Same.of_grow HBa.out))
        clear HP
        have HP := HPn
        clear HPn
        have HWn := Lib.hid (Below.step HW.out HBa.out)
        clear HW
        have HW := HWn
        clear HWn
        refine Hold.stop ?_
        refine Hold.go ?_
        go_wp2_with (go_at_call 27; refine Hold.stop ?_)
        have hga : Grow ua (ua.alloc (.cells #[.int .i64 ra, .slice Aa na ca] 24)) := grow_alloc _ _
        have ka0 : (ua.alloc (.cells #[.int .i64 ra, .slice Aa na ca] 24)).cell? ⟨ua.heap.size, 0, none⟩ = some (.int .i64 ra) := by simp
        have ka1 : (ua.alloc (.cells #[.int .i64 ra, .slice Aa na ca] 24)).cell? ⟨ua.heap.size, 1, none⟩ = some (.slice Aa na ca) := by simp
        generalize hda : ua.alloc (.cells #[.int .i64 ra, .slice Aa na ca] 24) = Wa at *
        clear hda
        have HGa := Lib.hid hga
        clear hga
        have kaz : ua.heap.size < Wa.heap.size := cell_lt ka0
        have ktx0 := (Below.cell HGa.out ktz).trans kt0
        have ktx1 := (Below.cell HGa.out ktz).trans kt1
        have kxx0 := (Below.cell HGa.out kxz).trans kx0
        have kxx1 := (Below.cell HGa.out kxz).trans kx1
        clear kt0 kt1 ktz
        have kt0 := ktx0
        have kt1 := ktx1
        clear ktx0 ktx1
        have ktz : w.heap.size < Wa.heap.size := cell_lt kt0
        have Htn := Lib.hid (Ht.out.keep (Same.of_grow HGa.out))
        clear Ht
        have Ht := Htn
        clear Htn
        clear kx0 kx1 kxz
        have kx0 := kxx0
        have kx1 := kxx1
        clear kxx0 kxx1
        have kxz : w.heap.size + 1 < Wa.heap.size := cell_lt kx0
        have Hxn := Lib.hid (Hx.out.keep (Same.of_grow HGa.out))
        clear Hx
        have Hx := Hxn
        clear Hxn
        have Han := Lib.hid (Ha.out.keep (Same.of_grow HGa.out))
        clear Ha
        have Ha := Han
        clear Han
        have HPn := Lib.hid (Ints.keep HP.out (Same.of_grow HGa.out))
        clear HP
        have HP := HPn
        clear HPn
        have HWn := Lib.hid (Below.step HW.out HGa.out)
        clear HW
        have HW := HWn
        clear HWn
        refine Hold.go ?_
        refine (refat_any p t0 _ _ _ Ht.out HP.out (by omega) (by omega)).mono ?_
        rintro e ub ⟨vb, rfl, hb, hbb⟩
        rw [HE.out]
        rw [HZA.out] at hb
        obtain ⟨Ab, cb, rfl, -⟩ := hb.shape
        generalize za.rule = rb at *
        generalize za.args.length = nb at *
        have Hb := Lib.hid (hb.mono (S' := Any) fun _ _ => trivial)
        have HBb := Lib.hid hbb
        clear hb hbb
        have ktx0 := (Below.cell HBb.out ktz).trans kt0
        have ktx1 := (Below.cell HBb.out ktz).trans kt1
        have kxx0 := (Below.cell HBb.out kxz).trans kx0
        have kxx1 := (Below.cell HBb.out kxz).trans kx1
        have kax0 := (Below.cell HBb.out kaz).trans ka0
        have kax1 := (Below.cell HBb.out kaz).trans ka1
        clear kt0 kt1 ktz
        have kt0 := ktx0
        have kt1 := ktx1
        clear ktx0 ktx1
        have ktz : w.heap.size < ub.heap.size := cell_lt kt0
        have Htn := Lib.hid (Ht.out.keep (Same.of_grow HBb.out))
        clear Ht
        have Ht := Htn
        clear Htn
        clear kx0 kx1 kxz
        have kx0 := kxx0
        have kx1 := kxx1
        clear kxx0 kxx1
        have kxz : w.heap.size + 1 < ub.heap.size := cell_lt kx0
        have Hxn := Lib.hid (Hx.out.keep (Same.of_grow HBb.out))
        clear Hx
        have Hx := Hxn
        clear Hxn
        clear ka0 ka1 kaz
        have ka0 := kax0
        have ka1 := kax1
        clear kax0 kax1
        have kaz : ua.heap.size < ub.heap.size := cell_lt ka0
        have Han := Lib.hid (Ha.out.keep (Same.of_grow HBb.out))
        clear Ha
        have Ha := Han
        clear Han
        have HPn := Lib.hid (Ints.keep HP.out (Same.of_grow HBb.out))
        clear HP
        have HP := HPn
        clear HPn
        have HWn := Lib.hid (Below.step HW.out HBb.out)
        clear HW
        have HW := HWn
        clear HWn
        refine Hold.stop ?_
        refine Hold.go ?_
        go_wp2_with (go_at_call 28; refine Hold.stop ?_)
        have hgb : Grow ub (ub.alloc (.cells #[.int .i64 rb, .slice Ab nb cb] 24)) := grow_alloc _ _
        have kb0 : (ub.alloc (.cells #[.int .i64 rb, .slice Ab nb cb] 24)).cell? ⟨ub.heap.size, 0, none⟩ = some (.int .i64 rb) := by simp
        have kb1 : (ub.alloc (.cells #[.int .i64 rb, .slice Ab nb cb] 24)).cell? ⟨ub.heap.size, 1, none⟩ = some (.slice Ab nb cb) := by simp
        generalize hdb : ub.alloc (.cells #[.int .i64 rb, .slice Ab nb cb] 24) = Wb at *
        clear hdb
        have HGb := Lib.hid hgb
        clear hgb
        have kbz : ub.heap.size < Wb.heap.size := cell_lt kb0
        have ktx0 := (Below.cell HGb.out ktz).trans kt0
        have ktx1 := (Below.cell HGb.out ktz).trans kt1
        have kxx0 := (Below.cell HGb.out kxz).trans kx0
        have kxx1 := (Below.cell HGb.out kxz).trans kx1
        have kax0 := (Below.cell HGb.out kaz).trans ka0
        have kax1 := (Below.cell HGb.out kaz).trans ka1
        clear kt0 kt1 ktz
        have kt0 := ktx0
        have kt1 := ktx1
        clear ktx0 ktx1
        have ktz : w.heap.size < Wb.heap.size := cell_lt kt0
        have Htn := Lib.hid (Ht.out.keep (Same.of_grow HGb.out))
        clear Ht
        have Ht := Htn
        clear Htn
        clear kx0 kx1 kxz
        have kx0 := kxx0
        have kx1 := kxx1
        clear kxx0 kxx1
        have kxz : w.heap.size + 1 < Wb.heap.size := cell_lt kx0
        have Hxn := Lib.hid (Hx.out.keep (Same.of_grow HGb.out))
        clear Hx
        have Hx := Hxn
        clear Hxn
        clear ka0 ka1 kaz
        have ka0 := kax0
        have ka1 := kax1
        clear kax0 kax1
        have kaz : ua.heap.size < Wb.heap.size := cell_lt ka0
        have Han := Lib.hid (Ha.out.keep (Same.of_grow HGb.out))
        clear Ha
        have Ha := Han
        clear Han
        have Hbn := Lib.hid (Hb.out.keep (Same.of_grow HGb.out))
        clear Hb
        have Hb := Hbn
        clear Hbn
        have HPn := Lib.hid (Ints.keep HP.out (Same.of_grow HGb.out))
        clear HP
        have HP := HPn
        clear HPn
        have HWn := Lib.hid (Below.step HW.out HGb.out)
        clear HW
        have HW := HWn
        clear HWn
        refine Hold.go ?_
        refine (replace_any p t0 t1 _ _ _ _ Ht.out HP.out Hx.out (by omega) (by omega) (by omega)).mono ?_
        rintro e uc ⟨vc, rfl, hc, hbc⟩
        rw [HE.out]
        rw [HZC.out] at hc
        obtain ⟨Ac, cc, rfl, -⟩ := hc.shape
        generalize zc.rule = rc at *
        generalize zc.args.length = nc at *
        have Hc := Lib.hid (hc.mono (S' := Any) fun _ _ => trivial)
        have HBc := Lib.hid hbc
        clear hc hbc
        have ktx0 := (Below.cell HBc.out ktz).trans kt0
        have ktx1 := (Below.cell HBc.out ktz).trans kt1
        have kxx0 := (Below.cell HBc.out kxz).trans kx0
        have kxx1 := (Below.cell HBc.out kxz).trans kx1
        have kax0 := (Below.cell HBc.out kaz).trans ka0
        have kax1 := (Below.cell HBc.out kaz).trans ka1
        have kbx0 := (Below.cell HBc.out kbz).trans kb0
        have kbx1 := (Below.cell HBc.out kbz).trans kb1
        clear kt0 kt1 ktz
        have kt0 := ktx0
        have kt1 := ktx1
        clear ktx0 ktx1
        have ktz : w.heap.size < uc.heap.size := cell_lt kt0
        have Htn := Lib.hid (Ht.out.keep (Same.of_grow HBc.out))
        clear Ht
        have Ht := Htn
        clear Htn
        clear kx0 kx1 kxz
        have kx0 := kxx0
        have kx1 := kxx1
        clear kxx0 kxx1
        have kxz : w.heap.size + 1 < uc.heap.size := cell_lt kx0
        have Hxn := Lib.hid (Hx.out.keep (Same.of_grow HBc.out))
        clear Hx
        have Hx := Hxn
        clear Hxn
        clear ka0 ka1 kaz
        have ka0 := kax0
        have ka1 := kax1
        clear kax0 kax1
        have kaz : ua.heap.size < uc.heap.size := cell_lt ka0
        have Han := Lib.hid (Ha.out.keep (Same.of_grow HBc.out))
        clear Ha
        have Ha := Han
        clear Han
        clear kb0 kb1 kbz
        have kb0 := kbx0
        have kb1 := kbx1
        clear kbx0 kbx1
        have kbz : ub.heap.size < uc.heap.size := cell_lt kb0
        have Hbn := Lib.hid (Hb.out.keep (Same.of_grow HBc.out))
        clear Hb
        have Hb := Hbn
        clear Hbn
        have HPn := Lib.hid (Ints.keep HP.out (Same.of_grow HBc.out))
        clear HP
        have HP := HPn
        clear HPn
        have HWn := Lib.hid (Below.step HW.out HBc.out)
        clear HW
        have HW := HWn
        clear HWn
        refine Hold.stop ?_
        refine Hold.go ?_
        go_wp2_with (go_at_call 29; refine Hold.stop ?_)
        have hgc : Grow uc (uc.alloc (.cells #[.int .i64 rc, .slice Ac nc cc] 24)) := grow_alloc _ _
        have kc0 : (uc.alloc (.cells #[.int .i64 rc, .slice Ac nc cc] 24)).cell? ⟨uc.heap.size, 0, none⟩ = some (.int .i64 rc) := by simp
        have kc1 : (uc.alloc (.cells #[.int .i64 rc, .slice Ac nc cc] 24)).cell? ⟨uc.heap.size, 1, none⟩ = some (.slice Ac nc cc) := by simp
        generalize hdc : uc.alloc (.cells #[.int .i64 rc, .slice Ac nc cc] 24) = Wc at *
        clear hdc
        have HGc := Lib.hid hgc
        clear hgc
        have kcz : uc.heap.size < Wc.heap.size := cell_lt kc0
        have ktx0 := (Below.cell HGc.out ktz).trans kt0
        have ktx1 := (Below.cell HGc.out ktz).trans kt1
        have kxx0 := (Below.cell HGc.out kxz).trans kx0
        have kxx1 := (Below.cell HGc.out kxz).trans kx1
        have kax0 := (Below.cell HGc.out kaz).trans ka0
        have kax1 := (Below.cell HGc.out kaz).trans ka1
        have kbx0 := (Below.cell HGc.out kbz).trans kb0
        have kbx1 := (Below.cell HGc.out kbz).trans kb1
        clear kt0 kt1 ktz
        have kt0 := ktx0
        have kt1 := ktx1
        clear ktx0 ktx1
        have ktz : w.heap.size < Wc.heap.size := cell_lt kt0
        have Htn := Lib.hid (Ht.out.keep (Same.of_grow HGc.out))
        clear Ht
        have Ht := Htn
        clear Htn
        clear kx0 kx1 kxz
        have kx0 := kxx0
        have kx1 := kxx1
        clear kxx0 kxx1
        have kxz : w.heap.size + 1 < Wc.heap.size := cell_lt kx0
        have Hxn := Lib.hid (Hx.out.keep (Same.of_grow HGc.out))
        clear Hx
        have Hx := Hxn
        clear Hxn
        clear ka0 ka1 kaz
        have ka0 := kax0
        have ka1 := kax1
        clear kax0 kax1
        have kaz : ua.heap.size < Wc.heap.size := cell_lt ka0
        have Han := Lib.hid (Ha.out.keep (Same.of_grow HGc.out))
        clear Ha
        have Ha := Han
        clear Han
        clear kb0 kb1 kbz
        have kb0 := kbx0
        have kb1 := kbx1
        clear kbx0 kbx1
        have kbz : ub.heap.size < Wc.heap.size := cell_lt kb0
        have Hbn := Lib.hid (Hb.out.keep (Same.of_grow HGc.out))
        clear Hb
        have Hb := Hbn
        clear Hbn
        have Hcn := Lib.hid (Hc.out.keep (Same.of_grow HGc.out))
        clear Hc
        have Hc := Hcn
        clear Hcn
        have HPn := Lib.hid (Ints.keep HP.out (Same.of_grow HGc.out))
        clear HP
        have HP := HPn
        clear HPn
        have HWn := Lib.hid (Below.step HW.out HGc.out)
        clear HW
        have HW := HWn
        clear HWn
        refine Hold.go ?_
        refine (refreplace_any p t0 t1 _ _ _ _ Ht.out HP.out Hx.out (by omega) (by omega) (by omega)).mono ?_
        rintro e ud ⟨vd, rfl, hd, hbd⟩
        rw [HE.out]
        rw [HZC.out] at hd
        obtain ⟨Ad, cd, rfl, -⟩ := hd.shape
        generalize zc.rule = rd at *
        generalize zc.args.length = nd at *
        have Hd := Lib.hid (hd.mono (S' := Any) fun _ _ => trivial)
        have HBd := Lib.hid hbd
        clear hd hbd
        have ktx0 := (Below.cell HBd.out ktz).trans kt0
        have ktx1 := (Below.cell HBd.out ktz).trans kt1
        have kxx0 := (Below.cell HBd.out kxz).trans kx0
        have kxx1 := (Below.cell HBd.out kxz).trans kx1
        have kax0 := (Below.cell HBd.out kaz).trans ka0
        have kax1 := (Below.cell HBd.out kaz).trans ka1
        have kbx0 := (Below.cell HBd.out kbz).trans kb0
        have kbx1 := (Below.cell HBd.out kbz).trans kb1
        have kcx0 := (Below.cell HBd.out kcz).trans kc0
        have kcx1 := (Below.cell HBd.out kcz).trans kc1
        clear kt0 kt1 ktz
        have kt0 := ktx0
        have kt1 := ktx1
        clear ktx0 ktx1
        have ktz : w.heap.size < ud.heap.size := cell_lt kt0
        have Htn := Lib.hid (Ht.out.keep (Same.of_grow HBd.out))
        clear Ht
        have Ht := Htn
        clear Htn
        clear kx0 kx1 kxz
        have kx0 := kxx0
        have kx1 := kxx1
        clear kxx0 kxx1
        have kxz : w.heap.size + 1 < ud.heap.size := cell_lt kx0
        have Hxn := Lib.hid (Hx.out.keep (Same.of_grow HBd.out))
        clear Hx
        have Hx := Hxn
        clear Hxn
        clear ka0 ka1 kaz
        have ka0 := kax0
        have ka1 := kax1
        clear kax0 kax1
        have kaz : ua.heap.size < ud.heap.size := cell_lt ka0
        have Han := Lib.hid (Ha.out.keep (Same.of_grow HBd.out))
        clear Ha
        have Ha := Han
        clear Han
        clear kb0 kb1 kbz
        have kb0 := kbx0
        have kb1 := kbx1
        clear kbx0 kbx1
        have kbz : ub.heap.size < ud.heap.size := cell_lt kb0
        have Hbn := Lib.hid (Hb.out.keep (Same.of_grow HBd.out))
        clear Hb
        have Hb := Hbn
        clear Hbn
        clear kc0 kc1 kcz
        have kc0 := kcx0
        have kc1 := kcx1
        clear kcx0 kcx1
        have kcz : uc.heap.size < ud.heap.size := cell_lt kc0
        have Hcn := Lib.hid (Hc.out.keep (Same.of_grow HBd.out))
        clear Hc
        have Hc := Hcn
        clear Hcn
        have HPn := Lib.hid (Ints.keep HP.out (Same.of_grow HBd.out))
        clear HP
        have HP := HPn
        clear HPn
        have HWn := Lib.hid (Below.step HW.out HBd.out)
        clear HW
        have HW := HWn
        clear HWn
        refine Hold.stop ?_
        refine Hold.go ?_
        go_wp2_with (go_at_call 18; refine Hold.stop ?_)
        have hgd : Grow ud (ud.alloc (.cells #[.int .i64 rd, .slice Ad nd cd] 24)) := grow_alloc _ _
        have kd0 : (ud.alloc (.cells #[.int .i64 rd, .slice Ad nd cd] 24)).cell? ⟨ud.heap.size, 0, none⟩ = some (.int .i64 rd) := by simp
        have kd1 : (ud.alloc (.cells #[.int .i64 rd, .slice Ad nd cd] 24)).cell? ⟨ud.heap.size, 1, none⟩ = some (.slice Ad nd cd) := by simp
        generalize hdd : ud.alloc (.cells #[.int .i64 rd, .slice Ad nd cd] 24) = Wd at *
        clear hdd
        have HGd := Lib.hid hgd
        clear hgd
        have kdz : ud.heap.size < Wd.heap.size := cell_lt kd0
        have ktx0 := (Below.cell HGd.out ktz).trans kt0
        have ktx1 := (Below.cell HGd.out ktz).trans kt1
        have kxx0 := (Below.cell HGd.out kxz).trans kx0
        have kxx1 := (Below.cell HGd.out kxz).trans kx1
        have kax0 := (Below.cell HGd.out kaz).trans ka0
        have kax1 := (Below.cell HGd.out kaz).trans ka1
        have kbx0 := (Below.cell HGd.out kbz).trans kb0
        have kbx1 := (Below.cell HGd.out kbz).trans kb1
        have kcx0 := (Below.cell HGd.out kcz).trans kc0
        have kcx1 := (Below.cell HGd.out kcz).trans kc1
        clear kt0 kt1 ktz
        have kt0 := ktx0
        have kt1 := ktx1
        clear ktx0 ktx1
        have ktz : w.heap.size < Wd.heap.size := cell_lt kt0
        have Htn := Lib.hid (Ht.out.keep (Same.of_grow HGd.out))
        clear Ht
        have Ht := Htn
        clear Htn
        clear kx0 kx1 kxz
        have kx0 := kxx0
        have kx1 := kxx1
        clear kxx0 kxx1
        have kxz : w.heap.size + 1 < Wd.heap.size := cell_lt kx0
        have Hxn := Lib.hid (Hx.out.keep (Same.of_grow HGd.out))
        clear Hx
        have Hx := Hxn
        clear Hxn
        clear ka0 ka1 kaz
        have ka0 := kax0
        have ka1 := kax1
        clear kax0 kax1
        have kaz : ua.heap.size < Wd.heap.size := cell_lt ka0
        have Han := Lib.hid (Ha.out.keep (Same.of_grow HGd.out))
        clear Ha
        have Ha := Han
        clear Han
        clear kb0 kb1 kbz
        have kb0 := kbx0
        have kb1 := kbx1
        clear kbx0 kbx1
        have kbz : ub.heap.size < Wd.heap.size := cell_lt kb0
        have Hbn := Lib.hid (Hb.out.keep (Same.of_grow HGd.out))
        clear Hb
        have Hb := Hbn
        clear Hbn
        clear kc0 kc1 kcz
        have kc0 := kcx0
        have kc1 := kcx1
        clear kcx0 kcx1
        have kcz : uc.heap.size < Wd.heap.size := cell_lt kc0
        have Hcn := Lib.hid (Hc.out.keep (Same.of_grow HGd.out))
        clear Hc
        have Hc := Hcn
        clear Hcn
        have Hdn := Lib.hid (Hd.out.keep (Same.of_grow HGd.out))
        clear Hd
        have Hd := Hdn
        clear Hdn
        have HPn := Lib.hid (Ints.keep HP.out (Same.of_grow HGd.out))
        clear HP
        have HP := HPn
        clear HPn
        have HWn := Lib.hid (Below.step HW.out HGd.out)
        clear HW
        have HW := HWn
        clear HWn
        refine Hold.go ?_
        refine (refcompare_any za za _ _ _ Ha.out Hb.out hsa hsa).mono ?_
        rintro e ue ⟨rfl, hbe⟩
        rw [HCA.out]
        have HBe := Lib.hid hbe
        clear hbe
        have ktx0 := (Below.cell HBe.out ktz).trans kt0
        have ktx1 := (Below.cell HBe.out ktz).trans kt1
        have kxx0 := (Below.cell HBe.out kxz).trans kx0
        have kxx1 := (Below.cell HBe.out kxz).trans kx1
        have kax0 := (Below.cell HBe.out kaz).trans ka0
        have kax1 := (Below.cell HBe.out kaz).trans ka1
        have kbx0 := (Below.cell HBe.out kbz).trans kb0
        have kbx1 := (Below.cell HBe.out kbz).trans kb1
        have kcx0 := (Below.cell HBe.out kcz).trans kc0
        have kcx1 := (Below.cell HBe.out kcz).trans kc1
        have kdx0 := (Below.cell HBe.out kdz).trans kd0
        have kdx1 := (Below.cell HBe.out kdz).trans kd1
        clear kt0 kt1 ktz
        have kt0 := ktx0
        have kt1 := ktx1
        clear ktx0 ktx1
        have ktz : w.heap.size < ue.heap.size := cell_lt kt0
        have Htn := Lib.hid (Ht.out.keep (Same.of_grow HBe.out))
        clear Ht
        have Ht := Htn
        clear Htn
        clear kx0 kx1 kxz
        have kx0 := kxx0
        have kx1 := kxx1
        clear kxx0 kxx1
        have kxz : w.heap.size + 1 < ue.heap.size := cell_lt kx0
        have Hxn := Lib.hid (Hx.out.keep (Same.of_grow HBe.out))
        clear Hx
        have Hx := Hxn
        clear Hxn
        clear ka0 ka1 kaz
        have ka0 := kax0
        have ka1 := kax1
        clear kax0 kax1
        have kaz : ua.heap.size < ue.heap.size := cell_lt ka0
        have Han := Lib.hid (Ha.out.keep (Same.of_grow HBe.out))
        clear Ha
        have Ha := Han
        clear Han
        clear kb0 kb1 kbz
        have kb0 := kbx0
        have kb1 := kbx1
        clear kbx0 kbx1
        have kbz : ub.heap.size < ue.heap.size := cell_lt kb0
        have Hbn := Lib.hid (Hb.out.keep (Same.of_grow HBe.out))
        clear Hb
        have Hb := Hbn
        clear Hbn
        clear kc0 kc1 kcz
        have kc0 := kcx0
        have kc1 := kcx1
        clear kcx0 kcx1
        have kcz : uc.heap.size < ue.heap.size := cell_lt kc0
        have Hcn := Lib.hid (Hc.out.keep (Same.of_grow HBe.out))
        clear Hc
        have Hc := Hcn
        clear Hcn
        clear kd0 kd1 kdz
        have kd0 := kdx0
        have kd1 := kdx1
        clear kdx0 kdx1
        have kdz : ud.heap.size < ue.heap.size := cell_lt kd0
        have Hdn := Lib.hid (Hd.out.keep (Same.of_grow HBe.out))
        clear Hd
        have Hd := Hdn
        clear Hdn
        have HPn := Lib.hid (Ints.keep HP.out (Same.of_grow HBe.out))
        clear HP
        have HP := HPn
        clear HPn
        have HWn := Lib.hid (Below.step HW.out HBe.out)
        clear HW
        have HW := HWn
        clear HWn
        refine Hold.stop ?_
        refine Hold.go ?_
        go_wp2_with (go_at_call 18; refine Hold.stop ?_)
        refine Hold.go ?_
        refine (refcompare_any zc zc _ _ _ Hc.out Hd.out hsc hsc).mono ?_
        rintro e uf ⟨rfl, hbf⟩
        rw [HCC.out]
        have HBf := Lib.hid hbf
        clear hbf
        have ktx0 := (Below.cell HBf.out ktz).trans kt0
        have ktx1 := (Below.cell HBf.out ktz).trans kt1
        have kxx0 := (Below.cell HBf.out kxz).trans kx0
        have kxx1 := (Below.cell HBf.out kxz).trans kx1
        have kax0 := (Below.cell HBf.out kaz).trans ka0
        have kax1 := (Below.cell HBf.out kaz).trans ka1
        have kbx0 := (Below.cell HBf.out kbz).trans kb0
        have kbx1 := (Below.cell HBf.out kbz).trans kb1
        have kcx0 := (Below.cell HBf.out kcz).trans kc0
        have kcx1 := (Below.cell HBf.out kcz).trans kc1
        have kdx0 := (Below.cell HBf.out kdz).trans kd0
        have kdx1 := (Below.cell HBf.out kdz).trans kd1
        clear kt0 kt1 ktz
        have kt0 := ktx0
        have kt1 := ktx1
        clear ktx0 ktx1
        have ktz : w.heap.size < uf.heap.size := cell_lt kt0
        have Htn := Lib.hid (Ht.out.keep (Same.of_grow HBf.out))
        clear Ht
        have Ht := Htn
        clear Htn
        clear kx0 kx1 kxz
        have kx0 := kxx0
        have kx1 := kxx1
        clear kxx0 kxx1
        have kxz : w.heap.size + 1 < uf.heap.size := cell_lt kx0
        have Hxn := Lib.hid (Hx.out.keep (Same.of_grow HBf.out))
        clear Hx
        have Hx := Hxn
        clear Hxn
        clear ka0 ka1 kaz
        have ka0 := kax0
        have ka1 := kax1
        clear kax0 kax1
        have kaz : ua.heap.size < uf.heap.size := cell_lt ka0
        have Han := Lib.hid (Ha.out.keep (Same.of_grow HBf.out))
        clear Ha
        have Ha := Han
        clear Han
        clear kb0 kb1 kbz
        have kb0 := kbx0
        have kb1 := kbx1
        clear kbx0 kbx1
        have kbz : ub.heap.size < uf.heap.size := cell_lt kb0
        have Hbn := Lib.hid (Hb.out.keep (Same.of_grow HBf.out))
        clear Hb
        have Hb := Hbn
        clear Hbn
        clear kc0 kc1 kcz
        have kc0 := kcx0
        have kc1 := kcx1
        clear kcx0 kcx1
        have kcz : uc.heap.size < uf.heap.size := cell_lt kc0
        have Hcn := Lib.hid (Hc.out.keep (Same.of_grow HBf.out))
        clear Hc
        have Hc := Hcn
        clear Hcn
        clear kd0 kd1 kdz
        have kd0 := kdx0
        have kd1 := kdx1
        clear kdx0 kdx1
        have kdz : ud.heap.size < uf.heap.size := cell_lt kd0
        have Hdn := Lib.hid (Hd.out.keep (Same.of_grow HBf.out))
        clear Hd
        have Hd := Hdn
        clear Hdn
        have HPn := Lib.hid (Ints.keep HP.out (Same.of_grow HBf.out))
        clear HP
        have HP := HPn
        clear HPn
        have HWn := Lib.hid (Below.step HW.out HBf.out)
        clear HW
        have HW := HWn
        clear HWn
        refine Hold.stop ?_
        refine Hold.go ?_
        go_wp2_with (go_at_call 10; refine (alive_any _).mono ?_; rintro e w9 ⟨rfl, hb9⟩)
        go_ret
        exact ⟨by simp, Below.step HW.out hb9⟩
    · have hd20 : decide ((20 : Int) < (p.length : Int)) = true := by rw [decide_eq_true_eq]; omega
      go_wp2_with (go_at_call 10; refine (alive_any _).mono ?_; rintro e w9 ⟨rfl, hb9⟩)
      go_ret
      exact ⟨by simp, Below.step HW.out hb9⟩
  · have hw' : (withinB t0 40 && withinB t1 40) = false := by simpa using hw
    clear hw
    go_wp2_with (first | (go_at_call 9; refine (small_any _ _ _ HLIT.out).mono ?_; rintro e w1 ⟨rfl, hb1⟩; rw [HSM.out, hw']) | (go_at_call 10; refine (alive_any _).mono ?_; rintro e w2 ⟨rfl, hb2⟩))
    go_ret
    exact ⟨by simp, Below.step (Below.step (Below.step hW (grow_alloc _ _)) hb1) hb2⟩

open Go.ChangeShapes Go.WideShapes Go.ChangeAt
theorem open_intslV {H : Type} {enc : TypeId × Value → H} {w : World} {base : Nat} {spare : Nat → Bool} {held : Bool} {r : Reach} {b0 : Nat} {v : Value} {d : DataW H} {p : List MemPlace} (hv : Value.okWide Try.prog w r b0 29 v) (h : DataW.Trod enc Try.prog w base spare held 29 v d p) : ∃ ns, Ints Any w v ns := by
  obtain ⟨a, len, cap, rfl⟩ := okWide_slice Try.underlying29 hv
  obtain ⟨fuel, hf⟩ := h
  obtain ⟨u, ns, hu, hns⟩ := open_intsl hf
  have hu' : [Value.slice a len cap] = [u] := hu
  obtain rfl := (List.cons.inj hu').1
  exact ⟨ns, hns⟩

open Go.ChangeShapes Go.WideShapes Go.ChangeAt
set_option maxRecDepth 100000 in
theorem termPaths_lifted (os : Os) (started : os.Started) (H : Type) (enc : TypeId × Value → H) :
    ReturnsInHanded {} Try.checked os 8 .any (Rows.termPathsSpec.pre6 enc Try.prog Try.f8 Rows.termPathsRow.domain false) (Rows.termPathsSpec.post enc Try.prog Try.f8 false true false false) := by
  refine returnsInHanded_of_change (C := Try.checked) own_knob started (by kernel_rfl) Try.func8
    (ChangeSpec.witness6 (enc := enc) (C := Try.checked) false ⟨#[], #[.agg #[.int .i64 0, .slice none 0 0], .slice none 0 0, .agg #[.int .i64 0, .slice none 0 0]], []⟩ 8 (by kernel_rfl) (by kernel_rfl) (by kernel_rfl) (by kernel_rfl)) ?_
  intro W base args ds gs before hval0 hW _ _
  have hval : ∀ (j : Nat) t v, Try.f8.params[j]? = some t → args[j]? = some v → Value.okWide Try.prog W .any base t v := hval0
  have hW' := hW
  obtain ⟨p, q, hA0, hV, rfl, hfz, hnd⟩ := hW
  have hA : DataW.TrodAll enc Try.prog W 0 (fun _ => true) true Try.f8.params.toList args.toList ds p := hA0
  rw [Try.params8] at hA hval
  obtain ⟨v0, vs0, d0, ds0, p0, q0, hargs, rfl, rfl, h0, r0⟩ := trodAll_cons hA
  obtain ⟨v1, vs1, d1, ds1, p1, q1, rfl, rfl, rfl, h1, r1⟩ := trodAll_cons r0
  obtain ⟨v2, vs2, d2, ds2, p2, q2, rfl, rfl, rfl, h2, r2⟩ := trodAll_cons r1
  obtain ⟨rfl, rfl, rfl⟩ := trodAll_nil r2
  obtain rfl : args = #[v0, v1, v2] := by cases args; simp_all
  obtain ⟨rfl, rfl⟩ := trodVars_none hV
  obtain ⟨t0, ht0⟩ := open_termV (hval 0 24 v0 rfl rfl) h0
  obtain ⟨tp, htp⟩ : ∃ ns, Ints Any W v1 ns := open_intslV (hval 1 29 v1 rfl rfl) h1
  obtain ⟨t2, ht2⟩ := open_termV (hval 2 24 v2 rfl rfl) h2
  refine (paths_walk t0 t2 tp v0 v1 v2 W ht0 htp ht2).mono fun e W' ⟨he, hg⟩ => ?_
  subst he
  exact ⟨_, rfl, law_post laid_out (by rw [Try.params8]; intro t ht; simp at ht; rcases ht with rfl | rfl | rfl <;> exact ⟨by kernel_rfl, of_decide_eq_true (by kernel_rfl)⟩) rfl Try.underlying4 rfl rfl hW' hg⟩

theorem termPaths_holds : Rows.TermPathsSaid :=
  OpenClaim.holds_of_wide 8 Try.f8 rfl rfl rfl rfl rfl rfl rfl ⟨rfl, rfl, rfl, rfl, rfl⟩ rfl rfl rfl rfl rfl (by kernel_rfl) Try.func8 (by kernel_rfl)
    (of_decide_eq_true (by kernel_rfl)) (by unfold Func.isWrapper; rw [if_neg (of_decide_eq_false (by kernel_rfl))]; exact ⟨rfl, rfl⟩)
    (fun os started H enc _ => termPaths_lifted os started H enc)
end Go.Proofs.Ytkimcgcbdfkobaa
