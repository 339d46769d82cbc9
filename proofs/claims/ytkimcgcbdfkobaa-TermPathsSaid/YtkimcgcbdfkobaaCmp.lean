/- The lists of rules and arities, and Compare: the program's and the reference's. -/
import Derived.Test.YtkimcgcbdfkobaaSize
set_option linter.unusedVariables false
set_option linter.unusedSimpArgs false
namespace Go.Proofs.Ytkimcgcbdfkobaa
open Go Go.RowKit

theorem elt_int : Elt Try.prog 29 3 1 8 := ⟨Try.underlying29, _, .int .i64 0, rfl, by kernel_rfl, by kernel_rfl, by kernel_rfl, rfl⟩

abbrev OwnI (lo : Nat) (w : World) (v : Value) (ns : List Int) : Prop := Own No lo 3 1 (fun _ _ cs (n : Int) => IntR cs n) w v ns

theorem OwnI.ints {lo : Nat} {w : World} {v : Value} {ns : List Int} (h : OwnI lo w v ns) : Ints (From lo) w v ns := (h.rep keptInt)

/-- a literal of one number -/
theorem ownI_one (w : World) (n : Int) (hn : InI64 n) (lo : Nat) (hlo : lo ≤ w.heap.size) : OwnI lo (w.alloc (.cells #[.int .i64 n] 3)) (.slice (some ⟨w.heap.size, 0, none⟩) 1 1) [n] :=
  ⟨[.int .i64 n], World.ownsRow_lit (base := lo) (e := 3) (size := 1) w #[.int .i64 n] 1 hlo (by simp [maxLen]) (by simp), fun i x h => by
    cases i with
    | zero => simp at h; subst h; exact ⟨rfl, hn⟩
    | succ i => simp at h⟩

/-- a slice of the call's own that came in, and what was appended -/
def RetOwnI (lo : Nat) (v0 : Value) (ns : List Int) (w : World) (e : Ending) (w' : World) : Prop :=
  ∃ v, e = .returned v ∧ OwnI lo w' v ns ∧ w.grownBy w' v0.ownBlock ∧ (v.ownBlock = v0.ownBlock ∨ ∃ b, v.ownBlock = some b ∧ w.heap.size ≤ b)

theorem grown_of_grow {w w' : World} (h : Grow w w') (row : Option Nat) : w.grownBy w' row := ⟨h.os, h.tape, h.output, h.size, fun k hk _ => h.block k hk⟩
theorem below_of_grown {w w' : World} {row : Option Nat} {B : Nat} (h : w.grownBy w' row) (hB : B ≤ w.heap.size) (hr : ∀ k, row = some k → B ≤ k) : Below B w w' := (Below.refl B w).grown h hB hr

theorem grown_step {w w1 w2 : World} {row row1 : Option Nat} (h : w.grownBy w1 row) (k : w1.grownBy w2 row1) (hr : row1 = row ∨ ∃ b, row1 = some b ∧ w.heap.size ≤ b) : w.grownBy w2 row :=
  ⟨k.os.trans h.os, k.tape.trans h.tape, k.output.trans h.output, Nat.le_trans h.size k.size, fun b hb hne => (k.block b (Nat.lt_of_lt_of_le hb h.size) (by
    rcases hr with rfl | ⟨c, rfl, hc⟩
    · exact hne
    · intro e; injection e with e; omega)).trans (h.block b hb hne)⟩

theorem enters {P : Program} {F : Nat} {fn : Func} (hf : P.funcs[F]? = some fn) (hn : (fn.name == "runtime.NumGoroutine") = false) (hb : fn.body.isNone = false) (args : Array Value) (w : World) :
    (callFunc F args).run P w = .ok (.enter F args) w := by
  have h1 : ¬ fn.name = "runtime.NumGoroutine" := by simpa using hn
  have h2 : ¬ fn.body = none := by intro h; rw [h] at hb; cases hb
  simp [callFunc, hf, h1, h2]

/-- the function value gives g for each node -/
structure Gives (F : Nat) (g : Tm → Int) : Prop where
  enter : ∀ (args : Array Value) (w : World), (callFunc F args).run Try.prog w = .ok (.enter F args) w
  calls : ∀ (t : Tm) (v : Value) (w : World), TmV Any w v t → Calls Try.prog F #[v] w fun e w' => e = .returned (.int .i64 (g t)) ∧ Grow w w'

theorem rule_gives : Gives 33 Tm.rule := by
  refine ⟨enters Try.func33 (by kernel_rfl) rfl, ?_⟩
  intro t v w hv
  obtain ⟨r, l⟩ := t
  obtain ⟨A, cap, rfl, hr, hc, hm, hl⟩ := hv.form
  clear hv hl
  go_enter Try.func33, Try.ntmps33
  go_wp2_with fail
  go_ret
  exact ⟨rfl, grow_alloc _ _⟩

theorem nargs_gives : Gives 36 Tm.nargs := by
  refine ⟨enters Try.func36 (by kernel_rfl) rfl, ?_⟩
  intro t v w hv
  obtain ⟨r, l⟩ := t
  obtain ⟨A, cap, rfl, hr, hc, hm, hl⟩ := hv.form
  clear hv hl
  go_enter Try.func36, Try.ntmps36
  go_wp2_with fail
  go_ret
  exact ⟨rfl, grow_alloc _ _⟩

theorem rule_ok {S : Nat → Prop} {w : World} {v : Value} {t : Tm} (h : TmV S w v t) : InI64 t.rule := by
  obtain ⟨r, l⟩ := t
  obtain ⟨_, _, _, hr, _⟩ := h.form
  exact hr
theorem nargs_ok {S : Nat → Prop} {w : World} {v : Value} {t : Tm} (h : TmV S w v t) : InI64 t.nargs := by
  obtain ⟨r, l⟩ := t
  obtain ⟨_, _, _, hr, h1, h2, _⟩ := h.form
  constructor <;> (simp only [Tm.nargs, Tm.args]; omega)

set_option maxHeartbeats 1000000 in
theorem collect_any (F : Nat) (g : Tm → Int) (hF : Hid (Gives F g)) (hg : Hid (∀ S w v t, TmV S w v t → InI64 (g t))) (t : Tm) : ∀ (v : Value) (w : World) (lo : Nat) (out : Value) (ns : List Int), TmV (Lt lo) w v t → ns.length + t.size ≤ 1000000000 →
    OwnI lo w out ns → lo ≤ w.heap.size →
    Calls Try.prog 32 #[out, v, .func (.func F) #[] #[]] w (RetOwnI lo out (ns ++ t.pre g) w) := by
  induction t using Tm.ind with
  | h r l ih =>
    intro v w lo out ns hv hs ho hlo
    have hgo := hg.out _ _ _ _ hv
    obtain ⟨A, cap, rfl, hr, hc, hm, hl⟩ := hv.form
    simp only [Tm.size] at hs
    have HL := Lib.hid hl
    have HV := Lib.hid hv
    have IH := Lib.hid ih
    have HO := Lib.hid ho
    have HG := Lib.hid hgo
    clear hl ih hv ho hgo
    have hE := hF.out.enter
    go_enter Try.func32, Try.ntmps32
    go_wp2_with fail
    refine (hF.out.calls (.mk r l) _ _ ((HV.out.keep (Same.of_grow (grow_alloc _ _))).mono (fun _ _ => trivial))).mono ?_
    rintro e w1 ⟨rfl, hb1⟩
    obtain ⟨hc1, hf1⟩ := bcell hb1
    have hz1 : w.heap.size + 1 ≤ w1.heap.size := by have := hb1.size; simpa using this
    have hl1 : lo ≤ w1.heap.size + 1 := by omega
    have HO1 := Lib.hid (((HO.out.grow keptInt (grow_alloc _ _)).grow keptInt hb1).grow keptInt (grow_alloc w1 (.cells #[.int .i64 (g (.mk r l))] 3)))
    have hnb : some w.heap.size ≠ out.ownBlock := fun h => by have := HO.out.block _ h.symm; omega
    have HNB := Lib.hid hnb
    clear hnb
    go_wp2_with (at_builtin; refine Hold.stop ?_)
    refine Hold.go ?_
    refine wpList_append_Own elt_int keptInt rfl (.tmp 9) (.tmp 13) rfl rfl rfl HO1.out (ownI_one w1 _ HG.out lo (by omega)).ints (by simp; omega) (by simp; omega) (by simpa using hl1) ?_
    intro v2 w2 ho2 hg2 hv2
    have cb : w2.cell? ⟨w.heap.size, 1, none⟩ = some (.slice A l.length cap) := by
      rw [hg2.cell_far _ (by simp; omega) HNB.out]
      exact ((Below.step hb1 (grow_alloc _ _)).cell (by simp)).trans (by simp)
    have hG0 : w.grownBy w2 out.ownBlock := grown_step (grown_of_grow (Below.step (Below.step (grow_alloc _ _) hb1) (grow_alloc _ _)) _) hg2 (.inl rfl)
    have hV0 : v2.ownBlock = out.ownBlock ∨ ∃ b, v2.ownBlock = some b ∧ w.heap.size ≤ b := hv2.imp id fun h => ⟨_, h, by simp; omega⟩
    have hblk : ∀ b, out.ownBlock = some b → lo ≤ b := fun b h => (HO.out.block b h).1
    have HBLK := Lib.hid hblk
    have HO2 := Lib.hid ho2
    have HG0 := Lib.hid hG0
    have HV0 := Lib.hid hV0
    clear hblk ho2 hG0 hV0 hg2 hv2 hc1 hf1 hb1 HO1 hz1 hl1 HNB
    go_wp2_with fail
    go_loopw [0, 18] (fun v i wr => ∃ k : Nat, k ≤ l.length ∧ i = .int .i64 k ∧ OwnI lo wr v (ns ++ (g (.mk r l) :: Tm.preL g (l.take k))) ∧ w.grownBy wr out.ownBlock ∧ (v.ownBlock = out.ownBlock ∨ ∃ b, v.ownBlock = some b ∧ w.heap.size ≤ b)) (fun _ i _ => l.length - (intOf i).toNat)
    case atStart => exact ⟨0, by omega, by simp, by simpa [Tm.preL] using HO2.out, HG0.out, HV0.out⟩
    case round =>
      obtain ⟨k, hk, rfl, ho, hg, hv⟩ := hrel
      have HO3 := Lib.hid ho
      have HG3 := Lib.hid hg
      have HV3 := Lib.hid hv
      clear ho hg hv
      by_cases hlt : k < l.length
      · obtain ⟨b, o, A', n', c', rfl, hbl, c1, c2, hv⟩ := (HL.out.keep (Same.of_grown HG3.out fun b hb e => by have := HBLK.out _ e.symm; unfold Lt at hb; omega)).get hlt
        have h1 : (ns ++ (g (.mk r l) :: Tm.preL g (l.take k))).length + l[k].size ≤ 1000000000 := by
          have := Tm.sizeL_take l (k + 1)
          have := Tm.sizeL_take_succ hlt
          simp [Tm.preL_length]; omega
        have HK := Lib.hid hv
        clear hv
        have hlw : lo ≤ wr.heap.size := by have := HG3.out.size; omega
        go_wp2_with fail
        refine (IH.out _ (List.getElem_mem hlt) _ _ lo _ _ (HK.out.keep (Same.of_grow (grow_alloc _ _))) h1 (HO3.out.grow keptInt (grow_alloc _ _)) (by simp; omega)).mono ?_
        rintro e w4 ⟨v4, rfl, ho4, hg4, hv4⟩
        have HO4 := Lib.hid ho4
        have HG4 := Lib.hid hg4
        have HV4 := Lib.hid hv4
        clear ho4 hg4 hv4
        go_wp2_with fail
        go_roundw
        case rel =>
          refine ⟨k + 1, by omega, by go_num, ?_, grown_step (grown_step HG3.out (grown_of_grow (grow_alloc _ _) _) (.inl rfl)) HG4.out HV3.out, ?_⟩
          · rw [Tm.preL_take_succ g hlt]
            simpa using HO4.out
          · rcases HV4.out with h | ⟨b, h, hb⟩
            · rcases HV3.out with h' | ⟨b, h', hb⟩
              · exact .inl (h.trans h')
              · exact .inr ⟨b, h.trans h', hb⟩
            · exact .inr ⟨b, h, by have := HG3.out.size; simp at hb; omega⟩
        case measure => simp [intOf]; omega
      · have h0 : k = l.length := by omega
        subst h0
        go_wp2_with fail
        go_ret
        exact ⟨_, rfl, by simpa [Tm.pre] using HO3.out, HG3.out, HV3.out⟩

/-- numbers in new memory -/
abbrev RetInts (w : World) (ns : List Int) : Ending → World → Prop := RetR (fun S w v => Ints S w v ns) w

theorem rules_any (t : Tm) (v : Value) (w : World) (hv : TmV Any w v t) (hs : t.size ≤ 1000000) : Calls Try.prog 16 #[v] w (RetInts w t.rules) := by
  obtain ⟨r, l⟩ := t
  have HV := Lib.hid (hv.bound.mono (S' := Lt w.heap.size) fun b hb => hb.2)
  obtain ⟨A, cap, rfl, hr, hc, hm, hl⟩ := hv.form
  clear hv hl
  go_enter Try.func16, Try.ntmps16
  go_wp2_with fail
  refine (collect_any _ _ (Lib.hid rule_gives) (Lib.hid fun _ _ _ _ => rule_ok) (.mk r l) _ _ w.heap.size _ [] (HV.out.keep (Same.of_grow (grow_alloc _ _))) (by simpa using Nat.le_trans hs (by omega)) Own.nil (by simp)).mono ?_
  rintro e w1 ⟨v1, rfl, ho, hg, hv1⟩
  have HO := Lib.hid ho
  have HG := Lib.hid hg
  clear ho hg hv1
  go_wp2_with fail
  go_ret
  exact ⟨_, rfl, by simpa [Tm.rules] using HO.out.ints, Below.step (grow_alloc _ _) (below_of_grown HG.out (Nat.le_refl _) (fun k h => by cases h))⟩
end Go.Proofs.Ytkimcgcbdfkobaa
