/- Small values, few rules: the guards of the statements. -/
import Derived.Test.YtkimcgcbdfkobaaRows
import Derived.Test.YtkimcgcbdfkobaaLang
set_option linter.unusedVariables false
set_option linter.unusedSimpArgs false
namespace Go.Proofs.Ytkimcgcbdfkobaa
open Go Go.RowKit

mutual
/-- the reference's Count, with the wraps -/
def Va.cnt : Va → Int → Int
  | .mk _ _ _ l, m => cntL l m 0
def cntL : List Va → Int → Int → Int
  | [], _, n => n
  | v :: l, m, n => if n ≤ m then cntL l m (wrap64 (n + wrap64 (1 + v.cnt (wrap64 (m - n))))) else n
end
theorem cnt_items (v : Va) (m : Int) : v.cnt m = cntL v.items m 0 := by cases v; rfl
theorem cntL_drop {l : List Va} {k : Nat} (h : k < l.length) (m n : Int) : cntL (l.drop k) m n = if n ≤ m then cntL (l.drop (k + 1)) m (wrap64 (n + wrap64 (1 + cntL l[k].items (wrap64 (m - n)) 0))) else n := by
  rw [List.drop_eq_getElem_cons h, cntL, cnt_items]
theorem wrap64_in64 (n : Int) : InI64 (wrap64 n) := by unfold wrap64 InI64; omega
theorem cntL_in (m : Int) : ∀ (l : List Va) (n : Int), InI64 n → InI64 (cntL l m n)
  | [], n, h => h
  | v :: l, n, h => by
    unfold cntL
    split
    · exact cntL_in m l _ (wrap64_in64 _)
    · exact h

set_option maxHeartbeats 1000000 in
theorem count_any : ∀ (sz : Nat) (l : List Va) (v : Value) (w : World) (m : Int), SizeOf.sizeOf l ≤ sz → Vas Any w v l → InI64 m →
    Calls Try.prog 44 #[v, .int .i64 m] w fun e w' => e = .returned (.int .i64 (cntL l m 0)) ∧ Grow w w' := by
  intro sz
  induction sz with
  | zero => intro l; cases l <;> simp
  | succ sz ih =>
    intro l v w m hsz hv hm
    have HL := Lib.hid hv
    obtain ⟨A, cap, rfl, hc, hcm⟩ := hv.shape
    obtain ⟨hm1, hm2⟩ := hm
    have IH := Lib.hid ih
    clear hv ih
    go_enter Try.func44, Try.ntmps44
    go_wp2_with fail
    go_loopw [5, 6] (fun x i wr => ∃ (k : Nat) (n : Int), k ≤ l.length ∧ i = .int .i64 k ∧ x = .int .i64 n ∧ InI64 n ∧ Hid (cntL l m 0 = cntL (l.drop k) m n) ∧ Grow w wr) (fun _ i _ => l.length - (intOf i).toNat)
    case atStart => exact ⟨0, 0, by omega, by simp, rfl, by constructor <;> omega, Lib.hid rfl, grow_refl _⟩
    case round =>
      obtain ⟨k, n, hk, rfl, rfl, ⟨hn1, hn2⟩, hx, hb⟩ := hrel
      by_cases hlt : k < l.length
      · have HD := Lib.hid (cntL_drop hlt m n)
        by_cases hnm : n ≤ m
        · obtain ⟨b, o, A', c', rfl, -, d0, d1, d2, d3, -, hitems, _, _, _, hl1, hl2⟩ := Vas.get (HL.out |> fun h => keptVa.skeep h (Same.of_grow hb)) hlt
          have HI := Lib.hid hitems
          have hs2 : SizeOf.sizeOf l[k].items ≤ sz := by
            have h1 : SizeOf.sizeOf l[k] < SizeOf.sizeOf l := List.sizeOf_lt_of_mem (List.getElem_mem hlt)
            have h2 : SizeOf.sizeOf l[k].items < SizeOf.sizeOf l[k] := by
              generalize l[k] = q
              cases q
              simp [Va.items]
              omega
            omega
          clear hitems
          go_wp2_with fail
          refine (IH.out _ _ _ _ hs2 HI.out (wrap64_in64 _)).mono ?_
          rintro e w' ⟨rfl, hb'⟩
          go_wp2_with fail
          go_roundw
          case rel => exact ⟨k + 1, _, by omega, by go_num, rfl, wrap64_in64 _, Lib.hid (by rw [hx.out, HD.out, if_pos hnm]), Below.step hb hb'⟩
          case measure => simp [intOf]; omega
        · have HF := Lib.hid (show cntL l m 0 = n by rw [hx.out, HD.out, if_neg hnm])
          go_wp2_with fail
          go_ret
          exact ⟨ret_int HF.out.symm, hb⟩
      · have h0 : k = l.length := by omega
        subst h0
        go_wp2_with fail
        go_ret
        exact ⟨ret_int (by rw [hx.out, List.drop_length]; rfl), hb⟩

mutual
/-- the reference's shallow -/
def Va.shal : Va → Nat → Bool
  | .mk _ _ s l, m => m != 0 && decide (s.size ≤ 100) && shalL l (m - 1)
def shalL : List Va → Nat → Bool
  | [], _ => true
  | v :: l, m => v.shal m && shalL l m
end
theorem shalL_drop {l : List Va} {k : Nat} (h : k < l.length) (m : Nat) : shalL (l.drop k) m = (l[k].shal m && shalL (l.drop (k + 1)) m) := by
  rw [List.drop_eq_getElem_cons h, shalL]

set_option maxHeartbeats 1000000 in
theorem shallow01_any : ∀ (m : Nat) (x : Va) (v : Value) (w : World), m ≤ 1000 → VaV Any w v x →
    Calls Try.prog 45 #[v, .int .i64 m] w fun e w' => e = .returned (.bool (x.shal m)) ∧ Grow w w' := by
  intro m
  induction m with
  | zero =>
    intro x v w _ hv
    obtain ⟨t, n, s, l⟩ := x
    obtain ⟨A, cap, rfl, ht, hn, hs, hc, hm, hl⟩ := hv.form
    clear hv hl
    go_enter Try.func45, Try.ntmps45
    go_wp2_with fail
    go_ret
    exact ⟨by simp [Va.shal], grow_alloc _ _⟩
  | succ m ih =>
    intro x v w hm1 hv
    obtain ⟨t, n, s, l⟩ := x
    obtain ⟨A, cap, rfl, ht, hn, hs, hc, hm, hl⟩ := hv.form
    have HL := Lib.hid (keptVa.skeep hl (Same.of_grow (grow_alloc w (.cells #[.int .i64 t, .int .i64 n, .string s, .slice A l.length cap] 55))))
    have IH := Lib.hid ih
    unfold Short at hs
    clear hv hl ih
    have hne : (((m : Int) + 1) == 0) = false := by simp; omega
    by_cases hs1 : s.size ≤ 100
    · have HF := Lib.hid (show (Va.mk t n s l).shal (m + 1) = shalL l m by simp [Va.shal, hs1])
      have hd : decide (100 < (s.size : Int)) = false := by simp; omega
      go_enter Try.func45, Try.ntmps45
      go_wp2_with fail
      go_loopw [5] (fun i wr => ∃ (k : Nat), k ≤ l.length ∧ i = .int .i64 k ∧ Hid (shalL l m = shalL (l.drop k) m) ∧ Grow (w.alloc (.cells #[.int .i64 t, .int .i64 n, .string s, .slice A l.length cap] 55)) wr) (fun i _ => l.length - (intOf i).toNat)
      case atStart => exact ⟨0, by omega, by simp, Lib.hid rfl, grow_refl _⟩
      case round =>
        obtain ⟨k, hk, rfl, hx, hb⟩ := hrel
        have cb : wr.cell? ⟨w.heap.size, 3, none⟩ = some (.slice A l.length cap) := by rw [Below.cell hb (by simp)]; simp
        by_cases hlt : k < l.length
        · obtain ⟨b, o, A', c', rfl, -, d0, d1, d2, d3, hv, -, _, _, _, hl1, hl2⟩ := Vas.get (keptVa.skeep HL.out (Same.of_grow hb)) hlt
          have HV := Lib.hid hv
          have HD := Lib.hid (shalL_drop hlt m)
          clear hv
          by_cases hsh : l[k].shal m = true
          · go_wp2_with (go_at_call 45; refine (IH.out _ _ _ (by omega) HV.out).mono ?_; rintro e w' ⟨rfl, hb'⟩)
            go_roundw
            case rel => (repeat apply Exists.intro); exact ⟨⟨k + 1, by omega, by go_num, Lib.hid (by rw [hx.out, HD.out, hsh, Bool.true_and]), Below.step hb hb'⟩, rfl⟩
            case measure => simp [intOf]; omega
          · have hsh' : l[k].shal m = false := by simpa using hsh
            clear hsh
            go_wp2_with (go_at_call 45; refine (IH.out _ _ _ (by omega) HV.out).mono ?_; rintro e w' ⟨rfl, hb'⟩)
            go_ret
            exact ⟨by rw [HF.out, hx.out, HD.out, hsh', Bool.false_and]; rfl, Below.step (grow_alloc _ _) (Below.step hb hb')⟩
        · have h0 : k = l.length := by omega
          subst h0
          go_wp2_with fail
          go_ret
          exact ⟨by rw [HF.out, hx.out, List.drop_length]; rfl, Below.step (grow_alloc _ _) hb⟩
    · have HF := Lib.hid (show (Va.mk t n s l).shal (m + 1) = false by simp [Va.shal, hs1])
      have hd : decide (100 < (s.size : Int)) = true := by simp; omega
      go_enter Try.func45, Try.ntmps45
      go_wp2_with fail
      go_ret
      exact ⟨by rw [HF.out]; rfl, grow_alloc _ _⟩

/-- is the value small? -/
def smallV (x : Va) : Bool := decide (cntL [x] 90 0 ≤ 90) && x.shal 8

set_option maxHeartbeats 1000000 in
theorem small01_any (x : Va) (v : Value) (w : World) (hv : VaV Any w v x) :
    Calls Try.prog 37 #[v] w fun e w' => e = .returned (.bool (smallV x)) ∧ Grow w w' := by
  have HV := Lib.hid hv
  have HS := Lib.hid (show smallV x = (decide (cntL [x] 90 0 ≤ 90) && x.shal 8) from rfl)
  obtain ⟨t, n, s, l, hx⟩ : ∃ t n s l, x = .mk t n s l := ⟨x.type, x.num, x.text, x.items, by cases x; rfl⟩
  rw [hx] at hv
  obtain ⟨A, cap, rfl, ht, hn, hs, hc, hm, hl⟩ := hv.form
  have HLIT : Hid (Vas Any ((w.alloc (.cells #[.int .i64 t, .int .i64 n, .string s, .slice A l.length cap] 55)).alloc (.cells #[.int .i64 t, .int .i64 n, .string s, .slice A l.length cap] 55)) (.slice (some ⟨w.heap.size + 1, 0, none⟩) 1 1) [x]) := by
    have hrep := HV.out.cells.keep (Same.of_grow (Below.step (grow_alloc w (.cells #[.int .i64 t, .int .i64 n, .string s, .slice A l.length cap] 55)) (grow_alloc _ (.cells #[.int .i64 t, .int .i64 n, .string s, .slice A l.length cap] 55))))
    have hblk := heap_alloc_new (w.alloc (.cells #[.int .i64 t, .int .i64 n, .string s, .slice A l.length cap] 55)) (.cells #[.int .i64 t, .int .i64 n, .string s, .slice A l.length cap] 55)
    simp only [World.size_alloc] at hblk
    exact sl_lit [[.int .i64 t, .int .i64 n, .string s, .slice A l.length cap]] [x] hblk rfl trivial (by simp) rfl (by simp) (fun i cs y hi hy => by
      match i, hi, hy with
      | 0, hi, hy => cases hi; cases hy; exact hrep
      | k + 1, hi, _ => simp at hi)
  clear hv hl hx
  by_cases hcn : cntL [x] 90 0 ≤ 90
  · have hd : decide (cntL [x] 90 0 ≤ 90) = true := by simp [hcn]
    go_enter Try.func37, Try.ntmps37
    go_wp2_with (go_at_call 44; refine (count_any _ _ _ _ _ (Nat.le_refl _) HLIT.out (by constructor <;> omega)).mono ?_; rintro e w1 ⟨rfl, hb1⟩; refine Hold.stop ?_)
    have hG1 : Grow (w.alloc (.cells #[.int .i64 t, .int .i64 n, .string s, .slice A l.length cap] 55)) w1 := Below.step (grow_alloc _ _) hb1
    obtain ⟨hc1, hf1⟩ := bcell hG1
    refine Hold.go ?_
    go_wp2_with (go_at_call 45; refine (shallow01_any 8 x _ _ (by omega) (HV.out.keep (Same.of_grow (Below.step (grow_alloc _ _) hG1)))).mono ?_; rintro e w2 ⟨rfl, hb2⟩)
    go_ret
    exact ⟨by rw [HS.out, hd, Bool.true_and]; simp, Below.step (Below.step (grow_alloc _ _) hG1) hb2⟩
  · have hd : decide (cntL [x] 90 0 ≤ 90) = false := by simp [hcn]
    clear hcn
    go_enter Try.func37, Try.ntmps37
    go_wp2_with (go_at_call 44; refine (count_any _ _ _ _ _ (Nat.le_refl _) HLIT.out (by constructor <;> omega)).mono ?_; rintro e w1 ⟨rfl, hb1⟩)
    go_ret
    exact ⟨by rw [HS.out, hd, Bool.false_and]; rfl, Below.step (Below.step (grow_alloc _ _) (grow_alloc _ _)) hb1⟩

/-- few rules and symbols, short names, small constants -/
def fewSy (l : List Sy) : Bool := l.all fun x => decide (x.name.size ≤ 40)
def fewRu (l : List Ru) : Bool := l.all fun x => smallV x.const && decide (x.op.size ≤ 40) && decide (x.args.length ≤ 6)
def fewB (l : La) : Bool := decide (l.name.size ≤ 40) && decide (l.inputs.length ≤ 6) && decide (l.symbols.length ≤ 18) && decide (l.rules.length ≤ 30) && fewSy l.symbols && fewRu l.rules
theorem fewSy_drop {l : List Sy} {k : Nat} (h : k < l.length) : fewSy (l.drop k) = (decide (l[k].name.size ≤ 40) && fewSy (l.drop (k + 1))) := by unfold fewSy; rw [List.drop_eq_getElem_cons h, List.all_cons]
theorem fewRu_drop {l : List Ru} {k : Nat} (h : k < l.length) : fewRu (l.drop k) = (smallV l[k].const && decide (l[k].op.size ≤ 40) && decide (l[k].args.length ≤ 6) && fewRu (l.drop (k + 1))) := by unfold fewRu; rw [List.drop_eq_getElem_cons h, List.all_cons]

set_option maxHeartbeats 4000000 in
theorem few_any (l : La) (v : Value) (w : World) (hv : LaV Any w v l) :
    Calls Try.prog 20 #[v] w fun e w' => e = .returned (.bool (fewB l)) ∧ Grow w w' := by
  obtain ⟨A1, c1, A2, c2, A3, c3, rfl, hn, h1, h2, h3, ⟨l1, m1⟩, ⟨l2, m2⟩, ⟨l3, m3⟩⟩ := hv.form
  have hW : Grow w (w.alloc (.cells #[.string l.name, .slice A1 l.inputs.length c1, .slice A2 l.symbols.length c2, .slice A3 l.rules.length c3] 38)) := grow_alloc _ _
  have H2 := Lib.hid (keptSy.skeep h2 (Same.of_grow hW))
  have H3 := Lib.hid (keptRu.skeep h3 (Same.of_grow hW))
  clear hv h1 h2 h3
  unfold Short at hn
  have HF := Lib.hid (show fewB l = (decide (l.name.size ≤ 40) && decide (l.inputs.length ≤ 6) && decide (l.symbols.length ≤ 18) && decide (l.rules.length ≤ 30) && fewSy l.symbols && fewRu l.rules) from rfl)
  have cb2 : (w.alloc (.cells #[.string l.name, .slice A1 l.inputs.length c1, .slice A2 l.symbols.length c2, .slice A3 l.rules.length c3] 38)).cell? ⟨w.heap.size, 2, none⟩ = some (.slice A2 l.symbols.length c2) := by simp
  have cb3 : (w.alloc (.cells #[.string l.name, .slice A1 l.inputs.length c1, .slice A2 l.symbols.length c2, .slice A3 l.rules.length c3] 38)).cell? ⟨w.heap.size, 3, none⟩ = some (.slice A3 l.rules.length c3) := by simp
  by_cases k1 : l.name.size ≤ 40
  case neg =>
    have d1 : decide (40 < (l.name.size : Int)) = true := by simp; omega
    have HFF := Lib.hid (show fewB l = false by rw [HF.out]; simp [k1])
    clear k1
    go_enter Try.func20, Try.ntmps20
    go_wp2_with fail
    go_ret
    exact ⟨by rw [HFF.out]; rfl, hW⟩
  have d1 : decide (40 < (l.name.size : Int)) = false := by simp; omega
  by_cases k2 : l.inputs.length ≤ 6
  case neg =>
    have d2 : decide (6 < (l.inputs.length : Int)) = true := by simp; omega
    have HFF := Lib.hid (show fewB l = false by rw [HF.out]; simp [k2])
    clear k1 k2
    go_enter Try.func20, Try.ntmps20
    go_wp2_with fail
    go_ret
    exact ⟨by rw [HFF.out]; rfl, hW⟩
  have d2 : decide (6 < (l.inputs.length : Int)) = false := by simp; omega
  by_cases k3 : l.symbols.length ≤ 18
  case neg =>
    have d3 : decide (18 < (l.symbols.length : Int)) = true := by simp; omega
    have HFF := Lib.hid (show fewB l = false by rw [HF.out]; simp [k3])
    clear k1 k2 k3
    go_enter Try.func20, Try.ntmps20
    go_wp2_with fail
    go_ret
    exact ⟨by rw [HFF.out]; rfl, hW⟩
  have d3 : decide (18 < (l.symbols.length : Int)) = false := by simp; omega
  by_cases k4 : l.rules.length ≤ 30
  case neg =>
    have d4 : decide (30 < (l.rules.length : Int)) = true := by simp; omega
    have HFF := Lib.hid (show fewB l = false by rw [HF.out]; simp [k4])
    clear k1 k2 k3 k4
    go_enter Try.func20, Try.ntmps20
    go_wp2_with fail
    go_ret
    exact ⟨by rw [HFF.out]; rfl, hW⟩
  have d4 : decide (30 < (l.rules.length : Int)) = false := by simp; omega
  have HFF := Lib.hid (show fewB l = (fewSy l.symbols && fewRu l.rules) by rw [HF.out]; simp [k1, k2, k3, k4])
  clear k1 k2 k3 k4 HF
  go_enter Try.func20, Try.ntmps20
  go_wp2_with fail
  clear d1 d2 d3 d4
  generalize hWd : w.alloc (.cells #[.string l.name, .slice A1 l.inputs.length c1, .slice A2 l.symbols.length c2, .slice A3 l.rules.length c3] 38) = W at *
  clear hWd
  go_loopw [3] (fun i wr => ∃ (k : Nat), k ≤ l.symbols.length ∧ i = .int .i64 k ∧ Hid (fewSy l.symbols = fewSy (l.symbols.drop k)) ∧ Grow W wr) (fun i _ => l.symbols.length - (intOf i).toNat)
  case atStart => exact ⟨0, by omega, by simp, Lib.hid rfl, grow_refl _⟩
  case round =>
    obtain ⟨k, hk, rfl, hx, hb⟩ := hrel
    have e2 := (Below.cell hb (cell_lt cb2)).trans cb2
    have e3 := (Below.cell hb (cell_lt cb3)).trans cb3
    by_cases hlt : k < l.symbols.length
    · obtain ⟨b, o, rfl, -, d0, d1, hsn, _⟩ := Sys.get (keptSy.skeep H2.out (Same.of_grow hb)) hlt
      have HD := Lib.hid (fewSy_drop hlt)
      unfold Short at hsn
      by_cases hs : l.symbols[k].name.size ≤ 40
      · have ds : decide (40 < (l.symbols[k].name.size : Int)) = false := by simp; omega
        have HD2 := Lib.hid (show fewSy (l.symbols.drop k) = fewSy (l.symbols.drop (k + 1)) by rw [HD.out]; simp [hs])
        clear hs
        go_wp2_with fail
        go_roundw
        case rel => exact ⟨k + 1, by omega, by go_num, Lib.hid (by rw [hx.out, HD2.out]), hb⟩
        case measure => simp [intOf]; omega
      · have ds : decide (40 < (l.symbols[k].name.size : Int)) = true := by simp; omega
        have HD2 := Lib.hid (show fewB l = false by rw [HFF.out, hx.out, HD.out]; simp [hs])
        clear hs
        go_wp2_with fail
        go_ret
        exact ⟨by rw [HD2.out]; rfl, Below.step hW hb⟩
    · have hkl : k = l.symbols.length := by omega
      have HS2 := Lib.hid (show fewB l = fewRu l.rules by rw [HFF.out, hx.out, hkl, List.drop_length]; simp [fewSy])
      clear hkl
      go_wp2_with fail
      rename World => wq
      go_loopw [4] (fun i wr => ∃ (k : Nat), k ≤ l.rules.length ∧ i = .int .i64 k ∧ Hid (fewRu l.rules = fewRu (l.rules.drop k)) ∧ Grow W wr) (fun i _ => l.rules.length - (intOf i).toNat)
      case atStart => exact ⟨0, by omega, by simp, Lib.hid rfl, hb⟩
      case round =>
        obtain ⟨j, hj, rfl, hy, hbj⟩ := hrel
        have e3 := (Below.cell hbj (cell_lt cb3)).trans cb3
        by_cases hjl : j < l.rules.length
        · obtain ⟨b, o, B, ci, C, ca, rfl, -, f0, f1, f2, f3, f4, f5, f6, f7, f8, hrep, ⟨g1, g2⟩, ⟨g3, g4⟩⟩ := Rus.get (keptRu.skeep H3.out (Same.of_grow hbj)) hjl
          have HD := Lib.hid (fewRu_drop hjl)
          obtain ⟨B', n', ci', C', m', ca', hcc, _, _, _, hop, hva, _⟩ := hrep.form
          have HVA : Hid (VaV Any wr (.agg #[.int .i64 l.rules[j].const.type, .int .i64 l.rules[j].const.num, .string l.rules[j].const.text, .slice B l.rules[j].const.items.length ci]) l.rules[j].const) := by
            simp only [List.cons.injEq, and_true, true_and, Value.slice.injEq] at hcc
            obtain ⟨⟨rfl, rfl, rfl⟩, _⟩ := hcc
            exact ⟨_, rfl, hva⟩
          clear hrep hcc hva
          unfold Short at hop
          by_cases hsm : smallV l.rules[j].const = true
          · by_cases ho : l.rules[j].op.size ≤ 40
            · have do_ : decide (40 < (l.rules[j].op.size : Int)) = false := by simp; omega
              by_cases ha : l.rules[j].args.length ≤ 6
              · have da : decide (6 < (l.rules[j].args.length : Int)) = false := by simp; omega
                have HD2 := Lib.hid (show fewRu (l.rules.drop j) = fewRu (l.rules.drop (j + 1)) by rw [HD.out]; simp [hsm, ho, ha])
                clear ho ha
                go_wp2_with (go_at_call 37; refine (small01_any _ _ _ (HVA.out.keep (Same.of_grow (grow_alloc _ _)))).mono ?_; rintro e w1 ⟨rfl, hb1⟩; rw [hsm]; refine Hold.stop ?_)
                obtain ⟨hc1, hf1⟩ := bcell hb1
                refine Hold.go ?_
                go_wp2_with fail
                go_roundw
                case rel => exact ⟨j + 1, by omega, by go_num, Lib.hid (by rw [hy.out, HD2.out]), Below.step hbj (Below.step (grow_alloc _ _) hb1)⟩
                case measure => simp [intOf]; omega
              · have da : decide (6 < (l.rules[j].args.length : Int)) = true := by simp; omega
                have HD2 := Lib.hid (show fewB l = false by rw [HS2.out, hy.out, HD.out]; simp [ha])
                clear ho ha
                go_wp2_with (go_at_call 37; refine (small01_any _ _ _ (HVA.out.keep (Same.of_grow (grow_alloc _ _)))).mono ?_; rintro e w1 ⟨rfl, hb1⟩; rw [hsm]; refine Hold.stop ?_)
                obtain ⟨hc1, hf1⟩ := bcell hb1
                refine Hold.go ?_
                go_wp2_with fail
                go_ret
                exact ⟨by rw [HD2.out]; rfl, Below.step hW (Below.step hbj (Below.step (grow_alloc _ _) hb1))⟩
            · have do_ : decide (40 < (l.rules[j].op.size : Int)) = true := by simp; omega
              have HD2 := Lib.hid (show fewB l = false by rw [HS2.out, hy.out, HD.out]; simp [ho])
              clear ho
              go_wp2_with (go_at_call 37; refine (small01_any _ _ _ (HVA.out.keep (Same.of_grow (grow_alloc _ _)))).mono ?_; rintro e w1 ⟨rfl, hb1⟩; rw [hsm]; refine Hold.stop ?_)
              obtain ⟨hc1, hf1⟩ := bcell hb1
              refine Hold.go ?_
              go_wp2_with fail
              go_ret
              exact ⟨by rw [HD2.out]; rfl, Below.step hW (Below.step hbj (Below.step (grow_alloc _ _) hb1))⟩
          · have hsm' : smallV l.rules[j].const = false := by simpa using hsm
            have HD2 := Lib.hid (show fewB l = false by rw [HS2.out, hy.out, HD.out]; simp [hsm'])
            clear hsm
            go_wp2_with (go_at_call 37; refine (small01_any _ _ _ (HVA.out.keep (Same.of_grow (grow_alloc _ _)))).mono ?_; rintro e w1 ⟨rfl, hb1⟩; rw [hsm']; refine Hold.stop ?_)
            obtain ⟨hc1, hf1⟩ := bcell hb1
            refine Hold.go ?_
            go_wp2_with fail
            go_ret
            exact ⟨by rw [HD2.out]; rfl, Below.step hW (Below.step hbj (Below.step (grow_alloc _ _) hb1))⟩
        · have hjl2 : j = l.rules.length := by omega
          have HS3 := Lib.hid (show fewB l = true by rw [HS2.out, hy.out, hjl2, List.drop_length]; simp [fewRu])
          clear hjl2
          go_wp2_with fail
          go_ret
          exact ⟨by rw [HS3.out]; rfl, Below.step hW hbj⟩
end Go.Proofs.Ytkimcgcbdfkobaa
