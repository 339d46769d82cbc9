/- Two numbers that came in. -/
import Derived.Test.YtfkddbccogakoaaKi
import Derived.Test.YtfkddbccogakoaaKg
import Derived.Test.YtfkddbccogakoaaGv
import Derived.OpenShut
set_option linter.unusedVariables false
set_option linter.unusedSimpArgs false
namespace Go.Proofs.Ytfkddbccogakoaa
open Go Go.RowKit

theorem sizeT_args {t : Tm} : t.size = Tm.sizeL t.args + 1 := by cases t; simp [Tm.size, Tm.args, Nat.add_comm]
theorem pre_mk (g : Tm → Int) (t : Tm) : t.pre g = g t :: Tm.preL g t.args := by cases t; rfl
theorem args_size {t x : Tm} (h : x ∈ t.args) : x.size < t.size := by
  have := Tm.sizeL_mem h
  have := sizeT_args (t := t)
  omega
theorem args_len (t : Tm) : t.args.length < t.size := by
  have := Tm.sizeL_len t.args
  have := sizeT_args (t := t)
  omega
theorem join_fold (g : Tm → Int) (r : Tm → Option (List Int)) : ∀ (xs : List Tm) (acc : List Int), acc.length + Tm.sizeL xs ≤ 1000000 → (∀ x ∈ xs, r x = some (x.pre g)) → xs.foldlM (fun s x => Option.bind (r x) fun v => app 8 s v) acc = some (acc ++ Tm.preL g xs)
  | [], acc, _, _ => by simp [Tm.preL]
  | x :: xs, acc, hl, h => by
    have hs : Tm.sizeL (x :: xs) = x.size + Tm.sizeL xs := rfl
    rw [List.foldlM_cons, h x (List.mem_cons_self ..), Option.bind_some, app_eq (by rw [Tm.pre_length]; omega)]
    have := join_fold g r xs (acc ++ x.pre g) (by rw [List.length_append, Tm.pre_length]; omega) fun y hy => h y (List.mem_cons_of_mem _ hy)
    show List.foldlM _ (acc ++ x.pre g) xs = _
    rw [this, List.append_assoc]
    rfl
theorem rules12 : ∀ (n : Nat) (t : Tm), t.size ≤ n → t.size ≤ 1000 → synthesisref12_Rules n t = some t.rules
  | 0, t, h, _ => by have := Tm.size_pos t; omega
  | n + 1, t, h, hl => by
    show synthesisref12_Rules_b (synthesisref12_Rules n) t = _
    have hal := args_len t
    have hsa := sizeT_args (t := t)
    unfold synthesisref12_Rules_b
    rw [loop_acc (step := synthesisref12_Rules_l1 t (synthesisref12_Rules n)) t.args (fun s x => Option.bind (synthesisref12_Rules n x) fun v => app 8 s v) (fun i s => (i, s)) (by omega) (fun i x s hx => by
      have hi := get_lt hx
      simp only [synthesisref12_Rules_l1, lt_len hi, cond_true, idx_nat, hx, Option.bind_some, w64_succ' hi (show t.args.length ≤ 9223372036854775807 by omega)]
      cases synthesisref12_Rules n x with
      | none => rfl
      | some v => simp only [Option.bind_some]; cases app 8 s v <;> rfl) (fun s => by simp only [synthesisref12_Rules_l1, lt_len', cond_false])]
    rw [join_fold Tm.rule _ t.args _ (by rw [List.length_singleton]; omega) fun x hx => rules12 n x (by have := args_size hx; omega) (by have := args_size hx; omega)]
    show some _ = some (t.pre Tm.rule)
    rw [pre_mk]
    rfl
theorem preL_app (g : Tm → Int) : ∀ a b : List Tm, Tm.preL g (a ++ b) = Tm.preL g a ++ Tm.preL g b
  | [], b => rfl
  | x :: a, b => by
    show x.pre g ++ Tm.preL g (a ++ b) = (x.pre g ++ Tm.preL g a) ++ Tm.preL g b
    rw [preL_app g a b, List.append_assoc]
theorem preL_split (i : Int) (q : List Tm) (a : Nat) : Tm.preL Tm.rule (Tm.mk i (q.take a) :: q.drop a) = i :: Tm.preL Tm.rule q := by
  show (Tm.mk i (q.take a)).pre Tm.rule ++ Tm.preL Tm.rule (q.drop a) = _
  rw [pre_mk]
  show i :: (Tm.preL Tm.rule (q.take a) ++ Tm.preL Tm.rule (q.drop a)) = _
  rw [← preL_app, List.take_append_drop]
theorem chT_size (l : La) : ∀ (k : Nat) (ys : List Int) (n : Nat), n < NS.rr (VN l) ys k → Tm.sizeL (chT l k ys n) = k := fun k ys n h => by
  rw [← Tm.preL_length Tm.rule]
  induction k generalizing ys n with
  | zero => rfl
  | succ k ih =>
    cases ys with
    | nil => exact (rr_nils h).elim
    | cons y tl =>
      obtain ⟨pre, i, post, n', _, h2, _, h4⟩ := chT_at l h
      rw [h4, preL_split, List.length_cons, ih _ n' h2]
/-- the first difference is a smaller number -/
def LtL (a b : List Int) : Prop := ∃ p x y a' b', a = p ++ x :: a' ∧ b = p ++ y :: b' ∧ x < y
theorem take_mono (f : Nat → Nat) (L : List Nat) {a b : Nat} (h : a ≤ b) : ((L.take a).map f).sum ≤ ((L.take b).map f).sum := by
  have : L.take b = L.take a ++ (L.take b).drop a := by
    conv => lhs; rw [← List.take_append_drop a (L.take b), List.take_take, Nat.min_eq_left h]
  rw [this, List.map_append, List.sum_append]
  omega
theorem plL_sorted (l : La) (s : Int) (n : Nat) : (plL l s n).Pairwise (· < ·) := List.Pairwise.filter _ List.pairwise_lt_range
theorem chT_lt (l : La) : ∀ (k : Nat) (ys : List Int) (n m : Nat), n < m → m < NS.rr (VN l) ys k → LtL (Tm.preL Tm.rule (chT l k ys n)) (Tm.preL Tm.rule (chT l k ys m))
  | 0, ys, n, m, h, hm => by
    have := rr_nil0 hm
    subst this
    rw [SR.rr, if_pos rfl] at hm
    have : NS.one = 1 := rfl
    omega
  | k + 1, [], n, m, h, hm => (rr_nils hm).elim
  | k + 1, y :: tl, n, m, h, hm => by
    obtain ⟨pre, i, post, n', a1, a2, a3, a4⟩ := chT_at l (show n < NS.rr (VN l) (y :: tl) (k + 1) by omega)
    obtain ⟨qre, j, qost, m', b1, b2, b3, b4⟩ := chT_at l hm
    rw [a4, b4, preL_split, preL_split]
    have hp : pre = (plL l y l.rules.length).take pre.length := by rw [a1, List.take_left]
    have hq : qre = (plL l y l.rules.length).take qre.length := by rw [b1, List.take_left]
    have hi : (plL l y l.rules.length)[pre.length]? = some i := by rw [a1, List.getElem?_append_right (Nat.le_refl _), Nat.sub_self]; rfl
    have hj : (plL l y l.rules.length)[qre.length]? = some j := by rw [b1, List.getElem?_append_right (Nat.le_refl _), Nat.sub_self]; rfl
    have hsort := plL_sorted l y l.rules.length
    rcases Nat.lt_trichotomy pre.length qre.length with hlt | heq | hgt
    · refine ⟨[], (i : Int), (j : Int), _, _, rfl, rfl, ?_⟩
      obtain ⟨hi1, hi2⟩ := List.getElem?_eq_some_iff.1 hi
      obtain ⟨hj1, hj2⟩ := List.getElem?_eq_some_iff.1 hj
      have := List.pairwise_iff_getElem.1 hsort _ _ hi1 hj1 hlt
      omega
    · have hpq : pre = qre := by rw [hp, hq, heq]
      have hij : i = j := by rw [heq, hj] at hi; cases hi; rfl
      subst hpq hij
      obtain ⟨p, x, z, a', b', c1, c2, c3⟩ := chT_lt l k (argAt l i ++ tl) n' m' (by omega) b2
      exact ⟨(i : Int) :: p, x, z, a', b', by rw [c1]; rfl, by rw [c2]; rfl, c3⟩
    · have hs := take_mono (fun i => NS.rr (VN l) (argAt l i ++ tl) k) (plL l y l.rules.length) (show qre.length + 1 ≤ pre.length by omega)
      obtain ⟨hj1, hj2⟩ := List.getElem?_eq_some_iff.1 hj
      rw [List.take_succ_eq_append_getElem hj1, hj2, ← hq, ← hp, List.map_append, List.sum_append] at hs
      simp at hs
      omega
theorem less_true {a b : List Int} (h : LtL a b) (ha : a.length ≤ 1000) (hb : b.length ≤ 1000) : synthesislaw12_less a b = some true := by
  obtain ⟨p, x, y, a', b', e1, e2, e3⟩ := h
  have la : a.length = p.length + (a'.length + 1) := by rw [e1, List.length_append, List.length_cons]
  have lb : b.length = p.length + (b'.length + 1) := by rw [e2, List.length_append, List.length_cons]
  obtain ⟨v, q1, q2⟩ := loop_ex2 (step := synthesislaw12_less_l1 a b) p.length (by omega) (fun i s => s = (i : Int)) (fun v => v = .inr true) (fun i s hi hp => by
    left
    subst hp
    have ea : a[i]? = some p[i] := by rw [e1, List.getElem?_append_left hi]; exact List.getElem?_eq_getElem hi
    have eb : b[i]? = some p[i] := by rw [e2, List.getElem?_append_left hi]; exact List.getElem?_eq_getElem hi
    refine ⟨((i + 1 : Nat) : Int), ?_, rfl⟩
    unfold synthesislaw12_less_l1
    rw [lt_len (show i < a.length by omega), lt_len (show i < b.length by omega), idx_nat, idx_nat, ea, eb]
    simp only [cond_true, Option.bind_some, bne_self_eq_false, cond_false, w64_succ' (show i < 1000 by omega) (by omega)]) (fun s hp => by
    subst hp
    have ea : a[p.length]? = some x := by rw [e1, List.getElem?_append_right (Nat.le_refl _), Nat.sub_self]; rfl
    have eb : b[p.length]? = some y := by rw [e2, List.getElem?_append_right (Nat.le_refl _), Nat.sub_self]; rfl
    refine ⟨.inr true, ?_, rfl⟩
    unfold synthesislaw12_less_l1
    rw [lt_len (show p.length < a.length by omega), lt_len (show p.length < b.length by omega), idx_nat, idx_nat, ea, eb]
    simp only [cond_true, Option.bind_some, show (x != y) = true by rw [bne_iff_ne]; omega, decide_eq_true e3]) 0 rfl
  subst q2
  unfold synthesislaw12_less
  rw [q1]
  rfl
def zeroT : Tm := Tm.mk 0 []
/-- the term of a number, or the error -/
def termC (l : La) (c s k n : Int) : Tm × Int :=
  if errC l c s k ≠ 0 then (zeroT, errC l c s k) else
  if (ansC (VN l s k.toNat)).2 ≠ 0 then (zeroT, (ansC (VN l s k.toNat)).2) else
  if n < 0 ∨ (ansC (VN l s k.toNat)).1 ≤ n then (zeroT, 1) else ((chT l k.toNat [s] n.toNat).headD zeroT, 0)
theorem rr_sing (l : La) (s : Int) (k : Nat) : NS.rr (VN l) [s] k = VN l s k := (NS.rr_one _ _ _).trans (NS.mul_one _)
theorem term_prog {l : La} (hg : GoodL l) {c s k n : Int} (hc : grammar_Check l = some c) : counting_Term l s k n = some (termC l c s k n) := by
  unfold counting_Term termC
  rw [count_prog hg hc, Option.bind_some]
  by_cases he : errC l c s k = 0
  · obtain ⟨_, h1, h2, h3, h4⟩ := errC_zero he
    obtain ⟨q, rfl⟩ := Int.eq_ofNat_of_zero_le (show 0 ≤ k by omega)
    rw [he, if_neg (by simp), if_neg (by simp), Int.toNat_natCast]
    by_cases ha : (ansC (VN l s q)).2 = 0
    · rw [ha, bne_self_eq_false, if_neg (by simp), cond_false]
      have hx : ¬ (1152921504606846976 : Int) < en (VN l s q) := by
        intro hx
        unfold ansC at ha
        rw [if_pos hx] at ha
        cases ha
      have hv : (ansC (VN l s q)).1 = en (VN l s q) := by unfold ansC; rw [if_neg hx]
      have hen := en_small hx
      rw [hv]
      by_cases hn : n < 0
      · rw [decide_eq_true hn, if_pos (.inl hn)]; rfl
      · by_cases hn2 : en (VN l s q) ≤ n
        · rw [decide_eq_false hn, decide_eq_true hn2, if_pos (.inr hn2)]; rfl
        · rw [decide_eq_false hn, decide_eq_false hn2, if_neg (by intro h; exact h.elim hn hn2)]
          obtain ⟨p, rfl⟩ := Int.eq_ofNat_of_zero_le (show 0 ≤ n by omega)
          have hlt : p < NS.rr (VN l) [s] q := by rw [rr_sing]; omega
          obtain ⟨m', t1, _⟩ := choose_ok hg fuel q [s] p [] (lt_fuel (by omega)) (by omega) (fun y hy => by rcases List.mem_cons.1 hy with rfl | hy; exact ⟨h1, h2⟩; cases hy) hlt (by omega) (KI.nil _)
          have hlen := chT_len l q [s] p hlt
          simp only [cond_false, Option.bind_some]
          rw [open_eq, Option.bind_some, t1, Option.bind_some, Int.toNat_natCast]
          cases hq : chT l q [s] p with
          | nil => rw [hq] at hlen; cases hlen
          | cons t ts => rfl
    · rw [show ((ansC (VN l s q)).2 != 0) = true by rw [bne_iff_ne]; exact ha, if_pos ha]
      rfl
  · rw [if_pos he, if_pos he]
    simp only
    rw [show (errC l c s k != 0) = true by rw [bne_iff_ne]; exact he]
    rfl
theorem termC_ok {l : La} {c s k n : Int} (h : (termC l c s k n).2 = 0) : 1 ≤ k ∧ k ≤ 24 ∧ 0 ≤ n ∧ n.toNat < NS.rr (VN l) [s] k.toNat ∧ (termC l c s k n).1 = (chT l k.toNat [s] n.toNat).headD zeroT := by
  unfold termC at h ⊢
  by_cases he : errC l c s k = 0
  · obtain ⟨_, h1, h2, h3, h4⟩ := errC_zero he
    rw [he, if_neg (by simp)] at h ⊢
    by_cases ha : (ansC (VN l s k.toNat)).2 = 0
    · rw [ha, if_neg (by simp)] at h ⊢
      have hx : ¬ (1152921504606846976 : Int) < en (VN l s k.toNat) := by
        intro hx
        unfold ansC at ha
        rw [if_pos hx] at ha
        cases ha
      have hv : (ansC (VN l s k.toNat)).1 = en (VN l s k.toNat) := by unfold ansC; rw [if_neg hx]
      have hen := en_small hx
      rw [hv] at h ⊢
      by_cases hn : n < 0 ∨ en (VN l s k.toNat) ≤ n
      · rw [if_pos hn] at h; cases h
      · rw [if_neg hn]
        exact ⟨h3, h4, by omega, by rw [rr_sing]; omega, rfl⟩
    · rw [if_pos ha] at h; exact absurd h ha
  · rw [if_pos he] at h; exact absurd h he
theorem head_rules {l : La} {s : Int} {k n : Nat} (h : n < NS.rr (VN l) [s] k) : ((chT l k [s] n).headD zeroT).rules = Tm.preL Tm.rule (chT l k [s] n) ∧ ((chT l k [s] n).headD zeroT).size = k := by
  have hlen := chT_len l k [s] n h
  have hsz := chT_size l k [s] n h
  cases hq : chT l k [s] n with
  | nil => rw [hq] at hlen; cases hlen
  | cons t ts =>
    cases ts with
    | cons t2 ts => rw [hq] at hlen; cases hlen
    | nil =>
      rw [hq] at hsz
      refine ⟨?_, ?_⟩
      · show t.pre Tm.rule = t.pre Tm.rule ++ []
        rw [List.append_nil]
      · show t.size = k
        have : Tm.sizeL [t] = t.size + 0 := rfl
        omega
theorem law_CountingOrders (l : La) (x : S_ar2_i64) (n m : Int) (hl : wideL l) (_ : True) (_ : InI64 n) (_ : InI64 m) : synthesislaw12_CountingOrders l x n m = some true := by
  obtain ⟨b, b1, _⟩ := small_leaf l
  obtain ⟨c, c1, _, c3⟩ := lang_u l hl
  unfold synthesislaw12_CountingOrders
  rw [b1, awake12, Option.bind_some]
  cases b with
  | false => rfl
  | true =>
    simp only [Bool.not_true, cond_false]
    by_cases hnm : m ≤ n
    · rw [decide_eq_true hnm]; rfl
    · rw [decide_eq_false hnm]
      simp only [Option.bind_some, cond_false]
      by_cases hc : c = 0
      · subst hc
        have hg := c3 rfl
        rw [term_prog hg c1, term_prog hg c1]
        simp only [Option.bind_some]
        by_cases h1 : (termC l 0 x.f_0 x.f_1 n).2 = 0
        · by_cases h2 : (termC l 0 x.f_0 x.f_1 m).2 = 0
          · obtain ⟨g1, g2, g3, g4, g5⟩ := termC_ok h1
            obtain ⟨k1, k2, k3, k4, k5⟩ := termC_ok h2
            obtain ⟨r1, r2⟩ := head_rules g4
            obtain ⟨r3, r4⟩ := head_rules k4
            rw [h1, h2, g5, k5, rules12 fuel _ (Nat.le_of_lt (lt_fuel (by omega))) (by omega), rules12 fuel _ (Nat.le_of_lt (lt_fuel (by omega))) (by omega), r1, r3]
            have hlt := chT_lt l x.f_1.toNat [x.f_0] n.toNat m.toNat (by omega) k4
            have len1 : (Tm.preL Tm.rule (chT l x.f_1.toNat [x.f_0] n.toNat)).length = x.f_1.toNat := by rw [Tm.preL_length]; exact chT_size l _ _ _ g4
            have len2 : (Tm.preL Tm.rule (chT l x.f_1.toNat [x.f_0] m.toNat)).length = x.f_1.toNat := by rw [Tm.preL_length]; exact chT_size l _ _ _ k4
            simp only [bne_self_eq_false, cond_false, Option.bind_some, less_true hlt (by omega) (by omega), cond_true]
          · rw [h1, show ((termC l 0 x.f_0 x.f_1 m).2 != 0) = true by rw [bne_iff_ne]; exact h2]
            rfl
        · rw [show ((termC l 0 x.f_0 x.f_1 n).2 != 0) = true by rw [bne_iff_ne]; exact h1]
          rfl
      · have bad : ∀ q, counting_Term l x.f_0 x.f_1 q = some (zeroT, c) := fun q => by
          unfold counting_Term counting_Count
          rw [check_c c1, bad_err hc, Option.bind_some]
          rw [show (c != 0) = true by rw [bne_iff_ne]; exact hc]
          simp only [cond_true, Option.bind_some, show (c != 0) = true by rw [bne_iff_ne]; exact hc]
          rfl
        rw [bad, bad, Option.bind_some, Option.bind_some, show (c != 0) = true by rw [bne_iff_ne]; exact hc]
        rfl
end Go.Proofs.Ytfkddbccogakoaa
set_option linter.unusedVariables false
set_option linter.unusedSimpArgs false
set_option maxRecDepth 100000
namespace Go.Proofs.Ytfkddbccogakoaa
open Go Go.RowKit Go.ChangeShapes Go.WideShapes Go.ChangeAt

section
variable {H : Type} {enc : TypeId × Value → H} {w : World} {base : Nat} {spare : Nat → Bool} {held : Bool}
theorem cells_ar2 : Try.prog.cellsOf 39 = 2 := by kernel_rfl
theorem wide_array {P : Program} {r : Reach} {b0 n : Nat} {t e : TypeId} {v : Value} (ht : P.underlying t = some (.array n e)) (h : Value.okWide P w r b0 t v) : ∃ cs, v = .agg cs ∧ cs.size = P.cellsOf t := by
  simp only [Value.okWide, ht] at h
  obtain ⟨cs, h1, h2, _⟩ := h
  exact ⟨cs, h1, h2⟩
theorem in_Ar2 {r : Reach} {b0 : Nat} {v : Value} {d : DataW H} {p : List MemPlace} (hv : Value.okWide Try.prog w r b0 39 v) (h : DataW.Trod enc Try.prog w base spare held 39 v d p) : ∃ x, RF Any w v (eS_ar2_i64 x) ∧ True := by
  obtain ⟨cs, rfl, hsz⟩ := wide_array Try.underlying39 hv
  obtain ⟨fuel, hf⟩ := h
  obtain ⟨xs, n, hfu, _, hlen, hxl, hf⟩ := DataW.trod_array Try.underlying39 hf
  rw [cells_ar2] at hsz
  obtain ⟨l⟩ := cs
  match l, hsz with
  | [c0, c1], _ =>
    have h0 := hf 0 (by decide)
    have h1 := hf 1 (by decide)
    rw [List.getElem?_eq_getElem (by rw [hxl]; decide)] at h0 h1
    obtain ⟨m, e0, _⟩ := open_i64 h0
    obtain ⟨k, e1', _⟩ := open_i64 h1
    have h00 : c0 = .int .i64 m := by simpa [cells_int, Value.cells] using e0
    have h11 : c1 = .int .i64 k := by simpa [cells_int, Value.cells] using e1'
    subst h00 h11
    refine ⟨⟨m, k⟩, agg_rf (cs := [.int .i64 m, .int .i64 k]) (xs := [eI m, eI k]) rfl (cr_list rfl fun j y hy => ?_), trivial⟩
    match j with
    | 0 => simp at hy; subst hy; exact ⟨rfl, fun u hu => by simp at hu; subst hu; exact .atom rfl⟩
    | 1 => simp at hy; subst hy; exact ⟨rfl, fun u hu => by simp at hu; subst hu; exact .atom rfl⟩
    | j + 2 => simp at hy
end
end Go.Proofs.Ytfkddbccogakoaa
