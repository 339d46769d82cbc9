/- The reference's ways and table; Count and Total of both texts; the law CountingCounts. -/
import Derived.Test.YtfkddbccogakoaaLs
import Derived.Test.YtfkddbccogakoaaSr
import Derived.Test.YtfkddbccogakoaaKb
set_option linter.unusedVariables false
set_option linter.unusedSimpArgs false
namespace Go.Proofs.Ytfkddbccogakoaa
open Go Go.RowKit

def NS : SR Nat := ⟨(· + ·), (· * ·), 0, 1, Nat.add_assoc, Nat.add_comm, Nat.zero_add, Nat.mul_assoc, Nat.mul_comm, Nat.mul_add, Nat.mul_zero, Nat.mul_one⟩
def en (n : Nat) : Int := ((min n 1152921504606846977 : Nat) : Int)
theorem en_bd (n : Nat) : 0 ≤ en n ∧ en n ≤ 1152921504606846977 := by unfold en; omega
theorem plus_en (a b : Nat) : imin (w64 (en a + en b)) 1152921504606846977 = en (a + b) := by
  have h1 := en_bd a
  have h2 := en_bd b
  rw [w64_eq (by omega) (by omega)]
  unfold imin en
  split <;> omega
theorem quo_en (m n : Nat) (hn : 0 < n) (hm : m ≤ 9223372036854775807) : quo .i64 (m : Int) (n : Int) = some ((m / n : Nat) : Int) := by
  unfold quo
  rw [if_neg (by omega)]
  have h1 : ((m : Int).tdiv (n : Int)) = ((m / n : Nat) : Int) := (Int.ofNat_tdiv m n).symm
  have h2 : m / n ≤ m := Nat.div_le_self m n
  rw [h1]
  generalize m / n = q at *
  exact congrArg some (w64_eq (by omega) (by omega))
theorem mul_en {a b : Nat} (h : min a 1152921504606846977 * min b 1152921504606846977 ≤ 1152921504606846977) : w64 (en a * en b) = ((min a 1152921504606846977 * min b 1152921504606846977 : Nat) : Int) := by
  unfold en
  rw [← Int.natCast_mul]
  exact w64_eq (by omega) (by omega)
theorem cap_mul (a b : Nat) : min (min a 1152921504606846977 * min b 1152921504606846977) 1152921504606846977 = min (a * b) 1152921504606846977 := by
  by_cases ha : a ≤ 1152921504606846977
  · by_cases hb : b ≤ 1152921504606846977
    · rw [Nat.min_eq_left ha, Nat.min_eq_left hb]
    · rw [Nat.min_eq_left ha, Nat.min_eq_right (show 1152921504606846977 ≤ b by omega)]
      rcases Nat.eq_zero_or_pos a with h0 | h0
      · subst h0; simp
      · have h1 : 1152921504606846977 ≤ a * 1152921504606846977 := Nat.le_mul_of_pos_left _ h0
        have h2 : 1152921504606846977 ≤ a * b := Nat.le_trans (by omega : 1152921504606846977 ≤ b) (Nat.le_mul_of_pos_left _ h0)
        omega
  · rw [Nat.min_eq_right (by omega : 1152921504606846977 ≤ a)]
    rcases Nat.eq_zero_or_pos b with h0 | h0
    · subst h0; simp
    · have h3 : 1 ≤ min b 1152921504606846977 := by omega
      have h1 : 1152921504606846977 ≤ 1152921504606846977 * min b 1152921504606846977 := Nat.le_mul_of_pos_right _ h3
      have h2 : 1152921504606846977 ≤ a * b := Nat.le_trans (by omega : 1152921504606846977 ≤ a) (Nat.le_mul_of_pos_right _ h0)
      omega
theorem times_en (a b : Nat) : counting_times_h (en a) (en b) = some (en (a * b)) := by
  have hc := cap_mul a b
  unfold counting_times_h
  by_cases h0 : 0 < min a 1152921504606846977
  · have e0 : decide (0 < en a) = true := decide_eq_true (by unfold en; omega)
    have hq : quo .i64 1152921504606846976 (en a) = some ((1152921504606846976 / min a 1152921504606846977 : Nat) : Int) := quo_en 1152921504606846976 _ h0 (by omega)
    rw [e0, hq]
    simp only [cond_true, Option.bind_some]
    by_cases hlt : 1152921504606846976 / min a 1152921504606846977 < min b 1152921504606846977
    · have e1 : decide (((1152921504606846976 / min a 1152921504606846977 : Nat) : Int) < en b) = true := decide_eq_true (by unfold en; omega)
      rw [e1, cond_true]
      have h2 := (Nat.div_lt_iff_lt_mul h0).1 hlt
      rw [Nat.mul_comm] at h2
      unfold en
      congr 1
      omega
    · have e1 : decide (((1152921504606846976 / min a 1152921504606846977 : Nat) : Int) < en b) = false := decide_eq_false (by unfold en; omega)
      rw [e1, cond_false]
      have h2 : ¬ 1152921504606846976 < min b 1152921504606846977 * min a 1152921504606846977 := fun h => hlt ((Nat.div_lt_iff_lt_mul h0).2 h)
      rw [Nat.mul_comm] at h2
      rw [mul_en (by omega)]
      unfold en
      congr 1
      omega
  · have e0 : decide (0 < en a) = false := decide_eq_false (by unfold en; omega)
    rw [e0]
    simp only [cond_false, Option.bind_some]
    have hz : min a 1152921504606846977 = 0 := by omega
    rw [mul_en (by rw [hz, Nat.zero_mul]; omega)]
    unfold en
    rw [← hc, hz, Nat.zero_mul]
    rfl
/-- keys -/
def keyB (ys : List Int) (k : Int) : ByteArray := toBA (wu8 k :: ys.map wu8)
theorem toBA_data : ∀ (xs : List Int) (r : ByteArray), (xs.foldl (fun r n => r.push (UInt8.ofNat n.toNat)) r).data.toList = r.data.toList ++ xs.map fun n => UInt8.ofNat n.toNat
  | [], r => by simp
  | x :: xs, r => by
    rw [List.foldl_cons, toBA_data xs]
    have : (r.push (UInt8.ofNat x.toNat)).data.toList = r.data.toList ++ [UInt8.ofNat x.toNat] := by
      cases r
      simp [ByteArray.push]
    rw [this, List.append_assoc]
    rfl
def Byt (n : Int) : Prop := 0 ≤ n ∧ n < 256
theorem byt_inj {a b : Int} (ha : Byt a) (hb : Byt b) (h : UInt8.ofNat a.toNat = UInt8.ofNat b.toNat) : a = b := by
  unfold Byt at ha hb
  have h1 : (UInt8.ofNat a.toNat).toNat = (UInt8.ofNat b.toNat).toNat := by rw [h]
  rw [UInt8.toNat_ofNat', UInt8.toNat_ofNat'] at h1
  omega
theorem bytes_inj : ∀ {xs ys : List Int}, (∀ x ∈ xs, Byt x) → (∀ y ∈ ys, Byt y) → (xs.map fun n => UInt8.ofNat n.toNat) = (ys.map fun n => UInt8.ofNat n.toNat) → xs = ys
  | [], [], _, _, _ => rfl
  | [], y :: ys, _, _, h => by simp at h
  | x :: xs, [], _, _, h => by simp at h
  | x :: xs, y :: ys, hx, hy, h => by
    rw [List.map_cons, List.map_cons] at h
    injection h with h1 h2
    rw [byt_inj (hx x (List.mem_cons_self ..)) (hy y (List.mem_cons_self ..)) h1, bytes_inj (fun z hz => hx z (List.mem_cons_of_mem _ hz)) (fun z hz => hy z (List.mem_cons_of_mem _ hz)) h2]
theorem wu8_id {n : Int} (h : Byt n) : wu8 n = n := by
  unfold Byt at h
  unfold wu8 IntKind.wrap
  simp [IntKind.signed, IntKind.bits]
  omega
theorem keyB_inj {ys zs : List Int} {k j : Int} (hy : ∀ y ∈ ys, Byt y) (hz : ∀ z ∈ zs, Byt z) (hk : Byt k) (hj : Byt j) (h : keyB ys k = keyB zs j) : ys = zs ∧ k = j := by
  have e : ∀ {l : List Int}, (∀ x ∈ l, Byt x) → l.map wu8 = l := fun {l} hl => by
    induction l with
    | nil => rfl
    | cons a l ih => rw [List.map_cons, wu8_id (hl a (List.mem_cons_self ..)), ih fun x hx => hl x (List.mem_cons_of_mem _ hx)]
  unfold keyB at h
  rw [e hy, e hz, wu8_id hk, wu8_id hj] at h
  have h2 := congrArg (fun b : ByteArray => b.data.toList) h
  unfold toBA at h2
  simp only [toBA_data] at h2
  have := bytes_inj (xs := k :: ys) (ys := j :: zs) (fun x hx => by
    rcases List.mem_cons.1 hx with rfl | hx
    · exact hk
    · exact hy x hx) (fun x hx => by
    rcases List.mem_cons.1 hx with rfl | hx
    · exact hj
    · exact hz x hx) (by simpa using h2)
  injection this with h3 h4
  exact ⟨h4, h3⟩
theorem key_eq (ys : List Int) (k : Int) (hl : ys.length ≤ 1000000) : counting_key_h2 ys k = some (keyB ys k) := by
  unfold counting_key_h2
  rw [loop_acc (step := counting_key_h2_l1 ys) ys (fun (s : List Int) x => app 1 s [wu8 x]) (fun i s => (i, s)) (by omega) (fun i x s hx => by
    have hi := get_lt hx
    simp only [counting_key_h2_l1, lt_len hi, cond_true, idx_nat, hx, Option.bind_some, w64_succ' hi (show ys.length ≤ 9223372036854775807 by omega)]
    cases app 1 s [wu8 x] <;> rfl) (fun s => by simp only [counting_key_h2_l1, lt_len', cond_false])]
  have gen : ∀ (ys : List Int) (s : List Int), s.length + ys.length ≤ 2000000 → ys.foldlM (fun (s : List Int) x => app 1 s [wu8 x]) s = some (s ++ ys.map wu8) := fun ys => by
    induction ys with
    | nil => intro s _; simp
    | cons y ys ih =>
      intro s hs
      rw [List.length_cons] at hs
      have ha : app 1 s [wu8 y] = some (s ++ [wu8 y]) := app_eq (by rw [List.length_singleton]; omega)
      rw [List.foldlM_cons, ha]
      have := ih (s ++ [wu8 y]) (by rw [List.length_append, List.length_singleton]; omega)
      show List.foldlM _ (s ++ [wu8 y]) ys = _
      rw [this, List.append_assoc]
      rfl
  rw [gen ys [wu8 k] (by rw [List.length_singleton]; omega)]
  rfl
/-- what the counter knows is right -/
def KI (V : Int → Nat → Nat) (m : List (ByteArray × Int)) : Prop := ∀ (ys : List Int) (k : Nat), (∀ y ∈ ys, Byt y) → k < 256 → (∀ z, mget m (keyB ys (k : Int)) z = en (NS.rr V ys k)) ∨ ∀ z, mget m (keyB ys (k : Int)) z = z
theorem KI.nil (V : Int → Nat → Nat) : KI V [] := fun ys k _ _ => .inr fun z => rfl
theorem mhas_get {m : List (ByteArray × Int)} {s : ByteArray} (h : mhas m s = true) : mget m s 0 = mget m s 1 := by
  unfold mhas at h
  unfold mget
  cases hf : mfind s m 0 with
  | none => rw [hf] at h; cases h
  | some p => rfl
theorem KI.has {V : Int → Nat → Nat} {m : List (ByteArray × Int)} (h : KI V m) {ys : List Int} {k : Nat} (hy : ∀ y ∈ ys, Byt y) (hk : k < 256) (hh : mhas m (keyB ys (k : Int)) = true) : mget m (keyB ys (k : Int)) 0 = en (NS.rr V ys k) := by
  rcases h ys k hy hk with h1 | h1
  · exact h1 0
  · have := mhas_get hh
    rw [h1, h1] at this
    cases this
theorem KI.put {V : Int → Nat → Nat} {m : List (ByteArray × Int)} (h : KI V m) {ys : List Int} {k : Nat} (hy : ∀ y ∈ ys, Byt y) (hk : k < 256) : KI V (mput m (keyB ys (k : Int)) (en (NS.rr V ys k))) := fun zs j hz hj => by
  by_cases he : (keyB zs (j : Int)).toList == (keyB ys (k : Int)).toList
  · rw [toList_beq] at he
    have he' : keyB zs (j : Int) = keyB ys (k : Int) := by
      have := MapKept.bytes_beq (keyB zs (j : Int)) (keyB ys (k : Int))
      first
        | exact eq_of_beq he
        | simpa [this] using he
    obtain ⟨e1, e2⟩ := keyB_inj hz hy (by unfold Byt; omega) (by unfold Byt; omega) he'
    have e3 : j = k := by omega
    subst e1 e3
    left
    intro z
    rw [mget_mput]
    simp
  · rcases h zs j hz hj with h1 | h1
    · left; intro z; rw [mget_mput]; simp [he, h1]
    · right; intro z; rw [mget_mput]; simp [he, h1]
end Go.Proofs.Ytfkddbccogakoaa
set_option linter.unusedVariables false
set_option linter.unusedSimpArgs false
namespace Go.Proofs.Ytfkddbccogakoaa
open Go Go.RowKit

theorem loop_ex {σ β : Type} {step : σ → Option (σ ⊕ β)} (n : Nat) (hn : n < 18446744073709551616) (P : Nat → σ → Prop) (Q : β → Prop) (hs : ∀ i s, i < n → P i s → ∃ s', step s = some (.inl s') ∧ P (i + 1) s') (he : ∀ s, P n s → ∃ b, step s = some (.inr b) ∧ Q b) (s : σ) (h0 : P 0 s) : ∃ b, loopN step fuel s = some b ∧ Q b := by
  have key : ∀ (k i : Nat) (s : σ), i ≤ n → n - i < k → P i s → ∃ b, loopN step k s = some b ∧ Q b := by
    intro k
    induction k with
    | zero => intro i s _ h; omega
    | succ k ih =>
      intro i s hi hk hp
      by_cases h : i = n
      · subst h
        obtain ⟨b, h1, h2⟩ := he s hp
        refine ⟨b, ?_, h2⟩
        unfold loopN
        rw [h1]
      · obtain ⟨s', h1, h2⟩ := hs i s (by omega) hp
        obtain ⟨b, h3, h4⟩ := ih (i + 1) s' (by omega) (by omega) h2
        refine ⟨b, ?_, h4⟩
        unfold loopN
        rw [h1]
        cases k with
        | zero => cases h3
        | succ k => exact h3
  exact key fuel 0 s (by omega) (lt_fuel (by omega)) h0
def VN (l : La) : Int → Nat → Nat := NS.val l.rules.length (symAt l) (argAt l) (fun _ => 1)
def inR (l : La) (ys : List Int) : Prop := ∀ y ∈ ys, 0 ≤ y ∧ y < (l.symbols.length : Int)
theorem inR.byt {l : La} (h16 : l.symbols.length ≤ 16) {ys : List Int} (h : inR l ys) : ∀ y ∈ ys, Byt y := fun y hy => by
  have := h y hy
  unfold Byt
  omega
theorem cut_head (a : Int) (ys : List Int) : cutL (a :: ys) 0 1 = some [a] := by
  unfold cutL
  rw [if_pos ⟨by omega, by omega, by rw [List.length_cons]; omega⟩]
  rfl
theorem cut_tail {α : Type} (a : α) (ys : List α) : cutL (a :: ys) 1 (((a :: ys).length : Nat) : Int) = some ys := by
  unfold cutL
  rw [if_pos ⟨by omega, by rw [List.length_cons]; omega, by omega⟩, Int.toNat_natCast, List.take_length]
  rfl
theorem lists_ok {l : La} (h16 : l.symbols.length ≤ 16) {r14 : La → List (ByteArray × Int) → Int → Int → Option (Int × List (ByteArray × Int))} {K : Nat} (hK : K ≤ 24) (hr : ∀ m s k, KI (VN l) m → 0 ≤ s → s < (l.symbols.length : Int) → 1 ≤ k → k ≤ K → ∃ m', r14 l m s (k : Int) = some (en (VN l s k), m') ∧ KI (VN l) m') :
    ∀ (n : Nat) (ys : List Int) (k : Nat) (m : List (ByteArray × Int)), ys.length < n → ys.length ≤ 1000 → inR l ys → k ≤ K → KI (VN l) m → ∃ m', counting_counter_lists_h3 r14 n l m ys (k : Int) = some (en (NS.rr (VN l) ys k), m') ∧ KI (VN l) m'
  | 0, ys, k, m, h, _, _, _, _ => by omega
  | n + 1, [], k, m, _, _, _, hk, hm => by
    refine ⟨m, ?_, hm⟩
    show counting_counter_lists_h3_b r14 (counting_counter_lists_h3 r14 n) l m [] (k : Int) = _
    unfold counting_counter_lists_h3_b
    rw [show ((([] : List Int).length : Int) == 0) = true from rfl]
    simp only [cond_true, Option.bind_some]
    rw [SR.rr]
    by_cases h0 : k = 0
    · subst h0; rfl
    · rw [show ((k : Int) == 0) = false by rw [beq_eq_false_iff_ne]; omega, if_neg h0]; rfl
  | n + 1, a :: ys, k, m, h, h1000, hy, hk, hm => by
    have hby := hy.byt h16
    have ha := hy a (List.mem_cons_self ..)
    have hys : inR l ys := fun y h => hy y (List.mem_cons_of_mem _ h)
    show ∃ m', counting_counter_lists_h3_b r14 (counting_counter_lists_h3 r14 n) l m (a :: ys) (k : Int) = _ ∧ _
    unfold counting_counter_lists_h3_b
    have hl0 : (((a :: ys).length : Int) == 0) = false := by rw [beq_eq_false_iff_ne, List.length_cons]; omega
    rw [List.length_cons] at h h1000
    rw [hl0]
    simp only [cond_false]
    by_cases hlt : k < (a :: ys).length
    · rw [decide_eq_true (show (k : Int) < ((a :: ys).length : Int) by omega)]
      refine ⟨m, ?_, hm⟩
      rw [NS.rr_small (fun b => rfl) (a :: ys) k hlt]
      rfl
    · rw [decide_eq_false (show ¬ (k : Int) < ((a :: ys).length : Int) by omega)]
      simp only [cond_false, Option.bind_some, key_eq (a :: ys) (k : Int) (by rw [List.length_cons]; omega)]
      cases hh : mhas m (keyB (a :: ys) (k : Int)) with
      | true =>
        refine ⟨m, ?_, hm⟩
        rw [hm.has hby (by omega) hh]
        rfl
      | false =>
        simp only [cond_false]
        have fin : ∀ (m2 : List (ByteArray × Int)), KI (VN l) m2 → KI (VN l) (mput m2 (keyB (a :: ys) (k : Int)) (en (NS.rr (VN l) (a :: ys) k))) := fun m2 h2 => h2.put hby (by omega)
        cases ys with
        | nil =>
          obtain ⟨m2, r1, r2⟩ := hr m a k hm ha.1 ha.2 (by rw [List.length_cons] at hlt; omega) hk
          refine ⟨_, ?_, fin m2 r2⟩
          rw [show ((([a] : List Int).length : Int) == 1) = true from rfl]
          have h0 : idx [a] 0 = some a := rfl
          have hv : NS.rr (VN l) [a] k = VN l a k := (NS.rr_one _ _ _).trans (NS.mul_one _)
          simp only [cond_true, h0, Option.bind_some, r1, hv]
        | cons b zs =>
          have hl1 : (((a :: b :: zs).length : Int) == 1) = false := by rw [beq_eq_false_iff_ne, List.length_cons, List.length_cons]; omega
          rw [hl1]
          simp only [cond_false]
          rw [List.length_cons] at h h1000
          have hlen : (a :: b :: zs).length = zs.length + 2 := rfl
          rw [hlen] at hlt
          have ew : w64 (w64 ((k : Int) - (((a :: b :: zs).length : Nat) : Int)) + 1) = ((k - (zs.length + 2) + 1 : Nat) : Int) := by
            rw [hlen, w64_eq (n := (k : Int) - ((zs.length + 2 : Nat) : Int)) (by omega) (by omega), w64_eq (by omega) (by omega)]
            omega
          obtain ⟨b2, q1, q2, q3⟩ := loop_ex (step := counting_counter_lists_h3_l1 l (a :: b :: zs) (k : Int) (counting_counter_lists_h3 r14 n)) (k - (zs.length + 2) + 1) (by omega)
            (fun i s => s.1 = en (NS.sum (fun j => VN l a (j + 1) * NS.rr (VN l) (b :: zs) (k - (j + 1))) i) ∧ s.2.1 = (i : Int) ∧ KI (VN l) s.2.2)
            (fun v => v.1 = en (NS.sum (fun j => VN l a (j + 1) * NS.rr (VN l) (b :: zs) (k - (j + 1))) (k - (zs.length + 2) + 1)) ∧ KI (VN l) v.2)
            (fun i s hi hp => by
              obtain ⟨acc, j, m3⟩ := s
              obtain ⟨p1, p2, p3⟩ := hp
              simp only at p1 p2 p3
              subst p1 p2
              have e1 : w64 ((i : Int) + 1) = ((i + 1 : Nat) : Int) := w64_succ' hi (by omega)
              have e2 : w64 (w64 ((k : Int) - (i : Int)) - 1) = ((k - (i + 1) : Nat) : Int) := by
                rw [w64_eq (n := (k : Int) - (i : Int)) (by omega) (by omega), w64_eq (by omega) (by omega)]
                omega
              obtain ⟨m4, s1, s2⟩ := lists_ok h16 hK hr n [a] (i + 1) m3 (by rw [List.length_singleton]; omega) (by rw [List.length_singleton]; omega) (fun y hy' => hy y (by rcases List.mem_cons.1 hy' with rfl | hy'; exact List.mem_cons_self ..; cases hy')) (by omega) p3
              obtain ⟨m5, s3, s4⟩ := lists_ok h16 hK hr n (b :: zs) (k - (i + 1)) m4 (by rw [List.length_cons]; omega) (by rw [List.length_cons]; omega) hys (by omega) s2
              have hv : NS.rr (VN l) [a] (i + 1) = VN l a (i + 1) := (NS.rr_one _ _ _).trans (NS.mul_one _)
              rw [hv] at s1
              refine ⟨(en (NS.sum (fun j => VN l a (j + 1) * NS.rr (VN l) (b :: zs) (k - (j + 1))) (i + 1)), ((i + 1 : Nat) : Int), m5), ?_, rfl, rfl, s4⟩
              simp only [counting_counter_lists_h3_l1, ew, decide_eq_true (show (i : Int) < ((k - (zs.length + 2) + 1 : Nat) : Int) by omega), cond_true, cut_head, Option.bind_some, e1, s1, cut_tail, e2, s3, times_en, plus_en]
              rfl) (fun s hp => by
              obtain ⟨acc, j, m3⟩ := s
              obtain ⟨p1, p2, p3⟩ := hp
              simp only at p1 p2 p3
              subst p1 p2
              refine ⟨(en (NS.sum (fun j => VN l a (j + 1) * NS.rr (VN l) (b :: zs) (k - (j + 1))) (k - (zs.length + 2) + 1)), m3), ?_, rfl, p3⟩
              simp only [counting_counter_lists_h3_l1, ew, lt_len', cond_false]) (0, 0, m) ⟨rfl, rfl, hm⟩
          have hval : NS.sum (fun j => VN l a (j + 1) * NS.rr (VN l) (b :: zs) (k - (j + 1))) (k - (zs.length + 2) + 1) = NS.rr (VN l) (a :: b :: zs) k := by
            have hg : NS.sum (fun j => VN l a (j + 1) * NS.rr (VN l) (b :: zs) (k - (j + 1))) k = NS.sum (fun j => VN l a (j + 1) * NS.rr (VN l) (b :: zs) (k - (j + 1))) (k - (zs.length + 2) + 1) := NS.sum_trunc k (by omega) fun i h1 h2 => by
              show VN l a (i + 1) * NS.rr (VN l) (b :: zs) (k - (i + 1)) = 0
              rw [NS.rr_small (fun c => rfl) (b :: zs) (k - (i + 1)) (by rw [List.length_cons]; omega)]
              exact Nat.mul_zero _
            rw [← hg, SR.rr]
            refine Eq.trans ?_ (NS.sum_shift _ k).symm
            show _ = VN l a 0 * NS.rr (VN l) (b :: zs) (k - 0) + NS.sum (fun j => VN l a (j + 1) * NS.rr (VN l) (b :: zs) (k - (j + 1))) k
            rw [show VN l a 0 = 0 from rfl, Nat.zero_mul, Nat.zero_add]
          rw [hval] at q2
          obtain ⟨acc, m6⟩ := b2
          simp only at q2 q3
          subst q2
          refine ⟨_, ?_, fin m6 q3⟩
          rw [q1]
          rfl
theorem sum_plL (l : La) (s : Int) (f : Nat → Nat) : ∀ n, ((plL l s n).map f).sum = NS.sum (fun i => if symAt l i = s then f i else 0) n
  | 0 => rfl
  | n + 1 => by
    rw [plL_succ, List.map_append, List.sum_append, sum_plL l s f n, SR.sum]
    by_cases h : symAt l n = s
    · rw [if_pos (by simpa using h), if_pos h]
      show _ + [f n].sum = _ + f n
      simp
    · rw [if_neg (by simpa using h), if_neg h]
      rfl
theorem args_h_eq {l : La} {r : Ru} (hr : GoodR l r) : counting_args_h r = some r.args := by
  unfold counting_args_h
  by_cases h3 : r.kind = 3
  · rw [h3]; rfl
  · rw [show (r.kind != 3) = true by rw [bne_iff_ne]; exact h3, hr.noargs h3]; rfl
theorem terms_ok {l : La} (hg : GoodL l) : ∀ (n k : Nat) (s : Int) (m : List (ByteArray × Int)), k ≤ n → 1 ≤ k → k ≤ 24 → 0 ≤ s → s < (l.symbols.length : Int) → KI (VN l) m → ∃ m', counting_counter_terms_h2 n l m s (k : Int) = some (en (VN l s k), m') ∧ KI (VN l) m'
  | 0, k, s, m, h, h1, _, _, _, _ => by omega
  | n + 1, k + 1, s, m, h, h1, h24, hs0, hs1, hm => by
    have h96 := hg.rules
    have h16 := hg.sym16
    show ∃ m', counting_counter_terms_h2_b (counting_counter_terms_h2 n) l m s ((k + 1 : Nat) : Int) = _ ∧ _
    unfold counting_counter_terms_h2_b
    rw [ofh_eq l s (by omega), Option.bind_some]
    have ew : w64 (((k + 1 : Nat) : Int) - 1) = (k : Int) := by rw [w64_eq (by omega) (by omega)]; omega
    have hpl := plL_len l s l.rules.length
    obtain ⟨b2, q1, q2, q3⟩ := loop_ex (step := counting_counter_terms_h2_l1 l ((k + 1 : Nat) : Int) (counting_counter_terms_h2 n) ((plL l s l.rules.length).map natI)) (plL l s l.rules.length).length (by omega)
      (fun i st => st.1 = en (((plL l s l.rules.length).take i).map fun q => NS.rr (VN l) (argAt l q) k).sum ∧ st.2.1 = (i : Int) ∧ KI (VN l) st.2.2)
      (fun v => v.1 = en ((plL l s l.rules.length).map fun q => NS.rr (VN l) (argAt l q) k).sum ∧ KI (VN l) v.2)
      (fun i st hi hp => by
        obtain ⟨acc, j, m3⟩ := st
        obtain ⟨p1, p2, p3⟩ := hp
        simp only at p1 p2 p3
        subst p1 p2
        have hq : (plL l s l.rules.length)[i]? = some (plL l s l.rules.length)[i] := List.getElem?_eq_getElem hi
        have hqm := plL_mem (List.getElem_mem hi)
        have hq2 : ((plL l s l.rules.length).map natI)[i]? = some ((((plL l s l.rules.length)[i] : Nat)) : Int) := by rw [List.getElem?_map, hq]; rfl
        obtain ⟨y, hy, _, hya, hymem⟩ := rule_at l hqm.1
        have gy := hg.good y hymem
        have hfew := gy.few
        obtain ⟨m4, s1, s2⟩ := lists_ok (r14 := counting_counter_terms_h2 n) (K := k) h16 (by omega) (fun m s k' hm h0 h1 hk1 hk2 => terms_ok hg n k' s m (by omega) hk1 (by omega) h0 h1 hm) fuel y.args k m3 (lt_fuel (by omega)) (by omega) gy.args (Nat.le_refl _) p3
        have htk : (plL l s l.rules.length).take (i + 1) = (plL l s l.rules.length).take i ++ [(plL l s l.rules.length)[i]] := List.take_succ_eq_append_getElem hi
        refine ⟨(en (((plL l s l.rules.length).take (i + 1)).map fun q => NS.rr (VN l) (argAt l q) k).sum, ((i + 1 : Nat) : Int), m4), ?_, rfl, rfl, s2⟩
        simp only [counting_counter_terms_h2_l1, List.length_map, lt_len hi, cond_true, idx_nat, hq2, Option.bind_some, hy, args_h_eq gy, ew, s1, w64_succ' hi (show (plL l s l.rules.length).length ≤ 9223372036854775807 by omega), plus_en]
        rw [htk, List.map_append, List.sum_append, hya]
        show some _ = some _
        simp) (fun st hp => by
        obtain ⟨acc, j, m3⟩ := st
        obtain ⟨p1, p2, p3⟩ := hp
        simp only at p1 p2 p3
        subst p1 p2
        refine ⟨(en ((plL l s l.rules.length).map fun q => NS.rr (VN l) (argAt l q) k).sum, m3), ?_, rfl, p3⟩
        simp only [counting_counter_terms_h2_l1, List.length_map, lt_len', cond_false, List.take_length]) (0, 0, m) ⟨rfl, rfl, hm⟩
    have hval : ((plL l s l.rules.length).map fun q => NS.rr (VN l) (argAt l q) k).sum = VN l s (k + 1) := by
      rw [sum_plL]
      unfold VN
      rw [NS.val_succ]
      refine NS.sum_congr _ fun i hi => ?_
      split
      · exact (Nat.one_mul _).symm
      · rfl
    rw [hval] at q2
    obtain ⟨acc, m6⟩ := b2
    simp only at q2 q3
    subst q2
    refine ⟨m6, ?_, q3⟩
    rw [q1]
    rfl
end Go.Proofs.Ytfkddbccogakoaa
set_option linter.unusedVariables false
set_option linter.unusedSimpArgs false
namespace Go.Proofs.Ytfkddbccogakoaa
open Go Go.RowKit

theorem rplus_en (a b : Nat) : synthesisref12_plus (en a) (en b) = some (en (a + b)) := by
  unfold synthesisref12_plus synthesisref12_capped
  rw [Option.bind_some, plus_en]
theorem rtimes_en (a b : Nat) : synthesisref12_times (en a) (en b) = some (en (a * b)) := by
  have hc := cap_mul a b
  have himin : ∀ n : Nat, imin (n : Int) 1152921504606846977 = ((min n 1152921504606846977 : Nat) : Int) := fun n => by unfold imin; split <;> omega
  unfold synthesisref12_times synthesisref12_capped
  by_cases h0 : 0 < min a 1152921504606846977
  · have e0 : decide (0 < en a) = true := decide_eq_true (by unfold en; omega)
    have hq : quo .i64 1152921504606846977 (en a) = some ((1152921504606846977 / min a 1152921504606846977 : Nat) : Int) := quo_en 1152921504606846977 _ h0 (by omega)
    rw [e0, hq]
    simp only [cond_true, Option.bind_some]
    by_cases hlt : 1152921504606846977 / min a 1152921504606846977 < min b 1152921504606846977
    · have e1 : decide (((1152921504606846977 / min a 1152921504606846977 : Nat) : Int) < en b) = true := decide_eq_true (by unfold en; omega)
      rw [e1, cond_true]
      have h2 := (Nat.div_lt_iff_lt_mul h0).1 hlt
      rw [Nat.mul_comm] at h2
      unfold en
      congr 1
      omega
    · have e1 : decide (((1152921504606846977 / min a 1152921504606846977 : Nat) : Int) < en b) = false := decide_eq_false (by unfold en; omega)
      rw [e1, cond_false]
      have h2 : ¬ 1152921504606846977 < min b 1152921504606846977 * min a 1152921504606846977 := fun h => hlt ((Nat.div_lt_iff_lt_mul h0).2 h)
      rw [Nat.mul_comm] at h2
      rw [mul_en (by omega), himin]
      unfold en
      rw [hc]
  · have e0 : decide (0 < en a) = false := decide_eq_false (by unfold en; omega)
    rw [e0]
    simp only [cond_false, Option.bind_some]
    have hz : min a 1152921504606846977 = 0 := by omega
    rw [mul_en (by rw [hz, Nat.zero_mul]; omega), himin]
    unfold en
    rw [hc]
def rowN (f : Nat → Nat) (n : Nat) : List Int := (List.range n).map fun m => en (f m)
theorem rowN_len (f : Nat → Nat) (n : Nat) : (rowN f n).length = n := by simp [rowN]
theorem rowN_at (f : Nat → Nat) {n k : Nat} (h : k < n) : (rowN f n)[k]? = some (en (f k)) := by simp [rowN, h]
theorem rowN_congr {f g : Nat → Nat} {n : Nat} (h : ∀ m, m < n → f m = g m) : rowN f n = rowN g n := by
  unfold rowN
  exact List.map_congr_left fun m hm => by rw [h m (List.mem_range.1 hm)]
theorem rowN_set (f : Nat → Nat) (n k : Nat) (v : Nat) : (rowN f n).set k (en v) = rowN (fun m => if m = k then v else f m) n := by
  refine List.ext_getElem? fun i => ?_
  rw [List.getElem?_set, rowN_len]
  by_cases hk : k = i
  · subst hk
    rw [if_pos rfl]
    split
    · rename_i h; rw [rowN_at _ h, if_pos rfl]
    · rename_i h; rw [List.getElem?_eq_none (by rw [rowN_len]; omega)]
  · rw [if_neg hk]
    by_cases hi : i < n
    · rw [rowN_at _ hi, rowN_at _ hi, if_neg (fun h => hk h.symm)]
    · rw [List.getElem?_eq_none (by rw [rowN_len]; omega), List.getElem?_eq_none (by rw [rowN_len]; omega)]
theorem rep_rowN (n : Nat) : List.replicate n (0 : Int) = rowN (fun _ => 0) n := by
  refine List.ext_getElem? fun i => ?_
  by_cases hi : i < n
  · rw [rowN_at _ hi, List.getElem?_replicate, if_pos hi]; rfl
  · rw [List.getElem?_replicate, if_neg hi, List.getElem?_eq_none (by rw [rowN_len]; omega)]
def tabN (T : Int → Nat → Nat) (n m : Nat) : List (List Int) := (List.range n).map fun s : Nat => rowN (T (s : Int)) m
theorem tabN_len (T : Int → Nat → Nat) (n m : Nat) : (tabN T n m).length = n := by simp [tabN]
theorem tabN_at (T : Int → Nat → Nat) {n m i : Nat} (hi : i < n) : (tabN T n m)[i]? = some (rowN (T (i : Int)) m) := by simp [tabN, hi]
theorem tabN_idx (T : Int → Nat → Nat) {n m : Nat} {s : Int} (h : 0 ≤ s ∧ s < (n : Int)) : idx (tabN T n m) s = some (rowN (T s) m) := by
  obtain ⟨k, rfl⟩ := Int.eq_ofNat_of_zero_le h.1
  rw [idx_nat]
  exact tabN_at T (by omega)
theorem tabN_congr {T T' : Int → Nat → Nat} {n m : Nat} (h : ∀ s k, k < m → T s k = T' s k) : tabN T n m = tabN T' n m := by
  unfold tabN
  exact List.map_congr_left fun s hs => rowN_congr fun k hk => h _ k hk
theorem tabN_set (T : Int → Nat → Nat) {n m : Nat} {s : Int} (h : 0 ≤ s ∧ s < (n : Int)) (f : Nat → Nat) : (tabN T n m).set s.toNat (rowN f m) = tabN (fun q => if q = s then f else T q) n m := by
  obtain ⟨k, rfl⟩ := Int.eq_ofNat_of_zero_le h.1
  refine List.ext_getElem? fun i => ?_
  rw [List.getElem?_set, tabN_len]
  have hk : k < n := by omega
  by_cases hki : k = i
  · subst hki
    rw [Int.toNat_natCast, if_pos rfl, if_pos hk, tabN_at _ hk, if_pos rfl]
  · rw [Int.toNat_natCast, if_neg hki]
    by_cases hi : i < n
    · rw [tabN_at _ hi, tabN_at _ hi, if_neg (by omega)]
    · rw [List.getElem?_eq_none (by rw [tabN_len]; omega), List.getElem?_eq_none (by rw [tabN_len]; omega)]
theorem ways_l1 {T : Int → Nat → Nat} {ns M p : Nat} {a : Int} (ha : 0 ≤ a ∧ a < (ns : Int)) (hp : p < M) (hp2 : p ≤ 100) {i : Nat} (hi : i ≤ p) (x : List Int) (z : Int) (o g : Nat → Nat) :
    loopN (synthesisref12_ways_l1 (tabN T ns M) (p : Int) (z, rowN o (p + 1)) a ((i : Int), x)) fuel (1, rowN g (p + 1)) = some (rowN (fun m => if i < m then g m + o i * T a (m - i) else g m) (p + 1)) := by
  have h := loop_end (step := synthesisref12_ways_l1 (tabN T ns M) (p : Int) (z, rowN o (p + 1)) a ((i : Int), x)) (p - i) (by omega) (fun j => (((j + 1 : Nat) : Int), rowN (fun m => if i < m ∧ m ≤ i + j then g m + o i * T a (m - i) else g m) (p + 1))) (rowN (fun m => if i < m then g m + o i * T a (m - i) else g m) (p + 1)) (fun j hj => by
    have ew : w64 ((i : Int) + ((j + 1 : Nat) : Int)) = ((i + j + 1 : Nat) : Int) := by rw [w64_eq (by omega) (by omega)]; omega
    have ew2 : w64 (((j + 1 : Nat) : Int) + 1) = ((j + 1 + 1 : Nat) : Int) := by rw [w64_eq (by omega) (by omega)]; omega
    have hle : decide (((i + j + 1 : Nat) : Int) ≤ (p : Int)) = true := decide_eq_true (by omega)
    have e3 : (rowN (fun m => if i < m ∧ m ≤ i + j then g m + o i * T a (m - i) else g m) (p + 1))[i + j + 1]? = some (en (g (i + j + 1))) := by rw [rowN_at _ (by omega), if_neg (by omega)]
    have e4 : (rowN (T a) M)[j + 1]? = some (en (T a (j + 1))) := rowN_at _ (by omega)
    have e5 : (rowN o (p + 1))[i]? = some (en (o i)) := rowN_at _ (by omega)
    simp only [synthesisref12_ways_l1, ew, ew2, hle, cond_true, idx_nat, e3, e4, e5, tabN_idx T ha, Option.bind_some, rtimes_en, rplus_en, Int.toNat_natCast, rowN_set]
    congr 3
    refine rowN_congr fun m hm => ?_
    by_cases h1 : m = i + j + 1
    · subst h1
      rw [if_pos rfl, if_pos (by omega), show i + j + 1 - i = j + 1 by omega]
    · rw [if_neg h1]
      by_cases h2 : i < m ∧ m ≤ i + j
      · rw [if_pos h2, if_pos (by omega)]
      · rw [if_neg h2, if_neg (by omega)]) (by
    have ew : w64 ((i : Int) + ((p - i + 1 : Nat) : Int)) = ((p + 1 : Nat) : Int) := by rw [w64_eq (by omega) (by omega)]; omega
    have hle : decide (((p + 1 : Nat) : Int) ≤ (p : Int)) = false := decide_eq_false (by omega)
    simp only [synthesisref12_ways_l1, ew, hle, cond_false]
    congr 2
    refine rowN_congr fun m hm => ?_
    by_cases h2 : i < m
    · rw [if_pos h2, if_pos (by omega)]
    · rw [if_neg h2, if_neg (by omega)])
  rw [show rowN g (p + 1) = rowN (fun m => if i < m ∧ m ≤ i + 0 then g m + o i * T a (m - i) else g m) (p + 1) from rowN_congr fun m hm => by rw [if_neg (by omega)]]
  exact h
theorem ways_l2 {T : Int → Nat → Nat} {ns M p : Nat} {a : Int} (ha : 0 ≤ a ∧ a < (ns : Int)) (hp : p < M) (hp2 : p ≤ 100) (z : Int) (o : Nat → Nat) (hT0 : T a 0 = 0) :
    loopN (synthesisref12_ways_l2 (tabN T ns M) (p : Int) (z, rowN o (p + 1)) a) fuel (0, rowN (fun _ => 0) (p + 1)) = some (rowN (NS.conv o (T a)) (p + 1)) := by
  have h := loop_end (step := synthesisref12_ways_l2 (tabN T ns M) (p : Int) (z, rowN o (p + 1)) a) (p + 1) (by omega) (fun j => ((j : Int), rowN (fun m => NS.sum (fun i => o i * T a (m - i)) (min j m)) (p + 1))) (rowN (NS.conv o (T a)) (p + 1)) (fun j hj => by
    have hle : decide ((j : Int) ≤ (p : Int)) = true := decide_eq_true (by omega)
    simp only [synthesisref12_ways_l2, hle, cond_true, Option.bind_some, ways_l1 ha hp hp2 (show j ≤ p by omega), w64_succ' hj (show p + 1 ≤ 9223372036854775807 by omega)]
    congr 3
    refine rowN_congr fun m hm => ?_
    by_cases h1 : j < m
    · rw [if_pos h1, show min j m = j by omega, show min (j + 1) m = j + 1 by omega]; rfl
    · rw [if_neg h1, show min j m = m by omega, show min (j + 1) m = m by omega]) (by
    have hle : decide (((p + 1 : Nat) : Int) ≤ (p : Int)) = false := decide_eq_false (by omega)
    simp only [synthesisref12_ways_l2, hle, cond_false]
    congr 2
    refine rowN_congr fun m hm => ?_
    unfold SR.conv
    rw [SR.sum, show min (p + 1) m = m by omega, Nat.sub_self, hT0]
    show _ = _ + o m * 0
    rw [Nat.mul_zero, Nat.add_zero]
    rfl)
  rw [show rowN (fun _ => 0) (p + 1) = rowN (fun m => NS.sum (fun i => o i * T a (m - i)) (min 0 m)) (p + 1) from rowN_congr fun m hm => by rw [Nat.zero_min]; rfl]
  exact h
theorem ways_l1z (t : List (List Int)) (p a z z' : Int) (s : List Int) (v6 : Int × List Int) : synthesisref12_ways_l1 t p (z, s) a v6 = synthesisref12_ways_l1 t p (z', s) a v6 := by
  funext v7
  unfold synthesisref12_ways_l1
  rfl
theorem ways_l2z (t : List (List Int)) (p a z z' : Int) (s : List Int) : synthesisref12_ways_l2 t p (z, s) a = synthesisref12_ways_l2 t p (z', s) a := by
  funext v6
  unfold synthesisref12_ways_l2
  rw [ways_l1z t p a z z' s v6]
theorem ways_fold {T : Int → Nat → Nat} {ns M p : Nat} (hp : p < M) (hp2 : p ≤ 100) (hT0 : ∀ a, T a 0 = 0) : ∀ (ys : List Int) (o : Nat → Nat), (∀ a ∈ ys, 0 ≤ a ∧ a < (ns : Int)) →
    ys.foldlM (fun (s : List Int) a => Option.bind (mkL 8 (0 : Int) ((p + 1 : Nat) : Int)) fun v5 => loopN (synthesisref12_ways_l2 (tabN T ns M) (p : Int) (0, s) a) fuel (0, v5)) (rowN o (p + 1)) = some (rowN (NS.lf T o ys) (p + 1))
  | [], o, _ => rfl
  | a :: ys, o, ha => by
    have hh : (Option.bind (mkL 8 (0 : Int) ((p + 1 : Nat) : Int)) fun v5 => loopN (synthesisref12_ways_l2 (tabN T ns M) (p : Int) (0, rowN o (p + 1)) a) fuel (0, v5)) = some (rowN (NS.conv o (T a)) (p + 1)) := by
      rw [mkL_eq 8 (0 : Int) (p + 1) (by omega), Option.bind_some, rep_rowN, ways_l2 (ha a (List.mem_cons_self ..)) hp hp2 0 o (hT0 a)]
    rw [List.foldlM_cons, hh]
    exact ways_fold hp hp2 hT0 ys (NS.conv o (T a)) fun b hb => ha b (List.mem_cons_of_mem _ hb)
theorem en_one : en 1 = 1 := by
  unfold en
  rw [Nat.min_eq_left (by omega)]
  rfl
theorem ways_es (p : Nat) : (rowN (fun _ => 0) (p + 1)).set (Int.toNat 0) 1 = rowN NS.dlt (p + 1) := by
  rw [← en_one, Int.toNat_zero, rowN_set]
  refine rowN_congr fun m hm => ?_
  unfold SR.dlt
  split <;> rfl
theorem ways_run {T : Int → Nat → Nat} {ns M p : Nat} (hp : p < M) (hp2 : p ≤ 100) (hT0 : ∀ a, T a 0 = 0) (ys : List Int) (hl : ys.length ≤ 1000000) (ha : ∀ a ∈ ys, 0 ≤ a ∧ a < (ns : Int)) : loopN (synthesisref12_ways_l3 (tabN T ns M) ys (p : Int)) fuel (0, rowN NS.dlt (p + 1)) = some (rowN (NS.lf T NS.dlt ys) (p + 1)) := by
  have ew : w64 ((p : Int) + 1) = ((p + 1 : Nat) : Int) := by rw [w64_eq (by omega) (by omega)]; omega
  rw [loop_acc (step := synthesisref12_ways_l3 (tabN T ns M) ys (p : Int)) ys (fun (s : List Int) a => Option.bind (mkL 8 (0 : Int) ((p + 1 : Nat) : Int)) fun v5 => loopN (synthesisref12_ways_l2 (tabN T ns M) (p : Int) (0, s) a) fuel (0, v5)) (fun i s => (i, s)) (by omega) (fun i a s hx => by
    have hi := get_lt hx
    have hl2 := ways_l2z (tabN T ns M) (p : Int) a (i : Int) 0 s
    unfold synthesisref12_ways_l3
    simp only
    rw [lt_len hi, cond_true, idx_nat, hx, Option.bind_some, ew, w64_succ' hi (show ys.length ≤ 9223372036854775807 by omega), hl2]
    cases mkL 8 (0 : Int) ((p + 1 : Nat) : Int) with
    | none => rfl
    | some v => rw [Option.bind_some, Option.bind_some]; cases loopN (synthesisref12_ways_l2 (tabN T ns M) (p : Int) (0, s) a) fuel (0, v) <;> rfl) (fun s => by unfold synthesisref12_ways_l3; simp only; rw [lt_len', cond_false])]
  exact ways_fold hp hp2 hT0 ys NS.dlt ha
theorem ways_eq {T : Int → Nat → Nat} {ns M p : Nat} (hp : p < M) (hp2 : p ≤ 100) (hT0 : ∀ a, T a 0 = 0) (ys : List Int) (hl : ys.length ≤ 1000000) (ha : ∀ a ∈ ys, 0 ≤ a ∧ a < (ns : Int)) : synthesisref12_ways (tabN T ns M) ys (p : Int) = some (en (NS.rr T ys p)) := by
  have ew : w64 ((p : Int) + 1) = ((p + 1 : Nat) : Int) := by rw [w64_eq (by omega) (by omega)]; omega
  have e0 : idx (rowN (fun _ => 0) (p + 1)) 0 = some (en 0) := by
    have := rowN_at (fun _ => 0) (show 0 < p + 1 by omega)
    rw [show (0 : Int) = ((0 : Nat) : Int) from rfl, idx_nat, this]
  have es := ways_es p
  unfold synthesisref12_ways
  rw [ew, mkL_eq 8 (0 : Int) (p + 1) (by omega), rep_rowN]
  simp only [Option.bind_some, e0, es]
  rw [ways_run hp hp2 hT0 ys hl ha]
  simp only [Option.bind_some, idx_nat, rowN_at _ (show p < p + 1 by omega), NS.lf_dlt]
/-- the table of the numbers of terms -/
def tabC (l : La) : Nat → Int → Nat → Nat := NS.tab l.rules.length (symAt l) (argAt l) (fun _ => 1)
theorem tabC_lo (l : La) (n : Nat) (s : Int) (k : Nat) (h : k ≤ n) : tabC l n s k = VN l s k := by
  unfold tabC
  rw [SR.tab_eq, if_pos h]
  rfl
theorem tabC_hi (l : La) (n : Nat) (s : Int) (k : Nat) (h : n < k) : tabC l n s k = 0 := by
  unfold tabC
  rw [SR.tab_eq, if_neg (by omega)]
  rfl
def midC (l : La) (n i : Nat) (s : Int) (k : Nat) : Nat := if k = n + 1 then NS.sum (fun i => if symAt l i = s then 1 * NS.rr (tabC l n) (argAt l i) n else 0) i else tabC l n s k
theorem table_l1 {l : La} (hg : GoodL l) {n most : Nat} (hn : n < most) (hm : most ≤ 24) (z : List (List Int)) :
    loopN (synthesisref12_Table_l1 l (((n + 1 : Nat) : Int), z)) fuel (0, tabN (tabC l n) l.symbols.length (most + 1)) = some (tabN (tabC l (n + 1)) l.symbols.length (most + 1)) := by
  have h96 := hg.rules
  have ew : w64 (((n + 1 : Nat) : Int) - 1) = (n : Int) := by rw [w64_eq (by omega) (by omega)]; omega
  have h := loop_end (step := synthesisref12_Table_l1 l (((n + 1 : Nat) : Int), z)) l.rules.length (by omega) (fun i => ((i : Int), tabN (midC l n i) l.symbols.length (most + 1))) (tabN (tabC l (n + 1)) l.symbols.length (most + 1)) (fun i hi => by
    obtain ⟨y, hy, hs, har, hmem⟩ := rule_at l hi
    have gy := hg.good y hmem
    have hf5 := gy.few
    have hsr : 0 ≤ y.symbol ∧ y.symbol < (l.symbols.length : Int) := ⟨gy.sym0, gy.sym1⟩
    have hsum := ways_eq (T := midC l n i) (ns := l.symbols.length) (M := most + 1) (p := n) (by omega) (by omega) (fun a => by
      unfold midC
      rw [if_neg (by omega), tabC_lo l n a 0 (by omega)]
      rfl) y.args (by omega) gy.args
    have hrr : NS.rr (midC l n i) y.args n = NS.rr (tabC l n) y.args n := NS.rr_congr _ _ fun a _ k hk => by unfold midC; rw [if_neg (by omega)]
    rw [hrr] at hsum
    have e3 : (rowN (midC l n i y.symbol) (most + 1))[n + 1]? = some (en (midC l n i y.symbol (n + 1))) := rowN_at _ (by omega)
    simp only [synthesisref12_Table_l1, lt_len hi, cond_true, idx_nat, hy, Option.bind_some, tabN_idx _ hsr, ew, e3, hsum, rplus_en, w64_succ' hi (show l.rules.length ≤ 9223372036854775807 by omega), Int.toNat_natCast, rowN_set, tabN_set _ hsr]
    congr 3
    refine tabN_congr fun s k hk => ?_
    unfold midC
    by_cases hss : s = y.symbol
    · rw [if_pos hss]
      by_cases hk1 : k = n + 1
      · rw [if_pos hk1, if_pos hk1, if_pos rfl, SR.sum, ← hs, ← hss, if_pos rfl, ← har, Nat.one_mul]
        rfl
      · rw [if_neg hk1, if_neg hk1, if_neg hk1, hss]
    · rw [if_neg hss]
      by_cases hk1 : k = n + 1
      · rw [if_pos hk1, if_pos hk1, SR.sum, ← hs, if_neg (fun h => hss h.symm)]
        exact (Nat.add_zero _).symm
      · rw [if_neg hk1, if_neg hk1]) (by
    simp only [synthesisref12_Table_l1, lt_len', cond_false]
    rfl)
  have h0 : tabN (tabC l n) l.symbols.length (most + 1) = tabN (midC l n 0) l.symbols.length (most + 1) := tabN_congr fun s k hk => by
    unfold midC
    by_cases hk1 : k = n + 1
    · rw [if_pos hk1, tabC_hi l n s k (by omega)]; rfl
    · rw [if_neg hk1]
  rw [h0]
  exact h
theorem table_l3 (ns : Nat) (hns : ns ≤ 16) {most : Nat} (hm : most ≤ 24) (T : Int → Nat → Nat) (hT : ∀ s k, T s k = 0) : loopN (synthesisref12_Table_l3 (most : Int)) fuel (0, List.replicate ns ([] : List Int)) = some (tabN T ns (most + 1)) := by
  have ew : w64 ((most : Int) + 1) = ((most + 1 : Nat) : Int) := by rw [w64_eq (by omega) (by omega)]; omega
  have h := loop_end (step := synthesisref12_Table_l3 (most : Int)) ns (by omega) (fun j => ((j : Int), List.replicate j (rowN (fun _ => 0) (most + 1)) ++ List.replicate (ns - j) ([] : List Int))) (tabN T ns (most + 1)) (fun j hj => by
    have hlen : (List.replicate j (rowN (fun _ => 0) (most + 1)) ++ List.replicate (ns - j) ([] : List Int)).length = ns := by rw [List.length_append, List.length_replicate, List.length_replicate]; omega
    have e1' : (List.replicate j (rowN (fun _ => 0) (most + 1)) ++ List.replicate (ns - j) ([] : List Int))[j]? = some [] := by
      rw [List.getElem?_append_right (by rw [List.length_replicate]; omega), List.length_replicate, Nat.sub_self, List.getElem?_replicate, if_pos (by omega)]
    have e2' : (List.replicate j (rowN (fun _ => 0) (most + 1)) ++ List.replicate (ns - j) ([] : List Int)).set j (rowN (fun _ => 0) (most + 1)) = List.replicate (j + 1) (rowN (fun _ => 0) (most + 1)) ++ List.replicate (ns - (j + 1)) ([] : List Int) := by
      rw [List.set_append_right _ _ (by rw [List.length_replicate]; omega), List.length_replicate, Nat.sub_self, show ns - j = (ns - (j + 1)) + 1 by omega, List.replicate_succ, List.set_cons_zero, List.replicate_succ', List.append_assoc]
      rfl
    simp only [synthesisref12_Table_l3, hlen, lt_len hj, cond_true, ew, mkL_eq 8 (0 : Int) (most + 1) (by omega), rep_rowN, Option.bind_some, idx_nat, e1', Int.toNat_natCast, e2', w64_succ' hj (show ns ≤ 9223372036854775807 by omega)]) (by
    have hlen : (List.replicate ns (rowN (fun _ => 0) (most + 1)) ++ List.replicate (ns - ns) ([] : List Int)).length = ns := by simp
    simp only [synthesisref12_Table_l3, hlen, lt_len', cond_false]
    congr 2
    rw [Nat.sub_self, List.replicate_zero, List.append_nil]
    refine List.ext_getElem? fun i => ?_
    by_cases hi : i < ns
    · rw [List.getElem?_replicate, if_pos hi, tabN_at T hi]
      congr 1
      exact rowN_congr fun m _ => (hT _ _).symm
    · rw [List.getElem?_replicate, if_neg hi, List.getElem?_eq_none (by rw [tabN_len]; omega)])
  rw [Nat.sub_zero, List.replicate_zero, List.nil_append] at h
  exact h
theorem table_eq {l : La} (hg : GoodL l) {most : Nat} (hm : most ≤ 24) : synthesisref12_Table l (most : Int) = some (tabN (tabC l most) l.symbols.length (most + 1)) := by
  have h16 := hg.sym16
  unfold synthesisref12_Table
  simp only [mkL_eq 24 ([] : List Int) l.symbols.length (by omega), Option.bind_some, table_l3 l.symbols.length h16 hm (tabC l 0) (fun _ _ => rfl)]
  have h := loop_end (step := synthesisref12_Table_l2 l (most : Int)) most (by omega) (fun j => (((j + 1 : Nat) : Int), tabN (tabC l j) l.symbols.length (most + 1))) (tabN (tabC l most) l.symbols.length (most + 1)) (fun j hj => by
    have hle : decide (((j + 1 : Nat) : Int) ≤ (most : Int)) = true := decide_eq_true (by omega)
    have ew : w64 (((j + 1 : Nat) : Int) + 1) = ((j + 1 + 1 : Nat) : Int) := by rw [w64_eq (by omega) (by omega)]; omega
    simp only [synthesisref12_Table_l2, hle, cond_true, table_l1 hg hj hm, Option.bind_some, ew]) (by
    have hle : decide (((most + 1 : Nat) : Int) ≤ (most : Int)) = false := decide_eq_false (by omega)
    simp only [synthesisref12_Table_l2, hle, cond_false])
  rw [show loopN (synthesisref12_Table_l2 l (most : Int)) fuel (1, tabN (tabC l 0) l.symbols.length (most + 1)) = _ from h]
  rfl
end Go.Proofs.Ytfkddbccogakoaa
