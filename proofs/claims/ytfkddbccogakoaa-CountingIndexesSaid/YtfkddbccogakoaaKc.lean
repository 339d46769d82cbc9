/- Capped numbers; keys; the counter that remembers. -/
import Derived.Test.YtfkddbccogakoaaLs
import Derived.Test.YtfkddbccogakoaaSr
set_option linter.unusedVariables false
set_option linter.unusedSimpArgs false
namespace Go.Proofs.Ytfkddbccogakoaa
open Go Go.RowKit

def NS : SR Nat := ⟨(· + ·), (· * ·), 0, 1, Nat.add_assoc, Nat.add_comm, Nat.zero_add, Nat.mul_assoc, Nat.mul_comm, Nat.mul_add, Nat.mul_zero, Nat.mul_one⟩
def en (n : Nat) : Int := ((min n 1152921504606846977 : Nat) : Int)
theorem en_bd (n : Nat) : 0 ≤ en n ∧ en n ≤ 1152921504606846977 := by unfold en; omega
theorem plus_en (a b : Nat) : imin (w64 (en a + en b)) 1152921504606846977 = en (a + b) := by
  have h1 := en_bd a
  have h2 := en_bd b
  rw [w64_eq (by omega) (by omega)]
  unfold imin en
  split <;> omega
theorem quo_en (m n : Nat) (hn : 0 < n) (hm : m ≤ 9223372036854775807) : quo .i64 (m : Int) (n : Int) = some ((m / n : Nat) : Int) := by
  unfold quo
  rw [if_neg (by omega)]
  have h1 : ((m : Int).tdiv (n : Int)) = ((m / n : Nat) : Int) := (Int.ofNat_tdiv m n).symm
  have h2 : m / n ≤ m := Nat.div_le_self m n
  rw [h1]
  generalize m / n = q at *
  exact congrArg some (w64_eq (by omega) (by omega))
theorem mul_en {a b : Nat} (h : min a 1152921504606846977 * min b 1152921504606846977 ≤ 1152921504606846977) : w64 (en a * en b) = ((min a 1152921504606846977 * min b 1152921504606846977 : Nat) : Int) := by
  unfold en
  rw [← Int.natCast_mul]
  exact w64_eq (by omega) (by omega)
theorem cap_mul (a b : Nat) : min (min a 1152921504606846977 * min b 1152921504606846977) 1152921504606846977 = min (a * b) 1152921504606846977 := by
  by_cases ha : a ≤ 1152921504606846977
  · by_cases hb : b ≤ 1152921504606846977
    · rw [Nat.min_eq_left ha, Nat.min_eq_left hb]
    · rw [Nat.min_eq_left ha, Nat.min_eq_right (show 1152921504606846977 ≤ b by omega)]
      rcases Nat.eq_zero_or_pos a with h0 | h0
      · subst h0; simp
      · have h1 : 1152921504606846977 ≤ a * 1152921504606846977 := Nat.le_mul_of_pos_left _ h0
        have h2 : 1152921504606846977 ≤ a * b := Nat.le_trans (by omega : 1152921504606846977 ≤ b) (Nat.le_mul_of_pos_left _ h0)
        omega
  · rw [Nat.min_eq_right (by omega : 1152921504606846977 ≤ a)]
    rcases Nat.eq_zero_or_pos b with h0 | h0
    · subst h0; simp
    · have h3 : 1 ≤ min b 1152921504606846977 := by omega
      have h1 : 1152921504606846977 ≤ 1152921504606846977 * min b 1152921504606846977 := Nat.le_mul_of_pos_right _ h3
      have h2 : 1152921504606846977 ≤ a * b := Nat.le_trans (by omega : 1152921504606846977 ≤ a) (Nat.le_mul_of_pos_right _ h0)
      omega
theorem times_en (a b : Nat) : counting_times_h (en a) (en b) = some (en (a * b)) := by
  have hc := cap_mul a b
  unfold counting_times_h
  by_cases h0 : 0 < min a 1152921504606846977
  · have e0 : decide (0 < en a) = true := decide_eq_true (by unfold en; omega)
    have hq : quo .i64 1152921504606846976 (en a) = some ((1152921504606846976 / min a 1152921504606846977 : Nat) : Int) := quo_en 1152921504606846976 _ h0 (by omega)
    rw [e0, hq]
    simp only [cond_true, Option.bind_some]
    by_cases hlt : 1152921504606846976 / min a 1152921504606846977 < min b 1152921504606846977
    · have e1 : decide (((1152921504606846976 / min a 1152921504606846977 : Nat) : Int) < en b) = true := decide_eq_true (by unfold en; omega)
      rw [e1, cond_true]
      have h2 := (Nat.div_lt_iff_lt_mul h0).1 hlt
      rw [Nat.mul_comm] at h2
      unfold en
      congr 1
      omega
    · have e1 : decide (((1152921504606846976 / min a 1152921504606846977 : Nat) : Int) < en b) = false := decide_eq_false (by unfold en; omega)
      rw [e1, cond_false]
      have h2 : ¬ 1152921504606846976 < min b 1152921504606846977 * min a 1152921504606846977 := fun h => hlt ((Nat.div_lt_iff_lt_mul h0).2 h)
      rw [Nat.mul_comm] at h2
      rw [mul_en (by omega)]
      unfold en
      congr 1
      omega
  · have e0 : decide (0 < en a) = false := decide_eq_false (by unfold en; omega)
    rw [e0]
    simp only [cond_false, Option.bind_some]
    have hz : min a 1152921504606846977 = 0 := by omega
    rw [mul_en (by rw [hz, Nat.zero_mul]; omega)]
    unfold en
    rw [← hc, hz, Nat.zero_mul]
    rfl
/-- keys -/
def keyB (ys : List Int) (k : Int) : ByteArray := toBA (wu8 k :: ys.map wu8)
theorem toBA_data : ∀ (xs : List Int) (r : ByteArray), (xs.foldl (fun r n => r.push (UInt8.ofNat n.toNat)) r).data.toList = r.data.toList ++ xs.map fun n => UInt8.ofNat n.toNat
  | [], r => by simp
  | x :: xs, r => by
    rw [List.foldl_cons, toBA_data xs]
    have : (r.push (UInt8.ofNat x.toNat)).data.toList = r.data.toList ++ [UInt8.ofNat x.toNat] := by
      cases r
      simp [ByteArray.push]
    rw [this, List.append_assoc]
    rfl
def Byt (n : Int) : Prop := 0 ≤ n ∧ n < 256
theorem byt_inj {a b : Int} (ha : Byt a) (hb : Byt b) (h : UInt8.ofNat a.toNat = UInt8.ofNat b.toNat) : a = b := by
  unfold Byt at ha hb
  have h1 : (UInt8.ofNat a.toNat).toNat = (UInt8.ofNat b.toNat).toNat := by rw [h]
  rw [UInt8.toNat_ofNat', UInt8.toNat_ofNat'] at h1
  omega
theorem bytes_inj : ∀ {xs ys : List Int}, (∀ x ∈ xs, Byt x) → (∀ y ∈ ys, Byt y) → (xs.map fun n => UInt8.ofNat n.toNat) = (ys.map fun n => UInt8.ofNat n.toNat) → xs = ys
  | [], [], _, _, _ => rfl
  | [], y :: ys, _, _, h => by simp at h
  | x :: xs, [], _, _, h => by simp at h
  | x :: xs, y :: ys, hx, hy, h => by
    rw [List.map_cons, List.map_cons] at h
    injection h with h1 h2
    rw [byt_inj (hx x (List.mem_cons_self ..)) (hy y (List.mem_cons_self ..)) h1, bytes_inj (fun z hz => hx z (List.mem_cons_of_mem _ hz)) (fun z hz => hy z (List.mem_cons_of_mem _ hz)) h2]
theorem wu8_id {n : Int} (h : Byt n) : wu8 n = n := by
  unfold Byt at h
  unfold wu8 IntKind.wrap
  simp [IntKind.signed, IntKind.bits]
  omega
theorem keyB_inj {ys zs : List Int} {k j : Int} (hy : ∀ y ∈ ys, Byt y) (hz : ∀ z ∈ zs, Byt z) (hk : Byt k) (hj : Byt j) (h : keyB ys k = keyB zs j) : ys = zs ∧ k = j := by
  have e : ∀ {l : List Int}, (∀ x ∈ l, Byt x) → l.map wu8 = l := fun {l} hl => by
    induction l with
    | nil => rfl
    | cons a l ih => rw [List.map_cons, wu8_id (hl a (List.mem_cons_self ..)), ih fun x hx => hl x (List.mem_cons_of_mem _ hx)]
  unfold keyB at h
  rw [e hy, e hz, wu8_id hk, wu8_id hj] at h
  have h2 := congrArg (fun b : ByteArray => b.data.toList) h
  unfold toBA at h2
  simp only [toBA_data] at h2
  have := bytes_inj (xs := k :: ys) (ys := j :: zs) (fun x hx => by
    rcases List.mem_cons.1 hx with rfl | hx
    · exact hk
    · exact hy x hx) (fun x hx => by
    rcases List.mem_cons.1 hx with rfl | hx
    · exact hj
    · exact hz x hx) (by simpa using h2)
  injection this with h3 h4
  exact ⟨h4, h3⟩
theorem key_eq (ys : List Int) (k : Int) (hl : ys.length ≤ 1000000) : counting_key_h2 ys k = some (keyB ys k) := by
  unfold counting_key_h2
  rw [loop_acc (step := counting_key_h2_l1 ys) ys (fun (s : List Int) x => app 1 s [wu8 x]) (fun i s => (i, s)) (by omega) (fun i x s hx => by
    have hi := get_lt hx
    simp only [counting_key_h2_l1, lt_len hi, cond_true, idx_nat, hx, Option.bind_some, w64_succ' hi (show ys.length ≤ 9223372036854775807 by omega)]
    cases app 1 s [wu8 x] <;> rfl) (fun s => by simp only [counting_key_h2_l1, lt_len', cond_false])]
  have gen : ∀ (ys : List Int) (s : List Int), s.length + ys.length ≤ 2000000 → ys.foldlM (fun (s : List Int) x => app 1 s [wu8 x]) s = some (s ++ ys.map wu8) := fun ys => by
    induction ys with
    | nil => intro s _; simp
    | cons y ys ih =>
      intro s hs
      rw [List.length_cons] at hs
      have ha : app 1 s [wu8 y] = some (s ++ [wu8 y]) := app_eq (by rw [List.length_singleton]; omega)
      rw [List.foldlM_cons, ha]
      have := ih (s ++ [wu8 y]) (by rw [List.length_append, List.length_singleton]; omega)
      show List.foldlM _ (s ++ [wu8 y]) ys = _
      rw [this, List.append_assoc]
      rfl
  rw [gen ys [wu8 k] (by rw [List.length_singleton]; omega)]
  rfl
/-- what the counter knows is right -/
def KI (V : Int → Nat → Nat) (m : List (ByteArray × Int)) : Prop := ∀ (ys : List Int) (k : Nat), (∀ y ∈ ys, Byt y) → k < 256 → (∀ z, mget m (keyB ys (k : Int)) z = en (NS.rr V ys k)) ∨ ∀ z, mget m (keyB ys (k : Int)) z = z
theorem KI.nil (V : Int → Nat → Nat) : KI V [] := fun ys k _ _ => .inr fun z => rfl
theorem mhas_get {m : List (ByteArray × Int)} {s : ByteArray} (h : mhas m s = true) : mget m s 0 = mget m s 1 := by
  unfold mhas at h
  unfold mget
  cases hf : mfind s m 0 with
  | none => rw [hf] at h; cases h
  | some p => rfl
theorem KI.has {V : Int → Nat → Nat} {m : List (ByteArray × Int)} (h : KI V m) {ys : List Int} {k : Nat} (hy : ∀ y ∈ ys, Byt y) (hk : k < 256) (hh : mhas m (keyB ys (k : Int)) = true) : mget m (keyB ys (k : Int)) 0 = en (NS.rr V ys k) := by
  rcases h ys k hy hk with h1 | h1
  · exact h1 0
  · have := mhas_get hh
    rw [h1, h1] at this
    cases this
theorem KI.put {V : Int → Nat → Nat} {m : List (ByteArray × Int)} (h : KI V m) {ys : List Int} {k : Nat} (hy : ∀ y ∈ ys, Byt y) (hk : k < 256) : KI V (mput m (keyB ys (k : Int)) (en (NS.rr V ys k))) := fun zs j hz hj => by
  by_cases he : (keyB zs (j : Int)).toList == (keyB ys (k : Int)).toList
  · rw [toList_beq] at he
    have he' : keyB zs (j : Int) = keyB ys (k : Int) := by
      have := MapKept.bytes_beq (keyB zs (j : Int)) (keyB ys (k : Int))
      first
        | exact eq_of_beq he
        | simpa [this] using he
    obtain ⟨e1, e2⟩ := keyB_inj hz hy (by unfold Byt; omega) (by unfold Byt; omega) he'
    have e3 : j = k := by omega
    subst e1 e3
    left
    intro z
    rw [mget_mput]
    simp
  · rcases h zs j hz hj with h1 | h1
    · left; intro z; rw [mget_mput]; simp [he, h1]
    · right; intro z; rw [mget_mput]; simp [he, h1]
end Go.Proofs.Ytfkddbccogakoaa
