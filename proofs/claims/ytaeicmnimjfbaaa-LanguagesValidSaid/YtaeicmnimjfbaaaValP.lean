/- The order of values. -/
import Derived.Test.YtaeicmnimjfbaaaLang
set_option linter.unusedVariables false
set_option linter.unusedSimpArgs false
namespace Go.Proofs.Ytaeicmnimjfbaaa
open Go Go.RowKit

def lessB (a b : ByteArray) : Bool := Op.bytesLess a.toList b.toList
mutual
def cmpV : Va → Va → Int
  | .mk t n s l, .mk t' n' s' l' =>
    if t < t' then -1 else if t' < t then 1 else if n < n' then -1 else if n' < n then 1 else if lessB s s' = true then -1 else if lessB s' s = true then 1 else cmpVs l l'
def cmpVs : List Va → List Va → Int
  | [], [] => 0
  | [], _ :: _ => -1
  | _ :: _, [] => 1
  | x :: l, y :: m => if cmpV x y ≠ 0 then cmpV x y else cmpVs l m
end
def eqV (a b : Va) : Bool := decide (cmpV a b = 0)

theorem bytes_self : ∀ l : List UInt8, Op.bytesLess l l = false
  | [] => rfl
  | x :: l => by simp [Op.bytesLess, bytes_self l]
theorem bytes_eq : ∀ l m : List UInt8, Op.bytesLess l m = false → Op.bytesLess m l = false → l = m
  | [], [], _, _ => rfl
  | [], y :: m, h, _ => by simp [Op.bytesLess] at h
  | x :: l, [], _, h => by simp [Op.bytesLess] at h
  | x :: l, y :: m, h, h' => by
    simp only [Op.bytesLess, Bool.or_eq_false_iff, Bool.and_eq_false_iff, decide_eq_false_iff_not, beq_eq_false_iff_ne] at h h'
    have hxy : x = y := by
      have h1 := h.1
      have h2 := h'.1
      exact UInt8.le_antisymm (UInt8.not_lt.1 h2) (UInt8.not_lt.1 h1)
    subst hxy
    rw [bytes_eq l m (h.2.resolve_left fun h => h rfl) (h'.2.resolve_left fun h => h rfl)]
theorem bytesList_inj {a b : ByteArray} (h : a.toList = b.toList) : a = b := by
  rw [ByteArray.toList_eq, ByteArray.toList_eq] at h
  obtain ⟨⟨a⟩⟩ := a
  obtain ⟨⟨b⟩⟩ := b
  simp at h
  rw [h]
theorem lessB_self (a : ByteArray) : lessB a a = false := bytes_self _
theorem lessB_eq {a b : ByteArray} (h : lessB a b = false) (h' : lessB b a = false) : a = b := bytesList_inj (bytes_eq _ _ h h')

theorem cmpVs_self (l : List Va) (h : ∀ x ∈ l, cmpV x x = 0) : cmpVs l l = 0 := by
  induction l with
  | nil => rfl
  | cons x l ih =>
    rw [cmpVs, if_neg (by simp [h x (by simp)])]
    exact ih fun y hy => h y (by simp [hy])
theorem cmpV_self (v : Va) : cmpV v v = 0 := by
  induction v using Va.ind with
  | h t n s l ih =>
    rw [cmpV, if_neg (by omega), if_neg (by omega), if_neg (by omega), if_neg (by omega), lessB_self]
    simp only [Bool.false_eq_true, if_false]
    exact cmpVs_self l ih
theorem cmpVs_eq : ∀ (l m : List Va), (∀ x ∈ l, ∀ y, cmpV x y = 0 → x = y) → cmpVs l m = 0 → l = m
  | [], [], _, _ => rfl
  | [], _ :: _, _, h => by simp [cmpVs] at h
  | _ :: _, [], _, h => by simp [cmpVs] at h
  | x :: l, y :: m, ih, h => by
    rw [cmpVs] at h
    split at h
    · rename_i h1; exact absurd h h1
    · rename_i h1
      have h1 : cmpV x y = 0 := by omega
      rw [ih x (by simp) y h1, cmpVs_eq l m (fun z hz => ih z (by simp [hz])) h]
theorem cmpV_eq (v : Va) : ∀ u, cmpV v u = 0 → v = u := by
  induction v using Va.ind with
  | h t n s l ih =>
    rintro ⟨t', n', s', l'⟩ h
    rw [cmpV] at h
    repeat' split at h
    all_goals try (exfalso; omega)
    rename_i h1 h2 h3 h4 h5 h6
    obtain rfl : t = t' := by omega
    obtain rfl : n = n' := by omega
    obtain rfl : s = s' := lessB_eq (by simpa using h5) (by simpa using h6)
    rw [cmpVs_eq l l' ih h]
theorem eqV_self (v : Va) : eqV v v = true := by unfold eqV; rw [cmpV_self]; rfl
theorem eqV_iff {v u : Va} : eqV v u = true ↔ v = u := ⟨fun h => cmpV_eq v u (of_decide_eq_true h), fun h => by rw [h, eqV_self]⟩

/-- one step of a loop over both -/
theorem cmpVs_step {l m : List Va} {k : Nat} (hl : k < l.length) (hm : k < m.length) : cmpVs (l.drop k) (m.drop k) = if cmpV l[k] m[k] ≠ 0 then cmpV l[k] m[k] else cmpVs (l.drop (k + 1)) (m.drop (k + 1)) := by
  rw [List.drop_eq_getElem_cons hl, List.drop_eq_getElem_cons hm, cmpVs]
theorem cmpVs_more {l m : List Va} {k : Nat} (hl : k < l.length) (hm : k = m.length) : cmpVs (l.drop k) (m.drop k) = 1 := by
  rw [List.drop_eq_getElem_cons hl, List.drop_of_length_le (by omega : m.length ≤ k), cmpVs]
theorem cmpVs_less {l m : List Va} {k : Nat} (hl : k = l.length) (hm : k < m.length) : cmpVs (l.drop k) (m.drop k) = -1 := by
  rw [List.drop_eq_getElem_cons hm, List.drop_of_length_le (by omega : l.length ≤ k), cmpVs]
theorem cmpVs_end {l m : List Va} {k : Nat} (hl : k = l.length) (hm : k = m.length) : cmpVs (l.drop k) (m.drop k) = 0 := by
  rw [List.drop_of_length_le (by omega : l.length ≤ k), List.drop_of_length_le (by omega : m.length ≤ k), cmpVs]
theorem cmpV_vals (v : Va) : ∀ u, cmpV v u = -1 ∨ cmpV v u = 0 ∨ cmpV v u = 1 := by
  have hs : ∀ (l m : List Va), (∀ x ∈ l, ∀ y, cmpV x y = -1 ∨ cmpV x y = 0 ∨ cmpV x y = 1) → cmpVs l m = -1 ∨ cmpVs l m = 0 ∨ cmpVs l m = 1 := by
    intro l
    induction l with
    | nil => intro m _; cases m <;> simp [cmpVs]
    | cons x l ihl =>
      intro m ih
      cases m with
      | nil => simp [cmpVs]
      | cons y m =>
        rw [cmpVs]
        split
        · exact ih x (by simp) y
        · exact ihl m fun z hz => ih z (by simp [hz])
  induction v using Va.ind with
  | h t n s l ih =>
    rintro ⟨t', n', s', l'⟩
    rw [cmpV]
    repeat' split
    all_goals first | exact .inl rfl | exact .inr (.inr rfl) | exact hs l l' ih
end Go.Proofs.Ytaeicmnimjfbaaa
