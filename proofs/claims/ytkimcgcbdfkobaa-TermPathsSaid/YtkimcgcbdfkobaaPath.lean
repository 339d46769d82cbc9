/- Paths in terms. -/
import Derived.Test.YtkimcgcbdfkobaaTm
set_option linter.unusedVariables false
set_option linter.unusedSimpArgs false
namespace Go.Proofs.Ytkimcgcbdfkobaa
open Go Go.RowKit

/-- the term with rule 0 -/
def zT : Tm := .mk 0 []
/-- argument n -/
def Tm.arg (t : Tm) (n : Int) : Tm := t.args.getD n.toNat zT
def at? : List Int → Tm → Option Tm
  | [], t => some t
  | n :: p, t => if 0 ≤ n ∧ n < t.args.length then at? p (t.arg n) else none
def put : List Int → Tm → Tm → Tm
  | [], _, x => x
  | n :: p, t, x => .mk t.rule (t.args.set n.toNat (put p (t.arg n) x))
def okP (p : List Int) (t : Tm) : Bool := (at? p t).isSome
def atT (p : List Int) (t : Tm) : Tm := (at? p t).getD zT
def rpT (p : List Int) (t x : Tm) : Tm := if okP p t = true then put p t x else zT
def eP (p : List Int) (t : Tm) : Int := if okP p t = true then 0 else 7

theorem okP_nil (t : Tm) : okP [] t = true := rfl
theorem okP_in {n : Int} {p : List Int} {t : Tm} (h0 : 0 ≤ n) (h1 : n < t.args.length) : okP (n :: p) t = okP p (t.arg n) := by
  unfold okP; rw [at?, if_pos ⟨h0, h1⟩]
theorem okP_out {n : Int} {p : List Int} {t : Tm} (h : n < 0 ∨ (t.args.length : Int) ≤ n) : okP (n :: p) t = false := by
  unfold okP; rw [at?, if_neg (by omega)]; rfl
theorem okP_cons {n : Int} {p : List Int} {t : Tm} (h : okP (n :: p) t = true) : 0 ≤ n ∧ n < t.args.length ∧ okP p (t.arg n) = true := by
  by_cases hc : 0 ≤ n ∧ n < t.args.length
  · rw [okP_in hc.1 hc.2] at h; exact ⟨hc.1, hc.2, h⟩
  · rw [okP_out (by omega)] at h; cases h
theorem atT_nil (t : Tm) : atT [] t = t := rfl
theorem atT_in {n : Int} {p : List Int} {t : Tm} (h0 : 0 ≤ n) (h1 : n < t.args.length) : atT (n :: p) t = atT p (t.arg n) := by
  unfold atT; rw [at?, if_pos ⟨h0, h1⟩]
theorem atT_out {n : Int} {p : List Int} {t : Tm} (h : n < 0 ∨ (t.args.length : Int) ≤ n) : atT (n :: p) t = zT := by
  unfold atT; rw [at?, if_neg (by omega)]; rfl
theorem atT_no {p : List Int} {t : Tm} (h : okP p t = false) : atT p t = zT := by
  unfold okP at h; unfold atT
  cases hx : at? p t with
  | none => rfl
  | some x => rw [hx] at h; cases h
theorem eP_in {n : Int} {p : List Int} {t : Tm} (h0 : 0 ≤ n) (h1 : n < t.args.length) : eP (n :: p) t = eP p (t.arg n) := by
  unfold eP; rw [okP_in h0 h1]
theorem eP_out {n : Int} {p : List Int} {t : Tm} (h : n < 0 ∨ (t.args.length : Int) ≤ n) : eP (n :: p) t = 7 := by
  unfold eP; rw [okP_out h]; rfl
theorem eP_vals (p : List Int) (t : Tm) : eP p t = 0 ∨ eP p t = 7 := by unfold eP; split <;> simp
theorem eP_ok {p : List Int} {t : Tm} (h : okP p t = true) : eP p t = 0 := if_pos h
theorem eP_no {p : List Int} {t : Tm} (h : okP p t = false) : eP p t = 7 := if_neg (by rw [h]; simp)
theorem rpT_ok {p : List Int} {t x : Tm} (h : okP p t = true) : rpT p t x = put p t x := if_pos h
theorem rpT_no {p : List Int} {t x : Tm} (h : okP p t = false) : rpT p t x = zT := if_neg (by rw [h]; simp)

theorem arg_get {t : Tm} {n : Int} {k : Nat} (hk : n = k) (h : k < t.args.length) : t.arg n = t.args[k] := by
  subst hk
  unfold Tm.arg
  simp [List.getD, h]
theorem put_args {n : Int} {p : List Int} {t x : Tm} : (put (n :: p) t x).args.length = t.args.length := by simp [put, Tm.args]

theorem set_self {T : Type} : ∀ (l : List T) (k : Nat) (h : k < l.length), l.set k l[k] = l := by simp

theorem put_ok : ∀ (p : List Int) (t x : Tm), okP p t = true → at? p (put p t x) = some x
  | [], t, x, _ => rfl
  | n :: p, t, x, h => by
    obtain ⟨h0, h1, h2⟩ := okP_cons h
    obtain ⟨k, hk⟩ : ∃ k : Nat, n = k := ⟨n.toNat, by omega⟩
    subst hk
    have hk : k < t.args.length := by omega
    have he : (put ((k : Int) :: p) t x).arg k = put p (t.arg k) x := by
      rw [arg_get rfl (by rw [put_args]; exact hk)]
      simp [put, Tm.args]
    rw [at?, if_pos ⟨h0, by rw [put_args]; exact h1⟩, he]
    exact put_ok p _ x h2
theorem put_okP {p : List Int} {t : Tm} (x : Tm) (h : okP p t = true) : okP p (put p t x) = true := by unfold okP; rw [put_ok p t x h]; rfl
theorem put_atT {p : List Int} {t : Tm} (x : Tm) (h : okP p t = true) : atT p (put p t x) = x := by unfold atT; rw [put_ok p t x h]; rfl
theorem put_back : ∀ (p : List Int) (t x : Tm), okP p t = true → put p (put p t x) (atT p t) = t
  | [], t, x, _ => rfl
  | n :: p, t, x, h => by
    obtain ⟨h0, h1, h2⟩ := okP_cons h
    obtain ⟨k, hk⟩ : ∃ k : Nat, n = k := ⟨n.toNat, by omega⟩
    subst hk
    have hk : k < t.args.length := by omega
    have he : (put ((k : Int) :: p) t x).arg k = put p (t.arg k) x := by
      rw [arg_get rfl (by rw [put_args]; exact hk)]
      simp [put, Tm.args]
    have hp : ∀ y, put ((k : Int) :: p) (put ((k : Int) :: p) t x) y = .mk t.rule ((t.args.set k (put p (t.arg k) x)).set k (put p (put p (t.arg k) x) y)) := fun y => by
      conv => lhs; rw [put, he]
      simp [put, Tm.args, Tm.rule]
    rw [hp, atT_in h0 h1, put_back p _ x h2, List.set_set, arg_get rfl hk, List.set_getElem_self]
    cases t; rfl

theorem sizeL_set : ∀ (l : List Tm) (k : Nat) (y : Tm) (h : k < l.length), Tm.sizeL (l.set k y) + l[k].size = Tm.sizeL l + y.size
  | t :: l, 0, y, _ => by simp [Tm.sizeL]; omega
  | t :: l, k + 1, y, h => by
    have := sizeL_set l k y (by simpa using h)
    simp [Tm.sizeL]; omega
theorem putT_size : ∀ (p : List Int) (t x : Tm), okP p t = true → (put p t x).size ≤ t.size + x.size
  | [], t, x, _ => by simp [put]
  | n :: p, t, x, h => by
    obtain ⟨h0, h1, h2⟩ := okP_cons h
    obtain ⟨k, hk⟩ : ∃ k : Nat, n = k := ⟨n.toNat, by omega⟩
    subst hk
    have hk : k < t.args.length := by omega
    have ih := putT_size p (t.arg k) x h2
    have hs := sizeL_set t.args k (put p (t.arg k) x) hk
    rw [arg_get rfl hk] at ih hs
    have ht : t.size = Tm.sizeL t.args + 1 := by cases t; simp [Tm.size, Tm.args]
    simp only [put, Int.toNat_natCast, arg_get rfl hk, Tm.size]
    omega
theorem arg_size {t : Tm} {n : Int} (h0 : 0 ≤ n) (h1 : n < t.args.length) : (t.arg n).size < t.size := by
  obtain ⟨k, hk⟩ : ∃ k : Nat, n = k := ⟨n.toNat, by omega⟩
  subst hk
  have hk : k < t.args.length := by omega
  rw [arg_get rfl hk]
  have := Tm.sizeL_mem (List.getElem_mem hk)
  have ht : t.size = Tm.sizeL t.args + 1 := by cases t; simp [Tm.size, Tm.args]
  omega
theorem atT_size : ∀ (p : List Int) (t : Tm), (atT p t).size ≤ t.size
  | [], t => Nat.le_refl _
  | n :: p, t => by
    by_cases hc : 0 ≤ n ∧ n < t.args.length
    · rw [atT_in hc.1 hc.2]
      have := atT_size p (t.arg n)
      have := arg_size hc.1 hc.2
      omega
    · rw [atT_out (by omega)]
      cases t
      simp [zT, Tm.size, Tm.sizeL]

theorem TmV.shape {S : Nat → Prop} {w : World} {v : Value} {t : Tm} (h : TmV S w v t) : ∃ A cap, v = .agg #[.int .i64 t.rule, .slice A t.args.length cap] ∧ InI64 t.rule ∧ t.args.length ≤ cap ∧ cap ≤ 9223372036854775807 ∧ Tms S w (.slice A t.args.length cap) t.args := by
  cases t; exact h.form
theorem TmV.agg_eq {S : Nat → Prop} {w : World} {r : Int} {A : Option Addr} {n c : Nat} {t : Tm} (h : TmV S w (.agg #[.int .i64 r, .slice A n c]) t) : r = t.rule ∧ n = t.args.length ∧ Tms S w (.slice A n c) t.args := by
  obtain ⟨A', c', he, -, -, -, hl⟩ := h.shape
  simp only [Value.agg.injEq, Array.mk.injEq, List.cons.injEq, Value.int.injEq, Value.slice.injEq, true_and, and_true] at he
  obtain ⟨rfl, rfl, rfl, rfl⟩ := he
  exact ⟨rfl, rfl, hl⟩
/-- a term in new memory, and an error -/
def RetTE (w : World) (t : Tm) (e : Int) (en : Ending) (w' : World) : Prop := ∃ v, en = .returned (.tuple #[v, .int .i64 e]) ∧ TmV (From w.heap.size) w' v t ∧ Grow w w'
/-- such a pair -/
def TEV (B : Nat) (w : World) (v : Value) (t : Tm) (e : Int) : Prop := ∃ tv, v = .tuple #[tv, .int .i64 e] ∧ TmV (From B) w tv t
theorem TEV.keep {B : Nat} {w w' : World} {v : Value} {t : Tm} {e : Int} (h : TEV B w v t e) (hb : Grow w w') : TEV B w' v t e := let ⟨tv, h1, h2⟩ := h; ⟨tv, h1, h2.keep (Same.of_grow hb)⟩
theorem tmv_z {S : Nat → Prop} {w : World} : TmV S w (.agg #[.int .i64 0, .slice none 0 0]) zT := TmV.of ⟨by omega, by omega⟩ (RepSl.nil (by omega))
end Go.Proofs.Ytkimcgcbdfkobaa
