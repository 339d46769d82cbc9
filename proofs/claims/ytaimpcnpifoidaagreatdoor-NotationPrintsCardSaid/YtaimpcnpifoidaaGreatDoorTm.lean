import Derived.Test.YtaimpcnpifoidaaGreatDoorMem
set_option linter.unusedVariables false
set_option linter.unusedSimpArgs false
namespace Go.Proofs.YtaimpcnpifoidaaGreatDoor
open Go Go.RowKit
inductive Tm where
 | mk (rule : Int) (args : List Tm)
namespace Tm
def rule : Tm → Int | mk r _ => r
def args : Tm → List Tm | mk _ l => l
theorem ind {P : Tm → Prop} (h : ∀ r l, (∀ t ∈ l, P t) → P (mk r l)) (t : Tm) : P t :=
 Tm.rec (motive_1 := P) (motive_2 := fun l => ∀ t ∈ l, P t) (fun r l ih => h r l ih) (fun _ h => nomatch h)
  (fun t l h1 h2 x hx => (List.mem_cons.1 hx).elim (fun e => e ▸ h1) (h2 x)) t
mutual
def size : Tm → Nat
 | mk _ l => sizeL l + 1
def sizeL : List Tm → Nat
 | [] => 0
 | t :: l => t.size + sizeL l
end
mutual
def depth : Tm → Nat
 | mk _ l => depthL l + 1
def depthL : List Tm → Nat
 | [] => 0
 | t :: l => max t.depth (depthL l)
end
mutual
def pre (g : Tm → Int) : Tm → List Int
 | mk r l => g (mk r l) :: preL g l
def preL (g : Tm → Int) : List Tm → List Int
 | [] => []
 | t :: l => t.pre g ++ preL g l
end
def rules (t : Tm) : List Int := t.pre rule
theorem sizeL_snoc (l : List Tm) (t : Tm) : sizeL (l ++ [t]) = sizeL l + t.size := by
 induction l with
 | nil => simp [sizeL]
 | cons x l ih => simp only [List.cons_append, sizeL, ih]; omega
theorem depthL_snoc (l : List Tm) (t : Tm) : depthL (l ++ [t]) = max (depthL l) t.depth := by
 induction l with
 | nil => simp [depthL]
 | cons x l ih => simp only [List.cons_append, depthL, ih]; omega
theorem size_pos (t : Tm) : 1 ≤ t.size := by cases t; simp [size]
theorem sizeL_mem {l : List Tm} {t : Tm} (h : t ∈ l) : t.size ≤ sizeL l := by
 induction l with
 | nil => cases h
 | cons x l ih =>
  simp only [sizeL]
  rcases List.mem_cons.1 h with rfl | h
  ·omega
  ·have := ih h; omega
theorem sizeL_take (l : List Tm) (k : Nat) : sizeL (l.take k) ≤ sizeL l := by
 induction l generalizing k with
 | nil => simp [sizeL]
 | cons x l ih =>
  cases k with
  | zero => simp [sizeL]
  | succ k => simp only [List.take_succ_cons, sizeL]; have := ih k; omega
theorem ksn (t : Tm) : t.depth ≤ t.size := by
 induction t using Tm.ind with
 | h r l ih =>
  simp only [depth, size]
  have : ∀ m : List Tm, (∀ t ∈ m, t.depth ≤ t.size) → depthL m ≤ sizeL m := fun m => by
   induction m with
   | nil => simp [depthL]
   | cons x m ihm =>
    intro h
    simp only [depthL, sizeL]
    have := h x (by simp)
    have := ihm fun t ht => h t (by simp [ht])
    omega
  have := this l ih
  omega
end Tm
section
variable {S S' : Nat → Prop} {w w' : World}
inductive RepTm (S : Nat → Prop) (w : World) : List Value → Tm → Prop where
 | mk (r : Int) (kids : List Tm) (A : Option Addr) (cap : Nat) (css : Nat → List Value) (hr : kdm r) (hc : kids.length ≤ cap) (hm : cap ≤ 9223372036854775807)
  (hA : ∀ (i : Nat) (x : Tm), kids[i]? = some x → ∃ b o, A = some ⟨b, o, none⟩ ∧ S b ∧ At w b (o + i * 2) (css i))
  (hk : ∀ (i : Nat) (x : Tm), kids[i]? = some x → RepTm S w (css i) x) : RepTm S w [.int .i64 r, .slice A kids.length cap] (.mk r kids)
abbrev Tms (S : Nat → Prop) (w : World) (v : Value) (l : List Tm) : Prop := RepSl S w 2 (RepTm S w) v l
theorem RepTm.len {cs : List Value} {t : Tm} (h : RepTm S w cs t) : cs.length = 2 := by cases h; rfl
theorem RepTm.form {cs : List Value} {r : Int} {l : List Tm} (h : RepTm S w cs (.mk r l)) : ∃ s, cs = [.int .i64 r, s] ∧ kdm r ∧ Tms S w s l := by
 cases h with
 | mk _ _ A cap css hr hc hm hA hk =>
  refine ⟨_, rfl, hr, A, cap, rfl, hc, hm, fun i x hx => ?_⟩
  obtain ⟨b, o, h1, h2, h3⟩ := hA i x hx
  exact ⟨b, o, css i, h1, h2, h3, (hk i x hx).len, hk i x hx⟩
theorem RepTm.of {s : Value} {r : Int} {l : List Tm} (hr : kdm r) (h : Tms S w s l) : RepTm S w [.int .i64 r, s] (.mk r l) := by
 obtain ⟨A, cap, rfl, hc, hm, hx⟩ := h
 have : ∀ i : Nat, ∃ cs : List Value, ∀ x : Tm, l[i]? = some x → (∃ b o, A = some ⟨b, o, none⟩ ∧ S b ∧ At w b (o + i * 2) cs) ∧ RepTm S w cs x := fun i => by
  cases hi : l[i]? with
  | none => exact ⟨[], fun x h => by cases h⟩
  | some x =>
   obtain ⟨b, o, cs, h1, h2, h3, _, h5⟩ := hx i x hi
   exact ⟨cs, fun y hy => by cases hy; exact ⟨⟨b, o, h1, h2, h3⟩, h5⟩⟩
 obtain ⟨css, hcss⟩ := Classical.axiomOfChoice this
 exact .mk r l A cap css hr hc hm (fun i x hi => (hcss i x hi).1) (fun i x hi => (hcss i x hi).2)
theorem RepTm.keep {cs : List Value} {t : Tm} (h : RepTm S w cs t) (hk : Same S w w') : RepTm S w' cs t := by
 induction h with
 | mk r kids A cap css hr hc hm hA _ ih =>
  refine .mk r kids A cap css hr hc hm (fun i x hx => ?_) ih
  obtain ⟨b, o, h1, h2, h3⟩ := hA i x hx
  exact ⟨b, o, h1, h2, h3.keep h2 hk⟩
theorem RepTm.mono {cs : List Value} {t : Tm} (h : RepTm S w cs t) (hS : ∀ b, S b → S' b) : RepTm S' w cs t := by
 induction h with
 | mk r kids A cap css hr hc hm hA _ ih =>
  refine .mk r kids A cap css hr hc hm (fun i x hx => ?_) ih
  obtain ⟨b, o, h1, h2, h3⟩ := hA i x hx
  exact ⟨b, o, h1, hS b h2, h3⟩
theorem RepTm.bound {cs : List Value} {t : Tm} (h : RepTm S w cs t) : RepTm (fun b => S b ∧ b < w.heap.size) w cs t := by
 induction h with
 | mk r kids A cap css hr hc hm hA hk ih =>
  refine .mk r kids A cap css hr hc hm (fun i x hx => ?_) ih
  obtain ⟨b, o, h1, h2, h3⟩ := hA i x hx
  have hl := (hk i x hx).len
  exact ⟨b, o, h1, ⟨h2, kmr (h3 0 ((css i)[0]'(by omega)) (List.getElem?_eq_getElem (by omega)))⟩, h3⟩
theorem Tms.keep {v : Value} {l : List Tm} (h : Tms S w v l) (hk : Same S w w') : Tms S w' v l := RepSl.keep h hk fun _ _ _ h => h.keep hk
theorem Tms.mono {v : Value} {l : List Tm} (h : Tms S w v l) (hS : ∀ b, S b → S' b) : Tms S' w v l := RepSl.mono h hS fun _ _ _ h => h.mono hS
theorem Tms.bound {v : Value} {l : List Tm} (h : Tms S w v l) : Tms (fun b => S b ∧ b < w.heap.size) w v l := RepSl.mono (RepSl.bound (by omega) h) (fun _ h => h) fun _ _ _ h => h.bound
def TmV (S : Nat → Prop) (w : World) (v : Value) (t : Tm) : Prop := ∃ c0 c1, v = .agg #[c0, c1] ∧ RepTm S w [c0, c1] t
theorem TmV.keep {v : Value} {t : Tm} (h : TmV S w v t) (hk : Same S w w') : TmV S w' v t := let ⟨c0, c1, hv, h⟩ := h; ⟨c0, c1, hv, h.keep hk⟩
theorem TmV.mono {v : Value} {t : Tm} (h : TmV S w v t) (hS : ∀ b, S b → S' b) : TmV S' w v t := let ⟨c0, c1, hv, h⟩ := h; ⟨c0, c1, hv, h.mono hS⟩
theorem TmV.bound {v : Value} {t : Tm} (h : TmV S w v t) : TmV (fun b => S b ∧ b < w.heap.size) w v t := let ⟨c0, c1, hv, h⟩ := h; ⟨c0, c1, hv, h.bound⟩
theorem TmV.form {v : Value} {r : Int} {l : List Tm} (h : TmV S w v (.mk r l)) : ∃ A cap, v = .agg #[.int .i64 r, .slice A l.length cap] ∧ kdm r ∧ l.length ≤ cap ∧ cap ≤ 9223372036854775807 ∧ Tms S w (.slice A l.length cap) l := by
 obtain ⟨c0, c1, rfl, h⟩ := h
 obtain ⟨s, hcs, hr, hs⟩ := h.form
 have hs' := hs
 obtain ⟨A, cap, rfl, hc, hm, _⟩ := hs
 simp at hcs
 obtain ⟨rfl, rfl⟩ := hcs
 exact ⟨A, cap, rfl, hr, hc, hm, hs'⟩
theorem TmV.of {s : Value} {r : Int} {l : List Tm} (hr : kdm r) (h : Tms S w s l) : TmV S w (.agg #[.int .i64 r, s]) (.mk r l) := ⟨_, _, rfl, RepTm.of hr h⟩
theorem TmV.cells {a b : Value} {t : Tm} (h : TmV S w (.agg #[a, b]) t) : RepTm S w [a, b] t := by
 obtain ⟨c0, c1, hcc, hrep⟩ := h
 simp only [Value.agg.injEq, Array.mk.injEq, List.cons.injEq, and_true] at hcc
 obtain ⟨rfl, rfl⟩ := hcc
 exact hrep
theorem Tms.get {A : Option Addr} {n cap : Nat} {l : List Tm} (h : Tms S w (.slice A n cap) l) {k : Nat} (hk : k < l.length) :
  ∃ b o A' n' c', A = some ⟨b, o, none⟩ ∧ S b ∧ w.cell? ⟨b, o + k * 2, none⟩ = some (.int .i64 l[k].rule) ∧ w.cell? ⟨b, o + k * 2 + 1, none⟩ = some (.slice A' n' c') ∧
   TmV S w (.agg #[.int .i64 l[k].rule, .slice A' n' c']) l[k] := by
 obtain ⟨A0, cap0, hv, _, _, hx⟩ := h
 injection hv with h1 h2 h3
 subst h1
 obtain ⟨b, o, cs, hA, hS, hat, _, hr⟩ := hx k _ (List.getElem?_eq_getElem hk)
 obtain ⟨r, kids, ht⟩ : ∃ r kids, l[k] = .mk r kids := ⟨l[k].rule, l[k].args, by cases l[k]; rfl⟩
 rw [ht] at hr ⊢
 cases hr with
 | mk _ _ A' cap' css hr hc hm hA' hk' =>
  refine ⟨b, o, A', kids.length, cap', hA, hS, ?_, ?_, ⟨_, _, rfl, .mk r kids A' cap' css hr hc hm hA' hk'⟩⟩
  ·simpa [Tm.rule] using hat 0 _ rfl
  ·simpa [Nat.add_assoc] using hat 1 _ rfl
end
end Go.Proofs.YtaimpcnpifoidaaGreatDoor
