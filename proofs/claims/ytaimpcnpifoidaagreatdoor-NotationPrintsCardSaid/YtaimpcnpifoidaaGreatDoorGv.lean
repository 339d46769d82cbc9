import Derived.Test.YtaimpcnpifoidaaGreatDoorFin
import Derived.Test.YtaimpcnpifoidaaGreatDoorOpenLang
import Derived.Test.YtaimpcnpifoidaaGreatDoorGu
set_option linter.unusedVariables false
set_option linter.unusedSimpArgs false
set_option maxRecDepth 100000
namespace Go.Proofs.YtaimpcnpifoidaaGreatDoor
open Go Go.RowKit Go.ChangeShapes Go.WideShapes Go.ChangeAt
section
variable {w : World}
def CR (w : World) (cs : List Value) (x : FV) (size : Nat) : Prop := x.cells.length = size ∧ (∀ y ∈ x.cells, y.single = true) ∧ ∀ (j : Nat) (u : Value) (y : FV), cs[j]? = some u → x.cells[j]? = some y → RF Any w u y
theorem kq3 {cs : List Value} {xs : List FV} (hl : cs.length = xs.length) (h : ∀ (j : Nat) (y : FV), xs[j]? = some y → y.single = true ∧ ∀ u, cs[j]? = some u → RF Any w u y) : CR w cs (.agg xs) xs.length := by
 refine ⟨rfl, fun y hy => ?_, fun j u y hu hy => (h j y hy).2 u hu⟩
 obtain ⟨j, hj⟩ := List.mem_iff_getElem?.1 hy
 exact (h j y hj).1
theorem k2m {v : Value} {ns : List Int} (h : Ints Any w v ns) : RF Any w v (eL 1 eI ns) :=
 ktv (R := IntR) (by omega) h fun cs x _ hx => kacz hx.1 rfl
theorem k99 : ∀ (x : Va) (cs : List Value), RepVa Any w cs x → CR w cs (eVaR x) 4 ∧ inV x := by
 refine Va.ind fun t n s l ih => ?_
 intro cs h
 obtain ⟨v, rfl, ht, hn, hs, hv⟩ := h.form
 have hrf : RF Any w v (.lst 4 l.length (ksj l)) := by
  have := ktv (ec := eVaR) (size := 4) (by omega) hv fun cs x hx hr => (ih x hx cs hr).1
  rw [kvi]
  have he : eL 4 eVaR l = .lst 4 l.length (l.map eVaR) := rfl
  rw [← he]
  exact this
 refine ⟨kq3 (xs := [eI t, eI n, eS s, .lst 4 l.length (ksj l)]) rfl fun j y hy => ?_, ?_⟩
 ·match j with
  | 0 => simp at hy; subst hy; exact ⟨rfl, fun u hu => by simp at hu; subst hu; exact .atom rfl⟩
  | 1 => simp at hy; subst hy; exact ⟨rfl, fun u hu => by simp at hu; subst hu; exact .atom rfl⟩
  | 2 => simp at hy; subst hy; exact ⟨rfl, fun u hu => by simp at hu; subst hu; exact .atom rfl⟩
  | 3 => simp at hy; subst hy; exact ⟨rfl, fun u hu => by simp at hu; subst hu; exact hrf⟩
  | j + 4 => simp at hy
 ·obtain ⟨A, cap, _, h1, h2, h3⟩ := hv
  have all : ∀ x ∈ l, inV x := fun x hx => by
   obtain ⟨i, hi⟩ := List.mem_iff_getElem?.1 hx
   obtain ⟨b, o, cs, _, _, _, _, hr⟩ := h3 i x hi
   exact (ih x hx cs hr).2
  have gen : ∀ l : List Va, (∀ x ∈ l, inV x) → kqp 9223372036854775807 l ∧ ktw l := fun l => by
   induction l with
   | nil => exact fun _ => ⟨trivial, trivial⟩
   | cons y l ih => exact fun h => ⟨⟨(h y (List.mem_cons_self ..)).1, (ih fun z hz => h z (List.mem_cons_of_mem _ hz)).1⟩, (h y (List.mem_cons_self ..)).2, (ih fun z hz => h z (List.mem_cons_of_mem _ hz)).2⟩
  obtain ⟨g1, g2⟩ := gen l all
  exact ⟨⟨by omega, g1⟩, hs, g2⟩
theorem sy_cr {cs : List Value} {x : Sy} (h : kws Any w cs x) : CR w cs (eSy x) 2 := by
 obtain ⟨rfl, hs, ht⟩ := h
 refine kq3 (xs := [eS x.name, eI x.type]) rfl fun j y hy => ?_
 match j with
 | 0 => simp at hy; subst hy; exact ⟨rfl, fun u hu => by simp at hu; subst hu; exact .atom rfl⟩
 | 1 => simp at hy; subst hy; exact ⟨rfl, fun u hu => by simp at hu; subst hu; exact .atom rfl⟩
 | j + 2 => simp at hy
theorem k95 {cs : List Value} {x : Ru} (h : RepRu Any w cs x) : CR w cs (eRu x) 9 ∧ kpt x := by
 obtain ⟨c0, c1, c2, c3, v, rfl, h1, h2, h3, h4, h5, h6⟩ := h
 obtain ⟨k, kw⟩ := k99 _ _ h5
 obtain ⟨sy, kd, inp, c, op, ar⟩ := x
 obtain ⟨t, n, s, l⟩ := c
 obtain ⟨v', hcs, ht, hn, hs, hv⟩ := h5.form
 simp only [List.cons.injEq, and_true] at hcs
 obtain ⟨rfl, rfl, rfl, rfl⟩ := hcs
 have hrf : RF Any w c3 (eL 4 eVaR l) := ktv (ec := eVaR) (size := 4) (by omega) hv fun cs x hx hr => (k99 x cs hr).1
 refine ⟨kq3 (xs := [eI sy, eI kd, eI inp, eI t, eI n, eS s, eL 4 eVaR l, eS op, eL 1 eI ar]) rfl fun j y hy => ?_, (by obtain ⟨A, cap, _, q1, q2, _⟩ := h6; exact Nat.le_trans q1 q2), kw⟩
 match j with
 | 0 => simp at hy; subst hy; exact ⟨rfl, fun u hu => by simp at hu; subst hu; exact .atom rfl⟩
 | 1 => simp at hy; subst hy; exact ⟨rfl, fun u hu => by simp at hu; subst hu; exact .atom rfl⟩
 | 2 => simp at hy; subst hy; exact ⟨rfl, fun u hu => by simp at hu; subst hu; exact .atom rfl⟩
 | 3 => simp at hy; subst hy; exact ⟨rfl, fun u hu => by simp at hu; subst hu; exact .atom rfl⟩
 | 4 => simp at hy; subst hy; exact ⟨rfl, fun u hu => by simp at hu; subst hu; exact .atom rfl⟩
 | 5 => simp at hy; subst hy; exact ⟨rfl, fun u hu => by simp at hu; subst hu; exact .atom rfl⟩
 | 6 => simp at hy; subst hy; exact ⟨rfl, fun u hu => by simp at hu; subst hu; exact hrf⟩
 | 7 => simp at hy; subst hy; exact ⟨rfl, fun u hu => by simp at hu; subst hu; exact .atom rfl⟩
 | 8 => simp at hy; subst hy; exact ⟨rfl, fun u hu => by simp at hu; subst hu; exact k2m h6⟩
 | j + 9 => simp at hy
theorem k5b {cs : List Value} {xs : List FV} (hl : cs.length = xs.length) (h : CR w cs (.agg xs) xs.length) : RF Any w (.agg cs.toArray) (.agg xs) :=
 .agg (by simpa using hl) (fun x hx => h.2.1 x hx) fun i v x hv hx => h.2.2 i v x (by simpa using hv) hx
theorem la_rf {v : Value} {x : La} (h : LaV Any w v x) : RF Any w v (eLa x) ∧ kld x := by
 obtain ⟨cs, rfl, v1, v2, v3, rfl, hn, h1, h2, h3⟩ := h
 have r1 := k2m h1
 have r2 : RF Any w v2 (eL 2 eSy x.symbols) := ktv (ec := eSy) (size := 2) (by omega) h2 fun cs x _ hr => sy_cr hr
 have r3 : RF Any w v3 (eL 9 eRu x.rules) := ktv (ec := eRu) (size := 9) (by omega) h3 fun cs x _ hr => (k95 hr).1
 refine ⟨k5b (xs := [eS x.name, eL 1 eI x.inputs, eL 2 eSy x.symbols, eL 9 eRu x.rules]) rfl (kq3 rfl fun j y hy => ?_), ?_⟩
 ·match j with
  | 0 => simp at hy; subst hy; exact ⟨rfl, fun u hu => by simp at hu; subst hu; exact .atom rfl⟩
  | 1 => simp at hy; subst hy; exact ⟨rfl, fun u hu => by simp at hu; subst hu; exact r1⟩
  | 2 => simp at hy; subst hy; exact ⟨rfl, fun u hu => by simp at hu; subst hu; exact r2⟩
  | 3 => simp at hy; subst hy; exact ⟨rfl, fun u hu => by simp at hu; subst hu; exact r3⟩
  | j + 4 => simp at hy
 ·refine ⟨hn, ?_, ?_, ?_, fun y hy => ?_, fun r hr => ?_⟩
  ·obtain ⟨A, cap, _, q1, q2, _⟩ := h1; exact Nat.le_trans q1 q2
  ·obtain ⟨A, cap, _, q1, q2, _⟩ := h2; exact Nat.le_trans q1 q2
  ·obtain ⟨A, cap, _, q1, q2, _⟩ := h3; exact Nat.le_trans q1 q2
  ·obtain ⟨A, cap, _, _, _, hx⟩ := h2
   obtain ⟨i, hi⟩ := List.mem_iff_getElem?.1 hy
   obtain ⟨b, o, cs, _, _, _, _, hq⟩ := hx i y hi
   exact hq.2.1
  ·obtain ⟨A, cap, _, _, _, hx⟩ := h3
   obtain ⟨i, hi⟩ := List.mem_iff_getElem?.1 hr
   obtain ⟨b, o, cs, _, _, _, _, hq⟩ := hx i r hi
   exact (k95 hq).2
theorem tm_cr : ∀ (x : Tm) (cs : List Value), RepTm Any w cs x → CR w cs (eTmR x) 2 := by
 refine Tm.ind fun r l ih => ?_
 intro cs h
 obtain ⟨v, rfl, hr, hv⟩ := h.form
 have hrf : RF Any w v (.lst 2 l.length (kr9 l)) := by
  have := ktv (ec := eTmR) (size := 2) (by omega) hv fun cs x hx hr => ih x hx cs hr
  rw [ku8]
  have he : eL 2 eTmR l = .lst 2 l.length (l.map eTmR) := rfl
  rw [← he]
  exact this
 refine kq3 (xs := [eI r, .lst 2 l.length (kr9 l)]) rfl fun j y hy => ?_
 match j with
 | 0 => simp at hy; subst hy; exact ⟨rfl, fun u hu => by simp at hu; subst hu; exact .atom rfl⟩
 | 1 => simp at hy; subst hy; exact ⟨rfl, fun u hu => by simp at hu; subst hu; exact hrf⟩
 | j + 2 => simp at hy
theorem tm_rf {v : Value} {x : Tm} (h : TmV Any w v x) : RF Any w v (eTm x) := by
 obtain ⟨c0, c1, rfl, hr⟩ := h
 have k := tm_cr x _ hr
 rw [kmp] at k
 exact k5b (cs := [c0, c1]) (xs := [eI x.rule, eL 2 eTmR x.args]) rfl k
end
section
variable {H : Type} {enc : TypeId × Value → H} {w : World} {base : Nat} {spare : Nat → Bool} {held : Bool}
theorem in_La {r : Reach} {b0 : Nat} {v : Value} {d : DataW H} {p : List MemPlace} (hv : Value.okWide Tryz.prog w r b0 26 v) (h : DataW.Trod enc Tryz.prog w base spare held 26 v d p) : ∃ x, RF Any w v (eLa x) ∧ kld x := by
 obtain ⟨x, hx⟩ := kw4 hv h
 exact ⟨x, la_rf hx⟩
theorem in_Tm {r : Reach} {b0 : Nat} {v : Value} {d : DataW H} {p : List MemPlace} (hv : Value.okWide Tryz.prog w r b0 29 v) (h : DataW.Trod enc Tryz.prog w base spare held 29 v d p) : ∃ x, RF Any w v (eTm x) ∧ True := by
 obtain ⟨x, hx⟩ := k3q hv h
 exact ⟨x, tm_rf hx, trivial⟩
end
end Go.Proofs.YtaimpcnpifoidaaGreatDoor
