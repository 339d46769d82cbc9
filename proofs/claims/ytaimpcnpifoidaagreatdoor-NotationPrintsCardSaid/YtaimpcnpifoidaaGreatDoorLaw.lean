import Derived.Test.YtaimpcnpifoidaaGreatDoorRows
import Derived.Test.YtaimpcnpifoidaaGreatDoorMem
import Derived.ProofKit
import Derived.OpenShut
import Derived.JoinedCond
import Derived.Carry
import Derived.ChangeSame
set_option linter.unusedVariables false
set_option linter.unusedSimpArgs false
namespace Go.Proofs.YtaimpcnpifoidaaGreatDoor
open Go Go.RowKit Go.ChangeShapes Go.WideShapes Go.ChangeAt
theorem k7j : ownKnob Tryz.prog.godebug = none := by kernel_rfl
theorem k7r : laidOutB Tryz.prog = true := by kernel_rfl
section
variable {H : Type} {enc : TypeId × Value → H} {P : Program}
theorem kst (hl : laidOutB P = true) {W W' : World} {sp : Nat → Bool} (hb : Below W.heap.size W W') : ∀ {ts : List TypeId} {vs : List Value} {ds : List (DataW H)} {ps : List MemPlace},
  (∀ t ∈ ts, P.readableRec t = true ∧ t < P.types.size) → DataW.TrodAll enc P W 0 (fun _ => true) true ts vs ds ps → (∀ x ∈ ps, x.block < W.heap.size) → (∀ x ∈ ps, sp x.block = true) → DataW.TrodAll enc P W' 0 sp true ts vs ds ps
 | [], vs, ds, ps, _, h, _, _ => by
  obtain ⟨rfl, rfl, rfl⟩ := trodAll_nil h
  exact trodAll_mk0
 | t :: ts, vs, ds, ps, ht, h, hlt, hsp => by
  obtain ⟨v, vs', d, ds', p, q, rfl, rfl, rfl, h0, h1⟩ := trodAll_cons h
  exact trodAll_cons_mk (WideElems.Trod_stays hl (ht t (by simp)).1 (ht t (by simp)).2 h0 (fun x hx => hb.same (hlt x (by simp [hx]))) (fun x hx => hsp x (by simp [hx])))
   (kst hl hb (fun t' h' => ht t' (by simp [h'])) h1 (fun x hx => hlt x (by simp [hx])) (fun x hx => hsp x (by simp [hx])))
theorem k8k {f : Func} {s : ChangeSpec} {W W' : World} {args : Array Value} {ds gs : List (DataW H)} {before : List MemPlace} {tb : TypeId}
  (hl : laidOutB P = true) (hts : ∀ t ∈ f.params.toList, P.readableRec t = true ∧ t < P.types.size) (hvars : s.vars = []) (hb : P.underlying tb = some .bool) (hr : f.resultTypes = #[tb])
  (hfn : s.fn H (ds ++ gs) = { results := [.lit (.bool true)], args := ds })
  (hW : DataW.Whole enc P f.params.toList s.vars false W args.toList ds gs before) (hg : Below W.heap.size W W') :
  s.post enc P f false true false false W args (.bool true) W' := by
 have hW' := hW
 obtain ⟨p, q, hA, hV, rfl, hz, hn⟩ := hW
 have hV' : DataW.TrodVars enc P W (fun _ => true) [] gs q := by rw [hvars] at hV; exact hV
 obtain ⟨rfl, rfl⟩ := trodVars_none hV'
 have hlt : ∀ x ∈ p, x.block < W.heap.size := fun x hx => hW'.lt x (by simpa using hx)
 have hAs : ∀ sp : Nat → Bool, (∀ x ∈ p, sp x.block = true) → DataW.TrodAll enc P W' 0 sp true f.params.toList args.toList (s.fn H (ds ++ [])).args p := fun sp hsp => by
  rw [hfn]; exact kst hl hg hts hA hlt hsp
 have hVs : ∀ sp : Nat → Bool, DataW.TrodVars enc P W' sp s.vars (s.fn H (ds ++ [])).vars [] := fun sp => by rw [hvars, hfn]; rfl
 have hold : ∀ x ∈ p, (fun b => decide (b < W.heap.size)) x.block = true := fun x hx => by simpa using hlt x hx
 have hres : ∀ (b : Nat) (sp : Nat → Bool) (hd : Bool), DataW.TrodAll enc P W' b sp hd f.resultTypes.toList ((Value.bool true).resultList f.resultTypes.size) (s.fn H (ds ++ [])).results [] := fun b sp hd => by
  rw [hfn, hr]; exact trodAll_cons_mk (shut_bool hb true) trodAll_mk0
 refine ⟨ds, [], p ++ [], [], p, [], hW', hres _ _ _, hAs _ hold, hVs _, World.keptBut_mono (fun x hx => ⟨hx, ?_⟩) (hg.frame (· ∈ p ++ [])), fun h => by cases h⟩
 simp at hx ⊢
 exact hx
variable {w : World} {base : Nat} {spare : Nat → Bool} {held : Bool}
theorem k1m {T : Type} {Q : Nat → T → Prop} : ∀ n : Nat, (∀ i, i < n → ∃ z, Q i z) → ∃ xs : List T, xs.length = n ∧ ∀ (i : Nat) (z : T), xs[i]? = some z → Q i z
 | 0, _ => ⟨[], rfl, fun i z h => by simp at h⟩
 | n + 1, h => by
  obtain ⟨xs, hl, hq⟩ := k1m (Q := Q) n fun i hi => h i (by omega)
  obtain ⟨z, hz⟩ := h n (by omega)
  refine ⟨xs ++ [z], by simp [hl], fun i y hy => ?_⟩
  by_cases hi : i < n
  ·rw [List.getElem?_append_left (by omega)] at hy; exact hq i y hy
  ·rw [List.getElem?_append_right (by omega)] at hy
   have : i = n := by have := (List.getElem?_eq_some_iff.1 hy).1; simp at this; omega
   subst this
   simp [hl] at hy
   subst hy
   exact hz
theorem kq6 {T : Type} {R : List Value → T → Prop} {t e : TypeId} {size fuel : Nat} {cs : List Value} {x : DataW H × List MemPlace} (ht : P.underlying t = some (.slice e)) (hC : P.cellsOf e = size) (hpos : 0 < size)
  (h : DataW.trod enc P w base spare held fuel t cs = some x) (hel : ∀ n cs' y, n < fuel → DataW.trod enc P w base spare held n e cs' = some y → ∃ z, R cs' z) :
  ∃ v xs, cs = [v] ∧ RepSl Any w size R v xs := by
 rcases DataW.trod_slice ht h with ⟨rfl, _⟩ | ⟨a, len, cap, elems, rest, n, hfu, rfl, _, _, hlc, hcm, hlen, hel', _⟩
 ·exact ⟨_, [], rfl, RepSl.nil (by omega)⟩
 ·have each : ∀ i, i < len → ∃ cs' z, R cs' z ∧ cs'.length = size ∧ ∀ j, j < size → w.cell? ((a.add (i * size)).add j) = cs'[j]? := fun i hi => by
   have h1 := hel' i hi
   have h2 : elems[i]? = some elems[i] := List.getElem?_eq_getElem (by omega)
   rw [h2, hC] at h1
   obtain ⟨cs', hc, htr⟩ := Option.bind_eq_some_iff.1 h1
   obtain ⟨_, hl, hat⟩ := World.cells?_some hc
   obtain ⟨z, hz⟩ := hel n cs' _ (by omega) htr
   exact ⟨cs', z, hz, hl, hat⟩
  obtain ⟨xs, hxl, hx⟩ := k1m (Q := fun i z => ∃ cs', R cs' z ∧ cs'.length = size ∧ ∀ j, j < size → w.cell? ((a.add (i * size)).add j) = cs'[j]?) len (fun i hi => by
   obtain ⟨cs', z, h⟩ := each i hi; exact ⟨z, cs', h⟩)
  refine ⟨_, xs, rfl, some a, cap, by rw [hxl], by omega, by unfold maxLen at hcm; exact hcm, fun i z hz => ?_⟩
  obtain ⟨cs', hr, hl, hat⟩ := hx i z hz
  have hsp : a.spot = none := by
   have h0 : 0 < xs.length := by have := (List.getElem?_eq_some_iff.1 hz).1; omega
   obtain ⟨cs0, _, hl0, hat0⟩ := hx 0 _ (List.getElem?_eq_getElem h0)
   have h1 := hat0 0 hpos
   simp only [Nat.zero_mul, Addr.add, if_true] at h1
   rw [List.getElem?_eq_getElem (by omega)] at h1
   unfold World.cell? at h1
   split at h1
   ·split at h1
    ·cases h1
    ·rename_i hs; simpa using hs
   ·cases h1
  obtain ⟨b, o, sp⟩ := a
  simp only at hsp
  subst hsp
  refine ⟨b, o, cs', rfl, trivial, fun j u hu => ?_, hl, hr⟩
  have hj : j < size := by have := (List.getElem?_eq_some_iff.1 hu).1; omega
  rw [← hu, ← hat j hj]
  congr 1
  unfold Addr.add
  by_cases h1 : i * size = 0 <;> by_cases h2 : j = 0 <;> simp [h1, h2, Nat.add_assoc]
end
end Go.Proofs.YtaimpcnpifoidaaGreatDoor
