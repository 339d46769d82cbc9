import Derived.Test.YtaimpcnpifoidaaGreatDoorMem
set_option linter.unusedVariables false
set_option linter.unusedSimpArgs false
namespace Go.Proofs.YtaimpcnpifoidaaGreatDoor
open Go Go.RowKit
inductive Va where
  | mk (type num : Int) (text : ByteArray) (items : List Va)
namespace Va
def type : Va → Int | mk t _ _ _ => t
def num : Va → Int | mk _ n _ _ => n
def text : Va → ByteArray | mk _ _ s _ => s
def items : Va → List Va | mk _ _ _ l => l
theorem ind {P : Va → Prop} (h : ∀ t n s l, (∀ v ∈ l, P v) → P (mk t n s l)) (v : Va) : P v :=
  Va.rec (motive_1 := P) (motive_2 := fun l => ∀ t ∈ l, P t) (fun t n s l ih => h t n s l ih) (fun _ h => nomatch h)
    (fun t l h1 h2 x hx => (List.mem_cons.1 hx).elim (fun e => e ▸ h1) (h2 x)) v
end Va
structure Sy where
  name : ByteArray
  type : Int
structure Ru where
  symbol : Int
  kind : Int
  input : Int
  const : Va
  op : ByteArray
  args : List Int
structure La where
  name : ByteArray
  inputs : List Int
  symbols : List Sy
  rules : List Ru
def kli (s : ByteArray) : Prop := s.size ≤ 9223372036854775807
section
variable {S S' : Nat → Prop} {w w' : World}
inductive RepVa (S : Nat → Prop) (w : World) : List Value → Va → Prop where
  | mk (t n : Int) (s : ByteArray) (kids : List Va) (A : Option Addr) (cap : Nat) (css : Nat → List Value) (ht : kdm t) (hn : kdm n) (hs : kli s) (hc : kids.length ≤ cap) (hm : cap ≤ 9223372036854775807)
    (hA : ∀ (i : Nat) (x : Va), kids[i]? = some x → ∃ b o, A = some ⟨b, o, none⟩ ∧ S b ∧ At w b (o + i * 4) (css i))
    (hk : ∀ (i : Nat) (x : Va), kids[i]? = some x → RepVa S w (css i) x) : RepVa S w [.int .i64 t, .int .i64 n, .string s, .slice A kids.length cap] (.mk t n s kids)
abbrev Vas (S : Nat → Prop) (w : World) (v : Value) (l : List Va) : Prop := RepSl S w 4 (RepVa S w) v l
theorem RepVa.len {cs : List Value} {t : Va} (h : RepVa S w cs t) : cs.length = 4 := by cases h; rfl
theorem RepVa.form {cs : List Value} {t n : Int} {s : ByteArray} {l : List Va} (h : RepVa S w cs (.mk t n s l)) : ∃ v, cs = [.int .i64 t, .int .i64 n, .string s, v] ∧ kdm t ∧ kdm n ∧ kli s ∧ Vas S w v l := by
  cases h with
  | mk _ _ _ _ A cap css ht hn hs hc hm hA hk =>
    refine ⟨_, rfl, ht, hn, hs, A, cap, rfl, hc, hm, fun i x hx => ?_⟩
    obtain ⟨b, o, h1, h2, h3⟩ := hA i x hx
    exact ⟨b, o, css i, h1, h2, h3, (hk i x hx).len, hk i x hx⟩
theorem RepVa.of {v : Value} {t n : Int} {s : ByteArray} {l : List Va} (ht : kdm t) (hn : kdm n) (hs : kli s) (h : Vas S w v l) : RepVa S w [.int .i64 t, .int .i64 n, .string s, v] (.mk t n s l) := by
  obtain ⟨A, cap, rfl, hc, hm, hx⟩ := h
  have : ∀ i : Nat, ∃ cs : List Value, ∀ x : Va, l[i]? = some x → (∃ b o, A = some ⟨b, o, none⟩ ∧ S b ∧ At w b (o + i * 4) cs) ∧ RepVa S w cs x := fun i => by
    cases hi : l[i]? with
    | none => exact ⟨[], fun x h => by cases h⟩
    | some x =>
      obtain ⟨b, o, cs, h1, h2, h3, _, h5⟩ := hx i x hi
      exact ⟨cs, fun y hy => by cases hy; exact ⟨⟨b, o, h1, h2, h3⟩, h5⟩⟩
  obtain ⟨css, hcss⟩ := Classical.axiomOfChoice this
  exact .mk t n s l A cap css ht hn hs hc hm (fun i x hi => (hcss i x hi).1) (fun i x hi => (hcss i x hi).2)
theorem RepVa.keep {cs : List Value} {t : Va} (h : RepVa S w cs t) (hk : Same S w w') : RepVa S w' cs t := by
  induction h with
  | mk t n s kids A cap css ht hn hs hc hm hA _ ih =>
    refine .mk t n s kids A cap css ht hn hs hc hm (fun i x hx => ?_) ih
    obtain ⟨b, o, h1, h2, h3⟩ := hA i x hx
    exact ⟨b, o, h1, h2, h3.keep h2 hk⟩
theorem RepVa.mono {cs : List Value} {t : Va} (h : RepVa S w cs t) (hS : ∀ b, S b → S' b) : RepVa S' w cs t := by
  induction h with
  | mk t n s kids A cap css ht hn hs hc hm hA _ ih =>
    refine .mk t n s kids A cap css ht hn hs hc hm (fun i x hx => ?_) ih
    obtain ⟨b, o, h1, h2, h3⟩ := hA i x hx
    exact ⟨b, o, h1, hS b h2, h3⟩
theorem RepVa.bound {cs : List Value} {t : Va} (h : RepVa S w cs t) : RepVa (fun b => S b ∧ b < w.heap.size) w cs t := by
  induction h with
  | mk t n s kids A cap css ht hn hs hc hm hA hk ih =>
    refine .mk t n s kids A cap css ht hn hs hc hm (fun i x hx => ?_) ih
    obtain ⟨b, o, h1, h2, h3⟩ := hA i x hx
    have hl := (hk i x hx).len
    exact ⟨b, o, h1, ⟨h2, kmr (h3 0 ((css i)[0]'(by omega)) (List.getElem?_eq_getElem (by omega)))⟩, h3⟩
theorem keptVa : Kept 4 RepVa :=
  ⟨by omega, RepVa.keep, RepVa.mono, RepVa.bound, RepVa.len, fun h u hu => by
    cases h
    simp at hu
    rcases hu with rfl | rfl | rfl | rfl <;> rfl⟩
section
variable {T : Type} {size : Nat} {R : (Nat → Prop) → World → List Value → T → Prop} {v : Value} {l : List T}
theorem Kept.skeep (K : Kept size R) (h : RepSl S w size (R S w) v l) (hk : Same S w w') : RepSl S w' size (R S w') v l := RepSl.keep h hk fun _ _ _ h => K.keep h hk
theorem Kept.smono (K : Kept size R) (h : RepSl S w size (R S w) v l) (hS : ∀ b, S b → S' b) : RepSl S' w size (R S' w) v l := RepSl.mono h hS fun _ _ _ h => K.mono h hS
theorem Kept.sbound (K : Kept size R) (h : RepSl S w size (R S w) v l) : RepSl (fun b => S b ∧ b < w.heap.size) w size (R (fun b => S b ∧ b < w.heap.size) w) v l := RepSl.mono (RepSl.bound K.pos h) (fun _ h => h) fun _ _ _ h => K.bound h
theorem RepSl.shape {Q : List Value → T → Prop} (h : RepSl S w size Q v l) : ∃ A cap, v = .slice A l.length cap ∧ l.length ≤ cap ∧ cap ≤ 9223372036854775807 := let ⟨A, cap, hv, h1, h2, _⟩ := h; ⟨A, cap, hv, h1, h2⟩
theorem RepSl.get {Q : List Value → T → Prop} {A : Option Addr} {n cap : Nat} (h : RepSl S w size Q (.slice A n cap) l) {k : Nat} (hk : k < l.length) :
    ∃ b o cs, A = some ⟨b, o, none⟩ ∧ S b ∧ At w b (o + k * size) cs ∧ cs.length = size ∧ Q cs l[k] := by
  obtain ⟨A0, cap0, hv, _, _, hx⟩ := h
  injection hv with h1 h2 h3
  subst h1
  exact hx k _ (List.getElem?_eq_getElem hk)
end
def kws (S : Nat → Prop) (w : World) (cs : List Value) (x : Sy) : Prop := cs = [.string x.name, .int .i64 x.type] ∧ kli x.name ∧ kdm x.type
theorem keptSy : Kept 2 kws :=
  ⟨by omega, fun h _ => h, fun h _ => h, fun h => h, fun h => by rw [h.1]; rfl, fun h u hu => by
    rw [h.1] at hu; simp at hu; rcases hu with rfl | rfl <;> rfl⟩
def RepRu (S : Nat → Prop) (w : World) (cs : List Value) (x : Ru) : Prop :=
  ∃ c0 c1 c2 c3 v, cs = [.int .i64 x.symbol, .int .i64 x.kind, .int .i64 x.input, c0, c1, c2, c3, .string x.op, v] ∧ kdm x.symbol ∧ kdm x.kind ∧ kdm x.input ∧ kli x.op ∧ RepVa S w [c0, c1, c2, c3] x.const ∧ Ints S w v x.args
theorem keptRu : Kept 9 RepRu :=
  ⟨by omega, fun ⟨c0, c1, c2, c3, v, h, a, b, c, d, e, f⟩ hk => ⟨c0, c1, c2, c3, v, h, a, b, c, d, e.keep hk, Ints.keep f hk⟩, fun ⟨c0, c1, c2, c3, v, h, a, b, c, d, e, f⟩ hS => ⟨c0, c1, c2, c3, v, h, a, b, c, d, e.mono hS, Ints.mono f hS⟩,
   fun ⟨c0, c1, c2, c3, v, h, a, b, c, d, e, f⟩ => ⟨c0, c1, c2, c3, v, h, a, b, c, d, e.bound, Ints.bound f⟩, fun ⟨c0, c1, c2, c3, v, h, _⟩ => by rw [h]; rfl, fun ⟨c0, c1, c2, c3, v, h, _, _, _, _, e, f⟩ u hu => by
    obtain ⟨A, cap, rfl, _⟩ := Ints.form f
    rw [h] at hu
    have hv := fun u hu => keptVa.one e u hu
    simp only [List.mem_cons, List.not_mem_nil, or_false] at hu hv
    rcases hu with rfl | rfl | rfl | rfl | rfl | rfl | rfl | rfl | rfl
    · rfl
    · rfl
    · rfl
    · exact hv _ (.inl rfl)
    · exact hv _ (.inr (.inl rfl))
    · exact hv _ (.inr (.inr (.inl rfl)))
    · exact hv _ (.inr (.inr (.inr rfl)))
    · rfl
    · rfl⟩
theorem RepRu.form {cs : List Value} {x : Ru} (h : RepRu S w cs x) : ∃ A n cap B m cap', cs = [.int .i64 x.symbol, .int .i64 x.kind, .int .i64 x.input, .int .i64 x.const.type, .int .i64 x.const.num, .string x.const.text, .slice A n cap, .string x.op, .slice B m cap'] ∧
    kdm x.symbol ∧ kdm x.kind ∧ kdm x.input ∧ kli x.op ∧ RepVa S w [.int .i64 x.const.type, .int .i64 x.const.num, .string x.const.text, .slice A n cap] x.const ∧ Ints S w (.slice B m cap') x.args ∧ m = x.args.length ∧ m ≤ cap' ∧ cap' ≤ 9223372036854775807 ∧ n = x.const.items.length ∧ n ≤ cap ∧ cap ≤ 9223372036854775807 := by
  obtain ⟨c0, c1, c2, c3, v, rfl, a, b, c, d, e, f⟩ := h
  obtain ⟨B, cap', hv, h1, h2, _⟩ := Ints.form f
  subst hv
  obtain ⟨t, n, s, l, hc⟩ : ∃ t n s l, x.const = .mk t n s l := ⟨x.const.type, x.const.num, x.const.text, x.const.items, by cases x.const; rfl⟩
  rw [hc] at e
  have e' := e
  obtain ⟨u, hu, _, _, _, hV⟩ := e.form
  obtain ⟨A, cap, rfl, h3, h4⟩ := hV.shape
  simp only [List.cons.injEq, and_true] at hu
  obtain ⟨rfl, rfl, rfl, rfl⟩ := hu
  rw [hc]
  exact ⟨A, _, cap, B, _, cap', rfl, a, b, c, d, e', f, rfl, h1, h2, rfl, h3, h4⟩
abbrev Sys (S : Nat → Prop) (w : World) (v : Value) (l : List Sy) : Prop := RepSl S w 2 (kws S w) v l
abbrev Rus (S : Nat → Prop) (w : World) (v : Value) (l : List Ru) : Prop := RepSl S w 9 (RepRu S w) v l
def RepLa (S : Nat → Prop) (w : World) (cs : List Value) (x : La) : Prop :=
  ∃ v1 v2 v3, cs = [.string x.name, v1, v2, v3] ∧ kli x.name ∧ Ints S w v1 x.inputs ∧ Sys S w v2 x.symbols ∧ Rus S w v3 x.rules
theorem RepLa.keep {cs : List Value} {x : La} (h : RepLa S w cs x) (hk : Same S w w') : RepLa S w' cs x := by
  obtain ⟨v1, v2, v3, rfl, hn, h1, h2, h3⟩ := h
  exact ⟨v1, v2, v3, rfl, hn, Ints.keep h1 hk, keptSy.skeep h2 hk, keptRu.skeep h3 hk⟩
theorem RepLa.mono {cs : List Value} {x : La} (h : RepLa S w cs x) (hS : ∀ b, S b → S' b) : RepLa S' w cs x := by
  obtain ⟨v1, v2, v3, rfl, hn, h1, h2, h3⟩ := h
  exact ⟨v1, v2, v3, rfl, hn, Ints.mono h1 hS, keptSy.smono h2 hS, keptRu.smono h3 hS⟩
theorem RepLa.bound {cs : List Value} {x : La} (h : RepLa S w cs x) : RepLa (fun b => S b ∧ b < w.heap.size) w cs x := by
  obtain ⟨v1, v2, v3, rfl, hn, h1, h2, h3⟩ := h
  exact ⟨v1, v2, v3, rfl, hn, Ints.bound h1, keptSy.sbound h2, keptRu.sbound h3⟩
def LaV (S : Nat → Prop) (w : World) (v : Value) (x : La) : Prop := ∃ cs : List Value, v = .agg cs.toArray ∧ RepLa S w cs x
theorem LaV.keep {v : Value} {x : La} (h : LaV S w v x) (hk : Same S w w') : LaV S w' v x := let ⟨cs, hv, h⟩ := h; ⟨cs, hv, h.keep hk⟩
theorem LaV.mono {v : Value} {x : La} (h : LaV S w v x) (hS : ∀ b, S b → S' b) : LaV S' w v x := let ⟨cs, hv, h⟩ := h; ⟨cs, hv, h.mono hS⟩
theorem LaV.bound {v : Value} {x : La} (h : LaV S w v x) : LaV (fun b => S b ∧ b < w.heap.size) w v x := let ⟨cs, hv, h⟩ := h; ⟨cs, hv, h.bound⟩
theorem LaV.form {v : Value} {x : La} (h : LaV S w v x) : ∃ A1 c1 A2 c2 A3 c3, v = .agg #[.string x.name, .slice A1 x.inputs.length c1, .slice A2 x.symbols.length c2, .slice A3 x.rules.length c3] ∧ kli x.name ∧
    Ints S w (.slice A1 x.inputs.length c1) x.inputs ∧ Sys S w (.slice A2 x.symbols.length c2) x.symbols ∧ Rus S w (.slice A3 x.rules.length c3) x.rules ∧
    (x.inputs.length ≤ c1 ∧ c1 ≤ 9223372036854775807) ∧ (x.symbols.length ≤ c2 ∧ c2 ≤ 9223372036854775807) ∧ (x.rules.length ≤ c3 ∧ c3 ≤ 9223372036854775807) := by
  obtain ⟨cs, rfl, v1, v2, v3, rfl, hn, h1, h2, h3⟩ := h
  obtain ⟨A1, c1, rfl, l1, m1⟩ := RepSl.shape h1
  obtain ⟨A2, c2, rfl, l2, m2⟩ := RepSl.shape h2
  obtain ⟨A3, c3, rfl, l3, m3⟩ := RepSl.shape h3
  exact ⟨A1, c1, A2, c2, A3, c3, rfl, hn, h1, h2, h3, ⟨l1, m1⟩, ⟨l2, m2⟩, ⟨l3, m3⟩⟩
def VaV (S : Nat → Prop) (w : World) (v : Value) (x : Va) : Prop := ∃ cs : List Value, v = .agg cs.toArray ∧ RepVa S w cs x
theorem VaV.keep {v : Value} {x : Va} (h : VaV S w v x) (hk : Same S w w') : VaV S w' v x := let ⟨cs, hv, h⟩ := h; ⟨cs, hv, h.keep hk⟩
theorem VaV.mono {v : Value} {x : Va} (h : VaV S w v x) (hS : ∀ b, S b → S' b) : VaV S' w v x := let ⟨cs, hv, h⟩ := h; ⟨cs, hv, h.mono hS⟩
theorem VaV.bound {v : Value} {x : Va} (h : VaV S w v x) : VaV (fun b => S b ∧ b < w.heap.size) w v x := let ⟨cs, hv, h⟩ := h; ⟨cs, hv, h.bound⟩
theorem VaV.form {v : Value} {t n : Int} {s : ByteArray} {l : List Va} (h : VaV S w v (.mk t n s l)) : ∃ A cap, v = .agg #[.int .i64 t, .int .i64 n, .string s, .slice A l.length cap] ∧ kdm t ∧ kdm n ∧ kli s ∧ l.length ≤ cap ∧ cap ≤ 9223372036854775807 ∧ Vas S w (.slice A l.length cap) l := by
  obtain ⟨cs, rfl, h⟩ := h
  obtain ⟨u, rfl, ht, hn, hs, hV⟩ := h.form
  obtain ⟨A, cap, rfl, h3, h4⟩ := hV.shape
  exact ⟨A, cap, rfl, ht, hn, hs, h3, h4, hV⟩
theorem VaV.cells {a b c d : Value} {x : Va} (h : VaV S w (.agg #[a, b, c, d]) x) : RepVa S w [a, b, c, d] x := by
  obtain ⟨cs, hv, h⟩ := h
  simp only [Value.agg.injEq, Array.mk.injEq] at hv
  subst hv
  exact h
theorem Vas.get {A : Option Addr} {n cap : Nat} {l : List Va} (h : Vas S w (.slice A n cap) l) {k : Nat} (hk : k < l.length) :
    ∃ b o A' c', A = some ⟨b, o, none⟩ ∧ S b ∧ w.cell? ⟨b, o + k * 4, none⟩ = some (.int .i64 l[k].type) ∧ w.cell? ⟨b, o + k * 4 + 1, none⟩ = some (.int .i64 l[k].num) ∧ w.cell? ⟨b, o + k * 4 + 2, none⟩ = some (.string l[k].text) ∧ w.cell? ⟨b, o + k * 4 + 3, none⟩ = some (.slice A' l[k].items.length c') ∧
      VaV S w (.agg #[.int .i64 l[k].type, .int .i64 l[k].num, .string l[k].text, .slice A' l[k].items.length c']) l[k] ∧ Vas S w (.slice A' l[k].items.length c') l[k].items ∧ kdm l[k].type ∧ kdm l[k].num ∧ kli l[k].text ∧ l[k].items.length ≤ c' ∧ c' ≤ 9223372036854775807 := by
  obtain ⟨b, o, cs, hA, hS, hat, _, hr⟩ := RepSl.get h hk
  obtain ⟨t, m, s, kids, ht⟩ : ∃ t m s kids, l[k] = .mk t m s kids := ⟨l[k].type, l[k].num, l[k].text, l[k].items, by cases l[k]; rfl⟩
  rw [ht] at hr ⊢
  have hr' := hr
  obtain ⟨u, rfl, h1, h2, h3, hV⟩ := hr.form
  obtain ⟨A', c', rfl, h4, h5⟩ := hV.shape
  refine ⟨b, o, A', c', hA, hS, ?_, ?_, ?_, ?_, ⟨_, rfl, hr'⟩, hV, h1, h2, h3, h4, h5⟩
  · simpa [Va.type] using hat 0 _ rfl
  · simpa [Va.num, Nat.add_assoc] using hat 1 _ rfl
  · simpa [Va.text, Nat.add_assoc] using hat 2 _ rfl
  · simpa [Va.items, Nat.add_assoc] using hat 3 _ rfl
theorem Sys.get {A : Option Addr} {n cap : Nat} {l : List Sy} (h : Sys S w (.slice A n cap) l) {k : Nat} (hk : k < l.length) :
    ∃ b o, A = some ⟨b, o, none⟩ ∧ S b ∧ w.cell? ⟨b, o + k * 2, none⟩ = some (.string l[k].name) ∧ w.cell? ⟨b, o + k * 2 + 1, none⟩ = some (.int .i64 l[k].type) ∧ kli l[k].name ∧ kdm l[k].type := by
  obtain ⟨b, o, cs, hA, hS, hat, _, rfl, h1, h2⟩ := RepSl.get h hk
  exact ⟨b, o, hA, hS, by simpa using hat 0 _ rfl, by simpa [Nat.add_assoc] using hat 1 _ rfl, h1, h2⟩
theorem Rus.get {A : Option Addr} {n cap : Nat} {l : List Ru} (h : Rus S w (.slice A n cap) l) {k : Nat} (hk : k < l.length) :
    ∃ b o B ci C ca, A = some ⟨b, o, none⟩ ∧ S b ∧ w.cell? ⟨b, o + k * 9, none⟩ = some (.int .i64 l[k].symbol) ∧ w.cell? ⟨b, o + k * 9 + 1, none⟩ = some (.int .i64 l[k].kind) ∧ w.cell? ⟨b, o + k * 9 + 2, none⟩ = some (.int .i64 l[k].input) ∧
      w.cell? ⟨b, o + k * 9 + 3, none⟩ = some (.int .i64 l[k].const.type) ∧ w.cell? ⟨b, o + k * 9 + 4, none⟩ = some (.int .i64 l[k].const.num) ∧ w.cell? ⟨b, o + k * 9 + 5, none⟩ = some (.string l[k].const.text) ∧ w.cell? ⟨b, o + k * 9 + 6, none⟩ = some (.slice B l[k].const.items.length ci) ∧
      w.cell? ⟨b, o + k * 9 + 7, none⟩ = some (.string l[k].op) ∧ w.cell? ⟨b, o + k * 9 + 8, none⟩ = some (.slice C l[k].args.length ca) ∧
      RepRu S w [.int .i64 l[k].symbol, .int .i64 l[k].kind, .int .i64 l[k].input, .int .i64 l[k].const.type, .int .i64 l[k].const.num, .string l[k].const.text, .slice B l[k].const.items.length ci, .string l[k].op, .slice C l[k].args.length ca] l[k] ∧
      (l[k].args.length ≤ ca ∧ ca ≤ 9223372036854775807) ∧ (l[k].const.items.length ≤ ci ∧ ci ≤ 9223372036854775807) := by
  obtain ⟨b, o, cs, hA, hS, hat, _, hr⟩ := RepSl.get h hk
  have hr' := hr
  obtain ⟨B, n, ci, C, m, ca, rfl, _, _, _, _, _, _, rfl, h1, h2, rfl, h3, h4⟩ := hr.form
  refine ⟨b, o, B, ci, C, ca, hA, hS, ?_, ?_, ?_, ?_, ?_, ?_, ?_, ?_, ?_, hr', ⟨h1, h2⟩, ⟨h3, h4⟩⟩
  · simpa using hat 0 _ rfl
  · simpa [Nat.add_assoc] using hat 1 _ rfl
  · simpa [Nat.add_assoc] using hat 2 _ rfl
  · simpa [Nat.add_assoc] using hat 3 _ rfl
  · simpa [Nat.add_assoc] using hat 4 _ rfl
  · simpa [Nat.add_assoc] using hat 5 _ rfl
  · simpa [Nat.add_assoc] using hat 6 _ rfl
  · simpa [Nat.add_assoc] using hat 7 _ rfl
  · simpa [Nat.add_assoc] using hat 8 _ rfl
end
end Go.Proofs.YtaimpcnpifoidaaGreatDoor
