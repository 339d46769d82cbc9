import Derived.Test.YtaimpcnpifoidaaGreatDoorZE
import Derived.Test.YtaimpcnpifoidaaGreatDoorNb
import Derived.Test.YtaimpcnpifoidaaGreatDoorNf
import Derived.Test.YtaimpcnpifoidaaGreatDoorNk
set_option linter.unusedVariables false
set_option linter.unusedSimpArgs false
set_option maxRecDepth 100000
namespace Go.Proofs.YtaimpcnpifoidaaGreatDoor
open Go Go.RowKit Go.Proofs
theorem kahu:kgc=some true:=by kernel_rfl
end Go.Proofs.YtaimpcnpifoidaaGreatDoor
set_option linter.unusedVariables false
set_option linter.unusedSimpArgs false
set_option maxRecDepth 100000
namespace Go.Proofs.YtaimpcnpifoidaaGreatDoor
open Go Go.RowKit
def bsOf (s:BA):List UInt8:=s.data.toList
theorem kyd (s:BA):mkB (bsOf s)=s:=by simp [mkB,bsOf]
def k74 (r:Ru):List UInt8:=if r.kind=1 then 105::110::khf r.input else kal r.const
structure OkL (l:La):Prop where
 wr:∀ r∈l.rules,WrR r
 kind:∀ r∈l.rules,r.kind=1∨r.kind=2∨r.kind=3
end Go.Proofs.YtaimpcnpifoidaaGreatDoor
set_option linter.unusedVariables false
set_option linter.unusedSimpArgs false
set_option maxRecDepth 100000
namespace Go.Proofs.YtaimpcnpifoidaaGreatDoor
open Go Go.RowKit
end Go.Proofs.YtaimpcnpifoidaaGreatDoor
set_option linter.unusedVariables false
set_option linter.unusedSimpArgs false
set_option maxRecDepth 100000
namespace Go.Proofs.YtaimpcnpifoidaaGreatDoor
open Go Go.RowKit
end Go.Proofs.YtaimpcnpifoidaaGreatDoor
set_option linter.unusedVariables false
set_option linter.unusedSimpArgs false
set_option maxRecDepth 100000
namespace Go.Proofs.YtaimpcnpifoidaaGreatDoor
open Go Go.RowKit
theorem k6e {h:UInt8} {t:List UInt8}:∀ {a:List UInt8},h∉a→cutW (h::t) a=none
 | [],_=>rfl
 | x::a,hn=>by
  simp only [qz,not_or] at hn
  rw [cutW,if_neg (by simp [List.isPrefixOf,hn.1]),k6e hn.2]
  rfl
def kr2 (w:List UInt8):List (List UInt8)→List UInt8
 | []=>[]
 | [x]=>x
 | x::y::l=>x++(w++kr2 w (y::l))
theorem k2l:∀ ls:List (List UInt8),kdh ls=kr2 [44,32] ls
 | []=>rfl
 | [x]=>rfl
 | x::y::l=>by rw [kdh,kr2,k2l (y::l)];rfl
theorem k36:∀ (x:List UInt8) (ls:List (List UInt8)),kr2 [32] (x::ls)=x++ls.flatMap (32::·)
 | x,[]=>by simp [kr2]
 | x,y::l=>by rw [kr2,k36 y l];simp
theorem k28 (w s:List UInt8):kb7 w s≠[]:=by
 unfold kb7
 cases s.length with
 | zero=>simp [klj]
 | succ k=>rw [klj];split <;> simp
theorem kuf {w:List UInt8} (hw:w≠[]):∀ (n:Nat) (s:List UInt8),s.length≤n→kr2 w (kb7 w s)=s
 | n,s,h=>by
  cases hc:cutW w s with
  | none=>rw [kh3 hc];rfl
  | some p=>
   obtain ⟨a,b⟩:=p
   have h1:=kcm hw hc
   rw [kiw hw hc]
   match n,h with
   | 0,h=>omega
   | n+1,h=>
    have ih:=kuf hw n b (by omega)
    cases hs:kb7 w b with
    | nil=>exact absurd hs (k28 w b)
    | cons y l=>rw [kr2,← hs,ih];exact (kqb hw hc).1.symm
instance (c:UInt8):Decidable (letC c):=by unfold letC;infer_instance
instance (c:UInt8):Decidable (digC c):=by unfold digC;infer_instance
instance (s:BA):Decidable (kb3 s):=by unfold kb3;infer_instance
def tyW (t:Int):List UInt8:=
 if t=1 then [98,111,111,108] else if t=2 then [105,110,116] else if t=3 then [116,101,120,116] else if t=4 then [98,105,116,115] else
 if t=5 then [105,110,116,115] else if t=6 then [116,101,120,116,115] else if t=7 then [116,97,98,108,101] else if t=8 then [112,97,116,116,101,114,110] else []
def kd4 (w:List UInt8):Option Int:=
 if tyW 1=w then some 1 else if tyW 2=w then some 2 else if tyW 3=w then some 3 else if tyW 4=w then some 4 else
 if tyW 5=w then some 5 else if tyW 6=w then some 6 else if tyW 7=w then some 7 else if tyW 8=w then some 8 else none
theorem k07 {t:Int} (h:kjw t):t=1∨t=2∨t=3∨t=4∨t=5∨t=6∨t=7∨t=8:=by unfold kjw at h;omega
theorem k0p {w:List UInt8} {t:Int} (h:kd4 w=some t):w=tyW t∧kjw t:=by
 unfold kd4 at h
 repeat' split at h
 all_goals first | (cases h;done) | skip
 all_goals (cases h;rename_i h1;exact ⟨h1.symm,by unfold kjw;omega⟩)
theorem ty_ch {t:Int} (h:kjw t):(∀ c∈tyW t,97≤c.toNat)∧(tyW t).length≤7:=by
 rcases k07 h with rfl | rfl | rfl | rfl | rfl | rfl | rfl | rfl <;> decide
theorem kaiq {t:Int} (h:kjw t):32∉tyW t∧10∉tyW t:=by
 have k:=(ty_ch h).1
 exact ⟨fun hc=>by have:=k _ hc;simp at this,fun hc=>by have:=k _ hc;simp at this⟩
def tysL:List (List UInt8)→Option (List Int)
 | []=>some []
 | w::ws=>match kd4 w with
  | none=>none
  | some t=>(tysL ws).map (t::·)
theorem kt5:∀ {ws:List (List UInt8)} {ts:List Int},tysL ws=some ts→ws=ts.map tyW∧∀ t∈ts,kjw t
 | [],ts,h=>by cases h;exact ⟨rfl,by simp⟩
 | w::ws,ts,h=>by
  rw [tysL] at h
  split at h
  ·cases h
  ·rename_i t ht
   obtain ⟨us,h1,rfl⟩:=qi.1 h
   obtain ⟨h2,h3⟩:=kt5 h1
   obtain ⟨h4,h5⟩:=k0p ht
   refine ⟨by rw [qai,← h2,← h4],fun x hx=>?_⟩
   rcases qz.1 hx with rfl | hx
   ·exact h5
   ·exact h3 x hx
theorem k5p:∀ (ws:List (List UInt8)) (w:List UInt8),tysL (ws++[w])=match tysL ws with
  | none=>none
  | some ts=>(kd4 w).map fun t=>ts++[t]
 | [],w=>by simp only [List.nil_append,tysL];cases kd4 w <;> rfl
 | x::ws,w=>by
  rw [List.cons_append,tysL,tysL,k5p ws w]
  cases kd4 x with
  | none=>rfl
  | some t=>cases tysL ws with
   | none=>rfl
   | some ts=>cases kd4 w <;> rfl
def kbi:List Sy→List UInt8→Option Nat
 | [],_=>none
 | x::l,w=>if bsOf x.name=w then some 0 else (kbi l w).map (·+1)
theorem ktr:∀ {l:List Sy} {w:List UInt8} {i:Nat},kbi l w=some i→∃ h:i<l.length,bsOf l[i].name=w
 | [],w,i,h=>by cases h
 | x::l,w,i,h=>by
  rw [kbi] at h
  split at h
  ·cases h;rename_i h1;exact ⟨by simp,h1⟩
  ·obtain ⟨j,h1,rfl⟩:=qi.1 h
   obtain ⟨h2,h3⟩:=ktr h1
   exact ⟨by simp;omega,h3⟩
theorem k09:∀ (l:List Sy) (x:Sy) (w:List UInt8),kbi (l++[x]) w=match kbi l w with
  | some i=>some i
  | none=>if bsOf x.name=w then some l.length else none
 | [],x,w=>by simp [kbi]
 | y::l,x,w=>by
  rw [List.cons_append,kbi,kbi]
  by_cases h:bsOf y.name=w
  ·rw [if_pos h,if_pos h]
  ·rw [if_neg h,if_neg h,k09 l x w]
   cases kbi l w with
   | some i=>rfl
   | none=>
    simp only [Option.map_none]
    by_cases h2:bsOf x.name=w
    ·rw [if_pos h2,if_pos h2];rfl
    ·rw [if_neg h2,if_neg h2];rfl
def kc4 (sy:List Sy):List (List UInt8)→Option (List Int)
 | []=>some []
 | w::ws=>match kbi sy w with
  | none=>none
  | some i=>(kc4 sy ws).map ((i:Int)::·)
def kq7 (sy:List Sy) (i:Int):List UInt8:=bsOf (sy.getD i.toNat syD).name
theorem kz2 {sy:List Sy} {i:Nat} (h:i<sy.length):kq7 sy (i:Int)=bsOf sy[i].name:=by
 unfold kq7
 rw [show ((i:Int).toNat)=i from rfl,List.getD_eq_getElem?_getD,List.getElem?_eq_getElem h]
 rfl
theorem kmm {sy:List Sy}:∀ {ws:List (List UInt8)} {is:List Int},kc4 sy ws=some is→ws=is.map (kq7 sy)∧∀ i∈is,0≤i∧i<(sy.length:Int)
 | [],is,h=>by cases h;exact ⟨rfl,by simp⟩
 | w::ws,is,h=>by
  rw [kc4] at h
  split at h
  ·cases h
  ·rename_i t ht
   obtain ⟨us,h1,rfl⟩:=qi.1 h
   obtain ⟨h2,h3⟩:=kmm h1
   obtain ⟨h4,h5⟩:=ktr ht
   refine ⟨by rw [qai,← h2,kz2 h4,h5],fun x hx=>?_⟩
   rcases qz.1 hx with rfl | hx
   ·omega
   ·exact h3 x hx
theorem kzh (sy:List Sy):∀ (ws:List (List UInt8)) (w:List UInt8),kc4 sy (ws++[w])=match kc4 sy ws with
  | none=>none
  | some is=>(kbi sy w).map fun i=>is++[(i:Int)]
 | [],w=>by simp only [List.nil_append,kc4];cases kbi sy w <;> rfl
 | x::ws,w=>by
  rw [List.cons_append,kc4,kc4,kzh sy ws w]
  cases kbi sy x with
  | none=>rfl
  | some t=>cases kc4 sy ws with
   | none=>rfl
   | some ts=>cases kbi sy w <;> rfl
def rhsT (sy:List Sy) (r:Ru):List UInt8:=if r.kind=3 then bsOf r.op++(40::(kdh (r.args.map (kq7 sy))++[41])) else k74 r
def kae7:List UInt8:=[108,97,110,103,117,97,103,101]
def bInp:List UInt8:=[105,110,112,117,116,115]
def bSym:List UInt8:=[115,121,109,98,111,108]
def kse:List UInt8:=[114,117,108,101]
def ruT (sy:List Sy) (r:Ru):List UInt8:=kse++(32::(kq7 sy r.symbol++([32,61,32]++rhsT sy r)))
def syT (x:Sy):List UInt8:=bSym++(32::(bsOf x.name++(32::tyW x.type)))
def inT (l:List Int):List UInt8:=bInp++l.flatMap fun t=>32::tyW t
def nmT (s:BA):List UInt8:=kae7++(32::bsOf s)
def sysT (l:List Sy):List UInt8:=l.flatMap fun x=>syT x++[10]
def rusT (sy:List Sy) (l:List Ru):List UInt8:=l.flatMap fun r=>ruT sy r++[10]
def kw2 (l:La):List UInt8:=nmT l.name++(10::(inT l.inputs++(10::(sysT l.symbols++rusT l.symbols l.rules))))
def inpL:List UInt8→Option Nat
 | [105,110,d]=>if 48≤d.toNat∧d.toNat<52 then some (d.toNat - 48) else none
 | _=>none
def appL (b:List UInt8):Option (List UInt8×List (List UInt8)):=
 match cutW [40] b with
 | none=>none
 | some (op,rest)=>if kb3 (mkB op)∧rest.getLast?=some 41 then
   (if rest.dropLast=[] then some (op,[]) else if ∀ a∈kb7 [44,32] rest.dropLast,kb3 (mkB a) then some (op,kb7 [44,32] rest.dropLast) else none) else none
def rhsL (b:List UInt8):Option (Int×Int×Va×List UInt8×List (List UInt8)):=
 match inpL b with
 | some k=>some (1,(k:Int),kc1,[],[])
 | none=>if (prV (mkB b)).2.2=0 then some (2,0,(prV (mkB b)).1,[],[]) else (appL b).map fun p=>(3,0,kc1,p.1,p.2)
def ruL (sy:List Sy) (s:List UInt8):Int ⊕ Ru:=
 match cutW [32,61,32] s with
 | none => .inl 8
 | some (w,b)=>if kb3 (mkB w) then match rhsL b with
   | none => .inl 8
   | some (k,i,v,op,aw)=>match kbi sy w,kc4 sy aw with
    | some y,some ys => .inr (Ru.mk (y:Int) k i v (mkB op) ys)
    | _,_ => .inl 5
  else .inl 8
def laD:La:=⟨⟨#[]⟩,[],[],[]⟩
def kjv (n:Nat) (l:La) (s:List UInt8):Int ⊕ La:=
 if n=1 then match cutW [32] s with
  | none => .inl 8
  | some (k,r)=>if k=kae7∧kb3 (mkB r) then .inr ⟨mkB r,l.inputs,l.symbols,l.rules⟩ else .inl 8
 else if n=2 then if (kb7 [32] s).head?=some bInp then match tysL (kb7 [32] s).tail with
   | none => .inl 8
   | some ts => .inr ⟨l.name,ts,l.symbols,l.rules⟩
  else .inl 8
 else match cutW [32] s with
  | none => .inl 8
  | some (k,r)=>if k=bSym∧l.rules=[] then match cutW [32] r with
    | none => .inl 8
    | some (w,t)=>if kb3 (mkB w) then match kd4 t with
      | none => .inl 8
      | some t => .inr ⟨l.name,l.inputs,l.symbols++[⟨mkB w,t⟩],l.rules⟩
     else .inl 8
   else if k=kse then match ruL l.symbols r with
    | .inl e => .inl e
    | .inr r => .inr ⟨l.name,l.inputs,l.symbols,l.rules++[r]⟩
   else .inl 8
def kmt:Nat→Nat→La→List UInt8→(Int×Int) ⊕ (Nat×La)
 | 0,n,l,_ => .inr (n,l)
 | k+1,n,l,s=>if s=[] then .inr (n,l) else match cutW [10] s with
  | none => .inl ((n+1:Nat),8)
  | some (a,b)=>match kjv (n+1) l a with
   | .inl e => .inl ((n+1:Nat),e)
   | .inr l'=>kmt k (n+1) l' b
theorem ky9:∀ (k m n:Nat) (l:La) (s:List UInt8),s.length≤k→s.length≤m→kmt k n l s=kmt m n l s
 | 0,0,n,l,s,_,_=>rfl
 | 0,m+1,n,l,s,h,_=>by
  have:s=[]:=qu (by omega)
  rw [kmt,kmt,if_pos this]
 | k+1,0,n,l,s,_,h=>by
  have:s=[]:=qu (by omega)
  rw [kmt,kmt,if_pos this]
 | k+1,m+1,n,l,s,h,h2=>by
  rw [kmt,kmt]
  by_cases hs:s=[]
  ·rw [if_pos hs,if_pos hs]
  ·rw [if_neg hs,if_neg hs]
   cases hc:cutW [10] s with
   | none=>rfl
   | some p=>
    obtain ⟨a,b⟩:=p
    have:=kcm (by simp) hc
    simp only
    cases kjv (n+1) l a with
    | inl e=>rfl
    | inr l'=>exact ky9 k m (n+1) l' b (by omega) (by omega)
def kjk (n:Nat) (l:La) (s:List UInt8):(Int×Int) ⊕ (Nat×La):=kmt s.length n l s
theorem k12 (n:Nat) (l:La):kjk n l [] = .inr (n,l):=rfl
theorem ktq {s:List UInt8} (n:Nat) (l:La) (h0:s≠[]) (h:cutW [10] s=none):kjk n l s = .inl ((n+1:Nat),8):=by
 unfold kjk
 obtain ⟨c,t,rfl⟩:=List.exists_cons_of_ne_nil h0
 rw [qk,kmt,if_neg h0,h]
theorem kp0 {s a b:List UInt8} (n:Nat) (l:La) (h:cutW [10] s=some (a,b)):kjk n l s=match kjv (n+1) l a with
  | .inl e => .inl ((n+1:Nat),e)
  | .inr l'=>kjk (n+1) l' b:=by
 have h0:s≠[]:=fun e=>by rw [e] at h;cases h
 have h1:=kcm (by simp) h
 unfold kjk
 obtain ⟨c,t,rfl⟩:=List.exists_cons_of_ne_nil h0
 rw [qk] at h1 ⊢
 rw [kmt,if_neg h0,h]
 simp only
 cases kjv (n+1) l a with
 | inl e=>rfl
 | inr l'=>exact ky9 _ _ _ _ _ (by omega) (by omega)
end Go.Proofs.YtaimpcnpifoidaaGreatDoor
