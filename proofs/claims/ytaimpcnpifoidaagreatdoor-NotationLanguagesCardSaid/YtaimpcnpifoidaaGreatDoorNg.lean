import Derived.Test.YtaimpcnpifoidaaGreatDoorNf
import Derived.Test.YtaimpcnpifoidaaGreatDoorNk
import Derived.Test.YtaimpcnpifoidaaGreatDoorNe
set_option linter.unusedVariables false
set_option linter.unusedSimpArgs false
set_option maxRecDepth 100000
namespace Go.Proofs.YtaimpcnpifoidaaGreatDoor
open Go Go.RowKit
theorem k00 {h:UInt8} {t:List UInt8}:∀ {a b:List UInt8},h∉a→cutW (h::t) (a++(h::t++b))=some (a,b)
 | [],b,_=>by
  have:(h::t).isPrefixOf (h::(t++b))=true:=List.isPrefixOf_iff_prefix.2 ⟨b,rfl⟩
  show cutW (h::t) (h::(t++b))=_
  rw [cutW,if_pos this]
  simp
 | x::a,b,hn=>by
  simp only [qs,not_or] at hn
  show cutW (h::t) (x::(a++(h::t++b)))=_
  rw [cutW,if_neg (by simp [List.isPrefixOf,hn.1]),k00 hn.2]
  rfl
theorem k6u {h:UInt8} {t:List UInt8}:∀ {a:List UInt8},h∉a→cutW (h::t) a=none
 | [],_=>rfl
 | x::a,hn=>by
  simp only [qs,not_or] at hn
  rw [cutW,if_neg (by simp [List.isPrefixOf,hn.1]),k6u hn.2]
  rfl
def kcn (w:List UInt8):List (List UInt8)→List UInt8
 | []=>[]
 | [x]=>x
 | x::y::l=>x++(w++kcn w (y::l))
theorem klk:∀ ls:List (List UInt8),kaw ls=kcn [44,32] ls
 | []=>rfl
 | [x]=>rfl
 | x::y::l=>by rw [kaw,kcn,klk (y::l)];rfl
theorem ktr:∀ (x:List UInt8) (ls:List (List UInt8)),kcn [32] (x::ls)=x++ls.flatMap (32::·)
 | x,[]=>by simp [kcn]
 | x,y::l=>by rw [kcn,ktr y l];simp
theorem k5l (w s:List UInt8):kdk w s≠[]:=by
 unfold kdk
 cases s.length with
 | zero=>simp [kll]
 | succ k=>rw [kll];split <;> simp
theorem kue {w:List UInt8} (hw:w≠[]):∀ (n:Nat) (s:List UInt8),s.length≤n→kcn w (kdk w s)=s
 | n,s,h=>by
  cases hc:cutW w s with
  | none=>rw [kjx hc];rfl
  | some p=>
   obtain ⟨a,b⟩:=p
   have h1:=kfh hw hc
   rw [kkv hw hc]
   match n,h with
   | 0,h=>omega
   | n+1,h=>
    have ih:=kue hw n b (by omega)
    cases hs:kdk w b with
    | nil=>exact absurd hs (k5l w b)
    | cons y l=>rw [kcn,← hs,ih];exact (k0t hw hc).1.symm
theorem kut {h:UInt8} {t:List UInt8}:∀ {ls:List (List UInt8)},ls≠[]→(∀ x∈ls,h∉x)→kdk (h::t) (kcn (h::t) ls)=ls
 | [],hn,_=>absurd rfl hn
 | [x],_,hx=>kjx (k6u (hx x (qo ..)))
 | x::y::l,_,hx=>by
  rw [kcn,kkv (by simp) (k00 (hx x (qo ..))),kut (by simp) fun z hz=>hx z (qm _ hz)]
instance (c:UInt8):Decidable (letC c):=by unfold letC;infer_instance
instance (c:UInt8):Decidable (digC c):=by unfold digC;infer_instance
instance (s:BA):Decidable (kbt s):=by unfold kbt;infer_instance
def k82 (c:UInt8):Prop:=letC c∨c=45∨digC c
theorem k25 {a:List UInt8} (h:kbt (mkB a)):(1≤a.length∧a.length≤24)∧∀ c∈a,k82 c:=by
 obtain ⟨h1,h2⟩:=h
 rw [kbm] at h1
 refine ⟨h1,fun c hc=>?_⟩
 obtain ⟨i,hi,rfl⟩:=qu.1 hc
 have:=h2 i (by rw [kbh];exact hi)
 simp only [kbh] at this
 rcases this with h | ⟨_,h | h⟩
 ·exact .inl h
 ·exact .inr (.inl h)
 ·exact .inr (.inr h)
theorem kpa {c:UInt8} (h:k82 c):c≠32∧c≠10∧c≠40∧c≠41∧c≠44∧c≠61∧32≤c.toNat:=by
 unfold k82 letC digC at h
 have k:∀ d:UInt8,(d.toNat<45∨d.toNat=61)→c≠d:=fun d hd e=>by
  subst e
  rcases h with h | h | h
  ·omega
  ·subst h;simp at hd
  ·omega
 refine ⟨k 32 (by decide),k 10 (by decide),k 40 (by decide),k 41 (by decide),k 44 (by decide),k 61 (by decide),?_⟩
 rcases h with h | h | h
 ·omega
 ·subst h;decide
 ·omega
theorem kkg {a:List UInt8} (h:kbt (mkB a)):32∉a∧10∉a∧40∉a∧41∉a∧44∉a:=by
 have k:=(k25 h).2
 exact ⟨fun hc=>(kpa (k _ hc)).1 rfl,fun hc=>(kpa (k _ hc)).2.1 rfl,fun hc=>(kpa (k _ hc)).2.2.1 rfl,fun hc=>(kpa (k _ hc)).2.2.2.1 rfl,fun hc=>(kpa (k _ hc)).2.2.2.2.1 rfl⟩
theorem name_bs {s:BA}:kbt s↔kbt (mkB (bsOf s)):=by rw [kfw]
def tyW (t:Int):List UInt8:=
 if t=1 then [98,111,111,108] else if t=2 then [105,110,116] else if t=3 then [116,101,120,116] else if t=4 then [98,105,116,115] else
 if t=5 then [105,110,116,115] else if t=6 then [116,101,120,116,115] else if t=7 then [116,97,98,108,101] else if t=8 then [112,97,116,116,101,114,110] else []
def kfq (w:List UInt8):Option Int:=
 if tyW 1=w then some 1 else if tyW 2=w then some 2 else if tyW 3=w then some 3 else if tyW 4=w then some 4 else
 if tyW 5=w then some 5 else if tyW 6=w then some 6 else if tyW 7=w then some 7 else if tyW 8=w then some 8 else none
theorem kv2 {t:Int} (h:kin t):t=1∨t=2∨t=3∨t=4∨t=5∨t=6∨t=7∨t=8:=by unfold kin at h;omega
theorem kaa8 {t:Int} (h:kin t):kfq (tyW t)=some t:=by
 rcases kv2 h with rfl | rfl | rfl | rfl | rfl | rfl | rfl | rfl <;> decide
theorem k0n {w:List UInt8} {t:Int} (h:kfq w=some t):w=tyW t∧kin t:=by
 unfold kfq at h
 repeat' split at h
 all_goals first | (cases h;done) | skip
 all_goals (cases h;rename_i h1;exact ⟨h1.symm,by unfold kin;omega⟩)
theorem k20 {t:Int} (h:kin t):(∀ c∈tyW t,97≤c.toNat)∧(tyW t).length≤7:=by
 rcases kv2 h with rfl | rfl | rfl | rfl | rfl | rfl | rfl | rfl <;> decide
theorem k0d {t:Int} (h:kin t):32∉tyW t∧10∉tyW t:=by
 have k:=(k20 h).1
 exact ⟨fun hc=>by have:=k _ hc;simp at this,fun hc=>by have:=k _ hc;simp at this⟩
def tysL:List (List UInt8)→Option (List Int)
 | []=>some []
 | w::ws=>match kfq w with
  | none=>none
  | some t=>(tysL ws).map (t::·)
theorem kuq:∀ {ws:List (List UInt8)} {ts:List Int},tysL ws=some ts→ws=ts.map tyW∧∀ t∈ts,kin t
 | [],ts,h=>by cases h;exact ⟨rfl,by simp⟩
 | w::ws,ts,h=>by
  rw [tysL] at h
  split at h
  ·cases h
  ·rename_i t ht
   obtain ⟨us,h1,rfl⟩:=qk.1 h
   obtain ⟨h2,h3⟩:=kuq h1
   obtain ⟨h4,h5⟩:=k0n ht
   refine ⟨by rw [qac,← h2,← h4],fun x hx=>?_⟩
   rcases qs.1 hx with rfl | hx
   ·exact h5
   ·exact h3 x hx
theorem k7n:∀ {ts:List Int},(∀ t∈ts,kin t)→tysL (ts.map tyW)=some ts
 | [],_=>rfl
 | t::ts,h=>by
  rw [qac,tysL,kaa8 (h t (qo ..)),k7n fun x hx=>h x (qm _ hx)]
  rfl
theorem k7b:∀ (ws:List (List UInt8)) (w:List UInt8),tysL (ws++[w])=match tysL ws with
  | none=>none
  | some ts=>(kfq w).map fun t=>ts++[t]
 | [],w=>by simp only [qa7,tysL];cases kfq w <;> rfl
 | x::ws,w=>by
  rw [qah,tysL,tysL,k7b ws w]
  cases kfq x with
  | none=>rfl
  | some t=>cases tysL ws with
   | none=>rfl
   | some ts=>cases kfq w <;> rfl
def kb7:List Sy→List UInt8→Option Nat
 | [],_=>none
 | x::l,w=>if bsOf x.name=w then some 0 else (kb7 l w).map (·+1)
theorem kuf:∀ {l:List Sy} {w:List UInt8} {i:Nat},kb7 l w=some i→∃ h:i<l.length,bsOf l[i].name=w
 | [],w,i,h=>by cases h
 | x::l,w,i,h=>by
  rw [kb7] at h
  split at h
  ·cases h;rename_i h1;exact ⟨by simp,h1⟩
  ·obtain ⟨j,h1,rfl⟩:=qk.1 h
   obtain ⟨h2,h3⟩:=kuf h1
   exact ⟨by simp;omega,h3⟩
theorem k1n:∀ (l:List Sy) (x:Sy) (w:List UInt8),kb7 (l++[x]) w=match kb7 l w with
  | some i=>some i
  | none=>if bsOf x.name=w then some l.length else none
 | [],x,w=>by simp [kb7]
 | y::l,x,w=>by
  rw [qah,kb7,kb7]
  by_cases h:bsOf y.name=w
  ·rw [if_pos h,if_pos h]
  ·rw [if_neg h,if_neg h,k1n l x w]
   cases kb7 l w with
   | some i=>rfl
   | none=>
    simp only [Option.map_none]
    by_cases h2:bsOf x.name=w
    ·rw [if_pos h2,if_pos h2];rfl
    ·rw [if_neg h2,if_neg h2];rfl
theorem kxq:∀ {l:List Sy} {i:Nat} (hi:i<l.length),(∀ a b (h:a<l.length) (h2:b<l.length),a<b→l[a].name≠l[b].name)→kb7 l (bsOf l[i].name)=some i
 | x::l,0,hi,_=>by
  show kb7 (x::l) (bsOf x.name)=_
  rw [kb7,if_pos rfl]
 | x::l,i+1,hi,ho=>by
  have hi':i<l.length:=by simpa using hi
  rw [kb7,if_neg (fun e=>?_)]
  ·rw [show ((x::l)[i+1]).name=l[i].name from rfl,kxq hi' fun a b h h2 hab=>ho (a+1) (b+1) (by simp;omega) (by simp;omega) (by omega)]
   rfl
  ·have:=ho 0 (i+1) (by simp) hi (by omega)
   apply this
   have e2:=congrArg mkB e
   rw [kfw,kfw] at e2
   exact e2
def kds (sy:List Sy):List (List UInt8)→Option (List Int)
 | []=>some []
 | w::ws=>match kb7 sy w with
  | none=>none
  | some i=>(kds sy ws).map ((i:Int)::·)
def kb1 (sy:List Sy) (i:Int):List UInt8:=bsOf (sy.getD i.toNat syD).name
theorem klu {sy:List Sy} {i:Nat} (h:i<sy.length):kb1 sy (i:Int)=bsOf sy[i].name:=by
 unfold kb1
 rw [show ((i:Int).toNat)=i from rfl,List.getD_eq_getElem?_getD,List.getElem?_eq_getElem h]
 rfl
theorem kok {sy:List Sy}:∀ {ws:List (List UInt8)} {is:List Int},kds sy ws=some is→ws=is.map (kb1 sy)∧∀ i∈is,0≤i∧i<(sy.length:Int)
 | [],is,h=>by cases h;exact ⟨rfl,by simp⟩
 | w::ws,is,h=>by
  rw [kds] at h
  split at h
  ·cases h
  ·rename_i t ht
   obtain ⟨us,h1,rfl⟩:=qk.1 h
   obtain ⟨h2,h3⟩:=kok h1
   obtain ⟨h4,h5⟩:=kuf ht
   refine ⟨by rw [qac,← h2,klu h4,h5],fun x hx=>?_⟩
   rcases qs.1 hx with rfl | hx
   ·omega
   ·exact h3 x hx
theorem kyv {sy:List Sy} (ho:∀ a b (h:a<sy.length) (h2:b<sy.length),a<b→sy[a].name≠sy[b].name):∀ {is:List Int},(∀ i∈is,0≤i∧i<(sy.length:Int))→kds sy (is.map (kb1 sy))=some is
 | [],_=>rfl
 | i::is,h=>by
  have hi:=h i (qo ..)
  obtain ⟨k,rfl⟩:∃ k:Nat,i=(k:Int):=⟨i.toNat,by omega⟩
  have hk:k<sy.length:=by omega
  rw [qac,kds,klu hk,kxq hk ho,kyv ho fun x hx=>h x (qm _ hx)]
  rfl
theorem kzj (sy:List Sy):∀ (ws:List (List UInt8)) (w:List UInt8),kds sy (ws++[w])=match kds sy ws with
  | none=>none
  | some is=>(kb7 sy w).map fun i=>is++[(i:Int)]
 | [],w=>by simp only [qa7,kds];cases kb7 sy w <;> rfl
 | x::ws,w=>by
  rw [qah,kds,kds,kzj sy ws w]
  cases kb7 sy x with
  | none=>rfl
  | some t=>cases kds sy ws with
   | none=>rfl
   | some ts=>cases kb7 sy w <;> rfl
def rhsT (sy:List Sy) (r:Ru):List UInt8:=if r.kind=3 then bsOf r.op++(40::(kaw (r.args.map (kb1 sy))++[41])) else kk3 r
def kr6:List UInt8:=[108,97,110,103,117,97,103,101]
def bInp:List UInt8:=[105,110,112,117,116,115]
def bSym:List UInt8:=[115,121,109,98,111,108]
def kmj:List UInt8:=[114,117,108,101]
def ruT (sy:List Sy) (r:Ru):List UInt8:=kmj++(32::(kb1 sy r.symbol++([32,61,32]++rhsT sy r)))
def syT (x:Sy):List UInt8:=bSym++(32::(bsOf x.name++(32::tyW x.type)))
def inT (l:List Int):List UInt8:=bInp++l.flatMap fun t=>32::tyW t
def nmT (s:BA):List UInt8:=kr6++(32::bsOf s)
def sysT (l:List Sy):List UInt8:=l.flatMap fun x=>syT x++[10]
def rusT (sy:List Sy) (l:List Ru):List UInt8:=l.flatMap fun r=>ruT sy r++[10]
def kj0 (l:La):List UInt8:=nmT l.name++(10::(inT l.inputs++(10::(sysT l.symbols++rusT l.symbols l.rules))))
def inpL:List UInt8→Option Nat
 | [105,110,d]=>if 48≤d.toNat∧d.toNat<52 then some (d.toNat - 48) else none
 | _=>none
def appL (b:List UInt8):Option (List UInt8×List (List UInt8)):=
 match cutW [40] b with
 | none=>none
 | some (op,rest)=>if kbt (mkB op)∧rest.getLast?=some 41 then
   (if rest.dropLast=[] then some (op,[]) else if ∀ a∈kdk [44,32] rest.dropLast,kbt (mkB a) then some (op,kdk [44,32] rest.dropLast) else none) else none
def rhsL (b:List UInt8):Option (Int×Int×Va×List UInt8×List (List UInt8)):=
 match inpL b with
 | some k=>some (1,(k:Int),kc8,[],[])
 | none=>if (prV (mkB b)).2.2=0 then some (2,0,(prV (mkB b)).1,[],[]) else (appL b).map fun p=>(3,0,kc8,p.1,p.2)
def ruL (sy:List Sy) (s:List UInt8):Int ⊕ Ru:=
 match cutW [32,61,32] s with
 | none => .inl 8
 | some (w,b)=>if kbt (mkB w) then match rhsL b with
   | none => .inl 8
   | some (k,i,v,op,aw)=>match kb7 sy w,kds sy aw with
    | some y,some ys => .inr (Ru.mk (y:Int) k i v (mkB op) ys)
    | _,_ => .inl 5
  else .inl 8
def laD:La:=⟨⟨#[]⟩,[],[],[]⟩
def kjc (n:Nat) (l:La) (s:List UInt8):Int ⊕ La:=
 if n=1 then match cutW [32] s with
  | none => .inl 8
  | some (k,r)=>if k=kr6∧kbt (mkB r) then .inr ⟨mkB r,l.inputs,l.symbols,l.rules⟩ else .inl 8
 else if n=2 then if (kdk [32] s).head?=some bInp then match tysL (kdk [32] s).tail with
   | none => .inl 8
   | some ts => .inr ⟨l.name,ts,l.symbols,l.rules⟩
  else .inl 8
 else match cutW [32] s with
  | none => .inl 8
  | some (k,r)=>if k=bSym∧l.rules=[] then match cutW [32] r with
    | none => .inl 8
    | some (w,t)=>if kbt (mkB w) then match kfq t with
      | none => .inl 8
      | some t => .inr ⟨l.name,l.inputs,l.symbols++[⟨mkB w,t⟩],l.rules⟩
     else .inl 8
   else if k=kmj then match ruL l.symbols r with
    | .inl e => .inl e
    | .inr r => .inr ⟨l.name,l.inputs,l.symbols,l.rules++[r]⟩
   else .inl 8
def kmi:Nat→Nat→La→List UInt8→(Int×Int) ⊕ (Nat×La)
 | 0,n,l,_ => .inr (n,l)
 | k+1,n,l,s=>if s=[] then .inr (n,l) else match cutW [10] s with
  | none => .inl ((n+1:Nat),8)
  | some (a,b)=>match kjc (n+1) l a with
   | .inl e => .inl ((n+1:Nat),e)
   | .inr l'=>kmi k (n+1) l' b
theorem kyu:∀ (k m n:Nat) (l:La) (s:List UInt8),s.length≤k→s.length≤m→kmi k n l s=kmi m n l s
 | 0,0,n,l,s,_,_=>rfl
 | 0,m+1,n,l,s,h,_=>by
  have:s=[]:=qy (by omega)
  rw [kmi,kmi,if_pos this]
 | k+1,0,n,l,s,_,h=>by
  have:s=[]:=qy (by omega)
  rw [kmi,kmi,if_pos this]
 | k+1,m+1,n,l,s,h,h2=>by
  rw [kmi,kmi]
  by_cases hs:s=[]
  ·rw [if_pos hs,if_pos hs]
  ·rw [if_neg hs,if_neg hs]
   cases hc:cutW [10] s with
   | none=>rfl
   | some p=>
    obtain ⟨a,b⟩:=p
    have:=kfh (by simp) hc
    simp only
    cases kjc (n+1) l a with
    | inl e=>rfl
    | inr l'=>exact kyu k m (n+1) l' b (by omega) (by omega)
def kh7 (n:Nat) (l:La) (s:List UInt8):(Int×Int) ⊕ (Nat×La):=kmi s.length n l s
theorem k1v (n:Nat) (l:La):kh7 n l [] = .inr (n,l):=rfl
theorem kzv {s:List UInt8} (n:Nat) (l:La) (h0:s≠[]) (h:cutW [10] s=none):kh7 n l s = .inl ((n+1:Nat),8):=by
 unfold kh7
 obtain ⟨c,t,rfl⟩:=List.exists_cons_of_ne_nil h0
 rw [qi,kmi,if_neg h0,h]
theorem kp4 {s a b:List UInt8} (n:Nat) (l:La) (h:cutW [10] s=some (a,b)):kh7 n l s=match kjc (n+1) l a with
  | .inl e => .inl ((n+1:Nat),e)
  | .inr l'=>kh7 (n+1) l' b:=by
 have h0:s≠[]:=fun e=>by rw [e] at h;cases h
 have h1:=kfh (by simp) h
 unfold kh7
 obtain ⟨c,t,rfl⟩:=List.exists_cons_of_ne_nil h0
 rw [qi] at h1 ⊢
 rw [kmi,if_neg h0,h]
 simp only
 cases kjc (n+1) l a with
 | inl e=>rfl
 | inr l'=>exact kyu _ _ _ _ _ (by omega) (by omega)
end Go.Proofs.YtaimpcnpifoidaaGreatDoor
