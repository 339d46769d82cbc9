import Derived.Test.YtaimpcnpifoidaaGreatDoorZE
import Derived.Test.YtaimpcnpifoidaaGreatDoorNb
import Derived.Test.YtaimpcnpifoidaaGreatDoorNf
import Derived.Test.YtaimpcnpifoidaaGreatDoorNk
set_option linter.unusedVariables false
set_option linter.unusedSimpArgs false
set_option maxRecDepth 100000
namespace Go.Proofs.YtaimpcnpifoidaaGreatDoor
open Go Go.RowKit Go.Proofs
theorem kaey:kd9=some true:=by kernel_rfl
end Go.Proofs.YtaimpcnpifoidaaGreatDoor
set_option linter.unusedVariables false
set_option linter.unusedSimpArgs false
set_option maxRecDepth 100000
namespace Go.Proofs.YtaimpcnpifoidaaGreatDoor
open Go Go.RowKit
def bsOf (s:BA):List UInt8:=s.data.toList
theorem kkf (s:BA):mkB (bsOf s)=s:=by simp [mkB,bsOf]
theorem ko5 (s:BA):(bsOf s).length=s.size:=by cases s;rfl
def ksc (r:Ru):List UInt8:=if r.kind=1 then 105::110::kg3 r.input else kaq r.const
theorem kaba {r:Ru} (h:WrR r) (hk:r.kind≠1→ki1 r.const):(ksc r).length≤60000:=by
 unfold ksc
 split
 ·have:=ktx (n:=r.input) (by have:=h.inp.1;omega) (by have:=h.inp.2;omega)
  simp only [qk];omega
 ·rename_i hne;exact k8l (hk hne)
structure OkL (l:La):Prop where
 wr:∀ r∈l.rules,WrR r
 kind:∀ r∈l.rules,r.kind=1∨r.kind=2∨r.kind=3
theorem OkL.val {l:La} (h:OkL l) {r:Ru} (hr:r∈l.rules) (h1:r.kind≠1) (h3:r.kind≠3):r.kind=2∧ki1 r.const:=by
 rcases h.kind r hr with h | h2 | h
 ·exact absurd h h1
 ·exact ⟨h2,((h.wr r hr).const h2).1⟩
 ·exact absurd h h3
theorem kagi {l:La} (hw:OkL l) {r:Ru} (hr:r∈l.rules) (h3:r.kind≠3):kf5 r=some (mkB (ksc r)):=by
 have h:=hw.wr r hr
 unfold kf5 ksc
 by_cases h1:r.kind=1
 ·have hlen:=ktx (n:=r.input) (by have:=h.inp.1;omega) (by have:=h.inp.2;omega)
  simp only [h1,beq_self_eq_true,qd,if_true,h.inp.itoa,qa]
  rw [show ((⟨#[105,110]⟩:BA))=mkB [105,110] from rfl,kfa (by simp;omega)]
  rfl
 ·obtain ⟨h2,_⟩:=hw.val hr h1 h3
  rw [show (r.kind == 1)=false from beq_false_of_ne h1,qb,if_neg h1,(h.const h2).2.1]
  rfl
end Go.Proofs.YtaimpcnpifoidaaGreatDoor
set_option linter.unusedVariables false
set_option linter.unusedSimpArgs false
set_option maxRecDepth 100000
namespace Go.Proofs.YtaimpcnpifoidaaGreatDoor
open Go Go.RowKit
end Go.Proofs.YtaimpcnpifoidaaGreatDoor
set_option linter.unusedVariables false
set_option linter.unusedSimpArgs false
set_option maxRecDepth 100000
namespace Go.Proofs.YtaimpcnpifoidaaGreatDoor
open Go Go.RowKit
theorem ValidL.okL {l:La} (hw:kiq l) (h:ValidL l):OkL l:=by
 refine ⟨(kqp hw h).ruls,fun r hr=>?_⟩
 obtain ⟨i,hi,rfl⟩:=qy.1 hr
 rcases (h.valid i hi).2 with q | q | q
 ·exact .inl q.1
 ·exact .inr (.inl q.1)
 ·exact .inr (.inr q.1)
end Go.Proofs.YtaimpcnpifoidaaGreatDoor
set_option linter.unusedVariables false
set_option linter.unusedSimpArgs false
set_option maxRecDepth 100000
namespace Go.Proofs.YtaimpcnpifoidaaGreatDoor
open Go Go.RowKit
def kd2 (w:List UInt8):List (List UInt8)→List UInt8
 | []=>[]
 | [x]=>x
 | x::y::l=>x++(w++kd2 w (y::l))
theorem ksx:∀ ls:List (List UInt8),kc1 ls=kd2 [44,32] ls
 | []=>rfl
 | [x]=>rfl
 | x::y::l=>by rw [kc1,kd2,ksx (y::l)];rfl
theorem kvz:∀ (x:List UInt8) (ls:List (List UInt8)),kd2 [32] (x::ls)=x++ls.flatMap (32::·)
 | x,[]=>by simp [kd2]
 | x,y::l=>by rw [kd2,kvz y l];simp
theorem k1f (w s:List UInt8):kd0 w s≠[]:=by
 unfold kd0
 cases s.length with
 | zero=>simp [kkg]
 | succ k=>rw [kkg];split <;> simp
theorem kse {w:List UInt8} (hw:w≠[]):∀ (n:Nat) (s:List UInt8),s.length≤n→kd2 w (kd0 w s)=s
 | n,s,h=>by
  cases hc:cutW w s with
  | none=>rw [kjv hc];rfl
  | some p=>
   obtain ⟨a,b⟩:=p
   have h1:=kej hw hc
   rw [kk9 hw hc]
   match n,h with
   | 0,h=>omega
   | n+1,h=>
    have ih:=kse hw n b (by omega)
    cases hs:kd0 w b with
    | nil=>exact absurd hs (k1f w b)
    | cons y l=>rw [kd2,← hs,ih];exact (kya hw hc).1.symm
instance (c:UInt8):Decidable (letC c):=by unfold letC;infer_instance
instance (c:UInt8):Decidable (digC c):=by unfold digC;infer_instance
instance (s:BA):Decidable (kcw s):=by unfold kcw;infer_instance
def tyW (t:Int):List UInt8:=
 if t=1 then [98,111,111,108] else if t=2 then [105,110,116] else if t=3 then [116,101,120,116] else if t=4 then [98,105,116,115] else
 if t=5 then [105,110,116,115] else if t=6 then [116,101,120,116,115] else if t=7 then [116,97,98,108,101] else if t=8 then [112,97,116,116,101,114,110] else []
def kfi (w:List UInt8):Option Int:=
 if tyW 1=w then some 1 else if tyW 2=w then some 2 else if tyW 3=w then some 3 else if tyW 4=w then some 4 else
 if tyW 5=w then some 5 else if tyW 6=w then some 6 else if tyW 7=w then some 7 else if tyW 8=w then some 8 else none
theorem ky5 {t:Int} (h:kjd t):t=1∨t=2∨t=3∨t=4∨t=5∨t=6∨t=7∨t=8:=by unfold kjd at h;omega
theorem kxz {w:List UInt8} {t:Int} (h:kfi w=some t):w=tyW t∧kjd t:=by
 unfold kfi at h
 repeat' split at h
 all_goals first | (cases h;done) | skip
 all_goals (cases h;rename_i h1;exact ⟨h1.symm,by unfold kjd;omega⟩)
theorem k0b {t:Int} (h:kjd t):(∀ c∈tyW t,97≤c.toNat)∧(tyW t).length≤7:=by
 rcases ky5 h with rfl | rfl | rfl | rfl | rfl | rfl | rfl | rfl <;> decide
theorem kafz {t:Int} (h:kjd t):32∉tyW t∧10∉tyW t:=by
 have k:=(k0b h).1
 exact ⟨fun hc=>by have:=k _ hc;simp at this,fun hc=>by have:=k _ hc;simp at this⟩
def tysL:List (List UInt8)→Option (List Int)
 | []=>some []
 | w::ws=>match kfi w with
  | none=>none
  | some t=>(tysL ws).map (t::·)
theorem ks1:∀ {ws:List (List UInt8)} {ts:List Int},tysL ws=some ts→ws=ts.map tyW∧∀ t∈ts,kjd t
 | [],ts,h=>by cases h;exact ⟨rfl,by simp⟩
 | w::ws,ts,h=>by
  rw [tysL] at h
  split at h
  ·cases h
  ·rename_i t ht
   obtain ⟨us,h1,rfl⟩:=qj.1 h
   obtain ⟨h2,h3⟩:=ks1 h1
   obtain ⟨h4,h5⟩:=kxz ht
   refine ⟨by rw [qaf,← h2,← h4],fun x hx=>?_⟩
   rcases qz.1 hx with rfl | hx
   ·exact h5
   ·exact h3 x hx
theorem k3w:∀ (ws:List (List UInt8)) (w:List UInt8),tysL (ws++[w])=match tysL ws with
  | none=>none
  | some ts=>(kfi w).map fun t=>ts++[t]
 | [],w=>by simp only [List.nil_append,tysL];cases kfi w <;> rfl
 | x::ws,w=>by
  rw [List.cons_append,tysL,tysL,k3w ws w]
  cases kfi x with
  | none=>rfl
  | some t=>cases tysL ws with
   | none=>rfl
   | some ts=>cases kfi w <;> rfl
def kcr:List Sy→List UInt8→Option Nat
 | [],_=>none
 | x::l,w=>if bsOf x.name=w then some 0 else (kcr l w).map (·+1)
theorem kr6:∀ {l:List Sy} {w:List UInt8} {i:Nat},kcr l w=some i→∃ h:i<l.length,bsOf l[i].name=w
 | [],w,i,h=>by cases h
 | x::l,w,i,h=>by
  rw [kcr] at h
  split at h
  ·cases h;rename_i h1;exact ⟨by simp,h1⟩
  ·obtain ⟨j,h1,rfl⟩:=qj.1 h
   obtain ⟨h2,h3⟩:=kr6 h1
   exact ⟨by simp;omega,h3⟩
theorem ky9:∀ (l:List Sy) (x:Sy) (w:List UInt8),kcr (l++[x]) w=match kcr l w with
  | some i=>some i
  | none=>if bsOf x.name=w then some l.length else none
 | [],x,w=>by simp [kcr]
 | y::l,x,w=>by
  rw [List.cons_append,kcr,kcr]
  by_cases h:bsOf y.name=w
  ·rw [if_pos h,if_pos h]
  ·rw [if_neg h,if_neg h,ky9 l x w]
   cases kcr l w with
   | some i=>rfl
   | none=>
    simp only [Option.map_none]
    by_cases h2:bsOf x.name=w
    ·rw [if_pos h2,if_pos h2];rfl
    ·rw [if_neg h2,if_neg h2];rfl
def kee (sy:List Sy):List (List UInt8)→Option (List Int)
 | []=>some []
 | w::ws=>match kcr sy w with
  | none=>none
  | some i=>(kee sy ws).map ((i:Int)::·)
def kf0 (sy:List Sy) (i:Int):List UInt8:=bsOf (sy.getD i.toNat syD).name
theorem kow {sy:List Sy} {i:Nat} (h:i<sy.length):kf0 sy (i:Int)=bsOf sy[i].name:=by
 unfold kf0
 rw [show ((i:Int).toNat)=i from rfl,List.getD_eq_getElem?_getD,List.getElem?_eq_getElem h]
 rfl
theorem knl {sy:List Sy}:∀ {ws:List (List UInt8)} {is:List Int},kee sy ws=some is→ws=is.map (kf0 sy)∧∀ i∈is,0≤i∧i<(sy.length:Int)
 | [],is,h=>by cases h;exact ⟨rfl,by simp⟩
 | w::ws,is,h=>by
  rw [kee] at h
  split at h
  ·cases h
  ·rename_i t ht
   obtain ⟨us,h1,rfl⟩:=qj.1 h
   obtain ⟨h2,h3⟩:=knl h1
   obtain ⟨h4,h5⟩:=kr6 ht
   refine ⟨by rw [qaf,← h2,kow h4,h5],fun x hx=>?_⟩
   rcases qz.1 hx with rfl | hx
   ·omega
   ·exact h3 x hx
theorem kw3 (sy:List Sy):∀ (ws:List (List UInt8)) (w:List UInt8),kee sy (ws++[w])=match kee sy ws with
  | none=>none
  | some is=>(kcr sy w).map fun i=>is++[(i:Int)]
 | [],w=>by simp only [List.nil_append,kee];cases kcr sy w <;> rfl
 | x::ws,w=>by
  rw [List.cons_append,kee,kee,kw3 sy ws w]
  cases kcr sy x with
  | none=>rfl
  | some t=>cases kee sy ws with
   | none=>rfl
   | some ts=>cases kcr sy w <;> rfl
def rhsT (sy:List Sy) (r:Ru):List UInt8:=if r.kind=3 then bsOf r.op++(40::(kc1 (r.args.map (kf0 sy))++[41])) else ksc r
def ksr:List UInt8:=[108,97,110,103,117,97,103,101]
def bInp:List UInt8:=[105,110,112,117,116,115]
def bSym:List UInt8:=[115,121,109,98,111,108]
def kou:List UInt8:=[114,117,108,101]
def ruT (sy:List Sy) (r:Ru):List UInt8:=kou++(32::(kf0 sy r.symbol++([32,61,32]++rhsT sy r)))
def syT (x:Sy):List UInt8:=bSym++(32::(bsOf x.name++(32::tyW x.type)))
def inT (l:List Int):List UInt8:=bInp++l.flatMap fun t=>32::tyW t
def nmT (s:BA):List UInt8:=ksr++(32::bsOf s)
def sysT (l:List Sy):List UInt8:=l.flatMap fun x=>syT x++[10]
def rusT (sy:List Sy) (l:List Ru):List UInt8:=l.flatMap fun r=>ruT sy r++[10]
def kl6 (l:La):List UInt8:=nmT l.name++(10::(inT l.inputs++(10::(sysT l.symbols++rusT l.symbols l.rules))))
def inpL:List UInt8→Option Nat
 | [105,110,d]=>if 48≤d.toNat∧d.toNat<52 then some (d.toNat - 48) else none
 | _=>none
def appL (b:List UInt8):Option (List UInt8×List (List UInt8)):=
 match cutW [40] b with
 | none=>none
 | some (op,rest)=>if kcw (mkB op)∧rest.getLast?=some 41 then
   (if rest.dropLast=[] then some (op,[]) else if ∀ a∈kd0 [44,32] rest.dropLast,kcw (mkB a) then some (op,kd0 [44,32] rest.dropLast) else none) else none
def rhsL (b:List UInt8):Option (Int×Int×Va×List UInt8×List (List UInt8)):=
 match inpL b with
 | some k=>some (1,(k:Int),kc7,[],[])
 | none=>if (prV (mkB b)).2.2=0 then some (2,0,(prV (mkB b)).1,[],[]) else (appL b).map fun p=>(3,0,kc7,p.1,p.2)
def ruL (sy:List Sy) (s:List UInt8):Int ⊕ Ru:=
 match cutW [32,61,32] s with
 | none => .inl 8
 | some (w,b)=>if kcw (mkB w) then match rhsL b with
   | none => .inl 8
   | some (k,i,v,op,aw)=>match kcr sy w,kee sy aw with
    | some y,some ys => .inr (Ru.mk (y:Int) k i v (mkB op) ys)
    | _,_ => .inl 5
  else .inl 8
def laD:La:=⟨⟨#[]⟩,[],[],[]⟩
def kj3 (n:Nat) (l:La) (s:List UInt8):Int ⊕ La:=
 if n=1 then match cutW [32] s with
  | none => .inl 8
  | some (k,r)=>if k=ksr∧kcw (mkB r) then .inr ⟨mkB r,l.inputs,l.symbols,l.rules⟩ else .inl 8
 else if n=2 then if (kd0 [32] s).head?=some bInp then match tysL (kd0 [32] s).tail with
   | none => .inl 8
   | some ts => .inr ⟨l.name,ts,l.symbols,l.rules⟩
  else .inl 8
 else match cutW [32] s with
  | none => .inl 8
  | some (k,r)=>if k=bSym∧l.rules=[] then match cutW [32] r with
    | none => .inl 8
    | some (w,t)=>if kcw (mkB w) then match kfi t with
      | none => .inl 8
      | some t => .inr ⟨l.name,l.inputs,l.symbols++[⟨mkB w,t⟩],l.rules⟩
     else .inl 8
   else if k=kou then match ruL l.symbols r with
    | .inl e => .inl e
    | .inr r => .inr ⟨l.name,l.inputs,l.symbols,l.rules++[r]⟩
   else .inl 8
def kid:Nat→Nat→La→List UInt8→(Int×Int) ⊕ (Nat×La)
 | 0,n,l,_ => .inr (n,l)
 | k+1,n,l,s=>if s=[] then .inr (n,l) else match cutW [10] s with
  | none => .inl ((n+1:Nat),8)
  | some (a,b)=>match kj3 (n+1) l a with
   | .inl e => .inl ((n+1:Nat),e)
   | .inr l'=>kid k (n+1) l' b
theorem kwq:∀ (k m n:Nat) (l:La) (s:List UInt8),s.length≤k→s.length≤m→kid k n l s=kid m n l s
 | 0,0,n,l,s,_,_=>rfl
 | 0,m+1,n,l,s,h,_=>by
  have:s=[]:=qx (by omega)
  rw [kid,kid,if_pos this]
 | k+1,0,n,l,s,_,h=>by
  have:s=[]:=qx (by omega)
  rw [kid,kid,if_pos this]
 | k+1,m+1,n,l,s,h,h2=>by
  rw [kid,kid]
  by_cases hs:s=[]
  ·rw [if_pos hs,if_pos hs]
  ·rw [if_neg hs,if_neg hs]
   cases hc:cutW [10] s with
   | none=>rfl
   | some p=>
    obtain ⟨a,b⟩:=p
    have:=kej (by simp) hc
    simp only
    cases kj3 (n+1) l a with
    | inl e=>rfl
    | inr l'=>exact kwq k m (n+1) l' b (by omega) (by omega)
def kio (n:Nat) (l:La) (s:List UInt8):(Int×Int) ⊕ (Nat×La):=kid s.length n l s
theorem k8h (n:Nat) (l:La):kio n l [] = .inr (n,l):=rfl
theorem kwp {s:List UInt8} (n:Nat) (l:La) (h0:s≠[]) (h:cutW [10] s=none):kio n l s = .inl ((n+1:Nat),8):=by
 unfold kio
 obtain ⟨c,t,rfl⟩:=List.exists_cons_of_ne_nil h0
 rw [qk,kid,if_neg h0,h]
theorem ksl {s a b:List UInt8} (n:Nat) (l:La) (h:cutW [10] s=some (a,b)):kio n l s=match kj3 (n+1) l a with
  | .inl e => .inl ((n+1:Nat),e)
  | .inr l'=>kio (n+1) l' b:=by
 have h0:s≠[]:=fun e=>by rw [e] at h;cases h
 have h1:=kej (by simp) h
 unfold kio
 obtain ⟨c,t,rfl⟩:=List.exists_cons_of_ne_nil h0
 rw [qk] at h1 ⊢
 rw [kid,if_neg h0,h]
 simp only
 cases kj3 (n+1) l a with
 | inl e=>rfl
 | inr l'=>exact kwq _ _ _ _ _ (by omega) (by omega)
end Go.Proofs.YtaimpcnpifoidaaGreatDoor
