import Derived.Test.YtaimpcnpifoidaaGreatDoorDra
import Derived.Test.YtaimpcnpifoidaaGreatDoorOpr
set_option linter.unusedVariables false
set_option linter.unusedSimpArgs false
namespace Go.Proofs.YtaimpcnpifoidaaGreatDoor
open Go Go.RowKit
class Tab (P:Program) where
 T:List (TypeId×TD)
 ok:TOk P T
 mixed:P.follows .mixedOrders=true
abbrev FsT:=List (Nat×Option Nat×AV)
structure Zn where
 os:Array Oper
 n:Nat
 es:List Nat
 ch:List Nat
 ai:List Nat
inductive Foc where
 | code (c:Code)
 | ops (os:Array Oper) (l:List Oper)
 | drz (z:Zn) (k i:Nat) (l:List Oper) (fs:FsT) (hp:List (Nat×AObj)) (ids:List Nat) (pn:Option Nat)
 | dry (z:Zn) (k i:Nat) (l:List Oper) (fs:FsT) (hp:List (Nat×AObj)) (nid:List Nat) (es:List (Nat×Nat))
 | fin (e:Exit)
 | bad
inductive Frm where
 | seq (c:Code)
 | block (id:Nat)
structure Cfg where
 foc:Foc
 ks:List Frm
 st:St
def ktt (T:List (TypeId×TD)) (t:TypeId):Option TK:=match ka3 T t with
 | some d=>some d.kind
 | none=>none
def kagz (T:List (TypeId×TD)) (sr t:TypeId) (x:AV):Option AV:=match ktt T sr,ktt T t,x with
 | some _,some (.int k), .fz (.atom (.int _ n))=>some (.fz (.atom (.int k (k.wrap n))))
 | some .str,some .str, .fz (.atom (.string s))=>some (.fz (.atom (.string s)))
 | _,_,_=>none
def kzp (T:List (TypeId×TD)) (o:Oper) (st:St):Option AV:=match ky5 T o st with
 | some c=>some c
 | none=>match o.op with
  | .convert sr t x=>kagz T sr t (st.eval x)
  | .call c=>match c.callee,c.args.toList with
   | .builtin .min,[x,y]=>match st.eval x,st.eval y with
    | .fz (.atom (.int k m)), .fz (.atom (.int _ n))=>some (.fz (.atom (.int k (imin m n))))
    | _,_=>none
   | .builtin .max,[x,y]=>match st.eval x,st.eval y with
    | .fz (.atom (.int k m)), .fz (.atom (.int _ n))=>some (.fz (.atom (.int k (imax m n))))
    | _,_=>none
   | _,_=>none
  | .makeInterface t x=>match ktt T t with
   | some .ifc=>none
   | some _=>match toV (st.eval x) with
    | some v=>some (.fz (.atom (.iface t v)))
    | none=>none
   | none=>none
  | .typeAssert x _ t true=>match ktt T t,st.eval x with
   | some .ifc,_=>none
   | some _, .fz (.atom (.iface t' v))=>bif Nat.beq t' t then (match ofV v with
    | some y=>some (.fz (.tup [y, .atom (.bool true)]))
    | none=>none) else none
   | _,_=>none
  | .binOp op t x (.const .nilIface) _=>match ktt T t,st.eval x,op with
   | some .ifc, .fz (.atom (.iface _ _)), .eql=>some (.fz (.atom (.bool false)))
   | some .ifc, .fz (.atom (.iface _ _)), .neq=>some (.fz (.atom (.bool true)))
   | some .ifc, .fz (.atom .nilIface), .eql=>some (.fz (.atom (.bool true)))
   | some .ifc, .fz (.atom .nilIface), .neq=>some (.fz (.atom (.bool false)))
   | _,_,_=>none
  | _=>none
theorem khp {T:List (TypeId×TD)} {t:TypeId} {k:TK} (h:ktt T t=some k):∃ d,ka3 T t=some d∧d.kind=k:=by
 unfold ktt at h
 split at h
 ·rename_i d hd;injection h with h;exact ⟨d,hd,h⟩
 ·cases h
theorem kr0 {α:Type} {xs:Array α} {x y:α} (h:xs.toList=[x,y]):xs=#[x,y]:=by
 apply Array.ext'; simpa using h
theorem k1q {P:Program} {T:List (TypeId×TD)} (hT:TOk P T) {o:Oper} {st:St} {c:AV} (h:kzp T o st=some c):NStep P o st c:=by
 unfold kzp at h
 split at h
 ·rename_i c' hc;injection h with h;subst h;exact kyb hT hc
 ·split at h
  ·rename_i sr t x ho
   unfold kagz at h
   split at h
   ·rename_i ks k k' n h1 h2 h3
    injection h with h;subst h
    obtain ⟨ds,hs,_⟩:=khp h1
    obtain ⟨d,hd,hk⟩:=khp h2
    exact kakh hT ho hs hd hk h3
   ·rename_i s h1 h2 h3
    injection h with h;subst h
    obtain ⟨ds,hs,hks⟩:=khp h1
    obtain ⟨d,hd,hk⟩:=khp h2
    exact kahc hT ho hs hks hd hk h3
   ·cases h
  ·rename_i c' ho
   obtain ⟨cc,as_,ts⟩:=c'
   split at h
   ·rename_i x y h1 h2
    simp only at h1 h2
    rw [h1,kr0 h2] at ho
    split at h
    ·rename_i k m k' n hx hy
     injection h with h;subst h
     exact s_min ho hx hy
    ·cases h
   ·rename_i x y h1 h2
    simp only at h1 h2
    rw [h1,kr0 h2] at ho
    split at h
    ·rename_i k m k' n hx hy
     injection h with h;subst h
     exact s_max ho hx hy
    ·cases h
   ·cases h
  ·rename_i tt x ho
   split at h
   ·cases h
   ·rename_i kk hne hk
    obtain ⟨d,hd,hkd⟩:=khp hk
    split at h
    ·rename_i v hv
     injection h with h;subst h
     exact kajz ho (hT.get hd) (fun hi=>hne (by rw [hi] at hkd;exact hkd.symm)) hv
    ·cases h
   ·cases h
  ·rename_i x xt tt ho
   split at h
   ·cases h
   ·rename_i kk t' v hne hk hx
    obtain ⟨d,hd,hkd⟩:=khp hk
    cases hb:Nat.beq t' tt with
    | false=>rw [hb] at h;cases h
    | true=>
     rw [hb] at h
     obtain rfl:=qr hb
     try simp only [qd] at h
     split at h
     ·rename_i y hy
      injection h with h;subst h
      exact kaa1 ho (hT.get hd) (fun hi=>hne (by rw [hi] at hkd;exact hkd.symm)) hx hy
     ·cases h
   ·cases h
  ·rename_i op tt x yt ho
   split at h
   ·rename_i s z hk hx
    obtain ⟨d,hd,hkd⟩:=khp hk
    injection h with h;subst h
    exact kuy false false ho (hT.get hd) hkd hx (.inl ⟨rfl,_,_,rfl⟩)
   ·rename_i s z hk hx
    obtain ⟨d,hd,hkd⟩:=khp hk
    injection h with h;subst h
    exact kuy true false ho (hT.get hd) hkd hx (.inl ⟨rfl,_,_,rfl⟩)
   ·rename_i hk hx
    obtain ⟨d,hd,hkd⟩:=khp hk
    injection h with h;subst h
    exact kuy false true ho (hT.get hd) hkd hx (.inr ⟨rfl,rfl⟩)
   ·rename_i hk hx
    obtain ⟨d,hd,hkd⟩:=khp hk
    injection h with h;subst h
    exact kuy true true ho (hT.get hd) hkd hx (.inr ⟨rfl,rfl⟩)
   ·cases h
  ·cases h
def unwN:List Frm→St→Cfg
 | [],st=>⟨.fin .normal,[],st⟩
 | .seq y::ks,st=>⟨.code y,ks,st⟩
 | .block _::ks,st=>unwN ks st
def unwX (id:Nat):List Frm→St→Cfg
 | [],st=>⟨.fin (.exit id),[],st⟩
 | .seq _::ks,st=>unwX id ks st
 | .block i::ks,st=>bif Nat.beq id i then unwN ks st else unwX id ks st
def unw:Exit→List Frm→St→Cfg
 | .normal,ks,st=>unwN ks st
 | .exit i,ks,st=>unwX i ks st
 | .ret,_,st=>⟨.fin .ret,[],st⟩
 | .panic cs,_,st=>⟨.fin (.panic cs),[],st⟩
 | _,_,st=>⟨.bad,[],st⟩
def k84 (T:List (TypeId×TD)) (os:Array Oper) (o:Oper) (l:List Oper) (ks:List Frm) (st:St):Cfg:=match kdv os st o,kuq st o with
 | some true,true=>match kw7 T o st with
  | some (c,h,i)=>⟨.ops os l,ks,({ st with heap:=h,ids:=i }:St).put o.dst c⟩
  | none=>match kzp T o st with
   | some c=>⟨.ops os l,ks,st.put o.dst c⟩
   | none=>⟨.bad,ks,st⟩
 | some false,true=>⟨.ops os l,ks,st.put o.dst (.fz (.tup []))⟩
 | _,_=>⟨.bad,ks,st⟩
def k2p (T:List (TypeId×TD)) (os:Array Oper) (st:St) (o:Oper):Option AV:=match kdv os st o with
 | some true=>kzp T o st
 | some false=>some (.fz (.tup []))
 | none=>none
def k9v:Code→List Frm→St→Cfg
 | .skip,ks,st=>unwN ks st
 | .label _,ks,st=>unwN ks st
 | .exit i,ks,st=>unwX i ks st
 | .ret,_,st=>⟨.fin .ret,[],st⟩
 | .seq x y,ks,st=>⟨.code x, .seq y::ks,st⟩
 | .block id c,ks,st=>⟨.code c, .block id::ks,st⟩
 | .cond c x y,ks,st=>match st.eval c with
  | .fz (.atom (.bool b))=>⟨.code (bif b then x else y),ks,st⟩
  | _=>⟨.bad,ks,st⟩
 | .region _ os false,ks,st=>⟨.ops os os.toList,ks,st⟩
 | _,ks,st=>⟨.bad,ks,st⟩
def ko5 (z:Zn) (st:St) (i:Nat) (o:Oper) (fs:FsT) (hp:List (Nat×AObj)) (ids:List Nat):St:=kiv z.os.toList z.n z.es z.ch z.ai st i o fs hp ids
def k9q (ch:List Nat):List (Nat×AObj)→Bool
 | (k,_)::_=>ch.contains k
 | []=>true
def ktq (ai ids ids':List Nat):Bool:=ids'.all ai.contains && ids.all ids'.contains
def k2v (z:Zn) (i:Nat):Option Nat→Bool
 | some e=>anc z.os.toList i e
 | none=>false
def k75 (T:List (TypeId×TD)) (z:Zn) (k i:Nat) (o:Oper) (l:List Oper) (fs:FsT) (hp:List (Nat×AObj)) (ids:List Nat) (pn:Option Nat) (ks:List Frm) (st:St):Cfg:=
 bif k2v z i pn then ⟨.drz z k (i+1) l ((i,o.dst, .any)::fs) hp ids pn,ks,st⟩ else
 bif z.es.contains i then (match kdv z.os (ko5 z st i o fs hp ids) o,kw7 T o (ko5 z st i o fs hp ids),pn with
  | some false,_,none=>bif ktq z.ai ids ids then ⟨.drz z k (i+1) l ((i,o.dst, .fz (.tup []))::fs) hp ids none,ks,st⟩ else ⟨.bad,ks,st⟩
  | some true,some (c,h',i'),none=>bif Nat.beq (ko5 z st i o fs hp ids).heap.length hp.length && (phB z.os.toList z.es i && (k9q z.ch h' && ktq z.ai ids i')) then ⟨.drz z k (i+1) l ((i,o.dst,c)::fs) h' i' none,ks,st⟩ else ⟨.bad,ks,st⟩
  | _,_,_=>⟨.bad,ks,st⟩)
 else (match k2p T z.os (ko5 z st i o fs hp ids) o with
  | some c=>bif phB z.os.toList z.es i || okA st.ids c then ⟨.drz z k (i+1) l ((i,o.dst,c)::fs) hp ids pn,ks,st⟩ else ⟨.bad,ks,st⟩
  | none=>⟨.bad,ks,st⟩)
def kz2 (z:Zn) (st:St) (i:Nat) (o:Oper) (fs:FsT):St:=kzi z.os.toList z.n z.ai st i o fs
def k5c (T:List (TypeId×TD)) (o:Oper):Option (TypeId×List AV):=match o.op with
 | .alloc e=>match ka3 T e with
  | some d=>match zeroA d with
   | some cells=>some (e,cells)
   | none=>none
  | none=>none
 | _=>none
def k5p (T:List (TypeId×TD)) (v:St) (o:Oper):Option (Nat×AObj):=match o.op with
 | .store t x y=>match kvx T v t x y with
  | some (_,q::_,_)=>some q
  | _=>none
 | _=>none
def k5g (z:Zn) (st:St) (es:List (Nat×Nat)) (id:Nat):Bool:=!(st.ids.contains id || (st.heap.any fun q=>q.1 == id) || (es.any fun q=>q.2 == id) || !z.ai.contains id)
def k9h (T:List (TypeId×TD)) (z:Zn) (k i:Nat) (o:Oper) (l:List Oper) (fs:FsT) (hp:List (Nat×AObj)) (nid:List Nat) (es:List (Nat×Nat)) (ks:List Frm) (st:St):Cfg:=
 match k2p T z.os (kz2 z st i o fs) o with
 | some c=>bif okA st.ids c then ⟨.dry z k (i+1) l ((i,o.dst,c)::fs) hp nid es,ks,st⟩ else ⟨.bad,ks,st⟩
 | none=>match kdv z.os (kz2 z st i o fs) o,k5c T o with
  | some true,some (e,cells)=>bif k5g z st es (fresh (nid++st.ids)) then ⟨.dry z k (i+1) l ((i,o.dst, .ref (fresh (nid++st.ids)) 0 0)::fs) ((fresh (nid++st.ids), .box e cells)::hp) (fresh (nid++st.ids)::nid) ((i,fresh (nid++st.ids))::es),ks,st⟩ else ⟨.bad,ks,st⟩
  | some true,none=>match k5p T { kz2 z st i o fs with heap:=hp++st.heap } o with
   | some q=>bif !(st.heap.any fun r=>r.1 == q.1) && befB z.os.toList i q.1 es then ⟨.dry z k (i+1) l ((i,o.dst, .any)::fs) (q::hp) nid ((i,q.1)::es),ks,st⟩ else ⟨.bad,ks,st⟩
   | none=>⟨.bad,ks,st⟩
  | _,_=>⟨.bad,ks,st⟩
def k9y (T:List (TypeId×TD)) (g:Cfg):Cfg:=match g with
 | ⟨.code c,ks,st⟩=>k9v c ks st
 | ⟨.ops _ [],ks,st⟩=>unwN ks st
 | ⟨.ops os (o::l),ks,st⟩=>k84 T os o l ks st
 | ⟨.drz z 0 _ l fs hp ids none,ks,st⟩=>⟨.ops z.os l,ks,{ st with tmps:=hadd fs (fun _=>true) st.tmps,heap:=hp,ids:=ids }⟩
 | ⟨.drz z (k+1) i (o::l) fs hp ids pn,ks,st⟩=>k75 T z k i o l fs hp ids pn ks st
 | ⟨.dry z 0 _ l fs hp nid _,ks,st⟩=>⟨.ops z.os l,ks,{ st with tmps:=hadd fs (fun _=>true) st.tmps,heap:=hp++st.heap,ids:=nid++st.ids }⟩
 | ⟨.dry z (k+1) i (o::l) fs hp nid es,ks,st⟩=>k9h T z k i o l fs hp nid es ks st
 | ⟨_,ks,st⟩=>⟨.bad,ks,st⟩
def crunT (T:List (TypeId×TD)) (k:Nat) (g:Cfg):Cfg:=Nat.rec g (fun _ r=>k9y T r) k
def crun (P:Program) [t:Tab P] (k:Nat) (g:Cfg):Cfg:=crunT t.T k g
def kis (P:Program):List Frm→(Exit→St→Prop)→Exit→St→Prop
 | [],Q=>Q
 | .seq y::ks,Q=>kag5 (fun st=>awp P y st (kis P ks Q)) (kis P ks Q)
 | .block id::ks,Q=>kza id (kis P ks Q)
def FW (P:Program) (foc:Foc) (st:St) (Q:Exit→St→Prop):Prop:=match foc with
 | .code c=>awp P c st Q
 | .ops os l=>awpL P os l st Q
 | .drz z k i l fs hp ids pn=>krl P z.os z.n z.es z.ch z.ai Q st k i l fs hp ids pn
 | .dry z k i l fs hp nid es=>ky9 P z.os z.n z.ai Q st k i l fs hp nid es
 | .fin e=>Q e st
 | .bad=>False
def W (P:Program) (g:Cfg) (Q:Exit→St→Prop):Prop:=FW P g.foc g.st (kis P g.ks Q)
section
variable {P:Program} {T:List (TypeId×TD)} {Q:Exit→St→Prop} {st:St} {ks:List Frm}
theorem kqn:∀ {ks:List Frm},W P (unwN ks st) Q→kis P ks Q .normal st
 | [],h=>h
 | .seq _::_,h=>h
 | .block id::ks,h=>show kza id (kis P ks Q) .normal st from kqn (ks:=ks) h
theorem kwg {i:Nat}:∀ {ks:List Frm},W P (unwX i ks st) Q→kis P ks Q (.exit i) st
 | [],h=>h
 | .seq _::ks,h=>kwg (ks:=ks) h
 | .block id::ks,h=>by
  show (if i=id then kis P ks Q .normal st else kis P ks Q (.exit i) st)
  simp only [unwX] at h
  by_cases hi:i=id
  ·subst hi
   rw [if_pos rfl]
   simp only [Nat.beq_refl,qd] at h
   exact kqn h
  ·rw [if_neg hi]
   rw [Nat.beq_eq_false hi] at h
   exact kwg h
theorem kwj {ks:List Frm}:Q .ret st→kis P ks Q .ret st:=by
 induction ks with
 | nil=>exact id
 | cons k ks ih=>cases k <;> exact ih
theorem kwz {cs} {ks:List Frm}:Q (.panic cs) st→kis P ks Q (.panic cs) st:=by
 induction ks with
 | nil=>exact id
 | cons k ks ih=>cases k <;> exact ih
theorem kaao {e:Exit} {ks:List Frm} (h:W P (unw e ks st) Q):kis P ks Q e st:=by
 cases e with
 | normal=>exact kqn h
 | exit i=>exact kwg h
 | ret=>exact kwj h
 | panic cs=>exact kwz h
 | _=>exact h.elim
theorem k24 (hT:TOk P T) {os:Array Oper} {o:Oper} {c:AV} (h:k2p T os st o=some c):(kdv os st o=some true∧NStep P o st c)∨(kdv os st o=some false∧c = .fz (.tup [])):=by
 unfold k2p at h
 split at h
 ·rename_i hg;exact .inl ⟨hg,k1q hT h⟩
 ·rename_i hg;injection h with h;exact .inr ⟨hg,h.symm⟩
 ·cases h
theorem kad5 (hT:TOk P T) {os:Array Oper} {o:Oper} {l:List Oper} (h:W P (k84 T os o l ks st) Q):awpL P os (o::l) st (kis P ks Q):=by
 unfold k84 at h
 split at h
 ·rename_i hg hd
  split at h
  ·rename_i c h' i hx
   exact kzs (k3j hT hx) hg (krb hd) h
  ·split at h
   ·rename_i c hx
    exact kzs (k1q hT hx).step hg (krb hd) h
   ·exact h.elim
 ·rename_i hg hd
  exact kakj hg (krb hd) h
 ·exact h.elim
theorem kadp {c:Code} (h:W P (k9v c ks st) Q):awp P c st (kis P ks Q):=by
 unfold k9v at h
 split at h
 ·exact kaex (kqn h)
 ·exact fun F S0 N0 ψ S a w hs=>wp_label ⟨st,ψ,S,kqn h,hs,Fr.refl⟩
 ·exact kac9 (kwg h)
 ·exact kaip (kwj h)
 ·exact k6x h
 ·exact kabm h
 ·split at h
  ·rename_i hb
   exact k29 hb h
  ·exact h.elim
 ·exact k9g h
 ·exact h.elim
theorem k83 {o:Oper} {c:AV} {h:List (Nat×AObj)} {i:List Nat} (hx:kw7 T o st=some (c,h,i)):h=st.heap∨∃ id ob,h=(id,ob)::st.heap:=by
 unfold kw7 at hx
 have hbox:∀ {e:TypeId} {cells:List AV},boxX e st cells=some (c,h,i)→h=st.heap∨∃ id ob,h=(id,ob)::st.heap:=fun {e cells} hx=>by
  unfold boxX at hx
  cases hb:(cells.all AV.single && !st.ids.contains (Go.Proofs.YtaimpcnpifoidaaGreatDoor.fresh st.ids)) with
  | false=>rw [hb] at hx;cases hx
  | true=>rw [hb] at hx;simp only [qd,qh,qad] at hx;exact .inr ⟨_,_,hx.2.1.symm⟩
 split at hx
 ·exact hbox hx
 ·split at hx
  ·split at hx
   ·exact hbox hx
   ·cases hx
  ·cases hx
 ·unfold kvx at hx
  split at hx
  ·split at hx
   ·rename_i e cells hob
    generalize (Nat.beq _ 0 && _)=b at hx
    cases b with
    | false=>cases hx
    | true=>simp only [qd,qh,qad] at hx;exact .inr ⟨_,_,hx.2.1.symm⟩
   ·cases hx
  ·cases hx
 ·refine .inl ?_
  generalize ky5 T o st=c0 at hx
  cases c0 with
  | none=>cases hx
  | some x=>simp only [nres,qh,qad] at hx;exact hx.2.1.symm
theorem kx0 {ai ids ids':List Nat} (h:ktq ai ids ids'=true):(∀ id,id∈ids'→id∈ai)∧∀ id,id∈ids→id∈ids':=by
 unfold ktq at h
 simp only [qu] at h
 exact ⟨fun id hi=>by simpa using qm.1 h.1 id hi,fun id hi=>by simpa using qm.1 h.2 id hi⟩
theorem kadr (hT:TOk P T) {z:Zn} {k i:Nat} {o:Oper} {l:List Oper} {fs:FsT} {hp:List (Nat×AObj)} {ids:List Nat} {pn:Option Nat} (h:W P (k75 T z k i o l fs hp ids pn ks st) Q):krl P z.os z.n z.es z.ch z.ai (kis P ks Q) st (k+1) i (o::l) fs hp ids pn:=by
 unfold k75 at h
 cases hd:k2v z i pn with
 | true=>
  rw [hd] at h
  cases pn with
  | none=>cases hd
  | some e=>exact .inl ⟨e,rfl,hd,h⟩
 | false=>
  rw [hd] at h
  simp only [qb] at h
  cases he:z.es.contains i with
  | true=>
   rw [he] at h
   simp only [qd] at h
   split at h
   ·rename_i hg
    cases hb:ktq z.ai ids ids with
    | false=>rw [hb] at h;exact h.elim
    | true=>
     rw [hb] at h
     exact .inr (.inr (.inl ⟨he,rfl,_,hp,ids,⟨.inr ⟨hg,rfl,rfl,rfl⟩, .inr ⟨fun _ _ _ h=>h,kx0 hb⟩⟩,h⟩))
   ·rename_i c h' i' hg hx
    generalize hb:(Nat.beq (ko5 z st i o fs hp ids).heap.length hp.length && (phB z.os.toList z.es i && (k9q z.ch h' && ktq z.ai ids i')))=b at h
    cases b with
    | false=>exact h.elim
    | true=>
     simp only [qu] at hb
     obtain ⟨_,b2,b3,b4⟩:=hb
     refine .inr (.inr (.inl ⟨he,rfl,c,h',i',⟨.inl ⟨hg,k3j hT hx⟩, .inr ⟨?_,kx0 b4⟩⟩,h⟩))
     have hv:(ko5 z st i o fs hp ids).heap=hp:=by show (bif phB z.os.toList z.es i then hp else _)=hp;rw [b2];rfl
     rcases k83 hx with hf | ⟨id,ob,hf⟩
     ·rw [hf,hv];exact fun _ _ _ h=>h
     ·rw [hf,hv]
      rw [hf] at b3
      intro id' hid ob' ho
      rw [kai,if_neg]
      ·exact ho
      ·rintro rfl;exact hid (by simpa [k9q] using b3)
   ·exact h.elim
  | false=>
   rw [he] at h
   simp only [qb] at h
   split at h
   ·rename_i c hc
    cases hk:(phB z.os.toList z.es i || okA st.ids c) with
    | false=>rw [hk] at h;exact h.elim
    | true=>rw [hk] at h;exact .inr (.inl ⟨he,c,k24 hT hc,hk,h⟩)
   ·exact h.elim
theorem kacf (hT:TOk P T) {o:Oper} {e:TypeId} {cells:List AV} (h:k5c T o=some (e,cells)) (id:Nat):kag6 P o (.ref id 0 0) id (.box e cells):=by
 unfold k5c at h
 split at h
 ·rename_i e' ho
  split at h
  ·rename_i d hd
   split at h
   ·rename_i cells' hz
    simp only [qh,qad] at h
    obtain ⟨rfl,rfl⟩:=h
    exact fun st' hid=>k7f ho (hT.get hd) hz hid
   ·cases h
  ·cases h
 ·cases h
theorem kab7 (hT:TOk P T) {v:St} {o:Oper} {q:Nat×AObj} (h:k5p T v o=some q):kagl P v o .any q.1 q.2:=by
 unfold k5p at h
 split at h
 ·rename_i t x y ho
  unfold kvx at h
  cases hd:ka3 T t with
  | none=>rw [hd] at h;cases h
  | some d=>
   rw [hd] at h
   generalize hx:v.eval x=ex at h
   cases ex with
   | ref id n off=>
    simp only at h
    cases hob:kab v.heap id with
    | none=>rw [hob] at h;cases h
    | some ob=>
     rw [hob] at h
     cases ob with
     | box e cells=>
      simp only at h
      cases hb:(Nat.beq n 0 && (Nat.beq (v.eval y).cells.length d.size && ((v.eval y).cells.all AV.single && Nat.ble (off+(v.eval y).cells.length) cells.length))) with
      | false=>rw [hb] at h;cases h
      | true=>
       rw [hb] at h
       simp only [qd,qh] at h
       subst h
       simp only [qu] at hb
       obtain ⟨b1,b2,b3,b4⟩:=hb
       obtain rfl:=qr b1
       exact fun hp' ids' hl=>k6k (st:={ v with heap:=hp',ids:=ids' }) ho (hT.get hd) hx (by rw [← hob];exact hl) rfl (qr b2) b3 (qac b4)
     | _=>cases h
   | _=>cases h
 ·cases h
theorem kaff (hT:TOk P T) {z:Zn} {k i:Nat} {o:Oper} {l:List Oper} {fs:FsT} {hp:List (Nat×AObj)} {nid:List Nat} {es:List (Nat×Nat)} (h:W P (k9h T z k i o l fs hp nid es ks st) Q):ky9 P z.os z.n z.ai (kis P ks Q) st (k+1) i (o::l) fs hp nid es:=by
 unfold k9h at h
 split at h
 ·rename_i c hc
  cases hk:okA st.ids c with
  | false=>rw [hk] at h;exact h.elim
  | true=>rw [hk] at h;exact .inl ⟨c,k24 hT hc,hk,h⟩
 ·split at h
  ·rename_i e cells hg ha
   cases hk:k5g z st es (Go.Proofs.YtaimpcnpifoidaaGreatDoor.fresh (nid++st.ids)) with
   | false=>rw [hk] at h;exact h.elim
   | true=>
    rw [hk] at h
    have hk':=hk
    unfold k5g at hk'
    rw [Bool.not_eq_true'] at hk'
    exact .inr (.inl ⟨_,_,_,hg,kacf hT ha _,hk',h⟩)
  ·rename_i hg _
   split at h
   ·rename_i q hq
    cases hk:(!(st.heap.any fun r=>r.1 == q.1) && befB z.os.toList i q.1 es) with
    | false=>rw [hk] at h;exact h.elim
    | true=>
     rw [hk] at h
     rw [qu,Bool.not_eq_true'] at hk
     exact .inr (.inr ⟨_,_,_,hg,kab7 hT hq,hk.1,hk.2,h⟩)
   ·exact h.elim
  ·exact h.elim
theorem kadd (hT:TOk P T) {g:Cfg} (h:W P (k9y T g) Q):W P g Q:=by
 unfold k9y at h
 split at h
 ·exact kadp h
 ·exact l_nil (kqn h)
 ·exact kad5 hT h
 ·exact h
 ·exact kadr hT h
 ·exact h
 ·exact kaff hT h
 ·exact h.elim
theorem kck [t:Tab P] {k:Nat} {g:Cfg} (h:W P (crun P k g) Q):W P g Q:=by
 unfold crun at h
 induction k with
 | zero=>exact h
 | succ k ih=>exact ih (kadd t.ok h)
variable [t:Tab P] {g:Cfg} {β:Type} {r:β}
def kzx (g:Cfg):Bool:=match g.foc with
 | .code _=>true
 | .ops _ _=>true
 | _=>false
def k6v (g:Cfg):Bool:=match g.foc with
 | .code _=>true
 | _=>false
def stOf (g:Cfg):St:=g.st
def krp (g:Cfg) (st:St):Cfg:=⟨g.foc,g.ks,st⟩
theorem wle (k:Nat) {st':St} (hl:LeSt (stOf (crun P k g)) st') (h:W P (krp (crun P k g) st') Q) (hc:kzx (crun P k g)=true:=by kernel_rfl):W P g Q:=by
 refine kck (k:=k) ?_
 generalize crun P k g=g' at *
 obtain ⟨foc,ks,st⟩:=g'
 cases foc with
 | code c=>exact kajw hl h
 | ops os l=>exact l_le hl h
 | _=>cases hc
def kagt (g:Cfg):Option Bool:=match g.foc with
 | .code (.cond c _ _)=>match g.st.eval c with
  | .fz (.atom (.bool b))=>some b
  | _=>none
 | _=>none
def brc (b:Bool) (g:Cfg):Cfg:=match g.foc with
 | .code (.cond _ x y)=>⟨.code (bif b then x else y),g.ks,g.st⟩
 | _=>⟨.bad,g.ks,g.st⟩
theorem cd (k:Nat) {b:Bool} {X Y:Option β} (h:(bif b then X else Y)=some r) (h1:X=some r→W P (brc true (crun P k g)) Q) (h2:Y=some r→W P (brc false (crun P k g)) Q) (hc:kagt (crun P k g)=some b:=by kernel_rfl):W P g Q:=by
 refine kck (k:=k) ?_
 generalize crun P k g=g' at *
 obtain ⟨foc,ks,st⟩:=g'
 have key:W P (brc b ⟨foc,ks,st⟩) Q:=by
  cases b with
  | true=>exact h1 h
  | false=>exact h2 h
 unfold kagt at hc
 simp only at hc
 split at hc
 ·rename_i c x y
  split at hc
  ·rename_i b' hb
   injection hc with hc
   subst hc
   exact k29 hb key
  ·cases hc
 ·cases hc
def setT (t:Nat) (v:AV):List (Nat×AV)→List (Nat×AV)
 | []=>[]
 | (k,x)::l=>bif Nat.beq k t then (k,v)::l else (k,x)::setT t v l
def setF (j:Nat) (v:AV):FsT→FsT
 | []=>[]
 | (k,d,x)::l=>bif Nat.beq k j then (k,d,v)::l else (k,d,x)::setF j v l
def getF (j:Nat):FsT→Option AV
 | []=>none
 | (k,d,x)::l=>bif Nat.beq k j then some x else getF j l
def kxa:AV→Option Bool
 | .fz (.atom (.bool b))=>some b
 | _=>none
def k35 (g:Cfg):Option Bool:=match g.foc with
 | .ops os (o::_)=>match o.guard with
  | some (j,_)=>match (os[j]?).bind (·.dst) with
   | some t=>kxa (g.st.get t)
   | none=>none
  | none=>none
 | .drz _ _ _ (o::_) fs _ _ _=>match o.guard with
  | some (j,_)=>match getF j fs with
   | some v=>kxa v
   | none=>none
  | none=>none
 | _=>none
def setG (b:Bool) (g:Cfg):Cfg:=match g.foc with
 | .ops os (o::l)=>match o.guard with
  | some (j,_)=>match (os[j]?).bind (·.dst) with
   | some t=>⟨.ops os (o::l),g.ks,{ g.st with tmps:=setT t (.fz (.atom (.bool b))) g.st.tmps }⟩
   | none=>g
  | none=>g
 | .drz z k i (o::l) fs hp ids pn=>match o.guard with
  | some (j,_)=>⟨.drz z k i (o::l) (setF j (.fz (.atom (.bool b))) fs) hp ids pn,g.ks,g.st⟩
  | none=>g
 | _=>g
theorem k6f {t:Nat} {b:Bool}:∀ {l:List (Nat×AV)},kxa (look .any l t)=some b→setT t (.fz (.atom (.bool b))) l=l
 | [],_=>rfl
 | (k,x)::l,h=>by
  simp only [setT,look] at h ⊢
  cases hk:Nat.beq k t with
  | true=>
   rw [hk] at h
   simp only [qd] at h ⊢
   unfold kxa at h
   split at h
   ·injection h with h;rw [h]
   ·cases h
  | false=>rw [hk] at h;simp only [qb] at h ⊢; rw [k6f h]
theorem k61 {j:Nat} {b:Bool}:∀ {l:FsT} {v:AV},getF j l=some v→kxa v=some b→setF j (.fz (.atom (.bool b))) l=l
 | [],_,h,_=>rfl
 | (k,d,x)::l,v,h,hb=>by
  simp only [setF,getF] at h ⊢
  cases hk:Nat.beq k j with
  | true=>
   rw [hk] at h
   simp only [qd,qh] at h ⊢
   subst h
   unfold kxa at hb
   split at hb
   ·injection hb with hb;rw [hb]
   ·cases hb
  | false=>rw [hk] at h;simp only [qb] at h ⊢; rw [k61 h hb]
theorem kah0 {b:Bool} (h:k35 g=some b):setG b g=g:=by
 obtain ⟨foc,ks,st⟩:=g
 unfold k35 at h
 unfold setG
 cases foc with
 | ops os l=>
  cases l with
  | nil=>rfl
  | cons o l=>
   try dsimp only at h ⊢
   split at h
   ·rename_i j w hg
    split at h
    ·rename_i t ht
     try simp only [ht]
     rw [k6f h]
    ·cases h
   ·cases h
 | drz z k i l fs hp ids pn=>
  cases l with
  | nil=>rfl
  | cons o l=>
   try dsimp only at h ⊢
   split at h
   ·rename_i j w hg
    split at h
    ·rename_i v hv
     try dsimp only
     rw [k61 hv h]
    ·cases h
   ·cases h
 | _=>rfl
theorem gd (k:Nat) {b:Bool} {X Y:Option β} (h:(bif b then X else Y)=some r) (h1:X=some r→W P (setG true (crun P k g)) Q) (h2:Y=some r→W P (setG false (crun P k g)) Q) (hc:k35 (crun P k g)=some b:=by kernel_rfl):W P g Q:=by
 refine kck (k:=k) ?_
 rw [← kah0 hc]
 cases b with
 | true=>exact h1 h
 | false=>exact h2 h
def kqq (g:Cfg):Option (Oper×St):=match g.foc with
 | .ops os (o::_)=>match kdv os g.st o,kuq g.st o with
  | some true,true=>some (o,g.st)
  | _,_=>none
 | .drz z (_+1) i (o::_) fs hp ids pn=>match kdv z.os (ko5 z g.st i o fs hp ids) o with
  | some true=>bif z.es.contains i || k2v z i pn then none else some (o,ko5 z g.st i o fs hp ids)
  | _=>none
 | .dry z (_+1) i (o::_) fs _ _ _=>match kdv z.os (kz2 z g.st i o fs) o with
  | some true=>some (o,kz2 z g.st i o fs)
  | _=>none
 | _=>none
def knx (g:Cfg):Oper:=match g.foc with
 | .ops _ (o::_)=>o
 | .drz _ _ _ (o::_) _ _ _ _=>o
 | .dry _ _ _ (o::_) _ _ _ _=>o
 | _=>default
def k2z (g:Cfg):St:=match kqq g with
 | some p=>p.2
 | none=>g.st
def rsm (c:AV) (g:Cfg):Cfg:=match g.foc with
 | .ops os (o::l)=>⟨.ops os l,g.ks,g.st.put o.dst c⟩
 | .drz z (k+1) i (o::l) fs hp ids pn=>bif phB z.os.toList z.es i || okA g.st.ids c then ⟨.drz z k (i+1) l ((i,o.dst,c)::fs) hp ids pn,g.ks,g.st⟩ else ⟨.bad,g.ks,g.st⟩
 | .dry z (k+1) i (o::l) fs hp nid es=>bif okA g.st.ids c then ⟨.dry z k (i+1) l ((i,o.dst,c)::fs) hp nid es,g.ks,g.st⟩ else ⟨.bad,g.ks,g.st⟩
 | _=>⟨.bad,g.ks,g.st⟩
end
section
variable {P:Program} {T:List (TypeId×TD)} {Q:Exit→St→Prop} {st:St} {ks:List Frm} {g:Cfg} {β:Type} {r:β}
theorem k3v {o:Oper} {v:St} {c:AV} (hv:kqq g=some (o,v)) (hn:NStep P o v c) (h:W P (rsm c g) Q):W P g Q:=by
 obtain ⟨foc,ks,st⟩:=g
 unfold kqq at hv
 simp only at hv
 split at hv
 ·split at hv
  ·rename_i hg hd
   simp only [qh,qad] at hv
   obtain ⟨rfl,rfl⟩:=hv
   exact kzs hn.step hg (krb hd) h
  ·cases hv
 ·rename_i z k i o' l fs hp ids pn
  split at hv
  ·rename_i hg
   generalize hb:(z.es.contains i || k2v z i pn)=b at hv
   cases b with
   | true=>cases hv
   | false=>
    rw [Bool.or_eq_false_iff] at hb
    simp only [qb,qh,qad] at hv
    obtain ⟨rfl,rfl⟩:=hv
    simp only [rsm] at h
    cases hk:(phB z.os.toList z.es i || okA st.ids c) with
    | false=>rw [hk] at h;exact h.elim
    | true=>rw [hk] at h;exact .inr (.inl ⟨hb.1,c, .inl ⟨hg,hn⟩,hk,h⟩)
  ·cases hv
 ·rename_i z k i o' l fs hp nid es
  split at hv
  ·rename_i hg
   simp only [qh,qad] at hv
   obtain ⟨rfl,rfl⟩:=hv
   simp only [rsm] at h
   cases hk:okA st.ids c with
   | false=>rw [hk] at h;exact h.elim
   | true=>rw [hk] at h;exact .inl ⟨c, .inl ⟨hg,hn⟩,hk,h⟩
  ·cases hv
 ·cases hv
end
section
variable {P:Program} {T:List (TypeId×TD)} {Q:Exit→St→Prop} {st:St} {ks:List Frm} [t:Tab P] {g:Cfg} {β:Type} {r:β}
def mokV (g:Cfg):Bool:=(kqq g).isSome
theorem k5a {o:Oper} {v:St} (h:kqq g=some (o,v)):knx g=o∧k2z g=v:=by
 refine ⟨?_,by unfold k2z;rw [h]⟩
 obtain ⟨foc,ks,st⟩:=g
 unfold kqq at h
 unfold knx
 simp only at h ⊢
 split at h
 ·split at h
  ·simp only [qh,qad] at h;exact h.1
  ·cases h
 ·rename_i z k i o' l fs hp ids pn
  split at h
  ·generalize (z.es.contains i || _)=b at h
   cases b with
   | true=>cases h
   | false=>simp only [qb,qh,qad] at h;exact h.1
  ·cases h
 ·split at h
  ·simp only [qh,qad] at h;exact h.1
  ·cases h
 ·cases h
theorem nst (k:Nat) {c:AV} (hn:NStep P (knx (crun P k g)) (k2z (crun P k g)) c) (h:W P (rsm c (crun P k g)) Q) (hv:mokV (crun P k g)=true:=by kernel_rfl):W P g Q:=by
 refine kck (k:=k) ?_
 unfold mokV at hv
 obtain ⟨⟨o,v⟩,hv⟩:=Option.isSome_iff_exists.1 hv
 obtain ⟨e1,e2⟩:=k5a hv
 rw [e1,e2] at hn
 exact k3v hv hn h
def okP (g:Cfg):Bool:=match g.foc with
 | .ops os (o::_)=>match kdv os g.st o,kuq g.st o with
  | some true,true=>true
  | _,_=>false
 | _=>false
def rsmA (c:AV) (h:List (Nat×AObj)) (i:List Nat) (g:Cfg):Cfg:=match g.foc with
 | .ops os (o::l)=>⟨.ops os l,g.ks,({ g.st with heap:=h,ids:=i }:St).put o.dst c⟩
 | _=>⟨.bad,g.ks,g.st⟩
theorem sst (k:Nat) {c:AV} {h:List (Nat×AObj)} {i:List Nat} (hn:kdf P (knx (crun P k g)) (stOf (crun P k g)) c h i) (hv:okP (crun P k g)=true) (hw:W P (rsmA c h i (crun P k g)) Q):W P g Q:=by
 refine kck (k:=k) ?_
 generalize crun P k g=g' at *
 obtain ⟨foc,ks,st⟩:=g'
 unfold okP at hv
 simp only at hv
 split at hv
 ·split at hv
  ·rename_i hg hd
   exact kzs hn hg (krb hd) hw
  ·cases hv
 ·cases hv
def dzOk (n:Nat) (es ai:List Nat) (g:Cfg):Bool:=match g.foc with
 | .code (.region _ os true)=>relB os.toList n g.st.n && (kabx os.toList n es && g.st.ids.all ai.contains)
 | _=>false
def dzOf (n:Nat) (es ch ai:List Nat) (g:Cfg):Cfg:=match g.foc with
 | .code (.region _ os true)=>⟨.drz ⟨os,n,es,ch,ai⟩ n 0 os.toList [] g.st.heap g.st.ids none,g.ks,g.st⟩
 | _=>⟨.bad,g.ks,g.st⟩
theorem dz (k n:Nat) (es ch ai:List Nat) (hc:dzOk n es ai (crun P k g)=true) (hw:W P (dzOf n es ch ai (crun P k g)) Q):W P g Q:=by
 refine kck (k:=k) ?_
 generalize crun P k g=g' at *
 obtain ⟨foc,ks,st⟩:=g'
 unfold dzOk at hc
 simp only at hc
 split at hc
 ·rename_i id os
  simp only [qu] at hc
  obtain ⟨l⟩:=os
  exact kaht t.mixed hc.1 hc.2.1 hc.2.2 hw
 ·cases hc
def kagm (g:Cfg):List Nat:=g.st.ids
theorem dw (k n:Nat) (hw:W P (dzOf n [] [] (kagm (crun P k g)) (crun P k g)) Q) (hc:dzOk n [] (kagm (crun P k g)) (crun P k g)=true:=by kernel_rfl):W P g Q:=dz k n [] [] _ hc hw
def okZ (g:Cfg):Bool:=match g.foc with
 | .drz z (_+1) i (o::_) fs hp ids none=>z.es.contains i && (match kdv z.os (ko5 z g.st i o fs hp ids) o with | some true=>true | _=>false)
 | _=>false
def kh0 (g:Cfg):St:=match g.foc with
 | .drz z _ i (o::_) fs hp ids _=>ko5 z g.st i o fs hp ids
 | _=>g.st
def offZ (g:Cfg) (h:List (Nat×AObj)):List (Option AObj):=match g.foc with
 | .drz z _ _ _ _ hp _ _=>(kug z.ch hp).map (kab h)
 | _=>[]
def hpZ (g:Cfg):List (Nat×AObj):=match g.foc with
 | .drz _ _ _ _ _ hp _ _=>hp
 | _=>[]
def idsZ (i':List Nat) (g:Cfg):Bool:=match g.foc with
 | .drz z _ _ _ _ _ ids _=>ktq z.ai ids i'
 | _=>false
def rsmZ (c:AV) (h':List (Nat×AObj)) (i':List Nat) (g:Cfg):Cfg:=match g.foc with
 | .drz z (k+1) i (o::l) fs _ _ _=>⟨.drz z k (i+1) l ((i,o.dst,c)::fs) h' i' none,g.ks,g.st⟩
 | _=>⟨.bad,g.ks,g.st⟩
theorem zst (k:Nat) {c:AV} {h':List (Nat×AObj)} {i':List Nat} (hn:kdf P (knx (crun P k g)) (kh0 (crun P k g)) c h' i') (hv:okZ (crun P k g)=true) (hi:idsZ i' (crun P k g)=true) (hk:offZ (crun P k g) h'=offZ (crun P k g) (hpZ (crun P k g))) (hw:W P (rsmZ c h' i' (crun P k g)) Q):W P g Q:=by
 refine kck (k:=k) ?_
 generalize crun P k g=g' at *
 obtain ⟨foc,ks,st⟩:=g'
 unfold okZ at hv
 simp only at hv
 split at hv
 ·rename_i z k i o l fs hp ids
  simp only [qu] at hv
  obtain ⟨h1,h2⟩:=hv
  split at h2
  ·rename_i hg
   exact .inr (.inr (.inl ⟨h1,rfl,c,h',i',⟨.inl ⟨hg,hn⟩, .inr ⟨kakz hk,kx0 hi⟩⟩,hw⟩))
  ·cases h2
 ·cases hv
def rsmP (g:Cfg):Cfg:=match g.foc with
 | .drz z (k+1) i (o::l) fs hp ids _=>⟨.drz z k (i+1) l ((i,o.dst, .any)::fs) hp ids (some i),g.ks,g.st⟩
 | _=>⟨.bad,g.ks,g.st⟩
theorem zpn (k:Nat) {v:Value} {h':List (Nat×AObj)} {i':List Nat} (hn:k3m P (knx (crun P k g)) (kh0 (crun P k g)) v h' i') (hv:okZ (crun P k g)=true) (hq:W P ⟨.fin (.panic [pnE v]),[],{ stOf (crun P k g) with tmps:=[],heap:=h',ids:=i' }⟩ Q) (hw:W P (rsmP (crun P k g)) Q):W P g Q:=by
 refine kck (k:=k) ?_
 generalize crun P k g=g' at *
 obtain ⟨foc,ks,st⟩:=g'
 unfold okZ at hv
 simp only at hv
 split at hv
 ·rename_i z k i o l fs hp ids
  simp only [qu] at hv
  obtain ⟨h1,h2⟩:=hv
  split at h2
  ·rename_i hg
   exact .inr (.inr (.inr ⟨h1,rfl,⟨hg,v,h',i',hn,kwz hq⟩,hw⟩))
  ·cases h2
 ·cases hv
def kagf (g:Cfg):Bool:=match g.foc with
 | .drz _ 0 _ _ _ _ _ (some _)=>true
 | _=>false
theorem zdd (k:Nat) (hc:kagf (crun P k g)=true:=by kernel_rfl):W P g Q:=by
 refine kck (k:=k) ?_
 generalize crun P k g=g' at *
 obtain ⟨foc,ks,st⟩:=g'
 unfold kagf at hc
 simp only at hc
 split at hc
 ·exact trivial
 ·cases hc
def mpre (g:Cfg):Cfg:=⟨g.foc,[],g.st⟩
def ksOf (g:Cfg):List Frm:=g.ks
end
section
variable {P:Program} {T:List (TypeId×TD)} {Q:Exit→St→Prop} {st:St} {ks:List Frm} {g:Cfg} {β:Type} {r:β}
theorem kafy {os:Array Oper} {l:List Oper} (h:awpL P os l st fun e st'=>∃ st2,LeSt st' st2∧Q e st2):awpL P os l st Q:=fun F S0 N0 ψ S a w hs=>
 kge (fun e a' w' ⟨st',ψ',S',⟨st2,h0,h1⟩,h2,h3⟩=>by
  obtain ⟨ψ2,S2,h4⟩:=h0 F S0 N0 ψ' S' a' w' h2
  exact ⟨st2,ψ2,S2,h1,h4,h3⟩) _ _ _ (h F S0 N0 ψ S a w hs)
theorem kaas {os:Array Oper} {l:List Oper} {Q':Exit→St→Prop} (h:awpL P os l st Q) (hq:∀ e st,Q e st→Q' e st):awpL P os l st Q':=fun F S0 N0 ψ S a w hs=>
 kge (fun e a' w' ⟨st',ψ',S',h1,h2⟩=>⟨st',ψ',S',hq _ _ h1,h2⟩) _ _ _ (h F S0 N0 ψ S a w hs)
end
section
variable {P:Program} {T:List (TypeId×TD)} {Q:Exit→St→Prop} {st:St} {ks:List Frm} [t:Tab P] {g:Cfg} {β:Type} {r:β}
def WeakQ (Q:Exit→St→Prop):Exit→St→Prop:=fun e st'=>∃ st2,LeSt st' st2∧Q e st2
end
section
variable {P:Program} {T:List (TypeId×TD)} {Q:Exit→St→Prop} {st:St} {ks:List Frm} {g:Cfg} {β:Type} {r:β}
end
section
variable {P:Program} {T:List (TypeId×TD)} {Q:Exit→St→Prop} {st:St} {ks:List Frm} [t:Tab P] {g:Cfg} {β:Type} {r:β}
theorem jn (k:Nat) (Qa:Exit→St→Prop) (hc:kzx (crun P k g)=true) (ha:W P (mpre (crun P k g)) Qa) (hb:∀ e st',Qa e st'→∃ st2,LeSt st' st2∧W P (unw e (ksOf (crun P k g)) st2) Q):W P g Q:=by
 refine kck (k:=k) ?_
 generalize crun P k g=g' at *
 obtain ⟨foc,ks,st⟩:=g'
 have hq:∀ e st',Qa e st'→WeakQ (kis P ks Q) e st':=fun e st' h=>let ⟨st2,h1,h2⟩:=hb e st' h;⟨st2,h1,kaao h2⟩
 cases foc with
 | code c=>exact kui (kuc (show awp P c st Qa from ha) hq)
 | ops os l=>exact kafy (kaas (show awpL P os l st Qa from ha) hq)
 | _=>cases hc
theorem jn1 {α:Type} {E:Option α} {K:α→Option β} (k:Nat) (e:Exit) (J:α→St) (h:Option.bind E K=some r) (ha:∀ v,E=some v→W P (mpre (crun P k g)) fun e' st=>e'=e∧LeSt st (J v)) (hb:∀ v,K v=some r→W P (unw e (ksOf (crun P k g)) (J v)) Q) (hc:kzx (crun P k g)=true:=by kernel_rfl):W P g Q:=by
 obtain ⟨v,h1,h2⟩:=qi.1 h
 refine jn k _ hc (ha v h1) ?_
 rintro _ st' ⟨rfl,hl⟩
 exact ⟨_,hl,hb v h2⟩
theorem jnQ {α:Type} {E:Option α} {K:α→Option β} (k:Nat) (Qa:α→Exit→St→Prop) (h:Option.bind E K=some r) (ha:∀ v,E=some v→W P (mpre (crun P k g)) (Qa v)) (hb:∀ v,K v=some r→∀ e st',Qa v e st'→∃ st2,LeSt st' st2∧W P (unw e (ksOf (crun P k g)) st2) Q) (hc:kzx (crun P k g)=true:=by kernel_rfl):W P g Q:=by
 obtain ⟨v,h1,h2⟩:=qi.1 h
 exact jn k _ hc (ha v h1) (hb v h2)
def kagg:FV→C0
 | .lst s _ _ => .sl s
 | .bx _ => .px
 | _ => .keep
def k85:AV→C0
 | .fz x=>kagg x
 | _ => .keep
def auto1:AV→C1
 | .fz (.agg xs) => .ag (xs.map kagg)
 | .agg xs => .ag (xs.map k85)
 | x => .one (k85 x)
def autoT (st:St):List (Nat×C1):=st.tmps.map fun p=>(p.1,auto1 p.2)
def autoO:AObj→List C0
 | .box _ cs=>cs.map k85
 | _=>[]
def autoH (st:St):List (Nat×List C0):=st.heap.map fun p=>(p.1,autoO p.2)
def coA (st J:St):Option St:=coSt st J.ids (autoT J) (autoH J)
theorem le_a {st J:St} (h:coA st J=some J:=by kernel_rfl):LeSt st J:=kagc h
def kp8:Foc→Exit→Bool
 | .fin .normal, .normal=>true
 | .fin .ret, .ret=>true
 | .fin (.exit i), .exit j=>Nat.beq i j
 | _,_=>false
theorem kye {foc:Foc} {e:Exit} (h:kp8 foc e=true):foc = .fin e∧(e = .normal∨e = .ret∨∃ i,e = .exit i):=by
 unfold kp8 at h
 split at h
 ·exact ⟨rfl, .inl rfl⟩
 ·exact ⟨rfl, .inr (.inl rfl)⟩
 ·rename_i i j;rw [qr h];exact ⟨rfl, .inr (.inr ⟨_,rfl⟩)⟩
 ·cases h
def jok (g:Cfg) (e:Exit) (J:St):Option St:=bif kp8 g.foc e then coA g.st J else none
end
section
variable {P:Program} {T:List (TypeId×TD)} {Q:Exit→St→Prop} {st:St} {ks:List Frm} {g:Cfg} {β:Type} {r:β}
end
section
variable {P:Program} {T:List (TypeId×TD)} {Q:Exit→St→Prop} {st:St} {ks:List Frm} [t:Tab P] {g:Cfg} {β:Type} {r:β}
def nilK (g:Cfg):Bool:=match g.ks with
 | []=>true
 | _=>false
theorem lj (k:Nat) {e:Exit} {J:St} (hc:(bif nilK (crun P k g) then jok (crun P k g) e J else none)=some J:=by kernel_rfl):W P g fun e' st=>e'=e∧LeSt st J:=by
 refine kck (k:=k) ?_
 generalize crun P k g=g' at *
 obtain ⟨foc,ks,st⟩:=g'
 cases ks with
 | cons=>cases hc
 | nil=>
  simp only [nilK,jok,qd] at hc
  cases hf:kp8 foc e with
  | false=>rw [hf] at hc;cases hc
  | true=>
   rw [hf] at hc
   obtain ⟨rfl,_⟩:=kye hf
   exact ⟨rfl,le_a hc⟩
theorem lo (k:Nat) {e:Exit} {J:St} (hc:(bif nilK (crun P k g) && !kp8 (crun P k g).foc .normal then jok (crun P k g) e J else none)=some J):W P g fun e' st=>(e' ≠ .normal∧e' ≠ .outgrown)∧(e'=e∧LeSt st J):=by
 refine kck (k:=k) ?_
 generalize crun P k g=g' at *
 obtain ⟨foc,ks,st⟩:=g'
 cases ks with
 | cons=>cases hc
 | nil=>
  simp only [nilK,jok,Bool.true_and] at hc
  cases hn:kp8 foc .normal with
  | true=>rw [hn] at hc;cases hc
  | false=>
   rw [hn] at hc
   cases hf:kp8 foc e with
   | false=>rw [hf] at hc;cases hc
   | true=>
    rw [hf] at hc
    obtain ⟨rfl,he⟩:=kye hf
    refine ⟨⟨fun h=>?_,fun h=>?_⟩,rfl,le_a hc⟩
    ·subst h;cases hn
    ·rcases he with rfl | rfl | ⟨i,rfl⟩ <;> cases h
theorem lox (k:Nat) {e:Exit} {J:St} (hl:LeSt (stOf (crun P k g)) J) (hc:(nilK (crun P k g) && (!kp8 (crun P k g).foc .normal && kp8 (crun P k g).foc e))=true:=by kernel_rfl):W P g fun e' st=>(e' ≠ .normal∧e' ≠ .outgrown)∧(e'=e∧LeSt st J):=by
 refine kck (k:=k) ?_
 generalize crun P k g=g' at *
 obtain ⟨foc,ks,st⟩:=g'
 simp only [qu,Bool.not_eq_true'] at hc
 cases ks with
 | cons=>cases hc.1
 | nil=>
  obtain ⟨rfl,he⟩:=kye hc.2.2
  refine ⟨⟨fun h=>?_,fun h=>?_⟩,rfl,hl⟩
  ·subst h;cases hc.2.1
  ·rcases he with rfl | rfl | ⟨i,rfl⟩ <;> cases h
def ko4:Foc→Bool
 | .fin .normal=>true
 | .fin .ret=>true
 | _=>false
def kv7:Foc→Bool
 | .fin .ret=>true
 | _=>false
def rokq (T:List (TypeId×TD)) (g:Cfg) (rs:List ResultVar) (cs:List C1):Option FV:=bif nilK g && ko4 g.foc then retX T g.st rs cs else none
def rokr (T:List (TypeId×TD)) (g:Cfg) (rs:List ResultVar) (cs:List C1):Option FV:=bif kv7 g.foc then retX T g.st rs cs else none
theorem lq (k:Nat) {rs:List ResultVar} {cs:List C1} {y:FV} (hc:rokq t.T (crun P k g) rs cs=some y:=by kernel_rfl):W P g (retQ t.T rs cs y):=by
 refine kck (k:=k) ?_
 generalize crun P k g=g' at *
 obtain ⟨foc,ks,st⟩:=g'
 unfold rokq at hc
 cases ks with
 | cons=>cases hc
 | nil=>
  simp only [nilK,Bool.true_and] at hc
  cases hf:ko4 foc with
  | false=>rw [hf] at hc;cases hc
  | true=>
   rw [hf] at hc
   unfold ko4 at hf
   split at hf
   ·exact hc
   ·exact hc
   ·cases hf
theorem lr (k:Nat) {rs:List ResultVar} {cs:List C1} {y:FV} (hc:rokr t.T (crun P k g) rs cs=some y:=by kernel_rfl):W P g fun e st=>e = .ret∧retX t.T st rs cs=some y:=by
 refine kck (k:=k) ?_
 generalize crun P k g=g' at *
 obtain ⟨foc,ks,st⟩:=g'
 unfold rokr at hc
 cases hf:kv7 foc with
 | false=>simp only [hf] at hc;cases hc
 | true=>
  simp only [hf] at hc
  unfold kv7 at hf
  split at hf
  ·exact kwj (Q:=fun e st=>e = .ret∧retX t.T st rs cs=some y) ⟨rfl,hc⟩
  ·cases hf
theorem lor (k:Nat) {rs:List ResultVar} {cs:List C1} {y:FV} (hc:rokr t.T (crun P k g) rs cs=some y:=by kernel_rfl):W P g fun e st=>(e ≠ .normal∧e ≠ .outgrown)∧(e = .ret∧retX t.T st rs cs=some y):=by
 refine kck (k:=k) ?_
 generalize crun P k g=g' at *
 obtain ⟨foc,ks,st⟩:=g'
 unfold rokr at hc
 cases hf:kv7 foc with
 | false=>simp only [hf] at hc;cases hc
 | true=>
  simp only [hf] at hc
  unfold kv7 at hf
  split at hf
  ·exact kwj (Q:=fun e st=>(e ≠ .normal∧e ≠ .outgrown)∧(e = .ret∧retX t.T st rs cs=some y)) ⟨⟨(fun h=>nomatch h),(fun h=>nomatch h)⟩,rfl,hc⟩
  ·cases hf
theorem lv {rs:List ResultVar} {cs:List C1} {y:FV} {st:St} {ks:List Frm} (h:retX t.T st rs cs=some y):W P (unw .ret ks st) (retQ t.T rs cs y):=h
theorem lvr {rs:List ResultVar} {cs:List C1} {y:FV} {st:St} {ks:List Frm} (h:retX t.T st rs cs=some y):W P (unw .ret ks st) fun e st=>e = .ret∧retX t.T st rs cs=some y:=⟨rfl,h⟩
theorem lvo {rs:List ResultVar} {cs:List C1} {y:FV} {st:St} {ks:List Frm} (h:retX t.T st rs cs=some y):W P (unw .ret ks st) fun e st=>(e ≠ .normal∧e ≠ .outgrown)∧(e = .ret∧retX t.T st rs cs=some y):=⟨⟨fun h=>(nomatch h),fun h=>(nomatch h)⟩,rfl,h⟩
end
section
variable {P:Program} {T:List (TypeId×TD)} {Q:Exit→St→Prop} {st:St} {ks:List Frm} {g:Cfg} {β:Type} {r:β}
theorem ls {α:Type} {X v:α} {Qf:α→Exit→St→Prop} (h:some X=some v) (hw:W P g (Qf X)):W P g (Qf v):=by
 obtain rfl:=qp h
 exact hw
end
section
variable {P:Program} {T:List (TypeId×TD)} {Q:Exit→St→Prop} {st:St} {ks:List Frm} [t:Tab P] {g:Cfg} {β:Type} {r:β}
def kabd (g:Cfg):Cfg:=match g.foc with
 | .code (.loop c)=>⟨.code c,[],g.st⟩
 | _=>⟨.bad,[],g.st⟩
def k4z (g:Cfg):Bool:=match g.foc with
 | .code (.loop _)=>true
 | _=>false
theorem lpx {σ α:Type} {step:σ→Option (σ ⊕ α)} {n:Nat} {s0:σ} {K:α→Option β} (k:Nat) (H:σ→St) (Qb:α→Exit→St→Prop) (h:Option.bind (kaa step n s0) K=some r) (hc:k4z (crun P k g)=true) (h0:LeSt (stOf (crun P k g)) (H s0))
  (hb:∀ s r',step s=some r'→W P (krp (kabd (crun P k g)) (H s)) (Sum.elim (fun s' e st=>e = .normal∧LeSt st (H s')) (fun v e st=>(e ≠ .normal∧e ≠ .outgrown)∧Qb v e st) r'))
  (ha:∀ v,K v=some r→∀ e st',Qb v e st'→∃ st2,LeSt st' st2∧W P (unw e (ksOf (crun P k g)) st2) Q):W P g Q:=by
 refine kck (k:=k) ?_
 generalize crun P k g=g' at *
 obtain ⟨foc,ks,st⟩:=g'
 obtain ⟨v,h1,h2⟩:=qi.1 h
 unfold k4z at hc
 simp only at hc
 split at hc
 ·rename_i c
  refine kad9 (kabr (P:=P) (body:=c) (st:=st) H (Qb:=Qb) h1 h0 fun s r' hs=>?_) fun e st' hq=>?_
  ·have:=hb s r' hs
   cases r' with
   | inl s'=>exact this
   | inr b=>exact this
  ·obtain ⟨st2,e1,e2⟩:=ha v h2 e st' hq
   exact ⟨st2,e1,kaao e2⟩
 ·cases hc
theorem lp1 {σ α:Type} {step:σ→Option (σ ⊕ α)} {n:Nat} {s0:σ} {K:α→Option β} (k:Nat) (H:σ→St) (e:Exit) (J:α→St) (h:Option.bind (kaa step n s0) K=some r) (hb:∀ s r',step s=some r'→W P (krp (kabd (crun P k g)) (H s)) (Sum.elim (fun s' e st=>e = .normal∧LeSt st (H s')) (fun v e' st=>(e' ≠ .normal∧e' ≠ .outgrown)∧(e'=e∧LeSt st (J v))) r')) (ha:∀ v,K v=some r→W P (unw e (ksOf (crun P k g)) (J v)) Q) (hc:k4z (crun P k g)=true:=by kernel_rfl) (h0:coA (stOf (crun P k g)) (H s0)=some (H s0):=by kernel_rfl):W P g Q:=by
 refine lpx k H _ h hc (le_a h0) hb fun v hv e' st' hq=>?_
 obtain ⟨rfl,hl⟩:=hq
 exact ⟨_,hl,ha v hv⟩
theorem opc (k:Nat) {id:Nat} {e:TypeId} {cells:List AV} (h1:W P (krp (crun P k g) { stOf (crun P k g) with heap:=(id, .box e (.fz (.atom (.pointer none))::cells))::(stOf (crun P k g)).heap }) Q) (h2:W P (krp (crun P k g) { stOf (crun P k g) with heap:=(id, .box e (.ref id 0 0::cells))::(stOf (crun P k g)).heap }) Q) (hob:kab (stOf (crun P k g)).heap id=some (.box e (.opt id::cells)):=by kernel_rfl) (hc:k6v (crun P k g)=true:=by kernel_rfl):W P g Q:=by
 refine kck (k:=k) ?_
 generalize crun P k g=g' at *
 obtain ⟨foc,ks,st⟩:=g'
 cases foc with
 | code c=>exact k46 hob h1 h2
 | _=>cases hc
def kk4 (fn:Func):Code:=fn.body.getD .skip
theorem kpt {fn:Func} (h:fn.body.isSome=true):fn.body=some (kk4 fn):=by
 unfold kk4
 cases hb:fn.body with
 | none=>rw [hb] at h;cases h
 | some c=>rfl
def inlW (P:Program) (os:Array Oper) (l:List Oper) (ks:List Frm) (dst:Option Nat) (n:Nat) (D:List Deferred) (gi:Nat) (cs:List Value) (keep:List (Nat×AV)) (rs:List ResultVar) (Q:Exit→St→Prop):Exit→St→Prop:=inlQ P os l dst n D gi cs keep rs (kis P ks Q)
def inlF (g:Cfg):Option (FuncId×List AV):=match g.foc with
 | .ops os (o::_)=>match kdv os g.st o,kuq g.st o with
  | some true,true=>match o.op with
   | .call c=>match c.callee with
    | .value x=>match g.st.eval x with
     | .fn f cap=>some (f,c.args.toList.map g.st.eval++cap)
     | _=>none
    | _=>none
   | _=>none
  | _,_=>none
 | _=>none
def opsOf (g:Cfg):Array Oper:=match g.foc with
 | .ops os _=>os
 | _=>#[]
def kakp (g:Cfg):List Oper:=match g.foc with
 | .ops _ (_::l)=>l
 | _=>[]
def dstOf (g:Cfg):Option Nat:=match g.foc with
 | .ops _ (o::_)=>o.dst
 | _=>none
theorem inl (k : Nat) {f : FuncId} {fn : Func} {n gi : Nat} {ys : List AV} (hf : P.funcs[f]? = some fn) (hb : fn.body.isSome = true) (hn : (fn.name == "runtime.NumGoroutine") = false) (hnt : fn.ntmps = n) (hle : Nat.ble ys.length n = true) (hgi : (stOf (crun P k g)).ids.contains gi = false)
  (hc:inlF (crun P k g)=some (f,ys))
  (h:∀ cs,W P ⟨.code (kk4 fn),[],{ n:=n,tmps:=argT 0 ys,heap:=(gi, .gho cs ((stOf (crun P k g)).tmps.map fun p=>(stOf (crun P k g)).get p.1))::(stOf (crun P k g)).heap,ids:=gi::(stOf (crun P k g)).ids }⟩
   (inlW P (opsOf (crun P k g)) (kakp (crun P k g)) (ksOf (crun P k g)) (dstOf (crun P k g)) (stOf (crun P k g)).n (stOf (crun P k g)).dfr gi cs (stOf (crun P k g)).tmps fn.results.toList Q)):W P g Q:=by
 refine kck (k:=k) ?_
 generalize crun P k g=g' at *
 obtain ⟨foc,ks,st⟩:=g'
 unfold inlF at hc
 simp only at hc
 split at hc
 ·split at hc
  ·rename_i hg hd
   split at hc
   ·rename_i c' ho
    split at hc
    ·rename_i x hx
     split at hc
     ·rename_i f' cap hv
      simp only [qh,qad] at hc
      obtain ⟨rfl,rfl⟩:=hc
      obtain ⟨cc,as1,ts⟩:=c'
      simp only at hx
      subst hx
      exact kafa ho hv hg (krb hd) hf (kpt hb) hn hnt rfl hle hgi h
     ·cases hc
    ·cases hc
   ·cases hc
  ·cases hc
 ·cases hc
theorem hcx0 {f : FuncId} {fn : Func} {args : List AV} {pre : List (Nat × AObj)} {ids : List Nat} {E : HEnd} {post : List (Nat × AObj)} {ids' : List Nat} {gi : Nat} (hf : P.funcs[f]? = some fn) (hb : fn.body.isSome = true) (hn : (fn.name == "runtime.NumGoroutine") = false)
  (hle:Nat.ble args.length fn.ntmps=true) (hg:ids.contains gi=false) (hg':ids'.contains gi=false) (hp':(post.all fun p=>okO ids' p.2)=true) (hE:E.ok ids'=true) (hk:(post.all fun p=>ids'.contains p.1)=true)
  (h:∀ ψ0 S1 w0,W P ⟨.code (kk4 fn),[],{ n:=fn.ntmps,tmps:=argT 0 args,heap:=(gi, .was ψ0 ids S1 w0)::pre,ids:=gi::ids }⟩ (hQ t.T fn.results.toList gi ids E post ids' ψ0 S1 w0)):kat P f args pre ids E post ids':=
 kvq t.ok hf (kpt hb) hn hle hg hg' hp' hE hk h
theorem hcx {f : FuncId} {fn : Func} {args : List AV} {pre : List (Nat × AObj)} {ids : List Nat} {E : HEnd} {post : List (Nat × AObj)} {ids' : List Nat} {gi : Nat} (hf : P.funcs[f]? = some fn) (h : ∀ ψ0 S1 w0, W P ⟨.code (kk4 fn), [], { n := fn.ntmps, tmps := argT 0 args, heap := (gi, .was ψ0 ids S1 w0) :: pre, ids := gi :: ids }⟩ (hQ t.T fn.results.toList gi ids E post ids' ψ0 S1 w0)) (hb : fn.body.isSome = true := by kernel_rfl) (hn : (fn.name == "runtime.NumGoroutine") = false := by kernel_rfl) (hle : Nat.ble args.length fn.ntmps = true := by kernel_rfl) (hg : ids.contains gi = false := by kernel_rfl) (hg' : ids'.contains gi = false := by kernel_rfl) (hp' : (post.all fun p => okO ids' p.2) = true := by kernel_rfl) (hE : E.ok ids' = true := by kernel_rfl) (hk : (post.all fun p => ids'.contains p.1) = true := by kernel_rfl) : kat P f args pre ids E post ids' :=
 hcx0 hf hb hn hle hg hg' hp' hE hk h
theorem lh (k:Nat) {rs:List ResultVar} {gi:Nat} {ids ids':List Nat} {res:AV} {post:List (Nat×AObj)} {ψ0:Env} {S1:Nat→Prop} {w0:World} (st2:St) (hl:LeSt (stOf (crun P k g)) st2) (hh:st2.heap=(gi, .was ψ0 ids S1 w0)::post) (hi:st2.ids=gi::ids')
  (hc:(nilK (crun P k g) && ko4 (crun P k g).foc)=true:=by kernel_rfl) (hr:retA t.T st2 rs=some res:=by kernel_rfl):W P g (hQ t.T rs gi ids (.ret res) post ids' ψ0 S1 w0):=by
 refine kck (k:=k) ?_
 generalize crun P k g=g' at *
 obtain ⟨foc,ks,st⟩:=g'
 simp only [qu] at hc
 cases ks with
 | cons=>cases hc.1
 | nil=>
  have hf:ko4 foc=true:=hc.2
  unfold ko4 at hf
  split at hf
  ·exact kz5 hl hh hi (.inl rfl) hr
  ·exact kz5 hl hh hi (.inr rfl) hr
  ·cases hf
def zipR (st:St):List ResultVar→List AV→List (Nat×AV)
 | .tmp t::rs,x::xs=>(t,x)::zipR st rs xs
 | .cell t _::rs,_::xs=>(t,st.get t)::zipR st rs xs
 | _,_=>[]
def retT (st:St):List ResultVar→AV→List (Nat×AV)
 | [.tmp t],a=>[(t,a)]
 | [.cell t _],_=>[(t,st.get t)]
 | rs, .fz (.tup xs)=>zipR st rs (xs.map .fz)
 | rs, .tup xs=>zipR st rs xs
 | _,_=>[]
def retJ (st:St) (rs:List ResultVar) (res:AV) (gi:Nat) (o:AObj) (post:List (Nat×AObj)) (ids':List Nat):St:={ n:=st.n,tmps:=retT st rs res,heap:=(gi,o)::post,ids:=gi::ids' }
theorem lhy (k:Nat) {rs:List ResultVar} {gi:Nat} {ids ids':List Nat} {res:AV} {post:List (Nat×AObj)} {ψ0:Env} {S1:Nat→Prop} {w0:World} (hl:coA (stOf (crun P k g)) (retJ (stOf (crun P k g)) rs res gi (.was ψ0 ids S1 w0) post ids')=some (retJ (stOf (crun P k g)) rs res gi (.was ψ0 ids S1 w0) post ids'):=by kernel_rfl)
  (hc:(nilK (crun P k g) && ko4 (crun P k g).foc)=true:=by kernel_rfl) (hr:retA t.T (retJ (stOf (crun P k g)) rs res gi (.was ψ0 ids S1 w0) post ids') rs=some res:=by kernel_rfl):W P g (hQ t.T rs gi ids (.ret res) post ids' ψ0 S1 w0):=
 lh k _ (le_a hl) rfl rfl hc hr
theorem pcl {f : FuncId} {fn : Func} {args : List FV} {y : FV} (cs : List C1) (hf : P.funcs[f]? = some fn) (h : W P ⟨.code (kk4 fn), [], { n := fn.ntmps, tmps := ko8 0 args, heap := [], ids := [] }⟩ (retQ t.T fn.results.toList cs y)) (hb : fn.body.isSome = true := by kernel_rfl) (hn : (fn.name == "runtime.NumGoroutine") = false := by kernel_rfl) (hle : Nat.ble args.length fn.ntmps = true := by kernel_rfl) : kae P f args y := k54 t.ok cs hf (kpt hb) hn hle h
def pncV (g:Cfg):Option Value:=match g.foc with
 | .ops os (o::_)=>match kdv os g.st o,o.op with
  | some true, .panic x=>match g.st.eval x with
   | .fz (.atom (.iface t v))=>some (.iface t v)
   | _=>none
  | _,_=>none
 | _=>none
theorem pnc (k:Nat) {v:Value} (h:W P ⟨.fin (.panic [pnE v]),[],stOf (crun P k g)⟩ Q) (hc:pncV (crun P k g)=some v:=by kernel_rfl):W P g Q:=by
 refine kck (k:=k) ?_
 generalize crun P k g=g' at *
 obtain ⟨foc,ks,st⟩:=g'
 unfold pncV at hc
 simp only at hc
 split at hc
 ·rename_i os o l
  split at hc
  ·rename_i x hg ho
   split at hc
   ·rename_i tt u hx
    injection hc with hc
    subst hc
    intro F S0 N0 ψ S a w hs
    unfold wpList
    rw [kjw hs hg]
    have hv:=hs.eval x
    rw [hx] at hv
    have hv:=hv.atom
    refine .inl ?_
    unfold Oper.wp
    have hrun:(execOp a.eval o).run P w = .halt (.panic (.iface tt u)) w:=by
     simp only [execOp,ho,hv,Instr.panic,goPanic]
     rfl
    rw [hrun]
    exact ⟨st,ψ,S,kwz h,hs,Fr.refl⟩
   ·cases hc
  ·cases hc
 ·cases hc
def kag2 (g:Cfg):Option (FuncId×List AV):=match g.foc with
 | .ops os (o::_)=>match kdv os g.st o,kuq g.st o,o.op with
  | some true,true, .defer c=>match c.callee,c.args.toList with
   | .value x,[]=>match g.st.eval x with
    | .fn f vs=>some (f,vs)
    | _=>none
   | _,_=>none
  | _,_,_=>none
 | _=>none
def rsmD (gi:Nat) (f:FuncId) (cs:List Value) (vs:List AV) (g:Cfg):Cfg:=match g.foc with
 | .ops os (o::l)=>⟨.ops os l,g.ks,({ g.st with heap:=(gi, .gho cs vs)::g.st.heap,ids:=gi::g.st.ids,dfr:=dfn f cs::g.st.dfr }:St).put o.dst (.fz (.tup []))⟩
 | _=>⟨.bad,g.ks,g.st⟩
theorem dfer (k gi:Nat) {f:FuncId} {vs:List AV} (h:∀ cs,cs.length=vs.length→W P (rsmD gi f cs vs (crun P k g)) Q) (hc:kag2 (crun P k g)=some (f,vs):=by kernel_rfl) (hgi:(stOf (crun P k g)).ids.contains gi=false:=by kernel_rfl):W P g Q:=by
 refine kck (k:=k) ?_
 generalize crun P k g=g' at *
 obtain ⟨foc,ks,st⟩:=g'
 have hgi':gi∉st.ids:=by simpa [stOf] using hgi
 clear hgi
 have hgi:=hgi'
 clear hgi'
 unfold kag2 at hc
 simp only at hc
 split at hc
 ·rename_i os o l
  split at hc
  ·rename_i c hg hd ho
   split at hc
   ·rename_i x h1 h2
    split at hc
    ·rename_i f' vs' hx
     simp only [qh,qad] at hc
     obtain ⟨rfl,rfl⟩:=hc
     obtain ⟨cc,as_,ts⟩:=c
     simp only at h1 h2
     have h2:as_=#[]:=by apply Array.ext'; simpa using h2
     subst h1 h2
     intro F S0 N0 ψ S a w hs
     unfold wpList
     rw [kjw hs hg]
     have hv:=hs.eval x
     rw [hx] at hv
     obtain ⟨caps,hcx,hcs,hcr⟩:∃ caps:Array Value,a.eval x = .func (.func f') #[] caps∧caps.size=vs'.length∧∀ (i:Nat) (v:Value) (y:AV),caps[i]?=some v→vs'[i]?=some y→RV ψ (·∈st.ids) S w v y:=by
      generalize a.eval x=u at hv
      cases hv with
      | fn h hr=>exact ⟨_,rfl,h,hr⟩
     refine .inl ?_
     unfold Oper.wp
     have hrun:(execOp a.eval o).run P w = .ok (.defer (dfn f' caps.toList)) w:=by
      simp [execOp,ho,resolve,hcx,Deferred.ofValue,dfn]
     rw [hrun]
     have hcore:=hs.core.add (n:=0) (v := .nilFunc) (w':=w) (ob := .gho caps.toList vs') (kaj _) hgi (fun b hb=>by cases hb)
      ⟨ke1 _ _,by rw [kbn];rfl,by rw [kbn];rfl,fun i v x hv hx=>(hcr i v x (by simpa using hv) hx).keep (keo hgi _ _) (fun _ h=>qk _ h) (fun _ h=>h) (fun _ _ _=>rfl)⟩
     have hs2:Sim F S0 N0 { st with heap:=(gi, .gho caps.toList vs')::st.heap,ids:=gi::st.ids,dfr:=dfn f' caps.toList::st.dfr } (ψ.set gi 0 .nilFunc) S { a with defers:=dfn f' caps.toList::a.defers } w:=
      ⟨by show _::a.defers=_;rw [hs.defers],hs.size,fun t=>(hs.tmps t).keep (keo hgi _ _) (fun _ h=>qk _ h) (fun _ h=>h) (fun _ _ _=>rfl),hcore⟩
     have hput:=hs2.put (st':={ st with heap:=(gi, .gho caps.toList vs')::st.heap,ids:=gi::st.ids,dfr:=dfn f' caps.toList::st.dfr }) (d:=o.dst) (v:=undef) (c := .fz (.tup [])) rfl rfl rfl hcore (.fz RF.undef) Ext.refl (fun _ h=>h) (fun _ h=>h) (fun _ _ _=>rfl) (krb hd)
     exact h caps.toList (by simpa using hcs) F S0 N0 _ S _ w hput
    ·cases hc
   ·cases hc
  ·cases hc
 ·cases hc
def ksp:Foc→Option Exit
 | .fin e=>some e
 | _=>none
def k9f (fn:Func):Code:=match kqm fn with
 | some q=>q.2.2
 | none => .skip
def dfxQ (T:List (TypeId×TD)) (rs:List ResultVar) (gi0:Nat) (ids:List Nat) (E:HEnd) (post:List (Nat×AObj)) (ids':List Nat) (ψ0:Env) (S1:Nat→Prop) (w0:World) (keep:List Nat) (gi2:Nat) (ocs:List Value) (st:St):Exit→St→Prop:=fun e2 st2=>
 (e2 = .normal∨e2 = .ret)∧st2.dfr=[]∧∃ vs',kab st2.heap gi2=some (.gho ocs vs')∧hQ T rs gi0 ids E post ids' ψ0 S1 w0 .ret (dstB keep gi2 vs' st st2)
theorem dfx (k gi2 t1 t2:Nat) (keep:List Nat) {rs:List ResultVar} {gi0 gi:Nat} {ids ids':List Nat} {E:HEnd} {post:List (Nat×AObj)} {ψ0:Env} {S1:Nat→Prop} {w0:World} {f:FuncId} {fn2:Func} {cvals:List Value} {vs:List AV} {pv:Value} (e:Exit)
  (hlen : cvals.length = vs.length) (hf : P.funcs[f]? = some fn2) (hb : kqm fn2 = some (t1, t2, k9f fn2)) (hn : (fn2.name == "runtime.NumGoroutine") = false) (hle : Nat.ble vs.length fn2.ntmps = true) (hdf : (stOf (crun P k g)).dfr = [dfn f cvals]) (h : ∀ ocs, W P ⟨.code (k9f fn2), [], dst0 keep fn2.ntmps t1 t2 pv vs gi2 ocs (stOf (crun P k g))⟩ (dfxQ t.T rs gi0 ids E post ids' ψ0 S1 w0 keep gi2 ocs (stOf (crun P k g)))) (hgo : kab (stOf (crun P k g)).heap gi = some (.gho cvals vs) := by kernel_rfl) (he : (bif nilK (crun P k g) then ksp (crun P k g).foc else none) = some e := by kernel_rfl) (hpv : recV e = some pv := by kernel_rfl) (hgi2 : (stOf (crun P k g)).ids.contains gi2 = false := by kernel_rfl) : W P g (hdQ P t.T rs gi0 ids E post ids' ψ0 S1 w0) := by
 refine kck (k:=k) ?_
 generalize crun P k g=g' at *
 obtain ⟨foc,ks,st⟩:=g'
 cases ks with
 | cons=>cases he
 | nil=>
  simp only [nilK,qd] at he
  unfold ksp at he
  split at he
  ·injection he with he
   subst he
   exact .inr ⟨keep,f,fn2,t1,t2,k9f fn2,gi,cvals,vs,pv,gi2,hdf,hgo,hlen,hf,hb,hn,hle,hpv,hgi2,fun ocs=>h ocs⟩
  ·cases he
theorem ldx (k:Nat) {rs:List ResultVar} {gi0 gi2:Nat} {ids ids':List Nat} {res:AV} {post:List (Nat×AObj)} {ψ0:Env} {S1:Nat→Prop} {w0:World} {keep:List Nat} {ocs:List Value} {vs':List AV} {st:St} (st3:St) (hc:(bif nilK (crun P k g) && ko4 (crun P k g).foc then kab (stOf (crun P k g)).heap gi2 else none)=some (.gho ocs vs'))
  (hdf:(stOf (crun P k g)).dfr=[]) (hl:LeSt (dstB keep gi2 vs' st (stOf (crun P k g))) st3) (hh:st3.heap=(gi0, .was ψ0 ids S1 w0)::post) (hi:st3.ids=gi0::ids') (hr:retA t.T st3 rs=some res:=by kernel_rfl):W P g (dfxQ t.T rs gi0 ids (.ret res) post ids' ψ0 S1 w0 keep gi2 ocs st):=by
 refine kck (k:=k) ?_
 generalize crun P k g=g' at *
 obtain ⟨foc,ks,st'⟩:=g'
 cases ks with
 | cons=>cases hc
 | nil=>
  simp only [nilK,Bool.true_and] at hc
  cases hf:ko4 foc with
  | false=>rw [hf] at hc;cases hc
  | true=>
   rw [hf] at hc
   unfold ko4 at hf
   split at hf
   ·exact ⟨.inl rfl,hdf,vs',hc,kz5 hl hh hi (.inr rfl) hr⟩
   ·exact ⟨.inr rfl,hdf,vs',hc,kz5 hl hh hi (.inr rfl) hr⟩
   ·cases hf
theorem hdx {f : FuncId} {fn : Func} {args : List AV} {pre : List (Nat × AObj)} {ids : List Nat} {E : HEnd} {post : List (Nat × AObj)} {ids' : List Nat} {gi : Nat} (hf : P.funcs[f]? = some fn) (h : ∀ ψ0 S1 w0, W P ⟨.code (kk4 fn), [], { n := fn.ntmps, tmps := argT 0 args, heap := (gi, .was ψ0 ids S1 w0) :: pre, ids := gi :: ids }⟩ (hdQ P t.T fn.results.toList gi ids E post ids' ψ0 S1 w0)) (hb : fn.body.isSome = true := by kernel_rfl) (hn : (fn.name == "runtime.NumGoroutine") = false := by kernel_rfl) (hle : Nat.ble args.length fn.ntmps = true := by kernel_rfl) (hg : ids.contains gi = false := by kernel_rfl) (hg' : ids'.contains gi = false := by kernel_rfl) (hp' : (post.all fun p => okO ids' p.2) = true := by kernel_rfl) (hE : E.ok ids' = true := by kernel_rfl) (hk : (post.all fun p => ids'.contains p.1) = true := by kernel_rfl) : kat P f args pre ids E post ids' :=
 k3e t.ok hf (kpt hb) hn hle hg hg' hp' hE hk h
theorem lhp (k:Nat) {rs:List ResultVar} {gi:Nat} {ids ids':List Nat} {v:Value} {post:List (Nat×AObj)} {ψ0:Env} {S1:Nat→Prop} {w0:World} (st2:St) (hl:LeSt (stOf (crun P k g)) st2) (hh:st2.heap=(gi, .was ψ0 ids S1 w0)::post) (hi:st2.ids=gi::ids')
  (hc:(bif nilK (crun P k g) then ksp (crun P k g).foc else none)=some (.panic [pnE v])) (hd:st2.dfr=[]):W P g (hQ t.T rs gi ids (.pan v) post ids' ψ0 S1 w0):=by
 refine kck (k:=k) ?_
 generalize crun P k g=g' at *
 obtain ⟨foc,ks,st⟩:=g'
 cases ks with
 | cons=>cases hc
 | nil=>
  simp only [nilK,qd] at hc
  unfold ksp at hc
  split at hc
  ·injection hc with hc
   subst hc
   exact kak2 hl hh hi hd
  ·cases hc
theorem hcx2 {α α':Type} {f:FuncId} {fn:Func} {args:List AV} {pre:List (Nat×AObj)} {ids:List Nat} {E:α→HEnd} {post:α→List (Nat×AObj)} {ids':List Nat} {E2:α'→HEnd} {post2:α'→List (Nat×AObj)} {ids2:List Nat} {gi:Nat} {r:α ⊕ α'}
  (hf : P.funcs[f]? = some fn) (hb : fn.body.isSome = true) (hn : (fn.name == "runtime.NumGoroutine") = false) (hle : Nat.ble args.length fn.ntmps = true) (hg : ids.contains gi = false)
  (hg':ids'.contains gi=false) (hp':∀ v,((post v).all fun p=>okO ids' p.2)=true) (hE:∀ v,(E v).ok ids'=true) (hk:∀ v,((post v).all fun p=>ids'.contains p.1)=true)
  (hg2:ids2.contains gi=false) (hp2:∀ v,((post2 v).all fun p=>okO ids2 p.2)=true) (hE2:∀ v,(E2 v).ok ids2=true) (hk2:∀ v,((post2 v).all fun p=>ids2.contains p.1)=true)
  (h:∀ ψ0 S1 w0,W P ⟨.code (kk4 fn),[],{ n:=fn.ntmps,tmps:=argT 0 args,heap:=(gi, .was ψ0 ids S1 w0)::pre,ids:=gi::ids }⟩
   (Sum.elim (fun v=>hQ t.T fn.results.toList gi ids (E v) (post v) ids' ψ0 S1 w0) (fun v=>hQ t.T fn.results.toList gi ids (E2 v) (post2 v) ids2 ψ0 S1 w0) r)):
  Sum.elim (fun v=>kat P f args pre ids (E v) (post v) ids') (fun v=>kat P f args pre ids (E2 v) (post2 v) ids2) r:=by
 cases r with
 | inl v=>exact hcx0 hf hb hn hle hg hg' (hp' v) (hE v) (hk v) h
 | inr v=>exact hcx0 hf hb hn hle hg hg2 (hp2 v) (hE2 v) (hk2 v) h
theorem lop (k:Nat) {l:List PanicEntry} {J:St} (hl:LeSt (stOf (crun P k g)) J) (hc:(bif nilK (crun P k g) then ksp (crun P k g).foc else none)=some (.panic l):=by kernel_rfl):W P g fun e' st=>(e' ≠ .normal∧e' ≠ .outgrown)∧(e' = .panic l∧LeSt st J):=by
 refine kck (k:=k) ?_
 generalize crun P k g=g' at *
 obtain ⟨foc,ks,st⟩:=g'
 cases ks with
 | cons=>cases hc
 | nil=>
  simp only [nilK,qd] at hc
  unfold ksp at hc
  split at hc
  ·injection hc with hc;subst hc;exact ⟨⟨(fun h=>nomatch h),(fun h=>nomatch h)⟩,rfl,hl⟩
  ·cases hc
theorem hpan (k:Nat) {f:FuncId} {cap:List AV} {x:Operand} {args:Array Operand} {ts:Array TypeId} {cs:List C1} {as1 as2 pre:_} {ids0 ids1:List Nat} {v:Value} {post:List (Nat×AObj)} {keys:List Nat} (r1 r2:List (Nat×Nat)) (hv:okP (crun P k g)=true) (ho:(knx (crun P k g)).op = .call { callee := .value x,args:=args,argTypes:=ts })
  (hx:fnOf args.size ((stOf (crun P k g)).eval x)=some (f,cap)) (hc:kat P f (as1++as2) pre ids0 (.pan v) post ids1) (hargs:kn0 (stOf (crun P k g)) r1 (renI r2 ids0) cs args.toList=some as1) (hcap:kno r1 (renI r2 ids0) cap=some as2)
  (hfoot:kl2 (stOf (crun P k g)) r1 r2 keys ids0 ids1 post=true) (hpre:preX (stOf (crun P k g)) r1 r2 (renI r2 ids0) keys=some pre)
  (h:W P ⟨.fin (.panic [pnE v]),[],{ stOf (crun P k g) with heap:=renH r2 post++kji (renI r2 ids0) (stOf (crun P k g)).heap,ids:=renI r2 ids1++(stOf (crun P k g)).ids }⟩ Q):W P g Q:=by
 refine kck (k:=k) ?_
 generalize crun P k g=g' at *
 obtain ⟨foc,ks,st⟩:=g'
 unfold okP at hv
 simp only at hv
 split at hv
 ·split at hv
  ·rename_i hg hd
   exact h_pan r1 r2 ho hx hc hargs hcap hfoot hpre hg (kwz h)
  ·cases hv
 ·cases hv
def kt9 {γ:Type} (f:Oper→St→Option γ) (g:Cfg):Option γ:=bif okP g then f (knx g) (stOf g) else none
theorem kys {γ:Type} {f:Oper→St→Option γ} {z:γ} {g:Cfg} (h:kt9 f g=some z):okP g=true∧f (knx g) (stOf g)=some z:=by
 unfold kt9 at h
 cases hk:okP g with
 | false=>rw [hk] at h;cases h
 | true=>rw [hk] at h;exact ⟨rfl,h⟩
end
attribute [irreducible] W
end Go.Proofs.YtaimpcnpifoidaaGreatDoor
