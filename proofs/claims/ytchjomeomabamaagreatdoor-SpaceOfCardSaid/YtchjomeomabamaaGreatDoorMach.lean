import Derived.Test.YtchjomeomabamaaGreatDoorXb
import Derived.Test.YtchjomeomabamaaGreatDoorDrz
set_option linter.all false
namespace Go.Proofs.YtchjomeomabamaaGreatDoor
open Go Go.RowKit
class Tab (P:Program) where
 T:List (TypeId×TD)
 ok:TOk P T
 mixed:P.follows .mixedOrders=true
abbrev FsT:=List (Nat×Option Nat×AV)
structure Zn where
 os:Array Oper
 n:Nat
 es:List Nat
 ch:List Nat
 ai:List Nat
inductive Foc where
 | code (c:Code)
 | ops (os:Array Oper) (l:List Oper)
 | drz (z:Zn) (k i:Nat) (l:List Oper) (fs:FsT) (hp:List (Nat×AObj)) (ids:List Nat) (pn:Option Nat)
 | dry (z:Zn) (k i:Nat) (l:List Oper) (fs:FsT) (hp:List (Nat×AObj)) (nid:List Nat) (es:List (Nat×Nat))
 | fin (e:Exit)
 | bad
inductive Frm where
 | seq (c:Code)
 | block (id:Nat)
structure Cfg where
 foc:Foc
 ks:List Frm
 st:St
def ks3 (T:List (TypeId×TD)) (t:TypeId):Option TK:=match kad T t with
 | some d=>some d.kind
 | none=>none
def kabz (T:List (TypeId×TD)) (sr t:TypeId) (x:AV):Option AV:=match ks3 T sr,ks3 T t,x with
 | some _,some (.int k), .fz (.atom (.int _ n))=>some (.fz (.atom (.int k (k.wrap n))))
 | some .str,some .str, .fz (.atom (.string s))=>some (.fz (.atom (.string s)))
 | _,_,_=>none
def kw4 (T:List (TypeId×TD)) (o:Oper) (st:St):Option AV:=match kw9 T o st with
 | some c=>some c
 | none=>match o.op with
  | .convert sr t x=>kabz T sr t (st.eval x)
  | .call c=>match c.callee,c.args.toList with
   | .builtin .min,[x,y]=>match st.eval x,st.eval y with
    | .fz (.atom (.int k m)), .fz (.atom (.int _ n))=>some (.fz (.atom (.int k (imin m n))))
    | _,_=>none
   | .builtin .max,[x,y]=>match st.eval x,st.eval y with
    | .fz (.atom (.int k m)), .fz (.atom (.int _ n))=>some (.fz (.atom (.int k (imax m n))))
    | _,_=>none
   | _,_=>none
  | .makeInterface t x=>match ks3 T t with
   | some .ifc=>none
   | some _=>match toV (st.eval x) with
    | some v=>some (.fz (.atom (.iface t v)))
    | none=>none
   | none=>none
  | .typeAssert x _ t true=>match ks3 T t,st.eval x with
   | some .ifc,_=>none
   | some _, .fz (.atom (.iface t' v))=>bif Nat.beq t' t then (match ofV v with
    | some y=>some (.fz (.tup [y, .atom (.bool true)]))
    | none=>none) else none
   | _,_=>none
  | .binOp op t x (.const .nilIface) _=>match ks3 T t,st.eval x,op with
   | some .ifc, .fz (.atom (.iface _ _)), .eql=>some (.fz (.atom (.bool false)))
   | some .ifc, .fz (.atom (.iface _ _)), .neq=>some (.fz (.atom (.bool true)))
   | some .ifc, .fz (.atom .nilIface), .eql=>some (.fz (.atom (.bool true)))
   | some .ifc, .fz (.atom .nilIface), .neq=>some (.fz (.atom (.bool false)))
   | _,_,_=>none
  | _=>none
theorem khy {T:List (TypeId×TD)} {t:TypeId} {k:TK} (h:ks3 T t=some k):∃ d,kad T t=some d/\d.kind=k:=by
 unfold ks3 at h;split at h;rename_i d a;injection h with h;exact ⟨d,a,h⟩
 ·cases h
theorem kq4 {α:Type} {xs:Array α} {x y:α} (h:xs.toList=[x,y]):xs=#[x,y]:=by apply qbs;simpa using h
theorem kz3 {P:Program} {T:List (TypeId×TD)} (f:TOk P T) {o:Oper} {st:St} {c:AV} (h:kw4 T o st=some c):NStep P o st c:=by
 unfold kw4 at h;split at h;rename_i c' hc;injection h with h;subst h;exact kjq _ (h:=f) (a:=hc)
 ·split at h
  ·rename_i sr t x ho;unfold kabz at h;split at h;rename_i ks k k' n h1 g j;injection h with h;subst h;obtain ⟨ds,hs,_⟩:=khy h1;obtain ⟨d,b,hk⟩:=khy g;exact k7q f ho hs b hk j;rename_i s h1 g j;injection h with h;subst h;obtain ⟨ds,hs,l⟩:=khy h1;obtain ⟨d,b,hk⟩:=khy g;exact k4t f ho hs l b hk j
   ·cases h
  ·rename_i c' ho;obtain ⟨cc,as_,ts⟩:=c';split at h
   ·rename_i x y h1 g;simp only at h1 g;rw [h1,kq4 g] at ho;split at h;rename_i k m k' n e hy;injection h with h;subst h;exact kabt ho e hy
    ·cases h
   ·rename_i x y h1 g;simp only at h1 g;rw [h1,kq4 g] at ho;split at h;rename_i k m k' n e hy;injection h with h;subst h;exact kab0 ho e hy
    ·cases h
   ·cases h
  ·rename_i tt x ho;split at h;cases h
   ·rename_i kk i hk;obtain ⟨d,b,a⟩:=khy hk;split at h;rename_i v hv;injection h with h;subst h;exact kae6 ho (f.get b) (fun hi=>i (by rw [hi] at a;exact a.symm)) hv
    ·cases h
   ·cases h
  ·rename_i x xt tt ho;split at h;cases h
   ·rename_i kk t' v i hk e;obtain ⟨d,b,a⟩:=khy hk;cases p:Nat.beq t' tt with
    | false=>rw [p] at h;cases h
    | true=>
     rw [p] at h;obtain rfl:=qk p;(try simp only [qe] at h);split at h;rename_i y hy;injection h with h;subst h;exact k7i ho (f.get b) (fun hi=>i (by rw [hi] at a;exact a.symm)) e hy
     ·cases h
   ·cases h
  ·rename_i op tt x yt ho;split at h;rename_i s z hk e;obtain ⟨d,b,a⟩:=khy hk;injection h with h;subst h;exact kpo false false ho (f.get b) a e (.inl ⟨rfl,_,_,rfl⟩);rename_i s z hk e;obtain ⟨d,b,a⟩:=khy hk;injection h with h;subst h;exact kpo true false ho (f.get b) a e (.inl ⟨rfl,_,_,rfl⟩);rename_i hk e;obtain ⟨d,b,a⟩:=khy hk;injection h with h;subst h;exact kpo false true ho (f.get b) a e (.inr ⟨rfl,rfl⟩);rename_i hk e;obtain ⟨d,b,a⟩:=khy hk;injection h with h;subst h;exact kpo true true ho (f.get b) a e (.inr ⟨rfl,rfl⟩)
   ·cases h
  ·cases h
def unwN:List Frm->St->Cfg
 | [],st=>⟨.fin .normal,[],st⟩
 | .seq y::ks,st=>⟨.code y,ks,st⟩
 | .block _::ks,st=>unwN ks st
def unwX (id:Nat):List Frm->St->Cfg
 | [],st=>⟨.fin (.exit id),[],st⟩
 | .seq _::ks,st=>unwX id ks st
 | .block i::ks,st=>bif Nat.beq id i then unwN ks st else unwX id ks st
def unw:Exit->List Frm->St->Cfg
 | .normal,ks,st=>unwN ks st
 | .exit i,ks,st=>unwX i ks st
 | .ret,_,st=>⟨.fin .ret,[],st⟩
 | .panic cs,_,st=>⟨.fin (.panic cs),[],st⟩
 | _,_,st=>⟨.bad,[],st⟩
def k55 (T:List (TypeId×TD)) (os:Array Oper) (o:Oper) (l:List Oper) (ks:List Frm) (st:St):Cfg:=match kb2 os st o,kul st o with
 | some true,true=>match kuq T o st with
  | some (c,h,i)=>⟨.ops os l,ks,({ st with heap:=h,ids:=i }:St).put o.dst c⟩
  | none=>match kw4 T o st with
   | some c=>⟨.ops os l,ks,st.put o.dst c⟩
   | none=>⟨.bad,ks,st⟩
 | some false,true=>⟨.ops os l,ks,st.put o.dst (.fz (.tup []))⟩
 | _,_=>⟨.bad,ks,st⟩
def k0m (T:List (TypeId×TD)) (os:Array Oper) (st:St) (o:Oper):Option AV:=match kb2 os st o with
 | some true=>kw4 T o st
 | some false=>some (.fz (.tup []))
 | none=>none
def k51:Code->List Frm->St->Cfg
 | .skip,ks,st=>unwN ks st
 | .label _,ks,st=>unwN ks st
 | .exit i,ks,st=>unwX i ks st
 | .ret,_,st=>⟨.fin .ret,[],st⟩
 | .seq x y,ks,st=>⟨.code x, .seq y::ks,st⟩
 | .block id c,ks,st=>⟨.code c, .block id::ks,st⟩
 | .cond c x y,ks,st=>match st.eval c with
  | .fz (.atom (.bool b))=>⟨.code (bif b then x else y),ks,st⟩
  | _=>⟨.bad,ks,st⟩
 | .region _ os false,ks,st=>⟨.ops os os.toList,ks,st⟩
 | _,ks,st=>⟨.bad,ks,st⟩
def knm (z:Zn) (st:St) (i:Nat) (o:Oper) (fs:FsT) (hp:List (Nat×AObj)) (ids:List Nat):St:=ke9 z.os.toList z.n z.es z.ch z.ai st i o fs hp ids
def k56 (ch:List Nat):List (Nat×AObj)->Bool
 | (k,_)::_=>ch.contains k
 | []=>true
def kss (ai ids ids':List Nat):Bool:=ids'.all ai.contains && ids.all ids'.contains
def k02 (z:Zn) (i:Nat):Option Nat->Bool
 | some e=>anc z.os.toList i e
 | none=>false
def k6e (T:List (TypeId×TD)) (z:Zn) (k i:Nat) (o:Oper) (l:List Oper) (fs:FsT) (hp:List (Nat×AObj)) (ids:List Nat) (pn:Option Nat) (ks:List Frm) (st:St):Cfg:=
 bif k02 z i pn then ⟨.drz z k (i+1) l ((i,o.dst, .any)::fs) hp ids pn,ks,st⟩ else
 bif z.es.contains i then (match kb2 z.os (knm z st i o fs hp ids) o,kuq T o (knm z st i o fs hp ids),pn with
  | some false,_,none=>bif kss z.ai ids ids then ⟨.drz z k (i+1) l ((i,o.dst, .fz (.tup []))::fs) hp ids none,ks,st⟩ else ⟨.bad,ks,st⟩
  | some true,some (c,a,i'),none=>bif Nat.beq (knm z st i o fs hp ids).heap.length hp.length && (phB z.os.toList z.es i && (k56 z.ch a && kss z.ai ids i')) then ⟨.drz z k (i+1) l ((i,o.dst,c)::fs) a i' none,ks,st⟩ else ⟨.bad,ks,st⟩
  | _,_,_=>⟨.bad,ks,st⟩)
 else (match k0m T z.os (knm z st i o fs hp ids) o with
  | some c=>bif phB z.os.toList z.es i || okA st.ids c then ⟨.drz z k (i+1) l ((i,o.dst,c)::fs) hp ids pn,ks,st⟩ else ⟨.bad,ks,st⟩
  | none=>⟨.bad,ks,st⟩)
def kxx (z:Zn) (st:St) (i:Nat) (o:Oper) (fs:FsT):St:=khm z.os.toList z.n z.ai st i o fs
def k1d (T:List (TypeId×TD)) (o:Oper):Option (TypeId×List AV):=match o.op with
 | .alloc e=>match kad T e with
  | some d=>match kqq d with
   | some cells=>some (e,cells)
   | none=>none
  | none=>none
 | _=>none
def k2v (T:List (TypeId×TD)) (v:St) (o:Oper):Option (Nat×AObj):=match o.op with
 | .store t x y=>match kt7 T v t x y with
  | some (_,q::_,_)=>some q
  | _=>none
 | _=>none
def k21 (z:Zn) (st:St) (es:List (Nat×Nat)) (id:Nat):Bool:=!(st.ids.contains id || (st.heap.any fun q=>q.1 == id) || (es.any fun q=>q.2 == id) || !z.ai.contains id)
def k6o (T:List (TypeId×TD)) (z:Zn) (k i:Nat) (o:Oper) (l:List Oper) (fs:FsT) (hp:List (Nat×AObj)) (nid:List Nat) (es:List (Nat×Nat)) (ks:List Frm) (st:St):Cfg:=
 match k0m T z.os (kxx z st i o fs) o with
 | some c=>bif okA (idsB z.os.toList i nid es st.ids) c then ⟨.dry z k (i+1) l ((i,o.dst,c)::fs) hp nid es,ks,st⟩ else ⟨.bad,ks,st⟩
 | none=>match kb2 z.os (kxx z st i o fs) o,k1d T o with
  | some true,some (e,cells)=>bif k21 z st es (fresh (nid++st.ids)) then ⟨.dry z k (i+1) l ((i,o.dst, .ref (fresh (nid++st.ids)) 0 0)::fs) ((fresh (nid++st.ids), .box e cells)::hp) (fresh (nid++st.ids)::nid) ((i,fresh (nid++st.ids))::es),ks,st⟩ else ⟨.bad,ks,st⟩
  | some true,none=>match k2v T { kxx z st i o fs with heap:=hp++st.heap } o with
   | some q=>bif !(st.heap.any fun r=>r.1 == q.1) && befB z.os.toList i q.1 es then ⟨.dry z k (i+1) l ((i,o.dst, .any)::fs) (q::hp) nid ((i,q.1)::es),ks,st⟩ else ⟨.bad,ks,st⟩
   | none=>⟨.bad,ks,st⟩
  | _,_=>⟨.bad,ks,st⟩
def k5h (T:List (TypeId×TD)) (g:Cfg):Cfg:=match g with
 | ⟨.code c,ks,st⟩=>k51 c ks st
 | ⟨.ops _ [],ks,st⟩=>unwN ks st
 | ⟨.ops os (o::l),ks,st⟩=>k55 T os o l ks st
 | ⟨.drz z 0 _ l fs hp ids none,ks,st⟩=>⟨.ops z.os l,ks,{ st with tmps:=hadd fs (fun _=>true) st.tmps,heap:=hp,ids:=ids }⟩
 | ⟨.drz z (k+1) i (o::l) fs hp ids pn,ks,st⟩=>k6e T z k i o l fs hp ids pn ks st
 | ⟨.dry z 0 _ l fs hp nid _,ks,st⟩=>⟨.ops z.os l,ks,{ st with tmps:=hadd fs (fun _=>true) st.tmps,heap:=hp++st.heap,ids:=nid++st.ids }⟩
 | ⟨.dry z (k+1) i (o::l) fs hp nid es,ks,st⟩=>k6o T z k i o l fs hp nid es ks st
 | ⟨_,ks,st⟩=>⟨.bad,ks,st⟩
def crunT (T:List (TypeId×TD)) (k:Nat) (g:Cfg):Cfg:=Nat.rec g (fun _ r=>k5h T r) k
def crun (P:Program) [t:Tab P] (k:Nat) (g:Cfg):Cfg:=crunT t.T k g
def kif (P:Program):List Frm->(Exit->St->Prop)->Exit->St->Prop
 | [],Q=>Q
 | .seq y::ks,Q=>kabx (fun st=>awp P y st (kif P ks Q)) (kif P ks Q)
 | .block id::ks,Q=>kx6 id (kif P ks Q)
def FW (P:Program) (foc:Foc) (st:St) (Q:Exit->St->Prop):Prop:=match foc with
 | .code c=>awp P c st Q
 | .ops os l=>awpL P os l st Q
 | .drz z k i l fs hp ids pn=>krb P z.os z.n z.es z.ch z.ai Q st k i l fs hp ids pn
 | .dry z k i l fs hp nid es=>ksf P z.os z.n z.ai Q st k i l fs hp nid es
 | .fin e=>Q e st
 | .bad=>False
def W (P:Program) (g:Cfg) (Q:Exit->St->Prop):Prop:=FW P g.foc g.st (kif P g.ks Q)
section
variable {P:Program} {T:List (TypeId×TD)} {Q:Exit->St->Prop} {st:St} {ks:List Frm}
theorem kpb:∀ {ks:List Frm},W P (unwN ks st) Q->kif P ks Q .normal st
 | [],h=>h
 | .seq _::_,h=>h
 | .block id::ks,h=>show kx6 id (kif P ks Q) .normal st from kpb (ks:=ks) h
theorem kuo {i:Nat}:∀ {ks:List Frm},W P (unwX i ks st) Q->kif P ks Q (.exit i) st
 | [],h=>h
 | .seq _::ks,h=>kuo (ks:=ks) h
 | .block id::ks,h=>by
  show (if i=id then kif P ks Q .normal st else kif P ks Q (.exit i) st);simp only [unwX] at h;by_cases hi:i=id;subst hi;rw [qp rfl];simp only [Nat.beq_refl,qe] at h;exact kpb h
  ·rw [ql hi];rw [Nat.beq_eq_false hi] at h;exact kuo h
theorem kux {ks:List Frm}:Q .ret st->kif P ks Q .ret st:=by
 induction ks with
 | nil=>exact id
 | cons k ks ih=>cases k <;> exact ih
theorem kad3 {cs} {ks:List Frm}:Q (.panic cs) st->kif P ks Q (.panic cs) st:=by
 induction ks with
 | nil=>exact id
 | cons k ks ih=>cases k <;> exact ih
theorem k77 {e:Exit} {ks:List Frm} (h:W P (unw e ks st) Q):kif P ks Q e st:=by
 cases e with
 | normal=>exact kpb h
 | exit i=>exact kuo h
 | ret=>exact kux h
 | panic cs=>exact kad3 h
 | _=>exact h.elim
theorem k3g (b:TOk P T) {os:Array Oper} {o:Oper} {c:AV} (h:k0m T os st o=some c):(kb2 os st o=some true/\NStep P o st c)\/(kb2 os st o=some false/\c = .fz (.tup [])):=by
 unfold k0m at h;split at h;rename_i a;exact .inl ⟨a,kz3 b h⟩;rename_i a;injection h with h;exact .inr ⟨a,h.symm⟩
 ·cases h
theorem k9d (e:TOk P T) {os:Array Oper} {o:Oper} {l:List Oper} (h:W P (k55 T os o l ks st) Q):awpL P os (o::l) st (kif P ks Q):=by
 unfold k55 at h;split at h
 ·rename_i a b;split at h;rename_i c f i d;exact kxt (k2h e d) a (kpr b) h
  ·split at h;rename_i c d;exact kxt (kz3 e d).step a (kpr b) h
   ·exact h.elim
 rename_i a b;exact kaf3 a (kpr b) h
 ·exact h.elim
theorem kaay {c:Code} (h:W P (k51 c ks st) Q):awp P c st (kif P ks Q):=by
 unfold k51 at h;split at h;exact k98 (kpb h);exact fun F S0 N0 ψ S a w hs=>wp_label ⟨st,ψ,S,kpb h,hs,Fr.refl⟩;exact kaaj (kuo h);exact kacn (kux h);exact kacy h;exact k8l h
 ·split at h;rename_i b;exact k2d b h
  ·exact h.elim
 exact k59 h
 ·exact h.elim
theorem k5c {o:Oper} {c:AV} {h:List (Nat×AObj)} {i:List Nat} (a:kuq T o st=some (c,h,i)):h=st.heap\/∃ id ob,h=(id,ob)::st.heap:=by
 unfold kuq at a;have d:∀ {e:TypeId} {cells:List AV},boxX e st cells=some (c,h,i)->h=st.heap\/∃ id ob,h=(id,ob)::st.heap:=fun {e cells} a=>by
  unfold boxX at a;cases f:(cells.all AV.single && !st.ids.contains (Go.Proofs.YtchjomeomabamaaGreatDoor.fresh st.ids)) with
  | false=>rw [f] at a;cases a
  | true=>rw [f] at a;simp only [qe,qc,qq] at a;exact .inr ⟨_,_,a.2.1.symm⟩
 split at a;exact d a
 ·split at a
  ·split at a;exact d a
   ·cases a
  ·cases a
 ·unfold kt7 at a;split at a
  ·split at a
   ·rename_i e cells g;generalize (Nat.beq _ 0 && _)=b at a;cases b with
    | false=>cases a
    | true=>simp only [qe,qc,qq] at a;exact .inr ⟨_,_,a.2.1.symm⟩
   ·cases a
  ·cases a
 ·refine .inl ?_;generalize kw9 T o st=c0 at a;cases c0 with
  | none=>cases a
  | some x=>simp only [nres,qc,qq] at a;exact a.2.1.symm
theorem kwb {ai ids ids':List Nat} (h:kss ai ids ids'=true):(∀ id,id∈ids'->id∈ai)/\∀ id,id∈ids->id∈ids':=by unfold kss at h;simp only [qv] at h;exact ⟨fun id hi=>by simpa using qs.1 h.1 id hi,fun id hi=>by simpa using qs.1 h.2 id hi⟩
theorem k99 (m:TOk P T) {z:Zn} {k i:Nat} {o:Oper} {l:List Oper} {fs:FsT} {hp:List (Nat×AObj)} {ids:List Nat} {pn:Option Nat} (h:W P (k6e T z k i o l fs hp ids pn ks st) Q):krb P z.os z.n z.es z.ch z.ai (kif P ks Q) st (k+1) i (o::l) fs hp ids pn:=by
 unfold k6e at h;cases f:k02 z i pn with
 | true=>
  rw [f] at h;cases pn with
  | none=>cases f
  | some e=>exact .inl ⟨e,rfl,f,h⟩
 | false=>
  rw [f] at h;simp only [qd] at h;cases d:z.es.contains i with
  | true=>
   rw [d] at h;simp only [qe] at h;split at h
   ·rename_i g;cases a:kss z.ai ids ids with
    | false=>rw [a] at h;exact h.elim
    | true=>
     rw [a] at h;exact .inr (.inr (.inl ⟨d,rfl,_,hp,ids,⟨.inr ⟨g,rfl,rfl,rfl⟩, .inr ⟨fun _ _ _ h=>h,kwb a⟩⟩,h⟩))
   ·rename_i c p i' g q;generalize a:(Nat.beq (knm z st i o fs hp ids).heap.length hp.length && (phB z.os.toList z.es i && (k56 z.ch p && kss z.ai ids i')))=b at h;cases b with
    | false=>exact h.elim
    | true=>
     simp only [qv] at a;obtain ⟨_,b2,b3,b4⟩:=a;refine .inr (.inr (.inl ⟨d,rfl,c,p,i',⟨.inl ⟨g,k2h m q⟩, .inr ⟨?_,kwb b4⟩⟩,h⟩));have hv:(knm z st i o fs hp ids).heap=hp:=(by show (bif phB z.os.toList z.es i then hp else _)=hp;rw [b2];rfl);rcases k5c q with hf | ⟨id,ob,hf⟩;rw [hf,hv];exact fun _ _ _ h=>h
     ·rw [hf,hv];rw [hf] at b3;intro id' j ob' ho;rw [kae,ql];exact ho
      ·rintro rfl;exact j (by simpa [k56] using b3)
   ·exact h.elim
  | false=>
   rw [d] at h;simp only [qd] at h;split at h
   ·rename_i c hc;cases hk:(phB z.os.toList z.es i || okA st.ids c) with
    | false=>rw [hk] at h;exact h.elim
    | true=>rw [hk] at h;exact .inr (.inl ⟨d,c,k3g m hc,hk,h⟩)
   ·exact h.elim
theorem k7v (c:TOk P T) {o:Oper} {e:TypeId} {cells:List AV} (h:k1d T o=some (e,cells)) {v:St} (id:Nat):k6j P v o (.ref id 0 0) id (.box e cells):=by
 unfold k1d at h;split at h
 ·rename_i e' ho;split at h
  ·rename_i d f;split at h;rename_i cells' g;simp only [qc,qq] at h;obtain ⟨rfl,rfl⟩:=h;exact fun a ids' b=>kyf (st:={ v with heap:=a,ids:=ids' }) ho (c.get f) g b
   ·cases h
  ·cases h
 ·cases h
theorem k6x (g:TOk P T) {v:St} {o:Oper} {q:Nat×AObj} (h:k2v T v o=some q):k6i P v o .any q.1 q.2:=by
 unfold k2v at h;split at h
 ·rename_i t x y ho;unfold kt7 at h;cases c:kad T t with
  | none=>rw [c] at h;cases h
  | some d=>
   rw [c] at h;generalize i:v.eval x=ex at h;cases ex with
   | ref id n off=>
    simp only at h;cases a:kaa v.heap id with
    | none=>rw [a] at h;cases h
    | some ob=>
     rw [a] at h;cases ob with
     | box e cells=>
      simp only at h;cases b:(Nat.beq n 0 && (Nat.beq (v.eval y).cells.length d.size && ((v.eval y).cells.all AV.single && Nat.ble (off+(v.eval y).cells.length) cells.length))) with
      | false=>rw [b] at h;cases h
      | true=>
       rw [b] at h;simp only [qe,qc] at h;subst h;simp only [qv] at b;obtain ⟨b1,b2,b3,b4⟩:=b;obtain rfl:=qk b1;exact fun f ids' hl=>k4a (st:={ v with heap:=f,ids:=ids' }) ho (g.get c) i (by rw [<- a];exact hl) rfl (qk b2) b3 (qt b4)
     | _=>cases h
   | _=>cases h
 ·cases h
theorem k9n (b:TOk P T) {z:Zn} {k i:Nat} {o:Oper} {l:List Oper} {fs:FsT} {hp:List (Nat×AObj)} {nid:List Nat} {es:List (Nat×Nat)} (h:W P (k6o T z k i o l fs hp nid es ks st) Q):ksf P z.os z.n z.ai (kif P ks Q) st (k+1) i (o::l) fs hp nid es:=by
 unfold k6o at h;split at h
 ·rename_i c hc;cases hk:okA (idsB z.os.toList i nid es st.ids) c with
  | false=>rw [hk] at h;exact h.elim
  | true=>rw [hk] at h;exact .inl ⟨c,k3g b hc,hk,h⟩
 ·split at h
  ·rename_i e cells d ha;cases hk:k21 z st es (Go.Proofs.YtchjomeomabamaaGreatDoor.fresh (nid++st.ids)) with
   | false=>rw [hk] at h;exact h.elim
   | true=>
    rw [hk] at h;have a:=hk;unfold k21 at a;rw [Bool.not_eq_true'] at a;exact .inr (.inl ⟨_,_,_,d,k7v b ha _,a,h⟩)
  ·rename_i d _;split at h
   ·rename_i q f;cases hk:(!(st.heap.any fun r=>r.1 == q.1) && befB z.os.toList i q.1 es) with
    | false=>rw [hk] at h;exact h.elim
    | true=>
     rw [hk] at h;rw [qv,Bool.not_eq_true'] at hk;exact .inr (.inr ⟨_,_,_,d,k6x b f,hk.1,hk.2,h⟩)
   ·exact h.elim
  ·exact h.elim
theorem kaan (a:TOk P T) {g:Cfg} (h:W P (k5h T g) Q):W P g Q:=by
 unfold k5h at h;split at h;exact kaay h;exact l_nil (kpb h);exact k9d a h;exact h;exact k99 a h;exact h;exact k9n a h
 ·exact h.elim
theorem kd4 [t:Tab P] (k:Nat) {g:Cfg} (h:W P (crun P k g) Q):W P g Q:=by
 unfold crun at h
 induction k with
 | zero=>exact h
 | succ k ih=>exact ih (kaan t.ok h)
variable [t:Tab P] {g:Cfg} {β:Type} {r:β}
def kt6 (g:Cfg):Bool:=match g.foc with
 | .code _=>true
 | .ops _ _=>true
 | _=>false
def isCode0 (g:Cfg):Bool:=match g.foc with
 | .code _=>true
 | _=>false
def stOf (g:Cfg):St:=g.st
def ku2 (g:Cfg) (st:St):Cfg:=⟨g.foc,g.ks,st⟩
theorem wle (k:Nat) {st':St} (hl:LeSt (stOf (crun P k g)) st') (h:W P (ku2 (crun P k g) st') Q) (hc:kt6 (crun P k g)=true:=by kernel_rfl):W P g Q:=by
 refine kd4 k ?_;generalize crun P k g=g' at *
 obtain ⟨foc,ks,st⟩:=g';cases foc with
 | code c=>exact kagm hl h
 | ops os l=>exact l_le hl h
 | _=>cases hc
def kab3 (g:Cfg):Option Bool:=match g.foc with
 | .code (.cond c _ _)=>match g.st.eval c with
  | .fz (.atom (.bool b))=>some b
  | _=>none
 | _=>none
def brc (b:Bool) (g:Cfg):Cfg:=match g.foc with
 | .code (.cond _ x y)=>⟨.code (bif b then x else y),g.ks,g.st⟩
 | _=>⟨.bad,g.ks,g.st⟩
theorem cd (k:Nat) {b:Bool} {X Y:Option β} (h:(bif b then X else Y)=some r) (h1:X=some r->W P (brc true (crun P k g)) Q) (a:Y=some r->W P (brc false (crun P k g)) Q) (hc:kab3 (crun P k g)=some b:=by kernel_rfl):W P g Q:=by
 refine kd4 k ?_;generalize crun P k g=g' at *
 obtain ⟨foc,ks,st⟩:=g';have key:W P (brc b ⟨foc,ks,st⟩) Q:=by
  cases b with
  | true=>exact h1 h
  | false=>exact a h
 unfold kab3 at hc;simp only at hc;split at hc
 ·rename_i c x y;split at hc;rename_i b' d;injection hc with hc;subst hc;exact k2d d key
  ·cases hc
 ·cases hc
def setT (t:Nat) (v:AV):List (Nat×AV)->List (Nat×AV)
 | []=>[]
 | (k,x)::l=>bif Nat.beq k t then (k,v)::l else (k,x)::setT t v l
def setF (j:Nat) (v:AV):FsT->FsT
 | []=>[]
 | (k,d,x)::l=>bif Nat.beq k j then (k,d,v)::l else (k,d,x)::setF j v l
def getF (j:Nat):FsT->Option AV
 | []=>none
 | (k,d,x)::l=>bif Nat.beq k j then some x else getF j l
def ku0:AV->Option Bool
 | .fz (.atom (.bool b))=>some b
 | _=>none
def k1h (g:Cfg):Option Bool:=match g.foc with
 | .ops os (o::_)=>match o.guard with
  | some (j,_)=>match (os[j]?).bind (·.dst) with
   | some t=>ku0 (g.st.get t)
   | none=>none
  | none=>none
 | .drz _ _ _ (o::_) fs _ _ _=>match o.guard with
  | some (j,_)=>match getF j fs with
   | some v=>ku0 v
   | none=>none
  | none=>none
 | _=>none
def setG (b:Bool) (g:Cfg):Cfg:=match g.foc with
 | .ops os (o::l)=>match o.guard with
  | some (j,_)=>match (os[j]?).bind (·.dst) with
   | some t=>⟨.ops os (o::l),g.ks,{ g.st with tmps:=setT t (.fz (.atom (.bool b))) g.st.tmps }⟩
   | none=>g
  | none=>g
 | .drz z k i (o::l) fs hp ids pn=>match o.guard with
  | some (j,_)=>⟨.drz z k i (o::l) (setF j (.fz (.atom (.bool b))) fs) hp ids pn,g.ks,g.st⟩
  | none=>g
 | _=>g
theorem k4d {t:Nat} {b:Bool}:∀ {l:List (Nat×AV)},ku0 (look .any l t)=some b->setT t (.fz (.atom (.bool b))) l=l
 | [],_=>rfl
 | (k,x)::l,h=>by
  simp only [setT,look] at h ⊢;cases hk:Nat.beq k t with
  | true=>
   rw [hk] at h;simp only [qe] at h ⊢;unfold ku0 at h;split at h;injection h with h;rw [h]
   ·cases h
  | false=>rw [hk] at h;simp only [qd] at h ⊢; rw [k4d h]
theorem k47 {j:Nat} {b:Bool}:∀ {l:FsT} {v:AV},getF j l=some v->ku0 v=some b->setF j (.fz (.atom (.bool b))) l=l
 | [],_,h,_=>rfl
 | (k,d,x)::l,v,h,a=>by
  simp only [setF,getF] at h ⊢;cases hk:Nat.beq k j with
  | true=>
   rw [hk] at h;simp only [qe,qc] at h ⊢;subst h;unfold ku0 at a;split at a;injection a with a;rw [a]
   ·cases a
  | false=>rw [hk] at h;simp only [qd] at h ⊢; rw [k47 h a]
theorem kadi {b:Bool} (h:k1h g=some b):setG b g=g:=by
 obtain ⟨foc,ks,st⟩:=g;unfold k1h at h;unfold setG;cases foc with
 | ops os l=>
  cases l with
  | nil=>rfl
  | cons o l=>
   (try dsimp only at h ⊢);split at h
   ·rename_i j w a;split at h;rename_i t ht;(try simp only [ht]);rw [k4d h]
    ·cases h
   ·cases h
 | drz z k i l fs hp ids pn=>
  cases l with
  | nil=>rfl
  | cons o l=>
   (try dsimp only at h ⊢);split at h
   ·rename_i j w a;split at h;rename_i v hv;(try dsimp only);rw [k47 hv h]
    ·cases h
   ·cases h
 | _=>rfl
theorem gd (k:Nat) {b:Bool} {X Y:Option β} (h:(bif b then X else Y)=some r) (h1:X=some r->W P (setG true (crun P k g)) Q) (a:Y=some r->W P (setG false (crun P k g)) Q) (hc:k1h (crun P k g)=some b:=by kernel_rfl):W P g Q:=by
 refine kd4 k ?_;rw [<- kadi hc];cases b with
 | true=>exact h1 h
 | false=>exact a h
theorem gdb (k:Nat) {b:Bool} {X Y:Option β} (h:(bif b then X else Y)=some r) (h1:b=true->X=some r->W P (crun P k g) Q) (a:b=false->Y=some r->W P (crun P k g) Q):W P g Q:=by
 refine kd4 k ?_;cases b with
 | true=>exact h1 rfl h
 | false=>exact a rfl h
def kp5 (g:Cfg):Option (Oper×St):=match g.foc with
 | .ops os (o::_)=>match kb2 os g.st o,kul g.st o with
  | some true,true=>some (o,g.st)
  | _,_=>none
 | .drz z (_+1) i (o::_) fs hp ids pn=>match kb2 z.os (knm z g.st i o fs hp ids) o with
  | some true=>bif z.es.contains i || k02 z i pn then none else some (o,knm z g.st i o fs hp ids)
  | _=>none
 | .dry z (_+1) i (o::_) fs _ _ _=>match kb2 z.os (kxx z g.st i o fs) o with
  | some true=>some (o,kxx z g.st i o fs)
  | _=>none
 | _=>none
def knp (g:Cfg):Oper:=match g.foc with
 | .ops _ (o::_)=>o
 | .drz _ _ _ (o::_) _ _ _ _=>o
 | .dry _ _ _ (o::_) _ _ _ _=>o
 | _=>default
def k0v (g:Cfg):St:=match kp5 g with
 | some p=>p.2
 | none=>g.st
def rsm (c:AV) (g:Cfg):Cfg:=match g.foc with
 | .ops os (o::l)=>⟨.ops os l,g.ks,g.st.put o.dst c⟩
 | .drz z (k+1) i (o::l) fs hp ids pn=>bif phB z.os.toList z.es i || okA g.st.ids c then ⟨.drz z k (i+1) l ((i,o.dst,c)::fs) hp ids pn,g.ks,g.st⟩ else ⟨.bad,g.ks,g.st⟩
 | .dry z (k+1) i (o::l) fs hp nid es=>bif okA (idsB z.os.toList i nid es g.st.ids) c then ⟨.dry z k (i+1) l ((i,o.dst,c)::fs) hp nid es,g.ks,g.st⟩ else ⟨.bad,g.ks,g.st⟩
 | _=>⟨.bad,g.ks,g.st⟩
end
variable {P:Program} {T:List (TypeId×TD)} {Q:Exit->St->Prop} {st:St} {ks:List Frm} {g:Cfg} {β:Type} {r:β}
theorem k18 {o:Oper} {v:St} {c:AV} (hv:kp5 g=some (o,v)) (hn:NStep P o v c) (h:W P (rsm c g) Q):W P g Q:=by
 obtain ⟨foc,ks,st⟩:=g;unfold kp5 at hv;simp only at hv;split at hv
 ·split at hv;rename_i a e;simp only [qc,qq] at hv;obtain ⟨rfl,rfl⟩:=hv;exact kxt hn.step a (kpr e) h
  ·cases hv
 ·rename_i z k i o' l fs hp ids pn;split at hv
  ·rename_i a;generalize d:(z.es.contains i || k02 z i pn)=b at hv;cases b with
   | true=>cases hv
   | false=>
    rw [Bool.or_eq_false_iff] at d;simp only [qd,qc,qq] at hv;obtain ⟨rfl,rfl⟩:=hv;simp only [rsm] at h;cases hk:(phB z.os.toList z.es i || okA st.ids c) with
    | false=>rw [hk] at h;exact h.elim
    | true=>rw [hk] at h;exact .inr (.inl ⟨d.1,c, .inl ⟨a,hn⟩,hk,h⟩)
  ·cases hv
 ·rename_i z k i o' l fs hp nid es;split at hv
  ·rename_i a;simp only [qc,qq] at hv;obtain ⟨rfl,rfl⟩:=hv;simp only [rsm] at h;cases hk:okA (idsB z.os.toList i nid es st.ids) c with
   | false=>rw [hk] at h;exact h.elim
   | true=>rw [hk] at h;exact .inl ⟨c, .inl ⟨a,hn⟩,hk,h⟩
  ·cases hv
 ·cases hv
section
variable {P:Program} {T:List (TypeId×TD)} {Q:Exit->St->Prop} {st:St} {ks:List Frm} [t:Tab P] {g:Cfg} {β:Type} {r:β}
def mokV (g:Cfg):Bool:=(kp5 g).isSome
theorem k1p {o:Oper} {v:St} (h:kp5 g=some (o,v)):knp g=o/\k0v g=v:=by
 refine ⟨?_,by unfold k0v;rw [h]⟩;obtain ⟨foc,ks,st⟩:=g;unfold kp5 at h;unfold knp;simp only at h ⊢;split at h
 ·split at h;simp only [qc,qq] at h;exact h.1
  ·cases h
 ·rename_i z k i o' l fs hp ids pn;split at h
  ·generalize (z.es.contains i || _)=b at h;cases b with
   | true=>cases h
   | false=>simp only [qd,qc,qq] at h;exact h.1
  ·cases h
 ·split at h;simp only [qc,qq] at h;exact h.1
  ·cases h
 ·cases h
theorem nst (k:Nat) {c:AV} (hn:NStep P (knp (crun P k g)) (k0v (crun P k g)) c) (h:W P (rsm c (crun P k g)) Q) (hv:mokV (crun P k g)=true:=by kernel_rfl):W P g Q:=by refine kd4 k ?_;unfold mokV at hv;obtain ⟨⟨o,v⟩,hv⟩:=Option.isSome_iff_exists.1 hv;obtain ⟨e1,e2⟩:=k1p hv;rw [e1,e2] at hn;exact k18 hv hn h
def okP (g:Cfg):Bool:=match g.foc with
 | .ops os (o::_)=>match kb2 os g.st o,kul g.st o with
  | some true,true=>true
  | _,_=>false
 | _=>false
def rsmA (c:AV) (h:List (Nat×AObj)) (i:List Nat) (g:Cfg):Cfg:=match g.foc with
 | .ops os (o::l)=>⟨.ops os l,g.ks,({ g.st with heap:=h,ids:=i }:St).put o.dst c⟩
 | _=>⟨.bad,g.ks,g.st⟩
theorem sst (k:Nat) {c:AV} {h:List (Nat×AObj)} {i:List Nat} (hn:kau P (knp (crun P k g)) (stOf (crun P k g)) c h i) (a:W P (rsmA c h i (crun P k g)) Q) (hv:okP (crun P k g)=true:=by kernel_rfl):W P g Q:=by
 refine kd4 k ?_;generalize crun P k g=g' at *
 obtain ⟨foc,ks,st⟩:=g';unfold okP at hv;simp only at hv;split at hv
 ·split at hv;rename_i b d;exact kxt hn b (kpr d) a
  ·cases hv
 ·cases hv
def dzOk (n:Nat) (es ai:List Nat) (g:Cfg):Bool:=match g.foc with
 | .code (.region _ os true)=>relB os.toList n g.st.n && (kxm os.toList n es && g.st.ids.all ai.contains)
 | _=>false
def dzOf (n:Nat) (es ch ai:List Nat) (g:Cfg):Cfg:=match g.foc with
 | .code (.region _ os true)=>⟨.drz ⟨os,n,es,ch,ai⟩ n 0 os.toList [] g.st.heap g.st.ids none,g.ks,g.st⟩
 | _=>⟨.bad,g.ks,g.st⟩
theorem dz (k n:Nat) (es ch ai:List Nat) (a:W P (dzOf n es ch ai (crun P k g)) Q) (hc:dzOk n es ai (crun P k g)=true:=by kernel_rfl):W P g Q:=by
 refine kd4 k ?_;generalize crun P k g=g' at *
 obtain ⟨foc,ks,st⟩:=g';unfold dzOk at hc;simp only at hc;split at hc;rename_i id os;simp only [qv] at hc;obtain ⟨l⟩:=os;exact kacs t.mixed hc.1 hc.2.1 hc.2.2 a
 ·cases hc
def dyOk (n:Nat) (ai:List Nat) (g:Cfg):Bool:=match g.foc with
 | .code (.region _ os true)=>relB os.toList n g.st.n && g.st.ids.all ai.contains
 | _=>false
def dyOf (n:Nat) (ai:List Nat) (g:Cfg):Cfg:=match g.foc with
 | .code (.region _ os true)=>⟨.dry ⟨os,n,[],[],ai⟩ n 0 os.toList [] [] [] [],g.ks,g.st⟩
 | _=>⟨.bad,g.ks,g.st⟩
theorem dy (k n:Nat) (ai:List Nat) (a:W P (dyOf n ai (crun P k g)) Q) (hc:dyOk n ai (crun P k g)=true:=by kernel_rfl):W P g Q:=by
 refine kd4 k ?_;generalize crun P k g=g' at *
 obtain ⟨foc,ks,st⟩:=g';unfold dyOk at hc;simp only at hc;split at hc;rename_i id os;simp only [qv] at hc;obtain ⟨l⟩:=os;exact kadv t.mixed hc.1 hc.2 a
 ·cases hc
def kabn (g:Cfg):List Nat:=g.st.ids
theorem dw (k n:Nat) (a:W P (dzOf n [] [] (kabn (crun P k g)) (crun P k g)) Q) (hc:dzOk n [] (kabn (crun P k g)) (crun P k g)=true:=by kernel_rfl):W P g Q:=dz k n [] [] _ a (hc:=hc)
def okZ (g:Cfg):Bool:=match g.foc with
 | .drz z (_+1) i (o::_) fs hp ids none=>z.es.contains i && (match kb2 z.os (knm z g.st i o fs hp ids) o with | some true=>true | _=>false)
 | _=>false
def krn (g:Cfg):St:=match g.foc with
 | .drz z _ i (o::_) fs hp ids _=>knm z g.st i o fs hp ids
 | _=>g.st
def offZ (g:Cfg) (h:List (Nat×AObj)):List (Option AObj):=match g.foc with
 | .drz z _ _ _ _ hp _ _=>(ktd z.ch hp).map (kaa h)
 | _=>[]
def hpZ (g:Cfg):List (Nat×AObj):=match g.foc with
 | .drz _ _ _ _ _ hp _ _=>hp
 | _=>[]
def idsZ (i':List Nat) (g:Cfg):Bool:=match g.foc with
 | .drz z _ _ _ _ _ ids _=>kss z.ai ids i'
 | _=>false
def rsmZ (c:AV) (a:List (Nat×AObj)) (i':List Nat) (g:Cfg):Cfg:=match g.foc with
 | .drz z (k+1) i (o::l) fs _ _ _=>⟨.drz z k (i+1) l ((i,o.dst,c)::fs) a i' none,g.ks,g.st⟩
 | _=>⟨.bad,g.ks,g.st⟩
theorem zst (k:Nat) {c:AV} {a:List (Nat×AObj)} {i':List Nat} (hn:kau P (knp (crun P k g)) (krn (crun P k g)) c a i') (d:W P (rsmZ c a i' (crun P k g)) Q) (hv:okZ (crun P k g)=true:=by kernel_rfl) (hi:idsZ i' (crun P k g)=true:=by kernel_rfl) (hk:offZ (crun P k g) a=offZ (crun P k g) (hpZ (crun P k g)):=by kernel_rfl):W P g Q:=by
 refine kd4 k ?_;generalize crun P k g=g' at *
 obtain ⟨foc,ks,st⟩:=g';unfold okZ at hv;simp only at hv;split at hv
 ·rename_i z k i o l fs hp ids;simp only [qv] at hv;obtain ⟨h1,b⟩:=hv;split at b;rename_i e;exact .inr (.inr (.inl ⟨h1,rfl,c,a,i',⟨.inl ⟨e,hn⟩, .inr ⟨kaf9 hk,kwb hi⟩⟩,d⟩))
  ·cases b
 ·cases hv
def mpre (g:Cfg):Cfg:=⟨g.foc,[],g.st⟩
def ksOf (g:Cfg):List Frm:=g.ks
end
theorem kaba {os:Array Oper} {l:List Oper} (h:awpL P os l st fun e st'=>∃ st2,LeSt st' st2/\Q e st2):awpL P os l st Q:=fun F S0 N0 ψ S a w hs=>
 kcu (fun e a' w' ⟨st',ψ',S',⟨st2,h0,h1⟩,b,c⟩=>by obtain ⟨ψ2,S2,d⟩:=h0 F S0 N0 ψ' S' a' w' b;exact ⟨st2,ψ2,S2,h1,d,c⟩) _ _ _ (h F S0 N0 ψ S a w hs)
theorem k7f {os:Array Oper} {l:List Oper} {Q':Exit->St->Prop} (h:awpL P os l st Q) (b:∀ e st,Q e st->Q' e st):awpL P os l st Q':=fun F S0 N0 ψ S a w hs=>
 kcu (fun e a' w' ⟨st',ψ',S',h1,c⟩=>⟨st',ψ',S',b _ _ h1,c⟩) _ _ _ (h F S0 N0 ψ S a w hs)
section
variable {P:Program} {T:List (TypeId×TD)} {Q:Exit->St->Prop} {st:St} {ks:List Frm} [t:Tab P] {g:Cfg} {β:Type} {r:β}
def WeakQ (Q:Exit->St->Prop):Exit->St->Prop:=fun e st'=>∃ st2,LeSt st' st2/\Q e st2
end
section
variable {P:Program} {T:List (TypeId×TD)} {Q:Exit->St->Prop} {st:St} {ks:List Frm} [t:Tab P] {g:Cfg} {β:Type} {r:β}
theorem jn (k:Nat) (Qa:Exit->St->Prop) (hc:kt6 (crun P k g)=true) (ha:W P (mpre (crun P k g)) Qa) (b:∀ e st',Qa e st'->∃ st2,LeSt st' st2/\W P (unw e (ksOf (crun P k g)) st2) Q):W P g Q:=by
 refine kd4 k ?_;generalize crun P k g=g' at *
 obtain ⟨foc,ks,st⟩:=g';have a:∀ e st',Qa e st'->WeakQ (kif P ks Q) e st':=fun e st' h=>let ⟨st2,h1,d⟩:=b e st' h;⟨st2,h1,k77 d⟩;cases foc with
 | code c=>exact ks5 (kws (show awp P c st Qa from ha) a)
 | ops os l=>exact kaba (k7f (show awpL P os l st Qa from ha) a)
 | _=>cases hc
theorem jn1 {α:Type} {E:Option α} {K:α->Option β} (k:Nat) (e:Exit) (J:α->St) (h:Option.bind E K=some r) (ha:∀ v,E=some v->W P (mpre (crun P k g)) fun e' st=>e'=e/\LeSt st (J v)) (a:∀ v,K v=some r->W P (unw e (ksOf (crun P k g)) (J v)) Q) (hc:kt6 (crun P k g)=true:=by kernel_rfl):W P g Q:=by obtain ⟨v,h1,b⟩:=qm.1 h;refine jn k _ hc (ha v h1) ?_;rintro _ st' ⟨rfl,hl⟩;exact ⟨_,hl,a v b⟩
theorem jnQ {α:Type} {E:Option α} {K:α->Option β} (k:Nat) (Qa:α->Exit->St->Prop) (h:Option.bind E K=some r) (ha:∀ v,E=some v->W P (mpre (crun P k g)) (Qa v)) (a:∀ v,K v=some r->∀ e st',Qa v e st'->∃ st2,LeSt st' st2/\W P (unw e (ksOf (crun P k g)) st2) Q) (hc:kt6 (crun P k g)=true:=by kernel_rfl):W P g Q:=by obtain ⟨v,h1,b⟩:=qm.1 h;exact jn k _ hc (ha v h1) (a v b)
def kaby:FV->C0
 | .lst s _ _ => .sl s
 | .bx _ => .px
 | _ => .keep
def k5a:AV->C0
 | .fz x=>kaby x
 | _ => .keep
def auto1:AV->C1
 | .fz (.agg xs) => .ag (xs.map kaby)
 | .agg xs => .ag (xs.map k5a)
 | x => .one (k5a x)
def autoT (st:St):List (Nat×C1):=st.tmps.map fun p=>(p.1,auto1 p.2)
def autoO:AObj->List C0
 | .box _ cs=>cs.map k5a
 | _=>[]
def autoH (st:St):List (Nat×List C0):=st.heap.map fun p=>(p.1,autoO p.2)
def coA (st J:St):Option St:=coSt st J.ids (autoT J) (autoH J)
theorem le_a {st J:St} (h:coA st J=some J:=by kernel_rfl):LeSt st J:=le_co h
def kqw:Foc->Exit->Bool
 | .fin .normal, .normal=>true
 | .fin .ret, .ret=>true
 | .fin (.exit i), .exit j=>Nat.beq i j
 | _,_=>false
theorem k1x {foc:Foc} {e:Exit} (h:kqw foc e=true):foc = .fin e/\(e = .normal\/e = .ret\/∃ i,e = .exit i):=by
 unfold kqw at h;split at h;exact ⟨rfl, .inl rfl⟩;exact ⟨rfl, .inr (.inl rfl)⟩;rename_i i j;rw [qk h];exact ⟨rfl, .inr (.inr ⟨_,rfl⟩)⟩
 ·cases h
def jok (g:Cfg) (e:Exit) (J:St):Option St:=bif kqw g.foc e then coA g.st J else none
end
section
variable {P:Program} {T:List (TypeId×TD)} {Q:Exit->St->Prop} {st:St} {ks:List Frm} [t:Tab P] {g:Cfg} {β:Type} {r:β}
def nilK (g:Cfg):Bool:=match g.ks with
 | []=>true
 | _=>false
theorem lj (k:Nat) {e:Exit} {J:St} (hc:(bif nilK (crun P k g) then jok (crun P k g) e J else none)=some J:=by kernel_rfl):W P g fun e' st=>e'=e/\LeSt st J:=by
 refine kd4 k ?_;generalize crun P k g=g' at *
 obtain ⟨foc,ks,st⟩:=g';cases ks with
 | cons=>cases hc
 | nil=>
  simp only [nilK,jok,qe] at hc;cases hf:kqw foc e with
  | false=>rw [hf] at hc;cases hc
  | true=>
   rw [hf] at hc;obtain ⟨rfl,_⟩:=k1x hf;exact ⟨rfl,le_a hc⟩
theorem lo (k:Nat) {e:Exit} {J:St} (hc:(bif nilK (crun P k g) && !kqw (crun P k g).foc .normal then jok (crun P k g) e J else none)=some J):W P g fun e' st=>(e' ≠ .normal/\e' ≠ .outgrown)/\(e'=e/\LeSt st J):=by
 refine kd4 k ?_;generalize crun P k g=g' at *
 obtain ⟨foc,ks,st⟩:=g';cases ks with
 | cons=>cases hc
 | nil=>
  simp only [nilK,jok,Bool.true_and] at hc;cases hn:kqw foc .normal with
  | true=>rw [hn] at hc;cases hc
  | false=>
   rw [hn] at hc;cases hf:kqw foc e with
   | false=>rw [hf] at hc;cases hc
   | true=>
    rw [hf] at hc;obtain ⟨rfl,a⟩:=k1x hf;refine ⟨⟨fun h=>?_,fun h=>?_⟩,rfl,le_a hc⟩;subst h;cases hn
    ·rcases a with rfl | rfl | ⟨i,rfl⟩ <;> cases h
def knq:Foc->Bool
 | .fin .normal=>true
 | .fin .ret=>true
 | _=>false
def kt4:Foc->Bool
 | .fin .ret=>true
 | _=>false
def rokq (T:List (TypeId×TD)) (g:Cfg) (rs:List ResultVar) (cs:List C1):Option FV:=bif nilK g && knq g.foc then retX T g.st rs cs else none
def rokr (T:List (TypeId×TD)) (g:Cfg) (rs:List ResultVar) (cs:List C1):Option FV:=bif kt4 g.foc then retX T g.st rs cs else none
theorem lq (k:Nat) {rs:List ResultVar} {cs:List C1} {y:FV} (hc:rokq t.T (crun P k g) rs cs=some y:=by kernel_rfl):W P g (retQ t.T rs cs y):=by
 refine kd4 k ?_;generalize crun P k g=g' at *
 obtain ⟨foc,ks,st⟩:=g';unfold rokq at hc;cases ks with
 | cons=>cases hc
 | nil=>
  simp only [nilK,Bool.true_and] at hc;cases hf:knq foc with
  | false=>rw [hf] at hc;cases hc
  | true=>
   rw [hf] at hc;unfold knq at hf;split at hf;exact hc;exact hc
   ·cases hf
theorem lr (k:Nat) {rs:List ResultVar} {cs:List C1} {y:FV} (hc:rokr t.T (crun P k g) rs cs=some y:=by kernel_rfl):W P g fun e st=>e = .ret/\retX t.T st rs cs=some y:=by
 refine kd4 k ?_;generalize crun P k g=g' at *
 obtain ⟨foc,ks,st⟩:=g';unfold rokr at hc;cases hf:kt4 foc with
 | false=>simp only [hf] at hc;cases hc
 | true=>
  simp only [hf] at hc;unfold kt4 at hf;split at hf;exact kux (Q:=fun e st=>e = .ret/\retX t.T st rs cs=some y) ⟨rfl,hc⟩
  ·cases hf
theorem lor (k:Nat) {rs:List ResultVar} {cs:List C1} {y:FV} (hc:rokr t.T (crun P k g) rs cs=some y:=by kernel_rfl):W P g fun e st=>(e ≠ .normal/\e ≠ .outgrown)/\(e = .ret/\retX t.T st rs cs=some y):=by
 refine kd4 k ?_;generalize crun P k g=g' at *
 obtain ⟨foc,ks,st⟩:=g';unfold rokr at hc;cases hf:kt4 foc with
 | false=>simp only [hf] at hc;cases hc
 | true=>
  simp only [hf] at hc;unfold kt4 at hf;split at hf;exact kux (Q:=fun e st=>(e ≠ .normal/\e ≠ .outgrown)/\(e = .ret/\retX t.T st rs cs=some y)) ⟨⟨(fun h=>nomatch h),(fun h=>nomatch h)⟩,rfl,hc⟩
  ·cases hf
theorem lv {rs:List ResultVar} {cs:List C1} {y:FV} {st:St} {ks:List Frm} (h:retX t.T st rs cs=some y):W P (unw .ret ks st) (retQ t.T rs cs y):=h
theorem lvr {rs:List ResultVar} {cs:List C1} {y:FV} {st:St} {ks:List Frm} (h:retX t.T st rs cs=some y):W P (unw .ret ks st) fun e st=>e = .ret/\retX t.T st rs cs=some y:=⟨rfl,h⟩
theorem lvo {rs:List ResultVar} {cs:List C1} {y:FV} {st:St} {ks:List Frm} (h:retX t.T st rs cs=some y):W P (unw .ret ks st) fun e st=>(e ≠ .normal/\e ≠ .outgrown)/\(e = .ret/\retX t.T st rs cs=some y):=⟨⟨fun h=>(nomatch h),fun h=>(nomatch h)⟩,rfl,h⟩
end
theorem ob {α:Type} {E:Option α} {K:α->Option β} (h:Option.bind E K=some r) (f:∀ v,E=some v->K v=some r->W P g Q):W P g Q:=by obtain ⟨v,h1,a⟩:=qm.1 h;exact f v h1 a
def Hid (_:Nat) (p:Prop):Prop:=p
theorem ls {α:Type} {X v:α} {Qf:α->Exit->St->Prop} (h:some X=some v) (a:W P g (Qf X)):W P g (Qf v):=by obtain rfl:=qaj h;exact a
theorem lJ {p q:Prop} (k:Nat) (a:p->Hid k q:=by intro h;cases h;exact ljh _):p->q:=a
theorem lO {p q:Prop} (k:Nat) (a:p->Hid k q:=by intro h;cases h;exact loh _):p->q:=a
theorem lQ {p q:Prop} (k:Nat) (a:p->Hid k q:=by intro h;cases h;exact lqh _):p->q:=a
theorem lR {p q:Prop} (k:Nat) (a:p->Hid k q:=by intro h;cases h;exact lorh _):p->q:=a
section
variable {P:Program} {T:List (TypeId×TD)} {Q:Exit->St->Prop} {st:St} {ks:List Frm} [t:Tab P] {g:Cfg} {β:Type} {r:β}
theorem ljh (k:Nat) {e:Exit} {J:St} (hc:(bif nilK (crun P k g) then jok (crun P k g) e J else none)=some J:=by kernel_rfl):Hid k (W P g fun e' st=>e'=e/\LeSt st J):=lj k hc
theorem loh (k:Nat) {e:Exit} {J:St} (hc:(bif nilK (crun P k g) && !kqw (crun P k g).foc .normal then jok (crun P k g) e J else none)=some J:=by kernel_rfl):Hid k (W P g fun e' st=>(e' ≠ .normal/\e' ≠ .outgrown)/\(e'=e/\LeSt st J)):=lo k hc
theorem lqh (k:Nat) {rs:List ResultVar} {cs:List C1} {y:FV} (hc:rokq t.T (crun P k g) rs cs=some y:=by kernel_rfl):Hid k (W P g (retQ t.T rs cs y)):=lq k hc
theorem lorh (k:Nat) {rs:List ResultVar} {cs:List C1} {y:FV} (hc:rokr t.T (crun P k g) rs cs=some y:=by kernel_rfl):Hid k (W P g fun e st=>(e ≠ .normal/\e ≠ .outgrown)/\(e = .ret/\retX t.T st rs cs=some y)):=lor k hc
def kwz (g:Cfg):Cfg:=match g.foc with
 | .code (.loop c)=>⟨.code c,[],g.st⟩
 | _=>⟨.bad,[],g.st⟩
def ktp (g:Cfg):Bool:=match g.foc with
 | .code (.loop _)=>true
 | _=>false
theorem lpx {σ α:Type} {step:σ->Option (σ ⊕ α)} {n:Nat} {s0:σ} {K:α->Option β} (k:Nat) (H:σ->St) (Qb:α->Exit->St->Prop) (h:Option.bind (kab step n s0) K=some r) (h0:LeSt (stOf (crun P k g)) (H s0)) (a:∀ s r',step s=some r'->W P (ku2 (kwz (crun P k g)) (H s)) (Sum.elim (fun s' e st=>e = .normal/\LeSt st (H s')) (fun v e st=>(e ≠ .normal/\e ≠ .outgrown)/\Qb v e st) r')) (ha:∀ v,K v=some r->∀ e st',Qb v e st'->∃ st2,LeSt st' st2/\W P (unw e (ksOf (crun P k g)) st2) Q) (hc:ktp (crun P k g)=true:=by kernel_rfl):W P g Q:=by
 refine kd4 k ?_;generalize crun P k g=g' at *
 obtain ⟨foc,ks,st⟩:=g';obtain ⟨v,h1,d⟩:=qm.1 h;unfold ktp at hc;simp only at hc;split at hc
 ·rename_i c;refine k9i (k6r (st:=st) (P:=P) c H Qb h1 h0 fun s r' hs=>?_) fun e st' f=>?_
  ·have:=a s r' hs;cases r' with
   | inl s'=>exact this
   | inr b=>exact this
  ·obtain ⟨st2,e1,e2⟩:=ha v d e st' f;exact ⟨st2,e1,k77 e2⟩
 ·cases hc
theorem lpr {σ α ρ:Type} {step:σ->Option (σ ⊕ (α ⊕ ρ))} {n:Nat} {s0:σ} {f:α->Option β} {q:ρ->Option β} (k:Nat) (h:Option.bind (kab step n s0) (fun v=>Sum.elim f q v)=some r) (H:σ->St) (e:Exit) (J:α->St) (rs:List ResultVar) (cs:List C1) (y:ρ->FV)
  (c:∀ s r',step s=some r'->W P (ku2 (kwz (crun P k g)) (H s)) (Sum.elim (fun s' e' st=>e' = .normal/\LeSt st (H s')) (fun v e' st=>(e' ≠ .normal/\e' ≠ .outgrown)/\Sum.elim (fun p=>e'=e/\LeSt st (J p)) (fun p=>e' = .ret/\retX t.T st rs cs=some (y p)) v) r'))
  (h1:∀ p,f p=some r->W P (unw e (ksOf (crun P k g)) (J p)) Q)
  (d:∀ p st,q p=some r->retX t.T st rs cs=some (y p)->W P (unw .ret (ksOf (crun P k g)) st) Q:=by intro _ _ h a;cases h;first | exact lv a | exact lvo a | exact lvr a)
  (hc:ktp (crun P k g)=true:=by kernel_rfl) (h0:coA (stOf (crun P k g)) (H s0)=some (H s0):=by kernel_rfl):W P g Q:=by
 refine lpx k H (fun v e' st=>Sum.elim (fun p=>e'=e/\LeSt st (J p)) (fun p=>e' = .ret/\retX t.T st rs cs=some (y p)) v) h (le_a h0) c (fun v hv e' st' b=>?_) (hc:=hc);cases v with
 | inl p=>obtain ⟨rfl,hl⟩:=b;exact ⟨_,hl,h1 p hv⟩
 | inr p=>obtain ⟨rfl,hr⟩:=b;exact ⟨_,LeSt.refl,d p _ hv hr⟩
theorem lpq {σ α:Type} {step:σ->Option (σ ⊕ (α ⊕ β))} {n:Nat} {s0:σ} {f:α->Option β} {rs:List ResultVar} {cs:List C1} (k:Nat) (h:Option.bind (kab step n s0) (fun v=>Sum.elim f (fun w=>some w) v)=some r) (H:σ->St) (e:Exit) (J:α->St) (y:β->FV)
  (b:∀ s r',step s=some r'->W P (ku2 (kwz (crun P k g)) (H s)) (Sum.elim (fun s' e' st=>e' = .normal/\LeSt st (H s')) (fun v e' st=>(e' ≠ .normal/\e' ≠ .outgrown)/\Sum.elim (fun p=>e'=e/\LeSt st (J p)) (fun p=>e' = .ret/\retX t.T st rs cs=some (y p)) v) r'))
  (h1:∀ p,f p=some r->W P (unw e (ksOf (crun P k g)) (J p)) (retQ t.T rs cs (y r)))
  (hc:ktp (crun P k g)=true:=by kernel_rfl) (h0:coA (stOf (crun P k g)) (H s0)=some (H s0):=by kernel_rfl):W P g (retQ t.T rs cs (y r)):=
 lpr k h H e J rs cs y b h1 (fun p st hp a=>by cases hp;exact lv a) hc h0
theorem lp1 {σ α:Type} {step:σ->Option (σ ⊕ α)} {n:Nat} {s0:σ} {K:α->Option β} (k:Nat) (H:σ->St) (e:Exit) (J:α->St) (h:Option.bind (kab step n s0) K=some r) (a:∀ s r',step s=some r'->W P (ku2 (kwz (crun P k g)) (H s)) (Sum.elim (fun s' e st=>e = .normal/\LeSt st (H s')) (fun v e' st=>(e' ≠ .normal/\e' ≠ .outgrown)/\(e'=e/\LeSt st (J v))) r')) (ha:∀ v,K v=some r->W P (unw e (ksOf (crun P k g)) (J v)) Q) (hc:ktp (crun P k g)=true:=by kernel_rfl) (h0:coA (stOf (crun P k g)) (H s0)=some (H s0):=by kernel_rfl):W P g Q:=by refine lpx k H _ h (le_a h0) a (fun v hv e' st' b=>?_) (hc:=hc);obtain ⟨rfl,hl⟩:=b;exact ⟨_,hl,ha v hv⟩
def krv (fn:Func):Code:=fn.body.getD .skip
theorem ktu {fn:Func} (h:fn.body.isSome=true):fn.body=some (krv fn):=by
 unfold krv;cases a:fn.body with
 | none=>rw [a] at h;cases h
 | some c=>rfl
def inlW (P:Program) (os:Array Oper) (l:List Oper) (ks:List Frm) (dst:Option Nat) (n:Nat) (D:List Deferred) (gi:Nat) (cs:List Value) (keep:List (Nat×AV)) (rs:List ResultVar) (Q:Exit->St->Prop):Exit->St->Prop:=inlQ P os l dst n D gi cs keep rs (kif P ks Q)
def inlF (g:Cfg):Option (FuncId×List AV):=match g.foc with
 | .ops os (o::_)=>match kb2 os g.st o,kul g.st o with
  | some true,true=>match o.op with
   | .call c=>match c.callee with
    | .value x=>match g.st.eval x with
     | .fn f cap=>some (f,c.args.toList.map g.st.eval++cap)
     | _=>none
    | _=>none
   | _=>none
  | _,_=>none
 | _=>none
def opsOf (g:Cfg):Array Oper:=match g.foc with
 | .ops os _=>os
 | _=>#[]
def kae2 (g:Cfg):List Oper:=match g.foc with
 | .ops _ (_::l)=>l
 | _=>[]
def dstOf (g:Cfg):Option Nat:=match g.foc with
 | .ops _ (o::_)=>o.dst
 | _=>none
theorem inl (k : Nat) {f : FuncId} {fn : Func} {n gi : Nat} {ys : List AV} (hf : P.funcs[f]? = some fn) (e : fn.body.isSome = true) (hn : (fn.name == "runtime.NumGoroutine") = false) (a : fn.ntmps = n) (b : Nat.ble ys.length n = true) (c : (stOf (crun P k g)).ids.contains gi = false)
  (hc:inlF (crun P k g)=some (f,ys))
  (h:∀ cs,W P ⟨.code (krv fn),[],{ n:=n,tmps:=argT 0 ys,heap:=(gi, .gho cs ((stOf (crun P k g)).tmps.map fun p=>(stOf (crun P k g)).get p.1))::(stOf (crun P k g)).heap,ids:=gi::(stOf (crun P k g)).ids }⟩
   (inlW P (opsOf (crun P k g)) (kae2 (crun P k g)) (ksOf (crun P k g)) (dstOf (crun P k g)) (stOf (crun P k g)).n (stOf (crun P k g)).dfr gi cs (stOf (crun P k g)).tmps fn.results.toList Q)):W P g Q:=by
 refine kd4 k ?_;generalize crun P k g=g' at *
 obtain ⟨foc,ks,st⟩:=g';unfold inlF at hc;simp only at hc;split at hc
 ·split at hc
  ·rename_i i j;split at hc
   ·rename_i c' ho;split at hc
    ·rename_i x d;split at hc;rename_i f' cap hv;simp only [qc,qq] at hc;obtain ⟨rfl,rfl⟩:=hc;obtain ⟨cc,as1,ts⟩:=c';simp only at d;subst d;exact kaal ho hv i (kpr j) hf (ktu e) hn a rfl b c h
     ·cases hc
    ·cases hc
   ·cases hc
  ·cases hc
 ·cases hc
theorem li (k:Nat) {os:Array Oper} {l:List Oper} {ks:List Frm} {dst:Option Nat} {n gi:Nat} {D:List Deferred} {cs:List Value} {keep:List (Nat×AV)} {rs:List ResultVar} (vs:List AV) (rv:AV) (hc:(bif nilK (crun P k g) && knq (crun P k g).foc then kaa (stOf (crun P k g)).heap gi else none)=some (.gho cs vs)) (a:(stOf (crun P k g)).dfr=[]) (hr:(rs=[]/\rv = .any)\/∃ z,rs=[.tmp z]/\(stOf (crun P k g)).get z=rv) (h:W P ⟨.ops os l,ks,({ n:=n,tmps:=zipS keep vs,heap:=kdz gi (stOf (crun P k g)).heap,ids:=(stOf (crun P k g)).ids,dfr:=D }:St).put dst rv⟩ Q):W P g (inlW P os l ks dst n D gi cs keep rs Q):=by
 refine kd4 k ?_;generalize crun P k g=g' at *
 obtain ⟨foc,ks',st⟩:=g';cases ks' with
 | cons=>cases hc
 | nil=>
  simp only [nilK,Bool.true_and] at hc;cases hf:knq foc with
  | false=>rw [hf] at hc;cases hc
  | true=>
   rw [hf] at hc;unfold knq at hf;split at hf;exact ⟨.inl rfl,a,vs,rv,hc,hr,h⟩;exact ⟨.inr rfl,a,vs,rv,hc,hr,h⟩
   ·cases hf
theorem hcx0 {f : FuncId} {fn : Func} {args : List AV} {pre : List (Nat × AObj)} {ids : List Nat} {E : HEnd} {post : List (Nat × AObj)} {ids' : List Nat} {gi : Nat} (hf : P.funcs[f]? = some fn) (d : fn.body.isSome = true) (hn : (fn.name == "runtime.NumGoroutine") = false)
  (a:Nat.ble args.length fn.ntmps=true) (e:ids.contains gi=false) (b:ids'.contains gi=false) (c:(post.all fun p=>okO ids' p.2)=true) (g:E.ok ids'=true) (hk:(post.all fun p=>ids'.contains p.1)=true)
  (h:∀ ψ0 S1 w0,W P ⟨.code (krv fn),[],{ n:=fn.ntmps,tmps:=argT 0 args,heap:=(gi, .was ψ0 ids S1 w0)::pre,ids:=gi::ids }⟩ (hQ t.T fn.results.toList gi ids E post ids' ψ0 S1 w0)):kcx P f args pre ids E post ids':=
 k14 t.ok hf (ktu d) hn a e b c g hk h
theorem hcx {f: FuncId} {fn: Func} {args: List AV} {pre: List (Nat × AObj)} {ids: List Nat} {E: HEnd} {post: List (Nat × AObj)} {ids': List Nat} (gi: Nat) (hf: P.funcs[f]? = some fn) (h: ∀ ψ0 S1 w0, W P ⟨.code (krv fn), [], { n := fn.ntmps, tmps := argT 0 args, heap := (gi, .was ψ0 ids S1 w0) :: pre, ids := gi :: ids }⟩ (hQ t.T fn.results.toList gi ids E post ids' ψ0 S1 w0)) (d: fn.body.isSome = true := by kernel_rfl) (hn: (fn.name == "runtime.NumGoroutine") = false := by kernel_rfl) (a: Nat.ble args.length fn.ntmps = true := by kernel_rfl) (e: ids.contains gi = false := by kernel_rfl) (b: ids'.contains gi = false := by kernel_rfl) (c: (post.all fun p => okO ids' p.2) = true := by kernel_rfl) (g: E.ok ids' = true := by kernel_rfl) (hk: (post.all fun p => ids'.contains p.1) = true := by kernel_rfl): kcx P f args pre ids E post ids' :=
 hcx0 hf d hn a e b c g hk h
theorem lh (k:Nat) {rs:List ResultVar} {gi:Nat} {ids ids':List Nat} {res:AV} {post:List (Nat×AObj)} {ψ0:Env} {S1:Nat->Prop} {w0:World} (st2:St) (hl:LeSt (stOf (crun P k g)) st2) (a:st2.heap=(gi, .was ψ0 ids S1 w0)::post) (hi:st2.ids=gi::ids')
  (hc:(nilK (crun P k g) && knq (crun P k g).foc)=true) (hr:retA t.T st2 rs=some res):W P g (hQ t.T rs gi ids (.ret res) post ids' ψ0 S1 w0):=by
 refine kd4 k ?_;generalize crun P k g=g' at *
 obtain ⟨foc,ks,st⟩:=g';simp only [qv] at hc;cases ks with
 | cons=>cases hc.1
 | nil=>
  have hf:knq foc=true:=hc.2;unfold knq at hf;split at hf;exact k67 hl a hi (.inl rfl) hr;exact k67 hl a hi (.inr rfl) hr
  ·cases hf
def zipR (st:St):List ResultVar->List AV->List (Nat×AV)
 | .tmp t::rs,x::xs=>(t,x)::zipR st rs xs
 | .cell t _::rs,_::xs=>(t,st.get t)::zipR st rs xs
 | _,_=>[]
def retT (st:St):List ResultVar->AV->List (Nat×AV)
 | [.tmp t],a=>[(t,a)]
 | [.cell t _],_=>[(t,st.get t)]
 | rs, .fz (.tup xs)=>zipR st rs (xs.map .fz)
 | rs, .tup xs=>zipR st rs xs
 | _,_=>[]
def retJ (st:St) (rs:List ResultVar) (res:AV) (gi:Nat) (o:AObj) (post:List (Nat×AObj)) (ids':List Nat):St:={ n:=st.n,tmps:=retT st rs res,heap:=(gi,o)::post,ids:=gi::ids' }
theorem lhy (k:Nat) {rs:List ResultVar} {gi:Nat} {ids ids':List Nat} {res:AV} {post:List (Nat×AObj)} {ψ0:Env} {S1:Nat->Prop} {w0:World} (hl:coA (stOf (crun P k g)) (retJ (stOf (crun P k g)) rs res gi (.was ψ0 ids S1 w0) post ids')=some (retJ (stOf (crun P k g)) rs res gi (.was ψ0 ids S1 w0) post ids'):=by kernel_rfl)
  (hc:(nilK (crun P k g) && knq (crun P k g).foc)=true:=by kernel_rfl) (hr:retA t.T (retJ (stOf (crun P k g)) rs res gi (.was ψ0 ids S1 w0) post ids') rs=some res:=by kernel_rfl):W P g (hQ t.T rs gi ids (.ret res) post ids' ψ0 S1 w0):=
 lh k _ (le_a hl) rfl rfl hc hr
theorem pcl {f : FuncId} {fn : Func} {args : List FV} {y : FV} (cs : List C1) (hf : P.funcs[f]? = some fn) (h : W P ⟨.code (krv fn), [], { n := fn.ntmps, tmps := kog 0 args, heap := [], ids := [] }⟩ (retQ t.T fn.results.toList cs y)) (b : fn.body.isSome = true := by kernel_rfl) (hn : (fn.name == "runtime.NumGoroutine") = false := by kernel_rfl) (a : Nat.ble args.length fn.ntmps = true := by kernel_rfl) : PCall P f args y := k3l t.ok cs hf (ktu b) hn a h
def kxl {γ:Type} (f:Oper->St->Option γ) (g:Cfg):Option γ:=bif okP g then f (knp g) (stOf g) else none
theorem k1v {γ:Type} {f:Oper->St->Option γ} {z:γ} {g:Cfg} (h:kxl f g=some z):okP g=true/\f (knp g) (stOf g)=some z:=by
 unfold kxl at h;cases hk:okP g with
 | false=>rw [hk] at h;cases h
 | true=>rw [hk] at h;exact ⟨rfl,h⟩
end
attribute [irreducible] W
end Go.Proofs.YtchjomeomabamaaGreatDoor
