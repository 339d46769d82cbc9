import Derived.Test.YtnlhjbnpjefjgabGreatDoorDra
import Derived.Test.YtnlhjbnpjefjgabGreatDoorOpr
set_option linter.all false
set_option linter.unusedSectionVars false
namespace Go.Proofs.YtnlhjbnpjefjgabGreatDoor
open Go Go.RowKit
variable [Dr]
class Tab (P:Program) where
 T:List (TypeId×TD)
 ok:TOk P T
 mixed:P.follows .mixedOrders=true
abbrev FsT:=List (Nat×Option Nat×AV)
structure Zn where
 os:Array Oper
 n:Nat
 es:List Nat
 ch:List Nat
 ai:List Nat
inductive Foc where
 | code (c:Code)
 | ops (os:Array Oper) (l:List Oper)
 | drz (z:Zn) (k i:Nat) (l:List Oper) (fs:FsT) (hp:List (Nat×AObj)) (ids:List Nat) (pn:Option Nat)
 | dry (z:Zn) (k i:Nat) (l:List Oper) (fs:FsT) (hp:List (Nat×AObj)) (nid:List Nat) (es:List (Nat×Nat))
 | fin (e:Exit)
 | bad
inductive Frm where
 | seq (c:Code)
 | block (id:Nat)
structure Cfg where
 foc:Foc
 ks:List Frm
 st:St
def krm (T:List (TypeId×TD)) (t:TypeId):Option TK:=match kac T t with
 | some d=>some d.kind
 | none=>none
def k9g (T:List (TypeId×TD)) (sr t:TypeId) (x:AV):Option AV:=match krm T sr,krm T t,x with
 | some _,some (.int k), .fz (.atom (.int _ n))=>some (.fz (.atom (.int k (k.wrap n))))
 | some .str,some .str, .fz (.atom (.string s))=>some (.fz (.atom (.string s)))
 | _,_,_=>none
def kv5 (T:List (TypeId×TD)) (o:Oper) (st:St):Option AV:=match kv9 T o st with
 | some c=>some c
 | none=>match o.op with
  | .convert sr t x=>k9g T sr t (st.eval x)
  | .call c=>match c.callee,c.args.toList with
   | .builtin .min,[x,y]=>match st.eval x,st.eval y with
    | .fz (.atom (.int k m)), .fz (.atom (.int _ n))=>some (.fz (.atom (.int k (imin m n))))
    | _,_=>none
   | .builtin .max,[x,y]=>match st.eval x,st.eval y with
    | .fz (.atom (.int k m)), .fz (.atom (.int _ n))=>some (.fz (.atom (.int k (imax m n))))
    | _,_=>none
   | _,_=>none
  | .makeInterface t x=>match krm T t with
   | some .ifc=>none
   | some _=>match toV (st.eval x) with
    | some v=>some (.fz (.atom (.iface t v)))
    | none=>none
   | none=>none
  | .typeAssert x _ t true=>match krm T t,st.eval x with
   | some .ifc,_=>none
   | some _, .fz (.atom (.iface t' v))=>bif Nat.beq t' t then (match ofV v with
    | some y=>some (.fz (.tup [y, .atom (.bool true)]))
    | none=>none) else none
   | _,_=>none
  | .binOp op t x (.const .nilIface) _=>match krm T t,st.eval x,op with
   | some .ifc, .fz (.atom (.iface _ _)), .eql=>some (.fz (.atom (.bool false)))
   | some .ifc, .fz (.atom (.iface _ _)), .neq=>some (.fz (.atom (.bool true)))
   | some .ifc, .fz (.atom .nilIface), .eql=>some (.fz (.atom (.bool true)))
   | some .ifc, .fz (.atom .nilIface), .neq=>some (.fz (.atom (.bool false)))
   | _,_,_=>none
  | _=>none
theorem kd1 {T:List (TypeId×TD)} {t:TypeId} {k:TK} (h:krm T t=some k):∃ d,kac T t=some d/\d.kind=k:=by
 unfold krm at h;split at h;rename_i d a;injection h with h;exact ⟨d,a,h⟩
 ·cases h
theorem kpz {α:Type} {xs:Array α} {x y:α} (h:xs.toList=[x,y]):xs=#[x,y]:=by apply qbh;simpa using h
theorem kyv {P:Program} {T:List (TypeId×TD)} (f:TOk P T) {o:Oper} {st:St} {c:AV} (h:kv5 T o st=some c):NStep P o st c:=by
 unfold kv5 at h;split at h;rename_i c' hc;injection h with h;subst h;exact ku8 f hc
 ·split at h
  ·rename_i sr t x ho;unfold k9g at h;split at h;rename_i ks k k' n h1 g j;injection h with h;subst h;obtain ⟨ds,hs,_⟩:=kd1 h1;obtain ⟨d,b,hk⟩:=kd1 g;exact k57 f ho hs b hk j;rename_i s h1 g j;injection h with h;subst h;obtain ⟨ds,hs,l⟩:=kd1 h1;obtain ⟨d,b,hk⟩:=kd1 g;exact k3c f ho hs l b hk j
   ·cases h
  ·rename_i c' ho;obtain ⟨cc,as_,ts⟩:=c';split at h
   ·rename_i x y h1 g;simp only at h1 g;rw [h1,kpz g] at ho;split at h;rename_i k m k' n e hy;injection h with h;subst h;exact k9d ho e hy
    ·cases h
   ·rename_i x y h1 g;simp only at h1 g;rw [h1,kpz g] at ho;split at h;rename_i k m k' n e hy;injection h with h;subst h;exact k9h ho e hy
    ·cases h
   ·cases h
  ·rename_i tt x ho;split at h;cases h
   ·rename_i kk i hk;obtain ⟨d,b,a⟩:=kd1 hk;split at h;rename_i v hv;injection h with h;subst h;exact kab6 ho (f.get b) (fun hi=>i (by rw [hi] at a;exact a.symm)) hv
    ·cases h
   ·cases h
  ·rename_i x xt tt ho;split at h;cases h
   ·rename_i kk t' v i hk e;obtain ⟨d,b,a⟩:=kd1 hk;cases p:Nat.beq t' tt with
    | false=>rw [p] at h;cases h
    | true=>
     rw [p] at h;obtain rfl:=qf p;(try simp only [qr] at h);split at h;rename_i y hy;injection h with h;subst h;exact k53 ho (f.get b) (fun hi=>i (by rw [hi] at a;exact a.symm)) e hy
     ·cases h
   ·cases h
  ·rename_i op tt x yt ho;split at h;rename_i s z hk e;obtain ⟨d,b,a⟩:=kd1 hk;injection h with h;subst h;exact kn4 false false ho (f.get b) a e (.inl ⟨rfl,_,_,rfl⟩);rename_i s z hk e;obtain ⟨d,b,a⟩:=kd1 hk;injection h with h;subst h;exact kn4 true false ho (f.get b) a e (.inl ⟨rfl,_,_,rfl⟩);rename_i hk e;obtain ⟨d,b,a⟩:=kd1 hk;injection h with h;subst h;exact kn4 false true ho (f.get b) a e (.inr ⟨rfl,rfl⟩);rename_i hk e;obtain ⟨d,b,a⟩:=kd1 hk;injection h with h;subst h;exact kn4 true true ho (f.get b) a e (.inr ⟨rfl,rfl⟩)
   ·cases h
  ·cases h
def unwN:List Frm->St->Cfg
 | [],st=>⟨.fin .normal,[],st⟩
 | .seq y::ks,st=>⟨.code y,ks,st⟩
 | .block _::ks,st=>unwN ks st
def unwX (id:Nat):List Frm->St->Cfg
 | [],st=>⟨.fin (.exit id),[],st⟩
 | .seq _::ks,st=>unwX id ks st
 | .block i::ks,st=>bif Nat.beq id i then unwN ks st else unwX id ks st
def unw:Exit->List Frm->St->Cfg
 | .normal,ks,st=>unwN ks st
 | .exit i,ks,st=>unwX i ks st
 | .ret,_,st=>⟨.fin .ret,[],st⟩
 | .panic cs,_,st=>⟨.fin (.panic cs),[],st⟩
 | _,_,st=>⟨.bad,[],st⟩
def k4u (T:List (TypeId×TD)) (os:Array Oper) (o:Oper) (l:List Oper) (ks:List Frm) (st:St):Cfg:=match ka0 os st o,kq4 st o with
 | some true,true=>match ktu T o st with
  | some (c,h,i)=>⟨.ops os l,ks,({ st with heap:=h,ids:=i }:St).put o.dst c⟩
  | none=>match kv5 T o st with
   | some c=>⟨.ops os l,ks,st.put o.dst c⟩
   | none=>⟨.bad,ks,st⟩
 | some false,true=>⟨.ops os l,ks,st.put o.dst (.fz (.tup []))⟩
 | _,_=>⟨.bad,ks,st⟩
def kza (T:List (TypeId×TD)) (os:Array Oper) (st:St) (o:Oper):Option AV:=match ka0 os st o with
 | some true=>kv5 T o st
 | some false=>some (.fz (.tup []))
 | none=>none
def k4p:Code->List Frm->St->Cfg
 | .skip,ks,st=>unwN ks st
 | .label _,ks,st=>unwN ks st
 | .exit i,ks,st=>unwX i ks st
 | .ret,_,st=>⟨.fin .ret,[],st⟩
 | .seq x y,ks,st=>⟨.code x, .seq y::ks,st⟩
 | .block id c,ks,st=>⟨.code c, .block id::ks,st⟩
 | .cond c x y,ks,st=>match st.eval c with
  | .fz (.atom (.bool b))=>⟨.code (bif b then x else y),ks,st⟩
  | _=>⟨.bad,ks,st⟩
 | .region _ os false,ks,st=>⟨.ops os os.toList,ks,st⟩
 | _,ks,st=>⟨.bad,ks,st⟩
def kl4 (z:Zn) (st:St) (i:Nat) (o:Oper) (fs:FsT) (hp:List (Nat×AObj)) (ids:List Nat):St:=kch z.os.toList z.n z.es z.ch z.ai st i o fs hp ids
def k4v (ch:List Nat):List (Nat×AObj)->Bool
 | (k,_)::_=>ch.contains k
 | []=>true
def krh (ai ids ids':List Nat):Bool:=ids'.all ai.contains && ids.all ids'.contains
def kzp (z:Zn) (i:Nat):Option Nat->Bool
 | some e=>anc z.os.toList i e
 | none=>false
def k42 (T:List (TypeId×TD)) (z:Zn) (k i:Nat) (o:Oper) (l:List Oper) (fs:FsT) (hp:List (Nat×AObj)) (ids:List Nat) (pn:Option Nat) (ks:List Frm) (st:St):Cfg:=
 bif kzp z i pn then ⟨.drz z k (i+1) l ((i,o.dst, .any)::fs) hp ids pn,ks,st⟩ else
 bif z.es.contains i then (match ka0 z.os (kl4 z st i o fs hp ids) o,ktu T o (kl4 z st i o fs hp ids),pn with
  | some false,_,none=>bif krh z.ai ids ids then ⟨.drz z k (i+1) l ((i,o.dst, .fz (.tup []))::fs) hp ids none,ks,st⟩ else ⟨.bad,ks,st⟩
  | some true,some (c,a,i'),none=>bif Nat.beq (kl4 z st i o fs hp ids).heap.length hp.length && (phB z.os.toList z.es i && (k4v z.ch a && krh z.ai ids i')) then ⟨.drz z k (i+1) l ((i,o.dst,c)::fs) a i' none,ks,st⟩ else ⟨.bad,ks,st⟩
  | _,_,_=>⟨.bad,ks,st⟩)
 else (match kza T z.os (kl4 z st i o fs hp ids) o with
  | some c=>bif phB z.os.toList z.es i || okA st.ids c then ⟨.drz z k (i+1) l ((i,o.dst,c)::fs) hp ids pn,ks,st⟩ else ⟨.bad,ks,st⟩
  | none=>⟨.bad,ks,st⟩)
def kwy (z:Zn) (st:St) (i:Nat) (o:Oper) (fs:FsT):St:=kdr z.os.toList z.n z.ai st i o fs
def kz0 (T:List (TypeId×TD)) (o:Oper):Option (TypeId×List AV):=match o.op with
 | .alloc e=>match kac T e with
  | some d=>match kpf d with
   | some cells=>some (e,cells)
   | none=>none
  | none=>none
 | _=>none
def k1p (T:List (TypeId×TD)) (v:St) (o:Oper):Option (Nat×AObj):=match o.op with
 | .store t x y=>match ktc T v t x y with
  | some (_,q::_,_)=>some q
  | _=>none
 | _=>none
def k1t (z:Zn) (st:St) (es:List (Nat×Nat)) (id:Nat):Bool:=!(st.ids.contains id || (st.heap.any fun q=>q.1 == id) || (es.any fun q=>q.2 == id) || !z.ai.contains id)
def k5a (T:List (TypeId×TD)) (z:Zn) (k i:Nat) (o:Oper) (l:List Oper) (fs:FsT) (hp:List (Nat×AObj)) (nid:List Nat) (es:List (Nat×Nat)) (ks:List Frm) (st:St):Cfg:=
 match kza T z.os (kwy z st i o fs) o with
 | some c=>bif okA (idsB z.os.toList i nid es st.ids) c then ⟨.dry z k (i+1) l ((i,o.dst,c)::fs) hp nid es,ks,st⟩ else ⟨.bad,ks,st⟩
 | none=>match ka0 z.os (kwy z st i o fs) o,kz0 T o with
  | some true,some (e,cells)=>bif k1t z st es (fresh (nid++st.ids)) then ⟨.dry z k (i+1) l ((i,o.dst, .ref (fresh (nid++st.ids)) 0 0)::fs) ((fresh (nid++st.ids), .box e cells)::hp) (fresh (nid++st.ids)::nid) ((i,fresh (nid++st.ids))::es),ks,st⟩ else ⟨.bad,ks,st⟩
  | some true,none=>match k1p T { kwy z st i o fs with heap:=hp++st.heap } o with
   | some q=>bif !(st.heap.any fun r=>r.1 == q.1) && befB z.os.toList i q.1 es then ⟨.dry z k (i+1) l ((i,o.dst, .any)::fs) (q::hp) nid ((i,q.1)::es),ks,st⟩ else ⟨.bad,ks,st⟩
   | none=>⟨.bad,ks,st⟩
  | _,_=>⟨.bad,ks,st⟩
def k33 (T:List (TypeId×TD)) (g:Cfg):Cfg:=match g with
 | ⟨.code c,ks,st⟩=>k4p c ks st
 | ⟨.ops _ [],ks,st⟩=>unwN ks st
 | ⟨.ops os (o::l),ks,st⟩=>k4u T os o l ks st
 | ⟨.drz z 0 _ l fs hp ids none,ks,st⟩=>⟨.ops z.os l,ks,{ st with tmps:=hadd fs (fun _=>true) st.tmps,heap:=hp,ids:=ids }⟩
 | ⟨.drz z (k+1) i (o::l) fs hp ids pn,ks,st⟩=>k42 T z k i o l fs hp ids pn ks st
 | ⟨.dry z 0 _ l fs hp nid _,ks,st⟩=>⟨.ops z.os l,ks,{ st with tmps:=hadd fs (fun _=>true) st.tmps,heap:=hp++st.heap,ids:=nid++st.ids }⟩
 | ⟨.dry z (k+1) i (o::l) fs hp nid es,ks,st⟩=>k5a T z k i o l fs hp nid es ks st
 | ⟨_,ks,st⟩=>⟨.bad,ks,st⟩
def crunT (T:List (TypeId×TD)) (k:Nat) (g:Cfg):Cfg:=Nat.rec g (fun _ r=>k33 T r) k
def crun (P:Program) [t:Tab P] (k:Nat) (g:Cfg):Cfg:=crunT t.T k g
def kdp (P:Program):List Frm->(Exit->St->Prop)->Exit->St->Prop
 | [],Q=>Q
 | .seq y::ks,Q=>k9e (fun st=>awp P y st (kdp P ks Q)) (kdp P ks Q)
 | .block id::ks,Q=>kw9 id (kdp P ks Q)
def FW (P:Program) (foc:Foc) (st:St) (Q:Exit->St->Prop):Prop:=match foc with
 | .code c=>awp P c st Q
 | .ops os l=>awpL P os l st Q
 | .drz z k i l fs hp ids pn=>kp5 P z.os z.n z.es z.ch z.ai Q st k i l fs hp ids pn
 | .dry z k i l fs hp nid es=>kq2 P z.os z.n z.ai Q st k i l fs hp nid es
 | .fin e=>Q e st
 | .bad=>False
def W (P:Program) (g:Cfg) (Q:Exit->St->Prop):Prop:=FW P g.foc g.st (kdp P g.ks Q)
section
variable {P:Program} {T:List (TypeId×TD)} {Q:Exit->St->Prop} {st:St} {ks:List Frm}
theorem knx:∀ {ks:List Frm},W P (unwN ks st) Q->kdp P ks Q .normal st
 | [],h=>h
 | .seq _::_,h=>h
 | .block id::ks,h=>show kw9 id (kdp P ks Q) .normal st from knx (ks:=ks) h
theorem kts {i:Nat}:∀ {ks:List Frm},W P (unwX i ks st) Q->kdp P ks Q (.exit i) st
 | [],h=>h
 | .seq _::ks,h=>kts (ks:=ks) h
 | .block id::ks,h=>by
  show (if i=id then kdp P ks Q .normal st else kdp P ks Q (.exit i) st);simp only [unwX] at h;by_cases hi:i=id;subst hi;rw [qt rfl];simp only [Nat.beq_refl,qr] at h;exact knx h
  ·rw [qq hi];rw [Nat.beq_eq_false hi] at h;exact kts h
theorem kt0 {ks:List Frm}:Q .ret st->kdp P ks Q .ret st:=by
 induction ks with
 | nil=>exact id
 | cons k ks ih=>cases k <;> exact ih
theorem kxx {cs} {ks:List Frm}:Q (.panic cs) st->kdp P ks Q (.panic cs) st:=by
 induction ks with
 | nil=>exact id
 | cons k ks ih=>cases k <;> exact ih
theorem k1k {e:Exit} {ks:List Frm} (h:W P (unw e ks st) Q):kdp P ks Q e st:=by
 cases e with
 | normal=>exact knx h
 | exit i=>exact kts h
 | ret=>exact kt0 h
 | panic cs=>exact kxx h
 | _=>exact h.elim
theorem k17 (b:TOk P T) {os:Array Oper} {o:Oper} {c:AV} (h:kza T os st o=some c):(ka0 os st o=some true/\NStep P o st c)\/(ka0 os st o=some false/\c = .fz (.tup [])):=by
 unfold kza at h;split at h;rename_i a;exact .inl ⟨a,kyv b h⟩;rename_i a;injection h with h;exact .inr ⟨a,h.symm⟩
 ·cases h
theorem k68 (e:TOk P T) {os:Array Oper} {o:Oper} {l:List Oper} (h:W P (k4u T os o l ks st) Q):awpL P os (o::l) st (kdp P ks Q):=by
 unfold k4u at h;split at h
 ·rename_i a b;split at h;rename_i c f i d;exact kwv (k01 e d) a (kjl b) h
  ·split at h;rename_i c d;exact kwv (kyv e d).step a (kjl b) h
   ·exact h.elim
 rename_i a b;exact kac3 a (kjl b) h
 ·exact h.elim
theorem k8o {c:Code} (h:W P (k4p c ks st) Q):awp P c st (kdp P ks Q):=by
 unfold k4p at h;split at h;exact k72 (knx h);exact fun F S0 N0 ψ S a w hs=>wp_label ⟨st,ψ,S,knx h,hs,Fr.refl⟩;exact k8a (kts h);exact k92 (kt0 h);exact k99 h;exact k6r h
 ·split at h;rename_i b;exact k0x b h
  ·exact h.elim
 exact k4x h
 ·exact h.elim
theorem k3y {o:Oper} {c:AV} {h:List (Nat×AObj)} {i:List Nat} (a:ktu T o st=some (c,h,i)):h=st.heap\/∃ id ob,h=(id,ob)::st.heap:=by
 unfold ktu at a;have d:∀ {e:TypeId} {cells:List AV},boxX e st cells=some (c,h,i)->h=st.heap\/∃ id ob,h=(id,ob)::st.heap:=fun {e cells} a=>by
  unfold boxX at a;cases f:(cells.all AV.single && !st.ids.contains (Go.Proofs.YtnlhjbnpjefjgabGreatDoor.fresh st.ids)) with
  | false=>rw [f] at a;cases a
  | true=>rw [f] at a;simp only [qr,qb,qp] at a;exact .inr ⟨_,_,a.2.1.symm⟩
 split at a;exact d a
 ·split at a
  ·split at a;exact d a
   ·cases a
  ·cases a
 ·unfold ktc at a;split at a
  ·split at a
   ·rename_i e cells g;generalize (Nat.beq _ 0 && _)=b at a;cases b with
    | false=>cases a
    | true=>simp only [qr,qb,qp] at a;exact .inr ⟨_,_,a.2.1.symm⟩
   ·cases a
  ·cases a
 ·refine .inl ?_;generalize kv9 T o st=c0 at a;cases c0 with
  | none=>cases a
  | some x=>simp only [nres,qb,qp] at a;exact a.2.1.symm
theorem kvd {ai ids ids':List Nat} (h:krh ai ids ids'=true):(∀ id,id∈ids'->id∈ai)/\∀ id,id∈ids->id∈ids':=by unfold krh at h;simp only [qo] at h;exact ⟨fun id hi=>by simpa using qk.1 h.1 id hi,fun id hi=>by simpa using qk.1 h.2 id hi⟩
theorem k73 (m:TOk P T) {z:Zn} {k i:Nat} {o:Oper} {l:List Oper} {fs:FsT} {hp:List (Nat×AObj)} {ids:List Nat} {pn:Option Nat} (h:W P (k42 T z k i o l fs hp ids pn ks st) Q):kp5 P z.os z.n z.es z.ch z.ai (kdp P ks Q) st (k+1) i (o::l) fs hp ids pn:=by
 unfold k42 at h;cases f:kzp z i pn with
 | true=>
  rw [f] at h;cases pn with
  | none=>cases f
  | some e=>exact .inl ⟨e,rfl,f,h⟩
 | false=>
  rw [f] at h;simp only [qw] at h;cases d:z.es.contains i with
  | true=>
   rw [d] at h;simp only [qr] at h;split at h
   ·rename_i g;cases a:krh z.ai ids ids with
    | false=>rw [a] at h;exact h.elim
    | true=>
     rw [a] at h;exact .inr (.inr (.inl ⟨d,rfl,_,hp,ids,⟨.inr ⟨g,rfl,rfl,rfl⟩, .inr ⟨fun _ _ _ h=>h,kvd a⟩⟩,h⟩))
   ·rename_i c p i' g q;generalize a:(Nat.beq (kl4 z st i o fs hp ids).heap.length hp.length && (phB z.os.toList z.es i && (k4v z.ch p && krh z.ai ids i')))=b at h;cases b with
    | false=>exact h.elim
    | true=>
     simp only [qo] at a;obtain ⟨_,b2,b3,b4⟩:=a;refine .inr (.inr (.inl ⟨d,rfl,c,p,i',⟨.inl ⟨g,k01 m q⟩, .inr ⟨?_,kvd b4⟩⟩,h⟩));have hv:(kl4 z st i o fs hp ids).heap=hp:=(by show (bif phB z.os.toList z.es i then hp else _)=hp;rw [b2];rfl);rcases k3y q with hf | ⟨id,ob,hf⟩;rw [hf,hv];exact fun _ _ _ h=>h
     ·rw [hf,hv];rw [hf] at b3;intro id' j ob' ho;rw [kae,qq];exact ho
      ·rintro rfl;exact j (by simpa [k4v] using b3)
   ·exact h.elim
  | false=>
   rw [d] at h;simp only [qw] at h;split at h
   ·rename_i c hc;cases hk:(phB z.os.toList z.es i || okA st.ids c) with
    | false=>rw [hk] at h;exact h.elim
    | true=>rw [hk] at h;exact .inr (.inl ⟨d,c,k17 m hc,hk,h⟩)
   ·exact h.elim
theorem k6b (c:TOk P T) {o:Oper} {e:TypeId} {cells:List AV} (h:kz0 T o=some (e,cells)) {v:St} (id:Nat):k47 P v o (.ref id 0 0) id (.box e cells):=by
 unfold kz0 at h;split at h
 ·rename_i e' ho;split at h
  ·rename_i d f;split at h;rename_i cells' g;simp only [qb,qp] at h;obtain ⟨rfl,rfl⟩:=h;exact fun a ids' b=>kxl (st:={ v with heap:=a,ids:=ids' }) ho (c.get f) g b
   ·cases h
  ·cases h
 ·cases h
theorem k5l (g:TOk P T) {v:St} {o:Oper} {q:Nat×AObj} (h:k1p T v o=some q):k46 P v o .any q.1 q.2:=by
 unfold k1p at h;split at h
 ·rename_i t x y ho;unfold ktc at h;cases c:kac T t with
  | none=>rw [c] at h;cases h
  | some d=>
   rw [c] at h;generalize i:v.eval x=ex at h;cases ex with
   | ref id n off=>
    simp only at h;cases a:kaa v.heap id with
    | none=>rw [a] at h;cases h
    | some ob=>
     rw [a] at h;cases ob with
     | box e cells=>
      simp only at h;cases b:(Nat.beq n 0 && (Nat.beq (v.eval y).cells.length d.size && ((v.eval y).cells.all AV.single && Nat.ble (off+(v.eval y).cells.length) cells.length))) with
      | false=>rw [b] at h;cases h
      | true=>
       rw [b] at h;simp only [qr,qb] at h;subst h;simp only [qo] at b;obtain ⟨b1,b2,b3,b4⟩:=b;obtain rfl:=qf b1;exact fun f ids' hl=>k2x (st:={ v with heap:=f,ids:=ids' }) ho (g.get c) i (by rw [<- a];exact hl) rfl (qf b2) b3 (qi b4)
     | _=>cases h
   | _=>cases h
 ·cases h
theorem k7d (b:TOk P T) {z:Zn} {k i:Nat} {o:Oper} {l:List Oper} {fs:FsT} {hp:List (Nat×AObj)} {nid:List Nat} {es:List (Nat×Nat)} (h:W P (k5a T z k i o l fs hp nid es ks st) Q):kq2 P z.os z.n z.ai (kdp P ks Q) st (k+1) i (o::l) fs hp nid es:=by
 unfold k5a at h;split at h
 ·rename_i c hc;cases hk:okA (idsB z.os.toList i nid es st.ids) c with
  | false=>rw [hk] at h;exact h.elim
  | true=>rw [hk] at h;exact .inl ⟨c,k17 b hc,hk,h⟩
 ·split at h
  ·rename_i e cells d ha;cases hk:k1t z st es (Go.Proofs.YtnlhjbnpjefjgabGreatDoor.fresh (nid++st.ids)) with
   | false=>rw [hk] at h;exact h.elim
   | true=>
    rw [hk] at h;have a:=hk;unfold k1t at a;rw [qbq] at a;exact .inr (.inl ⟨_,_,_,d,k6b b ha _,a,h⟩)
  ·rename_i d _;split at h
   ·rename_i q f;cases hk:(!(st.heap.any fun r=>r.1 == q.1) && befB z.os.toList i q.1 es) with
    | false=>rw [hk] at h;exact h.elim
    | true=>
     rw [hk] at h;rw [qo,qbq] at hk;exact .inr (.inr ⟨_,_,_,d,k5l b f,hk.1,hk.2,h⟩)
   ·exact h.elim
  ·exact h.elim
theorem k8f (a:TOk P T) {g:Cfg} (h:W P (k33 T g) Q):W P g Q:=by
 unfold k33 at h;split at h;exact k8o h;exact l_nil (knx h);exact k68 a h;exact h;exact k73 a h;exact h;exact k7d a h
 ·exact h.elim
theorem ka1 [t:Tab P] (k:Nat) {g:Cfg} (h:W P (crun P k g) Q):W P g Q:=by
 unfold crun at h
 induction k with
 | zero=>exact h
 | succ k ih=>exact ih (k8f t.ok h)
variable [t:Tab P] {g:Cfg} {β:Type} {r:β}
def kta (g:Cfg):Bool:=match g.foc with
 | .code _=>true
 | .ops _ _=>true
 | _=>false
def isCode0 (g:Cfg):Bool:=match g.foc with
 | .code _=>true
 | _=>false
def stOf (g:Cfg):St:=g.st
def kpr (g:Cfg) (st:St):Cfg:=⟨g.foc,g.ks,st⟩
theorem wle (k:Nat) {st':St} (hl:LeSt (stOf (crun P k g)) st') (h:W P (kpr (crun P k g) st') Q) (hc:kta (crun P k g)=true:=by kernel_rfl):W P g Q:=by
 refine ka1 k ?_;generalize crun P k g=g' at *
 obtain ⟨foc,ks,st⟩:=g';cases foc with
 | code c=>exact kadf hl h
 | ops os l=>exact l_le hl h
 | _=>cases hc
def k9l (g:Cfg):Option Bool:=match g.foc with
 | .code (.cond c _ _)=>match g.st.eval c with
  | .fz (.atom (.bool b))=>some b
  | _=>none
 | _=>none
def brc (b:Bool) (g:Cfg):Cfg:=match g.foc with
 | .code (.cond _ x y)=>⟨.code (bif b then x else y),g.ks,g.st⟩
 | _=>⟨.bad,g.ks,g.st⟩
theorem cd (k:Nat) {b:Bool} {X Y:Option β} (h:(bif b then X else Y)=some r) (h1:X=some r->W P (brc true (crun P k g)) Q) (a:Y=some r->W P (brc false (crun P k g)) Q) (hc:k9l (crun P k g)=some b:=by kernel_rfl):W P g Q:=by
 refine ka1 k ?_;generalize crun P k g=g' at *
 obtain ⟨foc,ks,st⟩:=g';have key:W P (brc b ⟨foc,ks,st⟩) Q:=by
  cases b with
  | true=>exact h1 h
  | false=>exact a h
 unfold k9l at hc;simp only at hc;split at hc
 ·rename_i c x y;split at hc;rename_i b' d;injection hc with hc;subst hc;exact k0x d key
  ·cases hc
 ·cases hc
def setT (t:Nat) (v:AV):List (Nat×AV)->List (Nat×AV)
 | []=>[]
 | (k,x)::l=>bif Nat.beq k t then (k,v)::l else (k,x)::setT t v l
def setF (j:Nat) (v:AV):FsT->FsT
 | []=>[]
 | (k,d,x)::l=>bif Nat.beq k j then (k,d,v)::l else (k,d,x)::setF j v l
def getF (j:Nat):FsT->Option AV
 | []=>none
 | (k,d,x)::l=>bif Nat.beq k j then some x else getF j l
def kt2:AV->Option Bool
 | .fz (.atom (.bool b))=>some b
 | _=>none
def kz2 (g:Cfg):Option Bool:=match g.foc with
 | .ops os (o::_)=>match o.guard with
  | some (j,_)=>match (os[j]?).bind (·.dst) with
   | some t=>kt2 (g.st.get t)
   | none=>none
  | none=>none
 | .drz _ _ _ (o::_) fs _ _ _=>match o.guard with
  | some (j,_)=>match getF j fs with
   | some v=>kt2 v
   | none=>none
  | none=>none
 | _=>none
def setG (b:Bool) (g:Cfg):Cfg:=match g.foc with
 | .ops os (o::l)=>match o.guard with
  | some (j,_)=>match (os[j]?).bind (·.dst) with
   | some t=>⟨.ops os (o::l),g.ks,{ g.st with tmps:=setT t (.fz (.atom (.bool b))) g.st.tmps }⟩
   | none=>g
  | none=>g
 | .drz z k i (o::l) fs hp ids pn=>match o.guard with
  | some (j,_)=>⟨.drz z k i (o::l) (setF j (.fz (.atom (.bool b))) fs) hp ids pn,g.ks,g.st⟩
  | none=>g
 | _=>g
theorem k20 {t:Nat} {b:Bool}:∀ {l:List (Nat×AV)},kt2 (look .any l t)=some b->setT t (.fz (.atom (.bool b))) l=l
 | [],_=>rfl
 | (k,x)::l,h=>by
  simp only [setT,look] at h ⊢;cases hk:Nat.beq k t with
  | true=>
   rw [hk] at h;simp only [qr] at h ⊢;unfold kt2 at h;split at h;injection h with h;rw [h]
   ·cases h
  | false=>rw [hk] at h;simp only [qw] at h ⊢; rw [k20 h]
theorem k3s {j:Nat} {b:Bool}:∀ {l:FsT} {v:AV},getF j l=some v->kt2 v=some b->setF j (.fz (.atom (.bool b))) l=l
 | [],_,h,_=>rfl
 | (k,d,x)::l,v,h,a=>by
  simp only [setF,getF] at h ⊢;cases hk:Nat.beq k j with
  | true=>
   rw [hk] at h;simp only [qr,qb] at h ⊢;subst h;unfold kt2 at a;split at a;injection a with a;rw [a]
   ·cases a
  | false=>rw [hk] at h;simp only [qw] at h ⊢; rw [k3s h a]
theorem kaar {b:Bool} (h:kz2 g=some b):setG b g=g:=by
 obtain ⟨foc,ks,st⟩:=g;unfold kz2 at h;unfold setG;cases foc with
 | ops os l=>
  cases l with
  | nil=>rfl
  | cons o l=>
   (try dsimp only at h ⊢);split at h
   ·rename_i j w a;split at h;rename_i t ht;(try simp only [ht]);rw [k20 h]
    ·cases h
   ·cases h
 | drz z k i l fs hp ids pn=>
  cases l with
  | nil=>rfl
  | cons o l=>
   (try dsimp only at h ⊢);split at h
   ·rename_i j w a;split at h;rename_i v hv;(try dsimp only);rw [k3s hv h]
    ·cases h
   ·cases h
 | _=>rfl
theorem gd (k:Nat) {b:Bool} {X Y:Option β} (h:(bif b then X else Y)=some r) (h1:X=some r->W P (setG true (crun P k g)) Q) (a:Y=some r->W P (setG false (crun P k g)) Q) (hc:kz2 (crun P k g)=some b:=by kernel_rfl):W P g Q:=by
 refine ka1 k ?_;rw [<- kaar hc];cases b with
 | true=>exact h1 h
 | false=>exact a h
def kom (g:Cfg):Option (Oper×St):=match g.foc with
 | .ops os (o::_)=>match ka0 os g.st o,kq4 g.st o with
  | some true,true=>some (o,g.st)
  | _,_=>none
 | .drz z (_+1) i (o::_) fs hp ids pn=>match ka0 z.os (kl4 z g.st i o fs hp ids) o with
  | some true=>bif z.es.contains i || kzp z i pn then none else some (o,kl4 z g.st i o fs hp ids)
  | _=>none
 | .dry z (_+1) i (o::_) fs _ _ _=>match ka0 z.os (kwy z g.st i o fs) o with
  | some true=>some (o,kwy z g.st i o fs)
  | _=>none
 | _=>none
def kiv (g:Cfg):Oper:=match g.foc with
 | .ops _ (o::_)=>o
 | .drz _ _ _ (o::_) _ _ _ _=>o
 | .dry _ _ _ (o::_) _ _ _ _=>o
 | _=>default
def kzh (g:Cfg):St:=match kom g with
 | some p=>p.2
 | none=>g.st
def rsm (c:AV) (g:Cfg):Cfg:=match g.foc with
 | .ops os (o::l)=>⟨.ops os l,g.ks,g.st.put o.dst c⟩
 | .drz z (k+1) i (o::l) fs hp ids pn=>bif phB z.os.toList z.es i || okA g.st.ids c then ⟨.drz z k (i+1) l ((i,o.dst,c)::fs) hp ids pn,g.ks,g.st⟩ else ⟨.bad,g.ks,g.st⟩
 | .dry z (k+1) i (o::l) fs hp nid es=>bif okA (idsB z.os.toList i nid es g.st.ids) c then ⟨.dry z k (i+1) l ((i,o.dst,c)::fs) hp nid es,g.ks,g.st⟩ else ⟨.bad,g.ks,g.st⟩
 | _=>⟨.bad,g.ks,g.st⟩
end
variable {P:Program} {T:List (TypeId×TD)} {Q:Exit->St->Prop} {st:St} {ks:List Frm} {g:Cfg} {β:Type} {r:β}
theorem k0t {o:Oper} {v:St} {c:AV} (hv:kom g=some (o,v)) (hn:NStep P o v c) (h:W P (rsm c g) Q):W P g Q:=by
 obtain ⟨foc,ks,st⟩:=g;unfold kom at hv;simp only at hv;split at hv
 ·split at hv;rename_i a e;simp only [qb,qp] at hv;obtain ⟨rfl,rfl⟩:=hv;exact kwv hn.step a (kjl e) h
  ·cases hv
 ·rename_i z k i o' l fs hp ids pn;split at hv
  ·rename_i a;generalize d:(z.es.contains i || kzp z i pn)=b at hv;cases b with
   | true=>cases hv
   | false=>
    rw [Bool.or_eq_false_iff] at d;simp only [qw,qb,qp] at hv;obtain ⟨rfl,rfl⟩:=hv;simp only [rsm] at h;cases hk:(phB z.os.toList z.es i || okA st.ids c) with
    | false=>rw [hk] at h;exact h.elim
    | true=>rw [hk] at h;exact .inr (.inl ⟨d.1,c, .inl ⟨a,hn⟩,hk,h⟩)
  ·cases hv
 ·rename_i z k i o' l fs hp nid es;split at hv
  ·rename_i a;simp only [qb,qp] at hv;obtain ⟨rfl,rfl⟩:=hv;simp only [rsm] at h;cases hk:okA (idsB z.os.toList i nid es st.ids) c with
   | false=>rw [hk] at h;exact h.elim
   | true=>rw [hk] at h;exact .inl ⟨c, .inl ⟨a,hn⟩,hk,h⟩
  ·cases hv
 ·cases hv
section
variable {P:Program} {T:List (TypeId×TD)} {Q:Exit->St->Prop} {st:St} {ks:List Frm} [t:Tab P] {g:Cfg} {β:Type} {r:β}
def mokV (g:Cfg):Bool:=(kom g).isSome
theorem k0b {o:Oper} {v:St} (h:kom g=some (o,v)):kiv g=o/\kzh g=v:=by
 refine ⟨?_,by unfold kzh;rw [h]⟩;obtain ⟨foc,ks,st⟩:=g;unfold kom at h;unfold kiv;simp only at h ⊢;split at h
 ·split at h;simp only [qb,qp] at h;exact h.1
  ·cases h
 ·rename_i z k i o' l fs hp ids pn;split at h
  ·generalize (z.es.contains i || _)=b at h;cases b with
   | true=>cases h
   | false=>simp only [qw,qb,qp] at h;exact h.1
  ·cases h
 ·split at h;simp only [qb,qp] at h;exact h.1
  ·cases h
 ·cases h
theorem nst (k:Nat) {c:AV} (hn:NStep P (kiv (crun P k g)) (kzh (crun P k g)) c) (h:W P (rsm c (crun P k g)) Q) (hv:mokV (crun P k g)=true:=by kernel_rfl):W P g Q:=by refine ka1 k ?_;unfold mokV at hv;obtain ⟨⟨o,v⟩,hv⟩:=Option.isSome_iff_exists.1 hv;obtain ⟨e1,e2⟩:=k0b hv;rw [e1,e2] at hn;exact k0t hv hn h
def okP (g:Cfg):Bool:=match g.foc with
 | .ops os (o::_)=>match ka0 os g.st o,kq4 g.st o with
  | some true,true=>true
  | _,_=>false
 | _=>false
def rsmA (c:AV) (h:List (Nat×AObj)) (i:List Nat) (g:Cfg):Cfg:=match g.foc with
 | .ops os (o::l)=>⟨.ops os l,g.ks,({ g.st with heap:=h,ids:=i }:St).put o.dst c⟩
 | _=>⟨.bad,g.ks,g.st⟩
theorem sst (k:Nat) {c:AV} {h:List (Nat×AObj)} {i:List Nat} (hn:StepA P (kiv (crun P k g)) (stOf (crun P k g)) c h i) (a:W P (rsmA c h i (crun P k g)) Q) (hv:okP (crun P k g)=true:=by kernel_rfl):W P g Q:=by
 refine ka1 k ?_;generalize crun P k g=g' at *
 obtain ⟨foc,ks,st⟩:=g';unfold okP at hv;simp only at hv;split at hv
 ·split at hv;rename_i b d;exact kwv hn b (kjl d) a
  ·cases hv
 ·cases hv
theorem sstD (k:Nat) {R:AV->List (Nat×AObj)->List Nat->Prop} (hn:kgd P (kiv (crun P k g)) (stOf (crun P k g)) R) (hv:okP (crun P k g)=true) (a:∀ c h i,R c h i->W P (rsmA c h i (crun P k g)) Q):W P g Q:=by
 refine ka1 k ?_;generalize crun P k g=g' at *
 obtain ⟨foc,ks,st⟩:=g';unfold okP at hv;simp only at hv;split at hv
 ·split at hv;rename_i b d;exact kabq hn b (kjl d) a
  ·cases hv
 ·cases hv
def dzOk (n:Nat) (es ai:List Nat) (g:Cfg):Bool:=match g.foc with
 | .code (.region _ os true)=>relB os.toList n g.st.n && (kwl os.toList n es && g.st.ids.all ai.contains)
 | _=>false
def dzOf (n:Nat) (es ch ai:List Nat) (g:Cfg):Cfg:=match g.foc with
 | .code (.region _ os true)=>⟨.drz ⟨os,n,es,ch,ai⟩ n 0 os.toList [] g.st.heap g.st.ids none,g.ks,g.st⟩
 | _=>⟨.bad,g.ks,g.st⟩
theorem dz (k n:Nat) (es ch ai:List Nat) (a:W P (dzOf n es ch ai (crun P k g)) Q) (hc:dzOk n es ai (crun P k g)=true:=by kernel_rfl):W P g Q:=by
 refine ka1 k ?_;generalize crun P k g=g' at *
 obtain ⟨foc,ks,st⟩:=g';unfold dzOk at hc;simp only at hc;split at hc;rename_i id os;simp only [qo] at hc;obtain ⟨l⟩:=os;exact k96 t.mixed hc.1 hc.2.1 hc.2.2 a
 ·cases hc
def dyOk (n:Nat) (ai:List Nat) (g:Cfg):Bool:=match g.foc with
 | .code (.region _ os true)=>relB os.toList n g.st.n && g.st.ids.all ai.contains
 | _=>false
def dyOf (n:Nat) (ai:List Nat) (g:Cfg):Cfg:=match g.foc with
 | .code (.region _ os true)=>⟨.dry ⟨os,n,[],[],ai⟩ n 0 os.toList [] [] [] [],g.ks,g.st⟩
 | _=>⟨.bad,g.ks,g.st⟩
theorem dy (k n:Nat) (ai:List Nat) (a:W P (dyOf n ai (crun P k g)) Q) (hc:dyOk n ai (crun P k g)=true:=by kernel_rfl):W P g Q:=by
 refine ka1 k ?_;generalize crun P k g=g' at *
 obtain ⟨foc,ks,st⟩:=g';unfold dyOk at hc;simp only at hc;split at hc;rename_i id os;simp only [qo] at hc;obtain ⟨l⟩:=os;exact kaa6 t.mixed hc.1 hc.2 a
 ·cases hc
def k87 (g:Cfg):List Nat:=g.st.ids
theorem dw (k n:Nat) (a:W P (dzOf n [] [] (k87 (crun P k g)) (crun P k g)) Q) (hc:dzOk n [] (k87 (crun P k g)) (crun P k g)=true:=by kernel_rfl):W P g Q:=dz k n [] [] _ a (hc:=hc)
def okZ (g:Cfg):Bool:=match g.foc with
 | .drz z (_+1) i (o::_) fs hp ids none=>z.es.contains i && (match ka0 z.os (kl4 z g.st i o fs hp ids) o with | some true=>true | _=>false)
 | _=>false
def kg9 (g:Cfg):St:=match g.foc with
 | .drz z _ i (o::_) fs hp ids _=>kl4 z g.st i o fs hp ids
 | _=>g.st
def offZ (g:Cfg) (h:List (Nat×AObj)):List (Option AObj):=match g.foc with
 | .drz z _ _ _ _ hp _ _=>(krt z.ch hp).map (kaa h)
 | _=>[]
def hpZ (g:Cfg):List (Nat×AObj):=match g.foc with
 | .drz _ _ _ _ _ hp _ _=>hp
 | _=>[]
def idsZ (i':List Nat) (g:Cfg):Bool:=match g.foc with
 | .drz z _ _ _ _ _ ids _=>krh z.ai ids i'
 | _=>false
def rsmZ (c:AV) (a:List (Nat×AObj)) (i':List Nat) (g:Cfg):Cfg:=match g.foc with
 | .drz z (k+1) i (o::l) fs _ _ _=>⟨.drz z k (i+1) l ((i,o.dst,c)::fs) a i' none,g.ks,g.st⟩
 | _=>⟨.bad,g.ks,g.st⟩
theorem zst (k:Nat) {c:AV} {a:List (Nat×AObj)} {i':List Nat} (hn:StepA P (kiv (crun P k g)) (kg9 (crun P k g)) c a i') (d:W P (rsmZ c a i' (crun P k g)) Q) (hv:okZ (crun P k g)=true:=by kernel_rfl) (hi:idsZ i' (crun P k g)=true:=by kernel_rfl) (hk:offZ (crun P k g) a=offZ (crun P k g) (hpZ (crun P k g)):=by kernel_rfl):W P g Q:=by
 refine ka1 k ?_;generalize crun P k g=g' at *
 obtain ⟨foc,ks,st⟩:=g';unfold okZ at hv;simp only at hv;split at hv
 ·rename_i z k i o l fs hp ids;simp only [qo] at hv;obtain ⟨h1,b⟩:=hv;split at b;rename_i e;exact .inr (.inr (.inl ⟨h1,rfl,c,a,i',⟨.inl ⟨e,hn⟩, .inr ⟨kac9 hk,kvd hi⟩⟩,d⟩))
  ·cases b
 ·cases hv
def mpre (g:Cfg):Cfg:=⟨g.foc,[],g.st⟩
def ksOf (g:Cfg):List Frm:=g.ks
end
theorem k8t {os:Array Oper} {l:List Oper} (h:awpL P os l st fun e st'=>∃ st2,LeSt st' st2/\Q e st2):awpL P os l st Q:=fun F S0 N0 ψ S a w hs=>
 ka6 (fun e a' w' ⟨st',ψ',S',⟨st2,h0,h1⟩,b,c⟩=>by obtain ⟨ψ2,S2,d⟩:=h0 F S0 N0 ψ' S' a' w' b;exact ⟨st2,ψ2,S2,h1,d,c⟩) _ _ _ (h F S0 N0 ψ S a w hs)
theorem k50 {os:Array Oper} {l:List Oper} {Q':Exit->St->Prop} (h:awpL P os l st Q) (b:∀ e st,Q e st->Q' e st):awpL P os l st Q':=fun F S0 N0 ψ S a w hs=>
 ka6 (fun e a' w' ⟨st',ψ',S',h1,c⟩=>⟨st',ψ',S',b _ _ h1,c⟩) _ _ _ (h F S0 N0 ψ S a w hs)
section
variable {P:Program} {T:List (TypeId×TD)} {Q:Exit->St->Prop} {st:St} {ks:List Frm} [t:Tab P] {g:Cfg} {β:Type} {r:β}
def WeakQ (Q:Exit->St->Prop):Exit->St->Prop:=fun e st'=>∃ st2,LeSt st' st2/\Q e st2
end
section
variable {P:Program} {T:List (TypeId×TD)} {Q:Exit->St->Prop} {st:St} {ks:List Frm} [t:Tab P] {g:Cfg} {β:Type} {r:β}
theorem jn (k:Nat) (Qa:Exit->St->Prop) (hc:kta (crun P k g)=true) (ha:W P (mpre (crun P k g)) Qa) (b:∀ e st',Qa e st'->∃ st2,LeSt st' st2/\W P (unw e (ksOf (crun P k g)) st2) Q):W P g Q:=by
 refine ka1 k ?_;generalize crun P k g=g' at *
 obtain ⟨foc,ks,st⟩:=g';have a:∀ e st',Qa e st'->WeakQ (kdp P ks Q) e st':=fun e st' h=>let ⟨st2,h1,d⟩:=b e st' h;⟨st2,h1,k1k d⟩;cases foc with
 | code c=>exact krn (kru (show awp P c st Qa from ha) a)
 | ops os l=>exact k8t (k50 (show awpL P os l st Qa from ha) a)
 | _=>cases hc
theorem jn1 {α:Type} {E:Option α} {K:α->Option β} (k:Nat) (e:Exit) (J:α->St) (h:Option.bind E K=some r) (ha:∀ v,E=some v->W P (mpre (crun P k g)) fun e' st=>e'=e/\LeSt st (J v)) (a:∀ v,K v=some r->W P (unw e (ksOf (crun P k g)) (J v)) Q) (hc:kta (crun P k g)=true:=by kernel_rfl):W P g Q:=by obtain ⟨v,h1,b⟩:=qc.1 h;refine jn k _ hc (ha v h1) ?_;rintro _ st' ⟨rfl,hl⟩;exact ⟨_,hl,a v b⟩
theorem jnQ {α:Type} {E:Option α} {K:α->Option β} (k:Nat) (Qa:α->Exit->St->Prop) (h:Option.bind E K=some r) (ha:∀ v,E=some v->W P (mpre (crun P k g)) (Qa v)) (a:∀ v,K v=some r->∀ e st',Qa v e st'->∃ st2,LeSt st' st2/\W P (unw e (ksOf (crun P k g)) st2) Q) (hc:kta (crun P k g)=true:=by kernel_rfl):W P g Q:=by obtain ⟨v,h1,b⟩:=qc.1 h;exact jn k _ hc (ha v h1) (a v b)
def k9f:FV->C0
 | .lst s _ _ => .sl s
 | .bx _ => .px
 | _ => .keep
def k3w:AV->C0
 | .fz x=>k9f x
 | _ => .keep
def auto1:AV->C1
 | .fz (.agg xs) => .ag (xs.map k9f)
 | .agg xs => .ag (xs.map k3w)
 | x => .one (k3w x)
def autoT (st:St):List (Nat×C1):=st.tmps.map fun p=>(p.1,auto1 p.2)
def autoO:AObj->List C0
 | .box _ cs=>cs.map k3w
 | _=>[]
def autoH (st:St):List (Nat×List C0):=st.heap.map fun p=>(p.1,autoO p.2)
def coA (st J:St):Option St:=coSt st J.ids (autoT J) (autoH J)
theorem le_a {st J:St} (h:coA st J=some J):LeSt st J:=le_co h
def kma:Foc->Exit->Bool
 | .fin .normal, .normal=>true
 | .fin .ret, .ret=>true
 | .fin (.exit i), .exit j=>Nat.beq i j
 | _,_=>false
theorem kre {foc:Foc} {e:Exit} (h:kma foc e=true):foc = .fin e/\(e = .normal\/e = .ret\/∃ i,e = .exit i):=by
 unfold kma at h;split at h;exact ⟨rfl, .inl rfl⟩;exact ⟨rfl, .inr (.inl rfl)⟩;rename_i i j;rw [qf h];exact ⟨rfl, .inr (.inr ⟨_,rfl⟩)⟩
 ·cases h
def jok (g:Cfg) (e:Exit) (J:St):Option St:=bif kma g.foc e then coA g.st J else none
end
section
variable {P:Program} {T:List (TypeId×TD)} {Q:Exit->St->Prop} {st:St} {ks:List Frm} [t:Tab P] {g:Cfg} {β:Type} {r:β}
def nilK (g:Cfg):Bool:=match g.ks with
 | []=>true
 | _=>false
theorem lj (k:Nat) {e:Exit} {J:St} (hc:(bif nilK (crun P k g) then jok (crun P k g) e J else none)=some J:=by kernel_rfl):W P g fun e' st=>e'=e/\LeSt st J:=by
 refine ka1 k ?_;generalize crun P k g=g' at *
 obtain ⟨foc,ks,st⟩:=g';cases ks with
 | cons=>cases hc
 | nil=>
  simp only [nilK,jok,qr] at hc;cases hf:kma foc e with
  | false=>rw [hf] at hc;cases hc
  | true=>
   rw [hf] at hc;obtain ⟨rfl,_⟩:=kre hf;exact ⟨rfl,le_a hc⟩
theorem ljx (k:Nat) {e:Exit} {J:St} (hl:LeSt (stOf (crun P k g)) J) (hc:(nilK (crun P k g) && kma (crun P k g).foc e)=true:=by kernel_rfl):W P g fun e' st=>e'=e/\LeSt st J:=by
 refine ka1 k ?_;generalize crun P k g=g' at *
 obtain ⟨foc,ks,st⟩:=g';simp only [qo] at hc;cases ks with
 | cons=>cases hc.1
 | nil=>
  obtain ⟨rfl,_⟩:=kre hc.2;exact ⟨rfl,hl⟩
theorem lo (k:Nat) {e:Exit} {J:St} (hc:(bif nilK (crun P k g) && !kma (crun P k g).foc .normal then jok (crun P k g) e J else none)=some J):W P g fun e' st=>(e' ≠ .normal/\e' ≠ .outgrown)/\(e'=e/\LeSt st J):=by
 refine ka1 k ?_;generalize crun P k g=g' at *
 obtain ⟨foc,ks,st⟩:=g';cases ks with
 | cons=>cases hc
 | nil=>
  simp only [nilK,jok,Bool.true_and] at hc;cases hn:kma foc .normal with
  | true=>rw [hn] at hc;cases hc
  | false=>
   rw [hn] at hc;cases hf:kma foc e with
   | false=>rw [hf] at hc;cases hc
   | true=>
    rw [hf] at hc;obtain ⟨rfl,a⟩:=kre hf;refine ⟨⟨fun h=>?_,fun h=>?_⟩,rfl,le_a hc⟩;subst h;cases hn
    ·rcases a with rfl | rfl | ⟨i,rfl⟩ <;> cases h
def kiw:Foc->Bool
 | .fin .normal=>true
 | .fin .ret=>true
 | _=>false
def ks6:Foc->Bool
 | .fin .ret=>true
 | _=>false
def rokq (T:List (TypeId×TD)) (g:Cfg) (rs:List ResultVar) (cs:List C1):Option FV:=bif nilK g && kiw g.foc then retX T g.st rs cs else none
def rokr (T:List (TypeId×TD)) (g:Cfg) (rs:List ResultVar) (cs:List C1):Option FV:=bif ks6 g.foc then retX T g.st rs cs else none
theorem lq (k:Nat) {rs:List ResultVar} {cs:List C1} {y:FV} (hc:rokq t.T (crun P k g) rs cs=some y:=by kernel_rfl):W P g (retQ t.T rs cs y):=by
 refine ka1 k ?_;generalize crun P k g=g' at *
 obtain ⟨foc,ks,st⟩:=g';unfold rokq at hc;cases ks with
 | cons=>cases hc
 | nil=>
  simp only [nilK,Bool.true_and] at hc;cases hf:kiw foc with
  | false=>rw [hf] at hc;cases hc
  | true=>
   rw [hf] at hc;unfold kiw at hf;split at hf;exact hc;exact hc
   ·cases hf
theorem lr (k:Nat) {rs:List ResultVar} {cs:List C1} {y:FV} (hc:rokr t.T (crun P k g) rs cs=some y:=by kernel_rfl):W P g fun e st=>e = .ret/\retX t.T st rs cs=some y:=by
 refine ka1 k ?_;generalize crun P k g=g' at *
 obtain ⟨foc,ks,st⟩:=g';unfold rokr at hc;cases hf:ks6 foc with
 | false=>simp only [hf] at hc;cases hc
 | true=>
  simp only [hf] at hc;unfold ks6 at hf;split at hf;exact kt0 (Q:=fun e st=>e = .ret/\retX t.T st rs cs=some y) ⟨rfl,hc⟩
  ·cases hf
theorem lor (k:Nat) {rs:List ResultVar} {cs:List C1} {y:FV} (hc:rokr t.T (crun P k g) rs cs=some y:=by kernel_rfl):W P g fun e st=>(e ≠ .normal/\e ≠ .outgrown)/\(e = .ret/\retX t.T st rs cs=some y):=by
 refine ka1 k ?_;generalize crun P k g=g' at *
 obtain ⟨foc,ks,st⟩:=g';unfold rokr at hc;cases hf:ks6 foc with
 | false=>simp only [hf] at hc;cases hc
 | true=>
  simp only [hf] at hc;unfold ks6 at hf;split at hf;exact kt0 (Q:=fun e st=>(e ≠ .normal/\e ≠ .outgrown)/\(e = .ret/\retX t.T st rs cs=some y)) ⟨⟨(fun h=>nomatch h),(fun h=>nomatch h)⟩,rfl,hc⟩
  ·cases hf
theorem lv {rs:List ResultVar} {cs:List C1} {y:FV} {st:St} {ks:List Frm} (h:retX t.T st rs cs=some y):W P (unw .ret ks st) (retQ t.T rs cs y):=h
theorem lvr {rs:List ResultVar} {cs:List C1} {y:FV} {st:St} {ks:List Frm} (h:retX t.T st rs cs=some y):W P (unw .ret ks st) fun e st=>e = .ret/\retX t.T st rs cs=some y:=⟨rfl,h⟩
theorem lvo {rs:List ResultVar} {cs:List C1} {y:FV} {st:St} {ks:List Frm} (h:retX t.T st rs cs=some y):W P (unw .ret ks st) fun e st=>(e ≠ .normal/\e ≠ .outgrown)/\(e = .ret/\retX t.T st rs cs=some y):=⟨⟨fun h=>(nomatch h),fun h=>(nomatch h)⟩,rfl,h⟩
end
theorem ob {α:Type} {E:Option α} {K:α->Option β} (h:Option.bind E K=some r) (f:∀ v,E=some v->K v=some r->W P g Q):W P g Q:=by obtain ⟨v,h1,a⟩:=qc.1 h;exact f v h1 a
def HidG (_:Nat) (p:Prop):Prop:=p
theorem ls {α:Type} {X v:α} {Qf:α->Exit->St->Prop} (h:some X=some v) (a:W P g (Qf X)):W P g (Qf v):=by obtain rfl:=qy h;exact a
theorem lJ {p q:Prop} (k:Nat) (a:p->HidG k q:=by intro h;cases h;exact ljh _):p->q:=a
theorem lO {p q:Prop} (k:Nat) (a:p->HidG k q:=by intro h;cases h;exact loh _):p->q:=a
theorem lQ {p q:Prop} (k:Nat) (a:p->HidG k q:=by intro h;cases h;exact lqh _):p->q:=a
theorem lR {p q:Prop} (k:Nat) (a:p->HidG k q:=by intro h;cases h;exact lorh _):p->q:=a
section
variable {P:Program} {T:List (TypeId×TD)} {Q:Exit->St->Prop} {st:St} {ks:List Frm} [t:Tab P] {g:Cfg} {β:Type} {r:β}
theorem ljh (k:Nat) {e:Exit} {J:St} (hc:(bif nilK (crun P k g) then jok (crun P k g) e J else none)=some J:=by kernel_rfl):HidG k (W P g fun e' st=>e'=e/\LeSt st J):=lj k hc
theorem loh (k:Nat) {e:Exit} {J:St} (hc:(bif nilK (crun P k g) && !kma (crun P k g).foc .normal then jok (crun P k g) e J else none)=some J:=by kernel_rfl):HidG k (W P g fun e' st=>(e' ≠ .normal/\e' ≠ .outgrown)/\(e'=e/\LeSt st J)):=lo k hc
theorem lqh (k:Nat) {rs:List ResultVar} {cs:List C1} {y:FV} (hc:rokq t.T (crun P k g) rs cs=some y:=by kernel_rfl):HidG k (W P g (retQ t.T rs cs y)):=lq k hc
theorem lorh (k:Nat) {rs:List ResultVar} {cs:List C1} {y:FV} (hc:rokr t.T (crun P k g) rs cs=some y:=by kernel_rfl):HidG k (W P g fun e st=>(e ≠ .normal/\e ≠ .outgrown)/\(e = .ret/\retX t.T st rs cs=some y)):=lor k hc
def kmi (g:Cfg):Cfg:=match g.foc with
 | .code (.loop c)=>⟨.code c,[],g.st⟩
 | _=>⟨.bad,[],g.st⟩
def kky (g:Cfg):Bool:=match g.foc with
 | .code (.loop _)=>true
 | _=>false
theorem lpx {σ α:Type} {step:σ->Option (σ ⊕ α)} {n:Nat} {s0:σ} {K:α->Option β} (k:Nat) (H:σ->St) (Qb:α->Exit->St->Prop) (h:Option.bind (kai step n s0) K=some r) (h0:LeSt (stOf (crun P k g)) (H s0)) (a:∀ s r',step s=some r'->W P (kpr (kmi (crun P k g)) (H s)) (Sum.elim (fun s' e st=>e = .normal/\LeSt st (H s')) (fun v e st=>(e ≠ .normal/\e ≠ .outgrown)/\Qb v e st) r')) (ha:∀ v,K v=some r->∀ e st',Qb v e st'->∃ st2,LeSt st' st2/\W P (unw e (ksOf (crun P k g)) st2) Q) (hc:kky (crun P k g)=true:=by kernel_rfl):W P g Q:=by
 refine ka1 k ?_;generalize crun P k g=g' at *
 obtain ⟨foc,ks,st⟩:=g';obtain ⟨v,h1,d⟩:=qc.1 h;unfold kky at hc;simp only at hc;split at hc
 ·rename_i c;refine kzy (k5g (st:=st) (P:=P) c H Qb h1 h0 fun s r' hs=>?_) fun e st' f=>?_
  ·have:=a s r' hs;cases r' with
   | inl s'=>exact this
   | inr b=>exact this
  ·obtain ⟨st2,e1,e2⟩:=ha v d e st' f;exact ⟨st2,e1,k1k e2⟩
 ·cases hc
theorem lpI {σ:Type} (k:Nat) (H:σ->St) (I:σ->Prop) (μ:σ->Nat) (Qb:Exit->St->Prop) (s0:σ) (a:I s0) (hc:kky (crun P k g)=true) (h0:LeSt (stOf (crun P k g)) (H s0))
  (b:∀ s,I s->W P (kpr (kmi (crun P k g)) (H s)) (fun e st=>(e = .normal/\∃ s',(I s'/\μ s'<μ s)/\LeSt st (H s'))\/((e ≠ .normal/\e ≠ .outgrown)/\Qb e st)))
  (ha:∀ e st',Qb e st'->∃ st2,LeSt st' st2/\W P (unw e (ksOf (crun P k g)) st2) Q):W P g Q:=by
 refine ka1 k ?_;generalize crun P k g=g' at *
 obtain ⟨foc,ks,st⟩:=g';unfold kky at hc;simp only at hc;split at hc;rename_i c;refine kzy (k60 (st:=st) (P:=P) c Qb H I μ a h0 fun s hs=>b s hs) fun e st' d=>?_;obtain ⟨st2,e1,e2⟩:=ha e st' d;exact ⟨st2,e1,k1k e2⟩
 ·cases hc
theorem lpr {σ α ρ:Type} {step:σ->Option (σ ⊕ (α ⊕ ρ))} {n:Nat} {s0:σ} {f:α->Option β} {q:ρ->Option β} (k:Nat) (h:Option.bind (kai step n s0) (fun v=>Sum.elim f q v)=some r) (H:σ->St) (e:Exit) (J:α->St) (rs:List ResultVar) (cs:List C1) (y:ρ->FV)
  (c:∀ s r',step s=some r'->W P (kpr (kmi (crun P k g)) (H s)) (Sum.elim (fun s' e' st=>e' = .normal/\LeSt st (H s')) (fun v e' st=>(e' ≠ .normal/\e' ≠ .outgrown)/\Sum.elim (fun p=>e'=e/\LeSt st (J p)) (fun p=>e' = .ret/\retX t.T st rs cs=some (y p)) v) r'))
  (h1:∀ p,f p=some r->W P (unw e (ksOf (crun P k g)) (J p)) Q)
  (d:∀ p st,q p=some r->retX t.T st rs cs=some (y p)->W P (unw .ret (ksOf (crun P k g)) st) Q:=by intro _ _ h a;cases h;first | exact lv a | exact lvo a | exact lvr a)
  (hc:kky (crun P k g)=true:=by kernel_rfl) (h0:coA (stOf (crun P k g)) (H s0)=some (H s0):=by kernel_rfl):W P g Q:=by
 refine lpx k H (fun v e' st=>Sum.elim (fun p=>e'=e/\LeSt st (J p)) (fun p=>e' = .ret/\retX t.T st rs cs=some (y p)) v) h (le_a h0) c (fun v hv e' st' b=>?_) (hc:=hc);cases v with
 | inl p=>obtain ⟨rfl,hl⟩:=b;exact ⟨_,hl,h1 p hv⟩
 | inr p=>obtain ⟨rfl,hr⟩:=b;exact ⟨_,LeSt.refl,d p _ hv hr⟩
theorem lpq {σ α:Type} {step:σ->Option (σ ⊕ (α ⊕ β))} {n:Nat} {s0:σ} {f:α->Option β} {rs:List ResultVar} {cs:List C1} (k:Nat) (h:Option.bind (kai step n s0) (fun v=>Sum.elim f (fun w=>some w) v)=some r) (H:σ->St) (e:Exit) (J:α->St) (y:β->FV)
  (b:∀ s r',step s=some r'->W P (kpr (kmi (crun P k g)) (H s)) (Sum.elim (fun s' e' st=>e' = .normal/\LeSt st (H s')) (fun v e' st=>(e' ≠ .normal/\e' ≠ .outgrown)/\Sum.elim (fun p=>e'=e/\LeSt st (J p)) (fun p=>e' = .ret/\retX t.T st rs cs=some (y p)) v) r'))
  (h1:∀ p,f p=some r->W P (unw e (ksOf (crun P k g)) (J p)) (retQ t.T rs cs (y r)))
  (hc:kky (crun P k g)=true:=by kernel_rfl) (h0:coA (stOf (crun P k g)) (H s0)=some (H s0):=by kernel_rfl):W P g (retQ t.T rs cs (y r)):=
 lpr k h H e J rs cs y b h1 (fun p st hp a=>by cases hp;exact lv a) hc h0
theorem lp1 {σ α:Type} {step:σ->Option (σ ⊕ α)} {n:Nat} {s0:σ} {K:α->Option β} (k:Nat) (H:σ->St) (e:Exit) (J:α->St) (h:Option.bind (kai step n s0) K=some r) (a:∀ s r',step s=some r'->W P (kpr (kmi (crun P k g)) (H s)) (Sum.elim (fun s' e st=>e = .normal/\LeSt st (H s')) (fun v e' st=>(e' ≠ .normal/\e' ≠ .outgrown)/\(e'=e/\LeSt st (J v))) r')) (ha:∀ v,K v=some r->W P (unw e (ksOf (crun P k g)) (J v)) Q) (hc:kky (crun P k g)=true:=by kernel_rfl) (h0:coA (stOf (crun P k g)) (H s0)=some (H s0):=by kernel_rfl):W P g Q:=by refine lpx k H _ h (le_a h0) a (fun v hv e' st' b=>?_) (hc:=hc);obtain ⟨rfl,hl⟩:=b;exact ⟨_,hl,ha v hv⟩
def kmo (fn:Func):Code:=fn.body.getD .skip
theorem kpi {fn:Func} (h:fn.body.isSome=true):fn.body=some (kmo fn):=by
 unfold kmo;cases a:fn.body with
 | none=>rw [a] at h;cases h
 | some c=>rfl
def inlW (P:Program) (os:Array Oper) (l:List Oper) (ks:List Frm) (dst:Option Nat) (n:Nat) (D:List Deferred) (gi:Nat) (cs:List Value) (keep:List (Nat×AV)) (rs:List ResultVar) (Q:Exit->St->Prop):Exit->St->Prop:=inlQ P os l dst n D gi cs keep rs (kdp P ks Q)
def inlF (g:Cfg):Option (FuncId×List AV):=match g.foc with
 | .ops os (o::_)=>match ka0 os g.st o,kq4 g.st o with
  | some true,true=>match o.op with
   | .call c=>match c.callee with
    | .value x=>match g.st.eval x with
     | .fn f cap=>some (f,c.args.toList.map g.st.eval++cap)
     | _=>none
    | _=>none
   | _=>none
  | _,_=>none
 | _=>none
def opsOf (g:Cfg):Array Oper:=match g.foc with
 | .ops os _=>os
 | _=>#[]
def kab2 (g:Cfg):List Oper:=match g.foc with
 | .ops _ (_::l)=>l
 | _=>[]
def dstOf (g:Cfg):Option Nat:=match g.foc with
 | .ops _ (o::_)=>o.dst
 | _=>none
theorem inl (k: Nat) (f: FuncId) (fn: Func) (n gi: Nat) (ys: List AV) (hf: P.funcs[f]? = some fn) (h:∀ cs,W P ⟨.code (kmo fn),[],{ n:=n,tmps:=argT 0 ys,heap:=(gi, .gho cs ((stOf (crun P k g)).tmps.map fun p=>(stOf (crun P k g)).get p.1))::(stOf (crun P k g)).heap,ids:=gi::(stOf (crun P k g)).ids }⟩
   (inlW P (opsOf (crun P k g)) (kab2 (crun P k g)) (ksOf (crun P k g)) (dstOf (crun P k g)) (stOf (crun P k g)).n (stOf (crun P k g)).dfr gi cs (stOf (crun P k g)).tmps fn.results.toList Q)) (e: fn.body.isSome = true:=by kernel_rfl) (hn: (fn.name == "runtime.NumGoroutine") = false:=by kernel_rfl) (a: fn.ntmps = n:=by kernel_rfl) (b: Nat.ble ys.length n = true:=by kernel_rfl) (c: (stOf (crun P k g)).ids.contains gi = false:=by kernel_rfl) (hc:inlF (crun P k g)=some (f,ys):=by kernel_rfl):W P g Q:=by
 refine ka1 k ?_;generalize crun P k g=g' at *
 obtain ⟨foc,ks,st⟩:=g';unfold inlF at hc;simp only at hc;split at hc
 ·split at hc
  ·rename_i i j;split at hc
   ·rename_i c' ho;split at hc
    ·rename_i x d;split at hc;rename_i f' cap hv;simp only [qb,qp] at hc;obtain ⟨rfl,rfl⟩:=hc;obtain ⟨cc,as1,ts⟩:=c';simp only at d;subst d;exact k8d ho hv i (kjl j) hf (kpi e) hn a rfl b c h
     ·cases hc
    ·cases hc
   ·cases hc
  ·cases hc
 ·cases hc
theorem li (k:Nat) {os:Array Oper} {l:List Oper} {ks:List Frm} {dst:Option Nat} {n gi:Nat} {D:List Deferred} {cs:List Value} {keep:List (Nat×AV)} {rs:List ResultVar} (vs:List AV) (rv:AV) (hr:(rs=[]/\rv = .any)\/∃ z,rs=[.tmp z]/\(stOf (crun P k g)).get z=rv) (h:W P ⟨.ops os l,ks,({ n:=n,tmps:=zipS keep vs,heap:=kbd gi (stOf (crun P k g)).heap,ids:=(stOf (crun P k g)).ids,dfr:=D }:St).put dst rv⟩ Q) (hc:(bif nilK (crun P k g) && kiw (crun P k g).foc then kaa (stOf (crun P k g)).heap gi else none)=some (.gho cs vs):=by kernel_rfl) (a:(stOf (crun P k g)).dfr=[]:=by kernel_rfl):W P g (inlW P os l ks dst n D gi cs keep rs Q):=by
 refine ka1 k ?_;generalize crun P k g=g' at *
 obtain ⟨foc,ks',st⟩:=g';cases ks' with
 | cons=>cases hc
 | nil=>
  simp only [nilK,Bool.true_and] at hc;cases hf:kiw foc with
  | false=>rw [hf] at hc;cases hc
  | true=>
   rw [hf] at hc;unfold kiw at hf;split at hf;exact ⟨.inl rfl,a,vs,rv,hc,hr,h⟩;exact ⟨.inr rfl,a,vs,rv,hc,hr,h⟩
   ·cases hf
theorem hcx0 {f : FuncId} {fn : Func} {args : List AV} {pre : List (Nat × AObj)} {ids : List Nat} {E : HEnd} {post : List (Nat × AObj)} {ids' : List Nat} {gi : Nat} (hf : P.funcs[f]? = some fn) (d : fn.body.isSome = true) (hn : (fn.name == "runtime.NumGoroutine") = false)
  (a:Nat.ble args.length fn.ntmps=true) (e:ids.contains gi=false) (b:ids'.contains gi=false) (c:(post.all fun p=>okO ids' p.2)=true) (g:E.ok ids'=true) (hk:(post.all fun p=>ids'.contains p.1)=true)
  (h:∀ ψ0 S1 w0,W P ⟨.code (kmo fn),[],{ n:=fn.ntmps,tmps:=argT 0 args,heap:=(gi, .was ψ0 ids S1 w0)::pre,ids:=gi::ids }⟩ (hQ t.T fn.results.toList gi ids E post ids' ψ0 S1 w0)):kal P f args pre ids E post ids':=
 k0n t.ok hf (kpi d) hn a e b c g hk h
theorem hcx {f: FuncId} {fn: Func} {args: List AV} {pre: List (Nat × AObj)} {ids: List Nat} {E: HEnd} {post: List (Nat × AObj)} {ids': List Nat} (gi: Nat) (hf: P.funcs[f]? = some fn) (h: ∀ ψ0 S1 w0, W P ⟨.code (kmo fn), [], { n := fn.ntmps, tmps := argT 0 args, heap := (gi, .was ψ0 ids S1 w0) :: pre, ids := gi :: ids }⟩ (hQ t.T fn.results.toList gi ids E post ids' ψ0 S1 w0)) (d: fn.body.isSome = true := by kernel_rfl) (hn: (fn.name == "runtime.NumGoroutine") = false := by kernel_rfl) (a: Nat.ble args.length fn.ntmps = true := by kernel_rfl) (e: ids.contains gi = false := by kernel_rfl) (b: ids'.contains gi = false := by kernel_rfl) (c: (post.all fun p => okO ids' p.2) = true := by kernel_rfl) (g: E.ok ids' = true := by kernel_rfl) (hk: (post.all fun p => ids'.contains p.1) = true := by kernel_rfl): kal P f args pre ids E post ids' :=
 hcx0 hf d hn a e b c g hk h
theorem lh (k:Nat) {rs:List ResultVar} {gi:Nat} {ids ids':List Nat} {res:AV} {post:List (Nat×AObj)} {ψ0:Env} {S1:Nat->Prop} {w0:World} (st2:St) (hl:LeSt (stOf (crun P k g)) st2) (a:st2.heap=(gi, .was ψ0 ids S1 w0)::post) (hi:st2.ids=gi::ids')
  (hc:(nilK (crun P k g) && kiw (crun P k g).foc)=true) (hr:retA t.T st2 rs=some res):W P g (hQ t.T rs gi ids (.ret res) post ids' ψ0 S1 w0):=by
 refine ka1 k ?_;generalize crun P k g=g' at *
 obtain ⟨foc,ks,st⟩:=g';simp only [qo] at hc;cases ks with
 | cons=>cases hc.1
 | nil=>
  have hf:kiw foc=true:=hc.2;unfold kiw at hf;split at hf;exact kv3 hl a hi (.inl rfl) hr;exact kv3 hl a hi (.inr rfl) hr
  ·cases hf
def zipR (st:St):List ResultVar->List AV->List (Nat×AV)
 | .tmp t::rs,x::xs=>(t,x)::zipR st rs xs
 | .cell t _::rs,_::xs=>(t,st.get t)::zipR st rs xs
 | _,_=>[]
def retT (st:St):List ResultVar->AV->List (Nat×AV)
 | [.tmp t],a=>[(t,a)]
 | [.cell t _],_=>[(t,st.get t)]
 | rs, .fz (.tup xs)=>zipR st rs (xs.map .fz)
 | rs, .tup xs=>zipR st rs xs
 | _,_=>[]
def retJ (st:St) (rs:List ResultVar) (res:AV) (gi:Nat) (o:AObj) (post:List (Nat×AObj)) (ids':List Nat):St:={ n:=st.n,tmps:=retT st rs res,heap:=(gi,o)::post,ids:=gi::ids' }
theorem lhy (k:Nat) {rs:List ResultVar} {gi:Nat} {ids ids':List Nat} {res:AV} {post:List (Nat×AObj)} {ψ0:Env} {S1:Nat->Prop} {w0:World} (hl:coA (stOf (crun P k g)) (retJ (stOf (crun P k g)) rs res gi (.was ψ0 ids S1 w0) post ids')=some (retJ (stOf (crun P k g)) rs res gi (.was ψ0 ids S1 w0) post ids'):=by kernel_rfl)
  (hc:(nilK (crun P k g) && kiw (crun P k g).foc)=true:=by kernel_rfl) (hr:retA t.T (retJ (stOf (crun P k g)) rs res gi (.was ψ0 ids S1 w0) post ids') rs=some res:=by kernel_rfl):W P g (hQ t.T rs gi ids (.ret res) post ids' ψ0 S1 w0):=
 lh k _ (le_a hl) rfl rfl hc hr
theorem pcl {f : FuncId} {fn : Func} {args : List FV} {y : FV} (cs : List C1) (hf : P.funcs[f]? = some fn) (h : W P ⟨.code (kmo fn), [], { n := fn.ntmps, tmps := kmy 0 args, heap := [], ids := [] }⟩ (retQ t.T fn.results.toList cs y)) (b : fn.body.isSome = true := by kernel_rfl) (hn : (fn.name == "runtime.NumGoroutine") = false := by kernel_rfl) (a : Nat.ble args.length fn.ntmps = true := by kernel_rfl) : PCall P f args y := k2f t.ok cs hf (kpi b) hn a h
def pncV (g:Cfg):Option Value:=match g.foc with
 | .ops os (o::_)=>match ka0 os g.st o,o.op with
  | some true, .panic x=>match g.st.eval x with
   | .fz (.atom (.iface t v))=>some (.iface t v)
   | _=>none
  | _,_=>none
 | _=>none
theorem pnc (k:Nat) (v:Value) (h:W P ⟨.fin (.panic [pnE v]),[],stOf (crun P k g)⟩ Q) (hc:pncV (crun P k g)=some v:=by kernel_rfl):W P g Q:=by
 refine ka1 k ?_;generalize crun P k g=g' at *
 obtain ⟨foc,ks,st⟩:=g';unfold pncV at hc;simp only at hc;split at hc
 ·rename_i os o l;split at hc
  ·rename_i x c ho;split at hc;rename_i tt u d;injection hc with hc;subst hc;intro F S0 N0 ψ S a w hs;unfold wpList;rw [kcj hs c];have hv:=hs.eval x;rw [d] at hv;have hv:=hv.atom;refine .inl ?_;unfold Oper.wp;have b:(execOp a.eval o).run P w = .halt (.panic (.iface tt u)) w:=(by simp only [execOp,ho,hv,Instr.panic,goPanic];rfl);rw [b];exact ⟨st,ψ,S,kxx h,hs,Fr.refl⟩
   ·cases hc
  ·cases hc
 ·cases hc
def k83 (g:Cfg):Option (FuncId×List AV):=match g.foc with
 | .ops os (o::_)=>match ka0 os g.st o,kq4 g.st o,o.op with
  | some true,true, .defer c=>match c.callee,c.args.toList with
   | .value x,[]=>match g.st.eval x with
    | .fn f vs=>some (f,vs)
    | _=>none
   | _,_=>none
  | _,_,_=>none
 | _=>none
def rsmD (gi:Nat) (f:FuncId) (cs:List Value) (vs:List AV) (g:Cfg):Cfg:=match g.foc with
 | .ops os (o::l)=>⟨.ops os l,g.ks,({ g.st with heap:=(gi, .gho cs vs)::g.st.heap,ids:=gi::g.st.ids,dfr:=dfn f cs::g.st.dfr }:St).put o.dst (.fz (.tup []))⟩
 | _=>⟨.bad,g.ks,g.st⟩
theorem dfer (k gi:Nat) (f:FuncId) (vs:List AV) (h:∀ cs,cs.length=vs.length->W P (rsmD gi f cs vs (crun P k g)) Q) (hc:k83 (crun P k g)=some (f,vs):=by kernel_rfl) (e:(stOf (crun P k g)).ids.contains gi=false:=by kernel_rfl):W P g Q:=by
 refine ka1 k ?_;generalize crun P k g=g' at *
 obtain ⟨foc,ks,st⟩:=g';have m:gi∉st.ids:=by simpa [stOf] using e
 clear e;have e:=m;clear m;unfold k83 at hc;simp only at hc;split at hc
 ·rename_i os o l;split at hc
  ·rename_i c C D ho;split at hc
   ·rename_i x h1 r;split at hc
    ·rename_i f' vs' s;simp only [qb,qp] at hc;obtain ⟨rfl,rfl⟩:=hc;obtain ⟨cc,as_,ts⟩:=c;simp only at h1 r;have r:as_=#[]:=(by apply qbh;simpa using r);subst h1 r;intro F S0 N0 ψ S a w hs;unfold wpList;rw [kcj hs C];have hv:=hs.eval x;rw [s] at hv;obtain ⟨caps,hcx,z,A⟩:∃ caps:Array Value,a.eval x = .func (.func f') #[] caps/\caps.size=vs'.length/\∀ (i:Nat) (v:Value) (y:AV),caps[i]?=some v->vs'[i]?=some y->RV ψ (·∈st.ids) S w v y:=by
      generalize a.eval x=u at hv;cases hv with
      | fn h hr=>exact ⟨_,rfl,h,hr⟩
     refine .inl ?_;unfold Oper.wp;have p:(execOp a.eval o).run P w = .ok (.defer (dfn f' caps.toList)) w:=(by simp [execOp,ho,resolve,hcx,Deferred.ofValue,dfn]);rw [p];have j:=hs.core.add (n:=0) (v := .nilFunc) (w':=w) (ob := .gho caps.toList vs') (kaf _) e (fun b E=>by cases E)
      ⟨ka2 _ _,by rw [kaj];rfl,by rw [kaj];rfl,fun i v x hv s=>(A i v x (by simpa using hv) s).keep (kay e _ _) (fun _ h=>qe _ h) (fun _ h=>h) (fun _ _ _=>rfl)⟩
     have B:Sim F S0 N0 { st with heap:=(gi, .gho caps.toList vs')::st.heap,ids:=gi::st.ids,dfr:=dfn f' caps.toList::st.dfr } (ψ.set gi 0 .nilFunc) S { a with defers:=dfn f' caps.toList::a.defers } w:=
      ⟨by show _::a.defers=_;rw [hs.defers],hs.size,fun t=>(hs.tmps t).keep (kay e _ _) (fun _ h=>qe _ h) (fun _ h=>h) (fun _ _ _=>rfl),j⟩
     have q:=B.put (st':={ st with heap:=(gi, .gho caps.toList vs')::st.heap,ids:=gi::st.ids,dfr:=dfn f' caps.toList::st.dfr }) (d:=o.dst) (v:=undef) (c := .fz (.tup [])) rfl rfl rfl j (.fz RF.undef) Ext.refl (fun _ h=>h) (fun _ h=>h) (fun _ _ _=>rfl) (kjl D);exact h caps.toList (by simpa using z) F S0 N0 _ S _ w q
    ·cases hc
   ·cases hc
  ·cases hc
 ·cases hc
def kwd:Foc->Option Exit
 | .fin e=>some e
 | _=>none
def k38 (fn:Func):Code:=match kkn fn with
 | some q=>q.2.2
 | none => .skip
def dfxQ (T:List (TypeId×TD)) (rs:List ResultVar) (gi0:Nat) (ids:List Nat) (E:HEnd) (post:List (Nat×AObj)) (ids':List Nat) (ψ0:Env) (S1:Nat->Prop) (w0:World) (keep:List Nat) (gi2:Nat) (ocs:List Value) (st:St):Exit->St->Prop:=fun e2 st2=>
 (e2 = .normal\/e2 = .ret)/\st2.dfr=[]/\∃ vs',kaa st2.heap gi2=some (.gho ocs vs')/\hQ T rs gi0 ids E post ids' ψ0 S1 w0 .ret (dstB keep gi2 vs' st st2)
theorem dfx (k gi2 t1 t2:Nat) (keep:List Nat) {rs:List ResultVar} {gi0:Nat} (gi:Nat) {ids ids':List Nat} {E:HEnd} {post:List (Nat×AObj)} {ψ0:Env} {S1:Nat->Prop} {w0:World} {f:FuncId} {fn2:Func} {cvals:List Value} {vs:List AV} (pv:Value) (e:Exit) (b: cvals.length = vs.length) (hf: P.funcs[f]? = some fn2) (h: ∀ ocs, W P ⟨.code (k38 fn2), [], dst0 keep fn2.ntmps t1 t2 pv vs gi2 ocs (stOf (crun P k g))⟩ (dfxQ t.T rs gi0 ids E post ids' ψ0 S1 w0 keep gi2 ocs (stOf (crun P k g)))) (j: kaa (stOf (crun P k g)).heap gi = some (.gho cvals vs) := by kernel_rfl) (a: (bif nilK (crun P k g) then kwd (crun P k g).foc else none) = some e := by kernel_rfl) (l: recV e = some pv := by kernel_rfl) (c: (stOf (crun P k g)).ids.contains gi2 = false := by kernel_rfl) (m: kkn fn2 = some (t1, t2, k38 fn2):=by kernel_rfl) (hn: (fn2.name == "runtime.NumGoroutine") = false:=by kernel_rfl) (d: Nat.ble vs.length fn2.ntmps = true:=by kernel_rfl) (i: (stOf (crun P k g)).dfr = [dfn f cvals]:=by kernel_rfl): W P g (hdQ P t.T rs gi0 ids E post ids' ψ0 S1 w0) := by
 refine ka1 k ?_;generalize crun P k g=g' at *
 obtain ⟨foc,ks,st⟩:=g';cases ks with
 | cons=>cases a
 | nil=>
  simp only [nilK,qr] at a;unfold kwd at a;split at a;injection a with a;subst a;exact .inr ⟨keep,f,fn2,t1,t2,k38 fn2,gi,cvals,vs,pv,gi2,i,j,b,hf,m,hn,d,l,c,fun ocs=>h ocs⟩
  ·cases a
theorem ldx (k:Nat) {rs:List ResultVar} {gi0 gi2:Nat} {ids ids':List Nat} {res:AV} {post:List (Nat×AObj)} {ψ0:Env} {S1:Nat->Prop} {w0:World} {keep:List Nat} {ocs:List Value} (vs':List AV) {st:St} (st3:St) (hl:LeSt (dstB keep gi2 vs' st (stOf (crun P k g))) st3) (b:st3.heap=(gi0, .was ψ0 ids S1 w0)::post) (hi:st3.ids=gi0::ids') (hr:retA t.T st3 rs=some res:=by kernel_rfl) (hc:(bif nilK (crun P k g) && kiw (crun P k g).foc then kaa (stOf (crun P k g)).heap gi2 else none)=some (.gho ocs vs'):=by kernel_rfl) (a:(stOf (crun P k g)).dfr=[]:=by kernel_rfl):W P g (dfxQ t.T rs gi0 ids (.ret res) post ids' ψ0 S1 w0 keep gi2 ocs st):=by
 refine ka1 k ?_;generalize crun P k g=g' at *
 obtain ⟨foc,ks,st'⟩:=g';cases ks with
 | cons=>cases hc
 | nil=>
  simp only [nilK,Bool.true_and] at hc;cases hf:kiw foc with
  | false=>rw [hf] at hc;cases hc
  | true=>
   rw [hf] at hc;unfold kiw at hf;split at hf;exact ⟨.inl rfl,a,vs',hc,kv3 hl b hi (.inr rfl) hr⟩;exact ⟨.inr rfl,a,vs',hc,kv3 hl b hi (.inr rfl) hr⟩
   ·cases hf
theorem hdx {f: FuncId} {fn: Func} {args: List AV} {pre: List (Nat × AObj)} {ids: List Nat} {E: HEnd} {post: List (Nat × AObj)} {ids': List Nat} (gi: Nat) (hf: P.funcs[f]? = some fn) (h: ∀ ψ0 S1 w0, W P ⟨.code (kmo fn), [], { n := fn.ntmps, tmps := argT 0 args, heap := (gi, .was ψ0 ids S1 w0) :: pre, ids := gi :: ids }⟩ (hdQ P t.T fn.results.toList gi ids E post ids' ψ0 S1 w0)) (d: fn.body.isSome = true := by kernel_rfl) (hn: (fn.name == "runtime.NumGoroutine") = false := by kernel_rfl) (a: Nat.ble args.length fn.ntmps = true := by kernel_rfl) (e: ids.contains gi = false := by kernel_rfl) (b: ids'.contains gi = false := by kernel_rfl) (c: (post.all fun p => okO ids' p.2) = true := by kernel_rfl) (g: E.ok ids' = true := by kernel_rfl) (hk: (post.all fun p => ids'.contains p.1) = true := by kernel_rfl): kal P f args pre ids E post ids' :=
 kzu t.ok hf (kpi d) hn a e b c g hk h
theorem lhp (k:Nat) {rs:List ResultVar} {gi:Nat} {ids ids':List Nat} {v:Value} {post:List (Nat×AObj)} {ψ0:Env} {S1:Nat->Prop} {w0:World} (st2:St) (hl:LeSt (stOf (crun P k g)) st2) (a:st2.heap=(gi, .was ψ0 ids S1 w0)::post) (hi:st2.ids=gi::ids') (b:st2.dfr=[]) (hc:(bif nilK (crun P k g) then kwd (crun P k g).foc else none)=some (.panic [pnE v]):=by kernel_rfl):W P g (hQ t.T rs gi ids (.pan v) post ids' ψ0 S1 w0):=by
 refine ka1 k ?_;generalize crun P k g=g' at *
 obtain ⟨foc,ks,st⟩:=g';cases ks with
 | cons=>cases hc
 | nil=>
  simp only [nilK,qr] at hc;unfold kwd at hc;split at hc;injection hc with hc;subst hc;exact kacp hl a hi b
  ·cases hc
theorem hcx2 {α α':Type} {f:FuncId} {fn:Func} {args:List AV} {pre:List (Nat×AObj)} {ids:List Nat} {E:α->HEnd} {post:α->List (Nat×AObj)} {ids':List Nat} {E2:α'->HEnd} {post2:α'->List (Nat×AObj)} {ids2:List Nat} (gi:Nat) {r:α ⊕ α'} (hf: P.funcs[f]? = some fn) (h:∀ ψ0 S1 w0,W P ⟨.code (kmo fn),[],{ n:=fn.ntmps,tmps:=argT 0 args,heap:=(gi, .was ψ0 ids S1 w0)::pre,ids:=gi::ids }⟩
   (Sum.elim (fun v=>hQ t.T fn.results.toList gi ids (E v) (post v) ids' ψ0 S1 w0) (fun v=>hQ t.T fn.results.toList gi ids (E2 v) (post2 v) ids2 ψ0 S1 w0) r)) (j: fn.body.isSome = true:=by kernel_rfl) (hn: (fn.name == "runtime.NumGoroutine") = false:=by kernel_rfl) (a: Nat.ble args.length fn.ntmps = true:=by kernel_rfl) (k: ids.contains gi = false:=by kernel_rfl) (b:ids'.contains gi=false:=by kernel_rfl) (c:∀ v,((post v).all fun p=>okO ids' p.2)=true:=by intro _;kernel_rfl) (l:∀ v,(E v).ok ids'=true:=by intro _;kernel_rfl) (hk:∀ v,((post v).all fun p=>ids'.contains p.1)=true:=by intro _;kernel_rfl) (d:ids2.contains gi=false:=by kernel_rfl) (e:∀ v,((post2 v).all fun p=>okO ids2 p.2)=true:=by intro _;kernel_rfl) (g:∀ v,(E2 v).ok ids2=true:=by intro _;kernel_rfl) (i:∀ v,((post2 v).all fun p=>ids2.contains p.1)=true:=by intro _;kernel_rfl):
  Sum.elim (fun v=>kal P f args pre ids (E v) (post v) ids') (fun v=>kal P f args pre ids (E2 v) (post2 v) ids2) r:=by
 cases r with
 | inl v=>exact hcx0 hf j hn a k b (c v) (l v) (hk v) h
 | inr v=>exact hcx0 hf j hn a k d (e v) (g v) (i v) h
theorem hpan (k:Nat) {f:FuncId} {cap:List AV} {x:Operand} {args:Array Operand} {ts:Array TypeId} {cs:List C1} {as1 as2 pre:_} {ids0 ids1:List Nat} {v:Value} {post:List (Nat×AObj)} {keys:List Nat} (r1 r2:List (Nat×Nat)) (hv:okP (crun P k g)=true) (ho:(kiv (crun P k g)).op = .call { callee := .value x,args:=args,argTypes:=ts })
  (e:fnOf args.size ((stOf (crun P k g)).eval x)=some (f,cap)) (hc:kal P f (as1++as2) pre ids0 (.pan v) post ids1) (a:kme (stOf (crun P k g)) r1 (renI r2 ids0) cs args.toList=some as1) (c:kmd r1 (renI r2 ids0) cap=some as2)
  (b:kjy (stOf (crun P k g)) r1 r2 keys ids0 ids1 post=true) (d:preX (stOf (crun P k g)) r1 r2 (renI r2 ids0) keys=some pre)
  (h:W P ⟨.fin (.panic [pnE v]),[],{ stOf (crun P k g) with heap:=renH r2 post++kfp (renI r2 ids0) (stOf (crun P k g)).heap,ids:=renI r2 ids1++(stOf (crun P k g)).ids }⟩ Q):W P g Q:=by
 refine ka1 k ?_;generalize crun P k g=g' at *
 obtain ⟨foc,ks,st⟩:=g';unfold okP at hv;simp only at hv;split at hv
 ·split at hv;rename_i i j;exact h_pan r1 r2 ho e hc a c b d i (kxx h)
  ·cases hv
 ·cases hv
def kpv {γ:Type} (f:Oper->St->Option γ) (g:Cfg):Option γ:=bif okP g then f (kiv g) (stOf g) else none
theorem krd {γ:Type} {f:Oper->St->Option γ} {z:γ} {g:Cfg} (h:kpv f g=some z):okP g=true/\f (kiv g) (stOf g)=some z:=by
 unfold kpv at h;cases hk:okP g with
 | false=>rw [hk] at h;cases h
 | true=>rw [hk] at h;exact ⟨rfl,h⟩
def tabX (T:List (TypeId×TD)) (o:Oper) (st:St):Option (TypeId×Int×Int×Nat):=match o.op with
 | .makeSlice t X Y=>match kac T t with
  | some d=>match d.kind,st.eval X,st.eval Y with
   | .slice e, .fz (.atom (.int _ n)), .fz (.atom (.int _ m))=>match kac T e with
    | some de=>match de.zero with
     | [.slice none 0 0]=>bif Nat.beq de.size 1 then some (e,n,m,de.bytes) else none
     | _=>none
    | none=>none
   | _,_,_=>none
  | none=>none
 | _=>none
theorem tabm {α:Type} (f:α->Value) {bytes:Nat} {n:Int} (eo:TypeId) {K:List (List α)->Option β} (k id:Nat) (ei:TypeId) (h:Option.bind (mkL bytes ([]:List α) n) K=some r) (c:∀ v,K v=some r->∀ ov,W P (rsmA (.fz (.atom ov)) ((id, .tab 0 ov eo ei (v.map (List.map f)))::(stOf (crun P k g)).heap) (id::(stOf (crun P k g)).ids) (crun P k g)) Q) (hc:kpv (tabX t.T) (crun P k g)=some (eo,n,n,bytes):=by kernel_rfl) (i:(stOf (crun P k g)).ids.contains id=false:=by kernel_rfl):W P g Q:=by
 obtain ⟨v,h1,u⟩:=qc.1 h;obtain ⟨rfl,h0,w,j⟩:=k0l h1;have c:=c _ u;refine ka1 k ?_;generalize crun P k g=g' at *
 obtain ⟨hk,a⟩:=krd hc;obtain ⟨foc,ks,st⟩:=g';cases foc with
 | ops os l=>
  cases l with
  | nil=>cases hk
  | cons o l=>
   have a:tabX t.T o st=some (eo,n,n,bytes):=a;unfold okP at hk;simp only at hk;split at hk
   ·rename_i x y;unfold tabX at a;split at a
    ·rename_i tt X Y ho;split at a
     ·rename_i d m;split at a
      ·rename_i e k1 n' k2 m' p hX z;split at a
       ·rename_i de q;split at a
        ·rename_i s;cases b:Nat.beq de.size 1 with
         | false=>rw [b] at a;cases a
         | true=>
          rw [b] at a;simp only [qr,qb,qp] at a;obtain ⟨rfl,rfl,rfl,rfl⟩:=a;refine l_tab (id:=id) ei ho t.ok m p q (qf b) s hX z h0 w j i x (kjl y) fun ov=>?_;have:=c ov;rw [List.map_replicate] at this;exact this
        ·cases a
       ·cases a
      ·cases a
     ·cases a
    ·cases a
   ·cases hk
 | _=>cases hk
end
theorem W_ops {os:Array Oper} {l:List Oper} (h:awpL P os l st (kdp P ks Q)):W P ⟨.ops os l,ks,st⟩ Q:=h
theorem ops_W {os:Array Oper} {l:List Oper} (h:W P ⟨.ops os l,ks,st⟩ Q):awpL P os l st (kdp P ks Q):=h
theorem kab9 {c:Code} (h:awp P c st Q):W P ⟨.code c,[],st⟩ Q:=h
theorem kab8 {c:Code} (h:W P ⟨.code c,[],st⟩ Q):awp P c st Q:=h
theorem W_fin {e:Exit} (h:Q e st):W P ⟨.fin e,[],st⟩ Q:=h
attribute [irreducible] W
end Go.Proofs.YtnlhjbnpjefjgabGreatDoor
