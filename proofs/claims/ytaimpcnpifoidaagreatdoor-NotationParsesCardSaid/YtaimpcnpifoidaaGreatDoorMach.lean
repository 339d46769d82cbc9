import Derived.Test.YtaimpcnpifoidaaGreatDoorDra
import Derived.Test.YtaimpcnpifoidaaGreatDoorOpr
set_option linter.all false
namespace Go.Proofs.YtaimpcnpifoidaaGreatDoor
open Go Go.RowKit
class Tab (P:Program) where
 T:List (TypeId×TD)
 ok:TOk P T
 mixed:P.follows .mixedOrders=true
abbrev FsT:=List (Nat×Option Nat×AV)
structure Zn where
 os:Array Oper
 n:Nat
 es:List Nat
 ch:List Nat
 ai:List Nat
inductive Foc where
 | code (c:Code)
 | ops (os:Array Oper) (l:List Oper)
 | drz (z:Zn) (k i:Nat) (l:List Oper) (fs:FsT) (hp:List (Nat×AObj)) (ids:List Nat) (pn:Option Nat)
 | dry (z:Zn) (k i:Nat) (l:List Oper) (fs:FsT) (hp:List (Nat×AObj)) (nid:List Nat) (es:List (Nat×Nat))
 | fin (e:Exit)
 | bad
inductive Frm where
 | seq (c:Code)
 | block (id:Nat)
structure Cfg where
 foc:Foc
 ks:List Frm
 st:St
def kw1 (T:List (TypeId×TD)) (t:TypeId):Option TK:=match kat T t with
 | some d=>some d.kind
 | none=>none
def kai0 (T:List (TypeId×TD)) (sr t:TypeId) (x:AV):Option AV:=match kw1 T sr,kw1 T t,x with
 | some _,some (.int k), .fz (.atom (.int _ n))=>some (.fz (.atom (.int k (k.wrap n))))
 | some .str,some .str, .fz (.atom (.string s))=>some (.fz (.atom (.string s)))
 | _,_,_=>none
def k2s (T:List (TypeId×TD)) (o:Oper) (st:St):Option AV:=match k2a T o st with
 | some c=>some c
 | none=>match o.op with
  | .convert sr t x=>kai0 T sr t (st.eval x)
  | .call c=>match c.callee,c.args.toList with
   | .builtin .min,[x,y]=>match st.eval x,st.eval y with
    | .fz (.atom (.int k m)), .fz (.atom (.int _ n))=>some (.fz (.atom (.int k (imin m n))))
    | _,_=>none
   | .builtin .max,[x,y]=>match st.eval x,st.eval y with
    | .fz (.atom (.int k m)), .fz (.atom (.int _ n))=>some (.fz (.atom (.int k (imax m n))))
    | _,_=>none
   | _,_=>none
  | .makeInterface t x=>match kw1 T t with
   | some .ifc=>none
   | some _=>match toV (st.eval x) with
    | some v=>some (.fz (.atom (.iface t v)))
    | none=>none
   | none=>none
  | .typeAssert x _ t true=>match kw1 T t,st.eval x with
   | some .ifc,_=>none
   | some _, .fz (.atom (.iface t' v))=>bif Nat.beq t' t then (match ofV v with
    | some y=>some (.fz (.tup [y, .atom (.bool true)]))
    | none=>none) else none
   | _,_=>none
  | .binOp op t x (.const .nilIface) _=>match kw1 T t,st.eval x,op with
   | some .ifc, .fz (.atom (.iface _ _)), .eql=>some (.fz (.atom (.bool false)))
   | some .ifc, .fz (.atom (.iface _ _)), .neq=>some (.fz (.atom (.bool true)))
   | some .ifc, .fz (.atom .nilIface), .eql=>some (.fz (.atom (.bool true)))
   | some .ifc, .fz (.atom .nilIface), .neq=>some (.fz (.atom (.bool false)))
   | _,_,_=>none
  | _=>none
theorem kix {T:List (TypeId×TD)} {t:TypeId} {k:TK} (h:kw1 T t=some k):∃ d,kat T t=some d/\d.kind=k:=by
 unfold kw1 at h;split at h;rename_i d hd;injection h with h;exact ⟨d,hd,h⟩
 ·cases h
theorem ktz {α:Type} {xs:Array α} {x y:α} (h:xs.toList=[x,y]):xs=#[x,y]:=by apply Array.ext'; simpa using h
theorem k3v {P:Program} {T:List (TypeId×TD)} (e:TOk P T) {o:Oper} {st:St} {c:AV} (h:k2s T o st=some c):NStep P o st c:=by
 unfold k2s at h;split at h;rename_i c' hc;injection h with h;subst h;exact kv8 e hc
 ·split at h
  ·rename_i sr t x ho;unfold kai0 at h;split at h;rename_i ks k k' n h1 h2 h3;injection h with h;subst h;obtain ⟨ds,hs,_⟩:=kix h1;obtain ⟨d,hd,hk⟩:=kix h2;exact kam5 e ho hs hd hk h3;rename_i s h1 h2 h3;injection h with h;subst h;obtain ⟨ds,hs,g⟩:=kix h1;obtain ⟨d,hd,hk⟩:=kix h2;exact kalw e ho hs g hd hk h3
   ·cases h
  ·rename_i c' ho;obtain ⟨cc,as_,ts⟩:=c';split at h
   ·rename_i x y h1 h2;simp only at h1 h2;rw [h1,ktz h2] at ho;split at h;rename_i k m k' n b f;injection h with h;subst h;exact s_min ho b f
    ·cases h
   ·rename_i x y h1 h2;simp only at h1 h2;rw [h1,ktz h2] at ho;split at h;rename_i k m k' n b f;injection h with h;subst h;exact s_max ho b f
    ·cases h
   ·cases h
  ·rename_i tt x ho;split at h;cases h
   ·rename_i kk hne hk;obtain ⟨d,hd,a⟩:=kix hk;split at h;rename_i v hv;injection h with h;subst h;exact kamf ho (e.get hd) (fun hi=>hne (by rw [hi] at a;exact a.symm)) hv
    ·cases h
   ·cases h
  ·rename_i x xt tt ho;split at h;cases h
   ·rename_i kk t' v hne hk b;obtain ⟨d,hd,a⟩:=kix hk;cases i:Nat.beq t' tt with
    | false=>rw [i] at h;cases h
    | true=>
     rw [i] at h;obtain rfl:=qx i;(try simp only [qf] at h);split at h;rename_i y f;injection h with h;subst h;exact kad3 ho (e.get hd) (fun hi=>hne (by rw [hi] at a;exact a.symm)) b f
     ·cases h
   ·cases h
  ·rename_i op tt x yt ho;split at h;rename_i s z hk b;obtain ⟨d,hd,a⟩:=kix hk;injection h with h;subst h;exact kw3 false false ho (e.get hd) a b (.inl ⟨rfl,_,_,rfl⟩);rename_i s z hk b;obtain ⟨d,hd,a⟩:=kix hk;injection h with h;subst h;exact kw3 true false ho (e.get hd) a b (.inl ⟨rfl,_,_,rfl⟩);rename_i hk b;obtain ⟨d,hd,a⟩:=kix hk;injection h with h;subst h;exact kw3 false true ho (e.get hd) a b (.inr ⟨rfl,rfl⟩);rename_i hk b;obtain ⟨d,hd,a⟩:=kix hk;injection h with h;subst h;exact kw3 true true ho (e.get hd) a b (.inr ⟨rfl,rfl⟩)
   ·cases h
  ·cases h
def unwN:List Frm->St->Cfg
 | [],st=>⟨.fin .normal,[],st⟩
 | .seq y::ks,st=>⟨.code y,ks,st⟩
 | .block _::ks,st=>unwN ks st
def unwX (id:Nat):List Frm->St->Cfg
 | [],st=>⟨.fin (.exit id),[],st⟩
 | .seq _::ks,st=>unwX id ks st
 | .block i::ks,st=>bif Nat.beq id i then unwN ks st else unwX id ks st
def unw:Exit->List Frm->St->Cfg
 | .normal,ks,st=>unwN ks st
 | .exit i,ks,st=>unwX i ks st
 | .ret,_,st=>⟨.fin .ret,[],st⟩
 | .panic cs,_,st=>⟨.fin (.panic cs),[],st⟩
 | _,_,st=>⟨.bad,[],st⟩
def kac9 (T:List (TypeId×TD)) (os:Array Oper) (o:Oper) (l:List Oper) (ks:List Frm) (st:St):Cfg:=match kdi os st o,kv7 st o with
 | some true,true=>match kze T o st with
  | some (c,h,i)=>⟨.ops os l,ks,({ st with heap:=h,ids:=i }:St).put o.dst c⟩
  | none=>match k2s T o st with
   | some c=>⟨.ops os l,ks,st.put o.dst c⟩
   | none=>⟨.bad,ks,st⟩
 | some false,true=>⟨.ops os l,ks,st.put o.dst (.fz (.tup []))⟩
 | _,_=>⟨.bad,ks,st⟩
def k5j (T:List (TypeId×TD)) (os:Array Oper) (st:St) (o:Oper):Option AV:=match kdi os st o with
 | some true=>k2s T o st
 | some false=>some (.fz (.tup []))
 | none=>none
def kac4:Code->List Frm->St->Cfg
 | .skip,ks,st=>unwN ks st
 | .label _,ks,st=>unwN ks st
 | .exit i,ks,st=>unwX i ks st
 | .ret,_,st=>⟨.fin .ret,[],st⟩
 | .seq x y,ks,st=>⟨.code x, .seq y::ks,st⟩
 | .block id c,ks,st=>⟨.code c, .block id::ks,st⟩
 | .cond c x y,ks,st=>match st.eval c with
  | .fz (.atom (.bool b))=>⟨.code (bif b then x else y),ks,st⟩
  | _=>⟨.bad,ks,st⟩
 | .region _ os false,ks,st=>⟨.ops os os.toList,ks,st⟩
 | _,ks,st=>⟨.bad,ks,st⟩
def kqw (z:Zn) (st:St) (i:Nat) (o:Oper) (fs:FsT) (hp:List (Nat×AObj)) (ids:List Nat):St:=kjr z.os.toList z.n z.es z.ch z.ai st i o fs hp ids
def kacn (ch:List Nat):List (Nat×AObj)->Bool
 | (k,_)::_=>ch.contains k
 | []=>true
def kwk (ai ids ids':List Nat):Bool:=ids'.all ai.contains && ids.all ids'.contains
def k5t (z:Zn) (i:Nat):Option Nat->Bool
 | some e=>anc z.os.toList i e
 | none=>false
def kabv (T:List (TypeId×TD)) (z:Zn) (k i:Nat) (o:Oper) (l:List Oper) (fs:FsT) (hp:List (Nat×AObj)) (ids:List Nat) (pn:Option Nat) (ks:List Frm) (st:St):Cfg:=
 bif k5t z i pn then ⟨.drz z k (i+1) l ((i,o.dst, .any)::fs) hp ids pn,ks,st⟩ else
 bif z.es.contains i then (match kdi z.os (kqw z st i o fs hp ids) o,kze T o (kqw z st i o fs hp ids),pn with
  | some false,_,none=>bif kwk z.ai ids ids then ⟨.drz z k (i+1) l ((i,o.dst, .fz (.tup []))::fs) hp ids none,ks,st⟩ else ⟨.bad,ks,st⟩
  | some true,some (c,a,i'),none=>bif Nat.beq (kqw z st i o fs hp ids).heap.length hp.length && (phB z.os.toList z.es i && (kacn z.ch a && kwk z.ai ids i')) then ⟨.drz z k (i+1) l ((i,o.dst,c)::fs) a i' none,ks,st⟩ else ⟨.bad,ks,st⟩
  | _,_,_=>⟨.bad,ks,st⟩)
 else (match k5j T z.os (kqw z st i o fs hp ids) o with
  | some c=>bif phB z.os.toList z.es i || okA st.ids c then ⟨.drz z k (i+1) l ((i,o.dst,c)::fs) hp ids pn,ks,st⟩ else ⟨.bad,ks,st⟩
  | none=>⟨.bad,ks,st⟩)
def kyx (z:Zn) (st:St) (i:Nat) (o:Oper) (fs:FsT):St:=kic z.os.toList z.n z.ai st i o fs
def k8c (T:List (TypeId×TD)) (o:Oper):Option (TypeId×List AV):=match o.op with
 | .alloc e=>match kat T e with
  | some d=>match zeroA d with
   | some cells=>some (e,cells)
   | none=>none
  | none=>none
 | _=>none
def k57 (T:List (TypeId×TD)) (v:St) (o:Oper):Option (Nat×AObj):=match o.op with
 | .store t x y=>match kx5 T v t x y with
  | some (_,q::_,_)=>some q
  | _=>none
 | _=>none
def kxk (z:Zn) (st:St) (es:List (Nat×Nat)) (id:Nat):Bool:=!(st.ids.contains id || (st.heap.any fun q=>q.1 == id) || (es.any fun q=>q.2 == id) || !z.ai.contains id)
def kac5 (T:List (TypeId×TD)) (z:Zn) (k i:Nat) (o:Oper) (l:List Oper) (fs:FsT) (hp:List (Nat×AObj)) (nid:List Nat) (es:List (Nat×Nat)) (ks:List Frm) (st:St):Cfg:=
 match k5j T z.os (kyx z st i o fs) o with
 | some c=>bif okA (idsB z.os.toList i nid es st.ids) c then ⟨.dry z k (i+1) l ((i,o.dst,c)::fs) hp nid es,ks,st⟩ else ⟨.bad,ks,st⟩
 | none=>match kdi z.os (kyx z st i o fs) o,k8c T o with
  | some true,some (e,cells)=>bif kxk z st es (fresh (nid++st.ids)) then ⟨.dry z k (i+1) l ((i,o.dst, .ref (fresh (nid++st.ids)) 0 0)::fs) ((fresh (nid++st.ids), .box e cells)::hp) (fresh (nid++st.ids)::nid) ((i,fresh (nid++st.ids))::es),ks,st⟩ else ⟨.bad,ks,st⟩
  | some true,none=>match k57 T { kyx z st i o fs with heap:=hp++st.heap } o with
   | some q=>bif !(st.heap.any fun r=>r.1 == q.1) && befB z.os.toList i q.1 es then ⟨.dry z k (i+1) l ((i,o.dst, .any)::fs) (q::hp) nid ((i,q.1)::es),ks,st⟩ else ⟨.bad,ks,st⟩
   | none=>⟨.bad,ks,st⟩
  | _,_=>⟨.bad,ks,st⟩
def kabt (T:List (TypeId×TD)) (g:Cfg):Cfg:=match g with
 | ⟨.code c,ks,st⟩=>kac4 c ks st
 | ⟨.ops _ [],ks,st⟩=>unwN ks st
 | ⟨.ops os (o::l),ks,st⟩=>kac9 T os o l ks st
 | ⟨.drz z 0 _ l fs hp ids none,ks,st⟩=>⟨.ops z.os l,ks,{ st with tmps:=hadd fs (fun _=>true) st.tmps,heap:=hp,ids:=ids }⟩
 | ⟨.drz z (k+1) i (o::l) fs hp ids pn,ks,st⟩=>kabv T z k i o l fs hp ids pn ks st
 | ⟨.dry z 0 _ l fs hp nid _,ks,st⟩=>⟨.ops z.os l,ks,{ st with tmps:=hadd fs (fun _=>true) st.tmps,heap:=hp++st.heap,ids:=nid++st.ids }⟩
 | ⟨.dry z (k+1) i (o::l) fs hp nid es,ks,st⟩=>kac5 T z k i o l fs hp nid es ks st
 | ⟨_,ks,st⟩=>⟨.bad,ks,st⟩
def crunT (T:List (TypeId×TD)) (k:Nat) (g:Cfg):Cfg:=Nat.rec g (fun _ r=>kabt T r) k
def crun (P:Program) [t:Tab P] (k:Nat) (g:Cfg):Cfg:=crunT t.T k g
def kjg (P:Program):List Frm->(Exit->St->Prop)->Exit->St->Prop
 | [],Q=>Q
 | .seq y::ks,Q=>kaji (fun st=>awp P y st (kjg P ks Q)) (kjg P ks Q)
 | .block id::ks,Q=>k1j id (kjg P ks Q)
def FW (P:Program) (foc:Foc) (st:St) (Q:Exit->St->Prop):Prop:=match foc with
 | .code c=>awp P c st Q
 | .ops os l=>awpL P os l st Q
 | .drz z k i l fs hp ids pn=>kt6 P z.os z.n z.es z.ch z.ai Q st k i l fs hp ids pn
 | .dry z k i l fs hp nid es=>kua P z.os z.n z.ai Q st k i l fs hp nid es
 | .fin e=>Q e st
 | .bad=>False
def W (P:Program) (g:Cfg) (Q:Exit->St->Prop):Prop:=FW P g.foc g.st (kjg P g.ks Q)
section
variable {P:Program} {T:List (TypeId×TD)} {Q:Exit->St->Prop} {st:St} {ks:List Frm}
theorem kso:∀ {ks:List Frm},W P (unwN ks st) Q->kjg P ks Q .normal st
 | [],h=>h
 | .seq _::_,h=>h
 | .block id::ks,h=>show k1j id (kjg P ks Q) .normal st from kso (ks:=ks) h
theorem ky1 {i:Nat}:∀ {ks:List Frm},W P (unwX i ks st) Q->kjg P ks Q (.exit i) st
 | [],h=>h
 | .seq _::ks,h=>ky1 (ks:=ks) h
 | .block id::ks,h=>by
  show (if i=id then kjg P ks Q .normal st else kjg P ks Q (.exit i) st);simp only [unwX] at h;by_cases hi:i=id;subst hi;rw [qj rfl];simp only [Nat.beq_refl,qf] at h;exact kso h
  ·rw [qg hi];rw [Nat.beq_eq_false hi] at h;exact ky1 h
theorem ky9 {ks:List Frm}:Q .ret st->kjg P ks Q .ret st:=by
 induction ks with
 | nil=>exact id
 | cons k ks ih=>cases k <;> exact ih
theorem kyv {cs} {ks:List Frm}:Q (.panic cs) st->kjg P ks Q (.panic cs) st:=by
 induction ks with
 | nil=>exact id
 | cons k ks ih=>cases k <;> exact ih
theorem kad6 {e:Exit} {ks:List Frm} (h:W P (unw e ks st) Q):kjg P ks Q e st:=by
 cases e with
 | normal=>exact kso h
 | exit i=>exact ky1 h
 | ret=>exact ky9 h
 | panic cs=>exact kyv h
 | _=>exact h.elim
theorem k54 (b:TOk P T) {os:Array Oper} {o:Oper} {c:AV} (h:k5j T os st o=some c):(kdi os st o=some true/\NStep P o st c)\/(kdi os st o=some false/\c = .fz (.tup [])):=by
 unfold k5j at h;split at h;rename_i a;exact .inl ⟨a,k3v b h⟩;rename_i a;injection h with h;exact .inr ⟨a,h.symm⟩
 ·cases h
theorem kaib (d:TOk P T) {os:Array Oper} {o:Oper} {l:List Oper} (h:W P (kac9 T os o l ks st) Q):awpL P os (o::l) st (kjg P ks Q):=by
 unfold kac9 at h;split at h
 ·rename_i a hd;split at h;rename_i c e i b;exact k17 (k7r d b) a (ksp hd) h
  ·split at h;rename_i c b;exact k17 (k3v d b).step a (ksp hd) h
   ·exact h.elim
 rename_i a hd;exact kana a (ksp hd) h
 ·exact h.elim
theorem kag4 {c:Code} (h:W P (kac4 c ks st) Q):awp P c st (kjg P ks Q):=by
 unfold kac4 at h;split at h;exact kahr (kso h);exact fun F S0 N0 ψ S a w hs=>wp_label ⟨st,ψ,S,kso h,hs,Fr.refl⟩;exact kagx (ky1 h);exact kakl (ky9 h);exact k90 h;exact kadv h
 ·split at h;rename_i b;exact k6b b h
  ·exact h.elim
 exact kacd h
 ·exact h.elim
theorem kach {o:Oper} {c:AV} {h:List (Nat×AObj)} {i:List Nat} (a:kze T o st=some (c,h,i)):h=st.heap\/∃ id ob,h=(id,ob)::st.heap:=by
 unfold kze at a;have d:∀ {e:TypeId} {cells:List AV},boxX e st cells=some (c,h,i)->h=st.heap\/∃ id ob,h=(id,ob)::st.heap:=fun {e cells} a=>by
  unfold boxX at a;cases f:(cells.all AV.single && !st.ids.contains (Go.Proofs.YtaimpcnpifoidaaGreatDoor.fresh st.ids)) with
  | false=>rw [f] at a;cases a
  | true=>rw [f] at a;simp only [qf,ql,qak] at a;exact .inr ⟨_,_,a.2.1.symm⟩
 split at a;exact d a
 ·split at a
  ·split at a;exact d a
   ·cases a
  ·cases a
 ·unfold kx5 at a;split at a
  ·split at a
   ·rename_i e cells g;generalize (Nat.beq _ 0 && _)=b at a;cases b with
    | false=>cases a
    | true=>simp only [qf,ql,qak] at a;exact .inr ⟨_,_,a.2.1.symm⟩
   ·cases a
  ·cases a
 ·refine .inl ?_;generalize k2a T o st=c0 at a;cases c0 with
  | none=>cases a
  | some x=>simp only [nres,ql,qak] at a;exact a.2.1.symm
theorem k0m {ai ids ids':List Nat} (h:kwk ai ids ids'=true):(∀ id,id∈ids'->id∈ai)/\∀ id,id∈ids->id∈ids':=by unfold kwk at h;simp only [q8] at h;exact ⟨fun id hi=>by simpa using qs.1 h.1 id hi,fun id hi=>by simpa using qs.1 h.2 id hi⟩
theorem kaih (j:TOk P T) {z:Zn} {k i:Nat} {o:Oper} {l:List Oper} {fs:FsT} {hp:List (Nat×AObj)} {ids:List Nat} {pn:Option Nat} (h:W P (kabv T z k i o l fs hp ids pn ks st) Q):kt6 P z.os z.n z.es z.ch z.ai (kjg P ks Q) st (k+1) i (o::l) fs hp ids pn:=by
 unfold kabv at h;cases hd:k5t z i pn with
 | true=>
  rw [hd] at h;cases pn with
  | none=>cases hd
  | some e=>exact .inl ⟨e,rfl,hd,h⟩
 | false=>
  rw [hd] at h;simp only [qd] at h;cases d:z.es.contains i with
  | true=>
   rw [d] at h;simp only [qf] at h;split at h
   ·rename_i g;cases a:kwk z.ai ids ids with
    | false=>rw [a] at h;exact h.elim
    | true=>
     rw [a] at h;exact .inr (.inr (.inl ⟨d,rfl,_,hp,ids,⟨.inr ⟨g,rfl,rfl,rfl⟩, .inr ⟨fun _ _ _ h=>h,k0m a⟩⟩,h⟩))
   ·rename_i c m i' g p;generalize a:(Nat.beq (kqw z st i o fs hp ids).heap.length hp.length && (phB z.os.toList z.es i && (kacn z.ch m && kwk z.ai ids i')))=b at h;cases b with
    | false=>exact h.elim
    | true=>
     simp only [q8] at a;obtain ⟨_,b2,b3,b4⟩:=a;refine .inr (.inr (.inl ⟨d,rfl,c,m,i',⟨.inl ⟨g,k7r j p⟩, .inr ⟨?_,k0m b4⟩⟩,h⟩));have hv:(kqw z st i o fs hp ids).heap=hp:=(by show (bif phB z.os.toList z.es i then hp else _)=hp;rw [b2];rfl);rcases kach p with f | ⟨id,ob,f⟩;rw [f,hv];exact fun _ _ _ h=>h
     ·rw [f,hv];rw [f] at b3;intro id' hid ob' ho;rw [kae,qg];exact ho
      ·rintro rfl;exact hid (by simpa [kacn] using b3)
   ·exact h.elim
  | false=>
   rw [d] at h;simp only [qd] at h;split at h
   ·rename_i c hc;cases hk:(phB z.os.toList z.es i || okA st.ids c) with
    | false=>rw [hk] at h;exact h.elim
    | true=>rw [hk] at h;exact .inr (.inl ⟨d,c,k54 j hc,hk,h⟩)
   ·exact h.elim
theorem kafk (b:TOk P T) {o:Oper} {e:TypeId} {cells:List AV} (h:k8c T o=some (e,cells)) {v:St} (id:Nat):k21 P v o (.ref id 0 0) id (.box e cells):=by
 unfold k8c at h;split at h
 ·rename_i e' ho;split at h
  ·rename_i d hd;split at h;rename_i cells' c;simp only [ql,qak] at h;obtain ⟨rfl,rfl⟩:=h;exact fun a ids' hid=>k89 (st:={ v with heap:=a,ids:=ids' }) ho (b.get hd) c hid
   ·cases h
  ·cases h
 ·cases h
theorem kadx (f:TOk P T) {v:St} {o:Oper} {q:Nat×AObj} (h:k57 T v o=some q):kacv P v o .any q.1 q.2:=by
 unfold k57 at h;split at h
 ·rename_i t x y ho;unfold kx5 at h;cases hd:kat T t with
  | none=>rw [hd] at h;cases h
  | some d=>
   rw [hd] at h;generalize g:v.eval x=ex at h;cases ex with
   | ref id n off=>
    simp only at h;cases a:kab v.heap id with
    | none=>rw [a] at h;cases h
    | some ob=>
     rw [a] at h;cases ob with
     | box e cells=>
      simp only at h;cases b:(Nat.beq n 0 && (Nat.beq (v.eval y).cells.length d.size && ((v.eval y).cells.all AV.single && Nat.ble (off+(v.eval y).cells.length) cells.length))) with
      | false=>rw [b] at h;cases h
      | true=>
       rw [b] at h;simp only [qf,ql] at h;subst h;simp only [q8] at b;obtain ⟨b1,b2,b3,b4⟩:=b;obtain rfl:=qx b1;exact fun c ids' hl=>kaao (st:={ v with heap:=c,ids:=ids' }) ho (f.get hd) g (by rw [<- a];exact hl) rfl (qx b2) b3 (qai b4)
     | _=>cases h
   | _=>cases h
 ·cases h
theorem kafz (b:TOk P T) {z:Zn} {k i:Nat} {o:Oper} {l:List Oper} {fs:FsT} {hp:List (Nat×AObj)} {nid:List Nat} {es:List (Nat×Nat)} (h:W P (kac5 T z k i o l fs hp nid es ks st) Q):kua P z.os z.n z.ai (kjg P ks Q) st (k+1) i (o::l) fs hp nid es:=by
 unfold kac5 at h;split at h
 ·rename_i c hc;cases hk:okA (idsB z.os.toList i nid es st.ids) c with
  | false=>rw [hk] at h;exact h.elim
  | true=>rw [hk] at h;exact .inl ⟨c,k54 b hc,hk,h⟩
 ·split at h
  ·rename_i e cells d ha;cases hk:kxk z st es (Go.Proofs.YtaimpcnpifoidaaGreatDoor.fresh (nid++st.ids)) with
   | false=>rw [hk] at h;exact h.elim
   | true=>
    rw [hk] at h;have a:=hk;unfold kxk at a;rw [Bool.not_eq_true'] at a;exact .inr (.inl ⟨_,_,_,d,kafk b ha _,a,h⟩)
  ·rename_i d _;split at h
   ·rename_i q f;cases hk:(!(st.heap.any fun r=>r.1 == q.1) && befB z.os.toList i q.1 es) with
    | false=>rw [hk] at h;exact h.elim
    | true=>
     rw [hk] at h;rw [q8,Bool.not_eq_true'] at hk;exact .inr (.inr ⟨_,_,_,d,kadx b f,hk.1,hk.2,h⟩)
   ·exact h.elim
  ·exact h.elim
theorem kahb (a:TOk P T) {g:Cfg} (h:W P (kabt T g) Q):W P g Q:=by
 unfold kabt at h;split at h;exact kag4 h;exact l_nil (kso h);exact kaib a h;exact h;exact kaih a h;exact h;exact kafz a h
 ·exact h.elim
theorem kch [t:Tab P] {k:Nat} {g:Cfg} (h:W P (crun P k g) Q):W P g Q:=by
 unfold crun at h
 induction k with
 | zero=>exact h
 | succ k ih=>exact ih (kahb t.ok h)
variable [t:Tab P] {g:Cfg} {β:Type} {r:β}
def k1g (g:Cfg):Bool:=match g.foc with
 | .code _=>true
 | .ops _ _=>true
 | _=>false
def k9s (g:Cfg):Bool:=match g.foc with
 | .code _=>true
 | _=>false
def stOf (g:Cfg):St:=g.st
def ktu (g:Cfg) (st:St):Cfg:=⟨g.foc,g.ks,st⟩
theorem wle (k:Nat) {st':St} (hl:LeSt (stOf (crun P k g)) st') (h:W P (ktu (crun P k g) st') Q) (hc:k1g (crun P k g)=true:=by kernel_rfl):W P g Q:=by
 refine kch (k:=k) ?_;generalize crun P k g=g' at *
 obtain ⟨foc,ks,st⟩:=g';cases foc with
 | code c=>exact kann hl h
 | ops os l=>exact l_le hl h
 | _=>cases hc
def kaja (g:Cfg):Option Bool:=match g.foc with
 | .code (.cond c _ _)=>match g.st.eval c with
  | .fz (.atom (.bool b))=>some b
  | _=>none
 | _=>none
def brc (b:Bool) (g:Cfg):Cfg:=match g.foc with
 | .code (.cond _ x y)=>⟨.code (bif b then x else y),g.ks,g.st⟩
 | _=>⟨.bad,g.ks,g.st⟩
theorem cd (k:Nat) {b:Bool} {X Y:Option β} (h:(bif b then X else Y)=some r) (h1:X=some r->W P (brc true (crun P k g)) Q) (h2:Y=some r->W P (brc false (crun P k g)) Q) (hc:kaja (crun P k g)=some b:=by kernel_rfl):W P g Q:=by
 refine kch (k:=k) ?_;generalize crun P k g=g' at *
 obtain ⟨foc,ks,st⟩:=g';have key:W P (brc b ⟨foc,ks,st⟩) Q:=by
  cases b with
  | true=>exact h1 h
  | false=>exact h2 h
 unfold kaja at hc;simp only at hc;split at hc
 ·rename_i c x y;split at hc;rename_i b' a;injection hc with hc;subst hc;exact k6b a key
  ·cases hc
 ·cases hc
def setT (t:Nat) (v:AV):List (Nat×AV)->List (Nat×AV)
 | []=>[]
 | (k,x)::l=>bif Nat.beq k t then (k,v)::l else (k,x)::setT t v l
def setF (j:Nat) (v:AV):FsT->FsT
 | []=>[]
 | (k,d,x)::l=>bif Nat.beq k j then (k,d,v)::l else (k,d,x)::setF j v l
def getF (j:Nat):FsT->Option AV
 | []=>none
 | (k,d,x)::l=>bif Nat.beq k j then some x else getF j l
def ky7:AV->Option Bool
 | .fz (.atom (.bool b))=>some b
 | _=>none
def k8j (g:Cfg):Option Bool:=match g.foc with
 | .ops os (o::_)=>match o.guard with
  | some (j,_)=>match (os[j]?).bind (·.dst) with
   | some t=>ky7 (g.st.get t)
   | none=>none
  | none=>none
 | .drz _ _ _ (o::_) fs _ _ _=>match o.guard with
  | some (j,_)=>match getF j fs with
   | some v=>ky7 v
   | none=>none
  | none=>none
 | _=>none
def setG (b:Bool) (g:Cfg):Cfg:=match g.foc with
 | .ops os (o::l)=>match o.guard with
  | some (j,_)=>match (os[j]?).bind (·.dst) with
   | some t=>⟨.ops os (o::l),g.ks,{ g.st with tmps:=setT t (.fz (.atom (.bool b))) g.st.tmps }⟩
   | none=>g
  | none=>g
 | .drz z k i (o::l) fs hp ids pn=>match o.guard with
  | some (j,_)=>⟨.drz z k i (o::l) (setF j (.fz (.atom (.bool b))) fs) hp ids pn,g.ks,g.st⟩
  | none=>g
 | _=>g
theorem kaai {t:Nat} {b:Bool}:∀ {l:List (Nat×AV)},ky7 (look .any l t)=some b->setT t (.fz (.atom (.bool b))) l=l
 | [],_=>rfl
 | (k,x)::l,h=>by
  simp only [setT,look] at h ⊢;cases hk:Nat.beq k t with
  | true=>
   rw [hk] at h;simp only [qf] at h ⊢;unfold ky7 at h;split at h;injection h with h;rw [h]
   ·cases h
  | false=>rw [hk] at h;simp only [qd] at h ⊢; rw [kaai h]
theorem k9f {j:Nat} {b:Bool}:∀ {l:FsT} {v:AV},getF j l=some v->ky7 v=some b->setF j (.fz (.atom (.bool b))) l=l
 | [],_,h,_=>rfl
 | (k,d,x)::l,v,h,a=>by
  simp only [setF,getF] at h ⊢;cases hk:Nat.beq k j with
  | true=>
   rw [hk] at h;simp only [qf,ql] at h ⊢;subst h;unfold ky7 at a;split at a;injection a with a;rw [a]
   ·cases a
  | false=>rw [hk] at h;simp only [qd] at h ⊢; rw [k9f h a]
theorem kajr {b:Bool} (h:k8j g=some b):setG b g=g:=by
 obtain ⟨foc,ks,st⟩:=g;unfold k8j at h;unfold setG;cases foc with
 | ops os l=>
  cases l with
  | nil=>rfl
  | cons o l=>
   (try dsimp only at h ⊢);split at h
   ·rename_i j w a;split at h;rename_i t ht;(try simp only [ht]);rw [kaai h]
    ·cases h
   ·cases h
 | drz z k i l fs hp ids pn=>
  cases l with
  | nil=>rfl
  | cons o l=>
   (try dsimp only at h ⊢);split at h
   ·rename_i j w a;split at h;rename_i v hv;(try dsimp only);rw [k9f hv h]
    ·cases h
   ·cases h
 | _=>rfl
theorem gd (k:Nat) {b:Bool} {X Y:Option β} (h:(bif b then X else Y)=some r) (h1:X=some r->W P (setG true (crun P k g)) Q) (h2:Y=some r->W P (setG false (crun P k g)) Q) (hc:k8j (crun P k g)=some b:=by kernel_rfl):W P g Q:=by
 refine kch (k:=k) ?_;rw [<- kajr hc];cases b with
 | true=>exact h1 h
 | false=>exact h2 h
def krg (g:Cfg):Option (Oper×St):=match g.foc with
 | .ops os (o::_)=>match kdi os g.st o,kv7 g.st o with
  | some true,true=>some (o,g.st)
  | _,_=>none
 | .drz z (_+1) i (o::_) fs hp ids pn=>match kdi z.os (kqw z g.st i o fs hp ids) o with
  | some true=>bif z.es.contains i || k5t z i pn then none else some (o,kqw z g.st i o fs hp ids)
  | _=>none
 | .dry z (_+1) i (o::_) fs _ _ _=>match kdi z.os (kyx z g.st i o fs) o with
  | some true=>some (o,kyx z g.st i o fs)
  | _=>none
 | _=>none
def knm (g:Cfg):Oper:=match g.foc with
 | .ops _ (o::_)=>o
 | .drz _ _ _ (o::_) _ _ _ _=>o
 | .dry _ _ _ (o::_) _ _ _ _=>o
 | _=>default
def kzc (g:Cfg):St:=match krg g with
 | some p=>p.2
 | none=>g.st
def rsm (c:AV) (g:Cfg):Cfg:=match g.foc with
 | .ops os (o::l)=>⟨.ops os l,g.ks,g.st.put o.dst c⟩
 | .drz z (k+1) i (o::l) fs hp ids pn=>bif phB z.os.toList z.es i || okA g.st.ids c then ⟨.drz z k (i+1) l ((i,o.dst,c)::fs) hp ids pn,g.ks,g.st⟩ else ⟨.bad,g.ks,g.st⟩
 | .dry z (k+1) i (o::l) fs hp nid es=>bif okA (idsB z.os.toList i nid es g.st.ids) c then ⟨.dry z k (i+1) l ((i,o.dst,c)::fs) hp nid es,g.ks,g.st⟩ else ⟨.bad,g.ks,g.st⟩
 | _=>⟨.bad,g.ks,g.st⟩
end
section
variable {P:Program} {T:List (TypeId×TD)} {Q:Exit->St->Prop} {st:St} {ks:List Frm} {g:Cfg} {β:Type} {r:β}
theorem k7c {o:Oper} {v:St} {c:AV} (hv:krg g=some (o,v)) (hn:NStep P o v c) (h:W P (rsm c g) Q):W P g Q:=by
 obtain ⟨foc,ks,st⟩:=g;unfold krg at hv;simp only at hv;split at hv
 ·split at hv;rename_i a hd;simp only [ql,qak] at hv;obtain ⟨rfl,rfl⟩:=hv;exact k17 hn.step a (ksp hd) h
  ·cases hv
 ·rename_i z k i o' l fs hp ids pn;split at hv
  ·rename_i a;generalize d:(z.es.contains i || k5t z i pn)=b at hv;cases b with
   | true=>cases hv
   | false=>
    rw [Bool.or_eq_false_iff] at d;simp only [qd,ql,qak] at hv;obtain ⟨rfl,rfl⟩:=hv;simp only [rsm] at h;cases hk:(phB z.os.toList z.es i || okA st.ids c) with
    | false=>rw [hk] at h;exact h.elim
    | true=>rw [hk] at h;exact .inr (.inl ⟨d.1,c, .inl ⟨a,hn⟩,hk,h⟩)
  ·cases hv
 ·rename_i z k i o' l fs hp nid es;split at hv
  ·rename_i a;simp only [ql,qak] at hv;obtain ⟨rfl,rfl⟩:=hv;simp only [rsm] at h;cases hk:okA (idsB z.os.toList i nid es st.ids) c with
   | false=>rw [hk] at h;exact h.elim
   | true=>rw [hk] at h;exact .inl ⟨c, .inl ⟨a,hn⟩,hk,h⟩
  ·cases hv
 ·cases hv
end
section
variable {P:Program} {T:List (TypeId×TD)} {Q:Exit->St->Prop} {st:St} {ks:List Frm} [t:Tab P] {g:Cfg} {β:Type} {r:β}
def mokV (g:Cfg):Bool:=(krg g).isSome
theorem k71 {o:Oper} {v:St} (h:krg g=some (o,v)):knm g=o/\kzc g=v:=by
 refine ⟨?_,by unfold kzc;rw [h]⟩;obtain ⟨foc,ks,st⟩:=g;unfold krg at h;unfold knm;simp only at h ⊢;split at h
 ·split at h;simp only [ql,qak] at h;exact h.1
  ·cases h
 ·rename_i z k i o' l fs hp ids pn;split at h
  ·generalize (z.es.contains i || _)=b at h;cases b with
   | true=>cases h
   | false=>simp only [qd,ql,qak] at h;exact h.1
  ·cases h
 ·split at h;simp only [ql,qak] at h;exact h.1
  ·cases h
 ·cases h
theorem nst (k:Nat) {c:AV} (hn:NStep P (knm (crun P k g)) (kzc (crun P k g)) c) (h:W P (rsm c (crun P k g)) Q) (hv:mokV (crun P k g)=true:=by kernel_rfl):W P g Q:=by refine kch (k:=k) ?_;unfold mokV at hv;obtain ⟨⟨o,v⟩,hv⟩:=Option.isSome_iff_exists.1 hv;obtain ⟨e1,e2⟩:=k71 hv;rw [e1,e2] at hn;exact k7c hv hn h
def okP (g:Cfg):Bool:=match g.foc with
 | .ops os (o::_)=>match kdi os g.st o,kv7 g.st o with
  | some true,true=>true
  | _,_=>false
 | _=>false
def rsmA (c:AV) (h:List (Nat×AObj)) (i:List Nat) (g:Cfg):Cfg:=match g.foc with
 | .ops os (o::l)=>⟨.ops os l,g.ks,({ g.st with heap:=h,ids:=i }:St).put o.dst c⟩
 | _=>⟨.bad,g.ks,g.st⟩
theorem sst (k:Nat) {c:AV} {h:List (Nat×AObj)} {i:List Nat} (hn:kcx P (knm (crun P k g)) (stOf (crun P k g)) c h i) (hv:okP (crun P k g)=true) (a:W P (rsmA c h i (crun P k g)) Q):W P g Q:=by
 refine kch (k:=k) ?_;generalize crun P k g=g' at *
 obtain ⟨foc,ks,st⟩:=g';unfold okP at hv;simp only at hv;split at hv
 ·split at hv;rename_i b hd;exact k17 hn b (ksp hd) a
  ·cases hv
 ·cases hv
def dzOk (n:Nat) (es ai:List Nat) (g:Cfg):Bool:=match g.foc with
 | .code (.region _ os true)=>relB os.toList n g.st.n && (kadf os.toList n es && g.st.ids.all ai.contains)
 | _=>false
def dzOf (n:Nat) (es ch ai:List Nat) (g:Cfg):Cfg:=match g.foc with
 | .code (.region _ os true)=>⟨.drz ⟨os,n,es,ch,ai⟩ n 0 os.toList [] g.st.heap g.st.ids none,g.ks,g.st⟩
 | _=>⟨.bad,g.ks,g.st⟩
theorem dz (k n:Nat) (es ch ai:List Nat) (hc:dzOk n es ai (crun P k g)=true) (a:W P (dzOf n es ch ai (crun P k g)) Q):W P g Q:=by
 refine kch (k:=k) ?_;generalize crun P k g=g' at *
 obtain ⟨foc,ks,st⟩:=g';unfold dzOk at hc;simp only at hc;split at hc;rename_i id os;simp only [q8] at hc;obtain ⟨l⟩:=os;exact kall t.mixed hc.1 hc.2.1 hc.2.2 a
 ·cases hc
def dyOk (n:Nat) (ai:List Nat) (g:Cfg):Bool:=match g.foc with
 | .code (.region _ os true)=>relB os.toList n g.st.n && g.st.ids.all ai.contains
 | _=>false
def dyOf (n:Nat) (ai:List Nat) (g:Cfg):Cfg:=match g.foc with
 | .code (.region _ os true)=>⟨.dry ⟨os,n,[],[],ai⟩ n 0 os.toList [] [] [] [],g.ks,g.st⟩
 | _=>⟨.bad,g.ks,g.st⟩
theorem dy (k n:Nat) (ai:List Nat) (a:W P (dyOf n ai (crun P k g)) Q) (hc:dyOk n ai (crun P k g)=true:=by kernel_rfl):W P g Q:=by
 refine kch (k:=k) ?_;generalize crun P k g=g' at *
 obtain ⟨foc,ks,st⟩:=g';unfold dyOk at hc;simp only at hc;split at hc;rename_i id os;simp only [q8] at hc;obtain ⟨l⟩:=os;exact kale t.mixed hc.1 hc.2 a
 ·cases hc
def kai1 (g:Cfg):List Nat:=g.st.ids
theorem dw (k n:Nat) (a:W P (dzOf n [] [] (kai1 (crun P k g)) (crun P k g)) Q) (hc:dzOk n [] (kai1 (crun P k g)) (crun P k g)=true:=by kernel_rfl):W P g Q:=dz k n [] [] _ hc a
def okZ (g:Cfg):Bool:=match g.foc with
 | .drz z (_+1) i (o::_) fs hp ids none=>z.es.contains i && (match kdi z.os (kqw z g.st i o fs hp ids) o with | some true=>true | _=>false)
 | _=>false
def ki6 (g:Cfg):St:=match g.foc with
 | .drz z _ i (o::_) fs hp ids _=>kqw z g.st i o fs hp ids
 | _=>g.st
def offZ (g:Cfg) (h:List (Nat×AObj)):List (Option AObj):=match g.foc with
 | .drz z _ _ _ _ hp _ _=>(kwt z.ch hp).map (kab h)
 | _=>[]
def hpZ (g:Cfg):List (Nat×AObj):=match g.foc with
 | .drz _ _ _ _ _ hp _ _=>hp
 | _=>[]
def idsZ (i':List Nat) (g:Cfg):Bool:=match g.foc with
 | .drz z _ _ _ _ _ ids _=>kwk z.ai ids i'
 | _=>false
def rsmZ (c:AV) (a:List (Nat×AObj)) (i':List Nat) (g:Cfg):Cfg:=match g.foc with
 | .drz z (k+1) i (o::l) fs _ _ _=>⟨.drz z k (i+1) l ((i,o.dst,c)::fs) a i' none,g.ks,g.st⟩
 | _=>⟨.bad,g.ks,g.st⟩
theorem zst (k:Nat) {c:AV} {a:List (Nat×AObj)} {i':List Nat} (hn:kcx P (knm (crun P k g)) (ki6 (crun P k g)) c a i') (hv:okZ (crun P k g)=true) (hi:idsZ i' (crun P k g)=true) (hk:offZ (crun P k g) a=offZ (crun P k g) (hpZ (crun P k g))) (b:W P (rsmZ c a i' (crun P k g)) Q):W P g Q:=by
 refine kch (k:=k) ?_;generalize crun P k g=g' at *
 obtain ⟨foc,ks,st⟩:=g';unfold okZ at hv;simp only at hv;split at hv
 ·rename_i z k i o l fs hp ids;simp only [q8] at hv;obtain ⟨h1,h2⟩:=hv;split at h2;rename_i d;exact .inr (.inr (.inl ⟨h1,rfl,c,a,i',⟨.inl ⟨d,hn⟩, .inr ⟨kanf hk,k0m hi⟩⟩,b⟩))
  ·cases h2
 ·cases hv
def rsmP (g:Cfg):Cfg:=match g.foc with
 | .drz z (k+1) i (o::l) fs hp ids _=>⟨.drz z k (i+1) l ((i,o.dst, .any)::fs) hp ids (some i),g.ks,g.st⟩
 | _=>⟨.bad,g.ks,g.st⟩
theorem zpn (k:Nat) {v:Value} {a:List (Nat×AObj)} {i':List Nat} (hn:k68 P (knm (crun P k g)) (ki6 (crun P k g)) v a i') (hv:okZ (crun P k g)=true) (b:W P ⟨.fin (.panic [pnE v]),[],{ stOf (crun P k g) with tmps:=[],heap:=a,ids:=i' }⟩ Q) (c:W P (rsmP (crun P k g)) Q):W P g Q:=by
 refine kch (k:=k) ?_;generalize crun P k g=g' at *
 obtain ⟨foc,ks,st⟩:=g';unfold okZ at hv;simp only at hv;split at hv
 ·rename_i z k i o l fs hp ids;simp only [q8] at hv;obtain ⟨h1,h2⟩:=hv;split at h2;rename_i d;exact .inr (.inr (.inr ⟨h1,rfl,⟨d,v,a,i',hn,kyv b⟩,c⟩))
  ·cases h2
 ·cases hv
def kaiz (g:Cfg):Bool:=match g.foc with
 | .drz _ 0 _ _ _ _ _ (some _)=>true
 | _=>false
theorem zdd (k:Nat) (hc:kaiz (crun P k g)=true:=by kernel_rfl):W P g Q:=by
 refine kch (k:=k) ?_;generalize crun P k g=g' at *
 obtain ⟨foc,ks,st⟩:=g';unfold kaiz at hc;simp only at hc;split at hc;exact trivial
 ·cases hc
def mpre (g:Cfg):Cfg:=⟨g.foc,[],g.st⟩
def ksOf (g:Cfg):List Frm:=g.ks
end
section
variable {P:Program} {T:List (TypeId×TD)} {Q:Exit->St->Prop} {st:St} {ks:List Frm} {g:Cfg} {β:Type} {r:β}
theorem kail {os:Array Oper} {l:List Oper} (h:awpL P os l st fun e st'=>∃ st2,LeSt st' st2/\Q e st2):awpL P os l st Q:=fun F S0 N0 ψ S a w hs=>
 kgh (fun e a' w' ⟨st',ψ',S',⟨st2,h0,h1⟩,h2,h3⟩=>by obtain ⟨ψ2,S2,b⟩:=h0 F S0 N0 ψ' S' a' w' h2;exact ⟨st2,ψ2,S2,h1,b,h3⟩) _ _ _ (h F S0 N0 ψ S a w hs)
theorem kafj {os:Array Oper} {l:List Oper} {Q':Exit->St->Prop} (h:awpL P os l st Q) (b:∀ e st,Q e st->Q' e st):awpL P os l st Q':=fun F S0 N0 ψ S a w hs=>
 kgh (fun e a' w' ⟨st',ψ',S',h1,h2⟩=>⟨st',ψ',S',b _ _ h1,h2⟩) _ _ _ (h F S0 N0 ψ S a w hs)
end
section
variable {P:Program} {T:List (TypeId×TD)} {Q:Exit->St->Prop} {st:St} {ks:List Frm} [t:Tab P] {g:Cfg} {β:Type} {r:β}
def WeakQ (Q:Exit->St->Prop):Exit->St->Prop:=fun e st'=>∃ st2,LeSt st' st2/\Q e st2
end
section
variable {P:Program} {T:List (TypeId×TD)} {Q:Exit->St->Prop} {st:St} {ks:List Frm} {g:Cfg} {β:Type} {r:β}
end
section
variable {P:Program} {T:List (TypeId×TD)} {Q:Exit->St->Prop} {st:St} {ks:List Frm} [t:Tab P] {g:Cfg} {β:Type} {r:β}
theorem jn (k:Nat) (Qa:Exit->St->Prop) (hc:k1g (crun P k g)=true) (ha:W P (mpre (crun P k g)) Qa) (b:∀ e st',Qa e st'->∃ st2,LeSt st' st2/\W P (unw e (ksOf (crun P k g)) st2) Q):W P g Q:=by
 refine kch (k:=k) ?_;generalize crun P k g=g' at *
 obtain ⟨foc,ks,st⟩:=g';have a:∀ e st',Qa e st'->WeakQ (kjg P ks Q) e st':=fun e st' h=>let ⟨st2,h1,h2⟩:=b e st' h;⟨st2,h1,kad6 h2⟩;cases foc with
 | code c=>exact kwe (kv4 (show awp P c st Qa from ha) a)
 | ops os l=>exact kail (kafj (show awpL P os l st Qa from ha) a)
 | _=>cases hc
theorem jn1 {α:Type} {E:Option α} {K:α->Option β} (k:Nat) (e:Exit) (J:α->St) (h:Option.bind E K=some r) (ha:∀ v,E=some v->W P (mpre (crun P k g)) fun e' st=>e'=e/\LeSt st (J v)) (a:∀ v,K v=some r->W P (unw e (ksOf (crun P k g)) (J v)) Q) (hc:k1g (crun P k g)=true:=by kernel_rfl):W P g Q:=by obtain ⟨v,h1,h2⟩:=qk.1 h;refine jn k _ hc (ha v h1) ?_;rintro _ st' ⟨rfl,hl⟩;exact ⟨_,hl,a v h2⟩
theorem jnQ {α:Type} {E:Option α} {K:α->Option β} (k:Nat) (Qa:α->Exit->St->Prop) (h:Option.bind E K=some r) (ha:∀ v,E=some v->W P (mpre (crun P k g)) (Qa v)) (a:∀ v,K v=some r->∀ e st',Qa v e st'->∃ st2,LeSt st' st2/\W P (unw e (ksOf (crun P k g)) st2) Q) (hc:k1g (crun P k g)=true:=by kernel_rfl):W P g Q:=by obtain ⟨v,h1,h2⟩:=qk.1 h;exact jn k _ hc (ha v h1) (a v h2)
def kajg:FV->C0
 | .lst s _ _ => .sl s
 | .bx _ => .px
 | _ => .keep
def kacr:AV->C0
 | .fz x=>kajg x
 | _ => .keep
def auto1:AV->C1
 | .fz (.agg xs) => .ag (xs.map kajg)
 | .agg xs => .ag (xs.map kacr)
 | x => .one (kacr x)
def autoT (st:St):List (Nat×C1):=st.tmps.map fun p=>(p.1,auto1 p.2)
def autoO:AObj->List C0
 | .box _ cs=>cs.map kacr
 | _=>[]
def autoH (st:St):List (Nat×List C0):=st.heap.map fun p=>(p.1,autoO p.2)
def coA (st J:St):Option St:=coSt st J.ids (autoT J) (autoH J)
theorem le_a {st J:St} (h:coA st J=some J:=by kernel_rfl):LeSt st J:=kaiy h
def kr5:Foc->Exit->Bool
 | .fin .normal, .normal=>true
 | .fin .ret, .ret=>true
 | .fin (.exit i), .exit j=>Nat.beq i j
 | _,_=>false
theorem k0x {foc:Foc} {e:Exit} (h:kr5 foc e=true):foc = .fin e/\(e = .normal\/e = .ret\/∃ i,e = .exit i):=by
 unfold kr5 at h;split at h;exact ⟨rfl, .inl rfl⟩;exact ⟨rfl, .inr (.inl rfl)⟩;rename_i i j;rw [qx h];exact ⟨rfl, .inr (.inr ⟨_,rfl⟩)⟩
 ·cases h
def jok (g:Cfg) (e:Exit) (J:St):Option St:=bif kr5 g.foc e then coA g.st J else none
end
section
variable {P:Program} {T:List (TypeId×TD)} {Q:Exit->St->Prop} {st:St} {ks:List Frm} {g:Cfg} {β:Type} {r:β}
end
section
variable {P:Program} {T:List (TypeId×TD)} {Q:Exit->St->Prop} {st:St} {ks:List Frm} [t:Tab P] {g:Cfg} {β:Type} {r:β}
def nilK (g:Cfg):Bool:=match g.ks with
 | []=>true
 | _=>false
theorem lj (k:Nat) {e:Exit} {J:St} (hc:(bif nilK (crun P k g) then jok (crun P k g) e J else none)=some J:=by kernel_rfl):W P g fun e' st=>e'=e/\LeSt st J:=by
 refine kch (k:=k) ?_;generalize crun P k g=g' at *
 obtain ⟨foc,ks,st⟩:=g';cases ks with
 | cons=>cases hc
 | nil=>
  simp only [nilK,jok,qf] at hc;cases a:kr5 foc e with
  | false=>rw [a] at hc;cases hc
  | true=>
   rw [a] at hc;obtain ⟨rfl,_⟩:=k0x a;exact ⟨rfl,le_a hc⟩
theorem lo (k:Nat) {e:Exit} {J:St} (hc:(bif nilK (crun P k g) && !kr5 (crun P k g).foc .normal then jok (crun P k g) e J else none)=some J):W P g fun e' st=>(e' ≠ .normal/\e' ≠ .outgrown)/\(e'=e/\LeSt st J):=by
 refine kch (k:=k) ?_;generalize crun P k g=g' at *
 obtain ⟨foc,ks,st⟩:=g';cases ks with
 | cons=>cases hc
 | nil=>
  simp only [nilK,jok,Bool.true_and] at hc;cases hn:kr5 foc .normal with
  | true=>rw [hn] at hc;cases hc
  | false=>
   rw [hn] at hc;cases a:kr5 foc e with
   | false=>rw [a] at hc;cases hc
   | true=>
    rw [a] at hc;obtain ⟨rfl,b⟩:=k0x a;refine ⟨⟨fun h=>?_,fun h=>?_⟩,rfl,le_a hc⟩;subst h;cases hn
    ·rcases b with rfl | rfl | ⟨i,rfl⟩ <;> cases h
theorem lox (k:Nat) {e:Exit} {J:St} (hl:LeSt (stOf (crun P k g)) J) (hc:(nilK (crun P k g) && (!kr5 (crun P k g).foc .normal && kr5 (crun P k g).foc e))=true:=by kernel_rfl):W P g fun e' st=>(e' ≠ .normal/\e' ≠ .outgrown)/\(e'=e/\LeSt st J):=by
 refine kch (k:=k) ?_;generalize crun P k g=g' at *
 obtain ⟨foc,ks,st⟩:=g';simp only [q8,Bool.not_eq_true'] at hc;cases ks with
 | cons=>cases hc.1
 | nil=>
  obtain ⟨rfl,a⟩:=k0x hc.2.2;refine ⟨⟨fun h=>?_,fun h=>?_⟩,rfl,hl⟩;subst h;cases hc.2.1
  ·rcases a with rfl | rfl | ⟨i,rfl⟩ <;> cases h
def kqs:Foc->Bool
 | .fin .normal=>true
 | .fin .ret=>true
 | _=>false
def kxn:Foc->Bool
 | .fin .ret=>true
 | _=>false
def rokq (T:List (TypeId×TD)) (g:Cfg) (rs:List ResultVar) (cs:List C1):Option FV:=bif nilK g && kqs g.foc then retX T g.st rs cs else none
def rokr (T:List (TypeId×TD)) (g:Cfg) (rs:List ResultVar) (cs:List C1):Option FV:=bif kxn g.foc then retX T g.st rs cs else none
theorem lq (k:Nat) {rs:List ResultVar} {cs:List C1} {y:FV} (hc:rokq t.T (crun P k g) rs cs=some y:=by kernel_rfl):W P g (retQ t.T rs cs y):=by
 refine kch (k:=k) ?_;generalize crun P k g=g' at *
 obtain ⟨foc,ks,st⟩:=g';unfold rokq at hc;cases ks with
 | cons=>cases hc
 | nil=>
  simp only [nilK,Bool.true_and] at hc;cases a:kqs foc with
  | false=>rw [a] at hc;cases hc
  | true=>
   rw [a] at hc;unfold kqs at a;split at a;exact hc;exact hc
   ·cases a
theorem lr (k:Nat) {rs:List ResultVar} {cs:List C1} {y:FV} (hc:rokr t.T (crun P k g) rs cs=some y:=by kernel_rfl):W P g fun e st=>e = .ret/\retX t.T st rs cs=some y:=by
 refine kch (k:=k) ?_;generalize crun P k g=g' at *
 obtain ⟨foc,ks,st⟩:=g';unfold rokr at hc;cases a:kxn foc with
 | false=>simp only [a] at hc;cases hc
 | true=>
  simp only [a] at hc;unfold kxn at a;split at a;exact ky9 (Q:=fun e st=>e = .ret/\retX t.T st rs cs=some y) ⟨rfl,hc⟩
  ·cases a
theorem lor (k:Nat) {rs:List ResultVar} {cs:List C1} {y:FV} (hc:rokr t.T (crun P k g) rs cs=some y:=by kernel_rfl):W P g fun e st=>(e ≠ .normal/\e ≠ .outgrown)/\(e = .ret/\retX t.T st rs cs=some y):=by
 refine kch (k:=k) ?_;generalize crun P k g=g' at *
 obtain ⟨foc,ks,st⟩:=g';unfold rokr at hc;cases a:kxn foc with
 | false=>simp only [a] at hc;cases hc
 | true=>
  simp only [a] at hc;unfold kxn at a;split at a;exact ky9 (Q:=fun e st=>(e ≠ .normal/\e ≠ .outgrown)/\(e = .ret/\retX t.T st rs cs=some y)) ⟨⟨(fun h=>nomatch h),(fun h=>nomatch h)⟩,rfl,hc⟩
  ·cases a
theorem lv {rs:List ResultVar} {cs:List C1} {y:FV} {st:St} {ks:List Frm} (h:retX t.T st rs cs=some y):W P (unw .ret ks st) (retQ t.T rs cs y):=h
theorem lvr {rs:List ResultVar} {cs:List C1} {y:FV} {st:St} {ks:List Frm} (h:retX t.T st rs cs=some y):W P (unw .ret ks st) fun e st=>e = .ret/\retX t.T st rs cs=some y:=⟨rfl,h⟩
theorem lvo {rs:List ResultVar} {cs:List C1} {y:FV} {st:St} {ks:List Frm} (h:retX t.T st rs cs=some y):W P (unw .ret ks st) fun e st=>(e ≠ .normal/\e ≠ .outgrown)/\(e = .ret/\retX t.T st rs cs=some y):=⟨⟨fun h=>(nomatch h),fun h=>(nomatch h)⟩,rfl,h⟩
end
section
variable {P:Program} {T:List (TypeId×TD)} {Q:Exit->St->Prop} {st:St} {ks:List Frm} {g:Cfg} {β:Type} {r:β}
theorem ls {α:Type} {X v:α} {Qf:α->Exit->St->Prop} (h:some X=some v) (a:W P g (Qf X)):W P g (Qf v):=by obtain rfl:=qq h;exact a
end
section
variable {P:Program} {T:List (TypeId×TD)} {Q:Exit->St->Prop} {st:St} {ks:List Frm} [t:Tab P] {g:Cfg} {β:Type} {r:β}
def kae2 (g:Cfg):Cfg:=match g.foc with
 | .code (.loop c)=>⟨.code c,[],g.st⟩
 | _=>⟨.bad,[],g.st⟩
def k5y (g:Cfg):Bool:=match g.foc with
 | .code (.loop _)=>true
 | _=>false
theorem lpx {σ α:Type} {step:σ->Option (σ ⊕ α)} {n:Nat} {s0:σ} {K:α->Option β} (k:Nat) (H:σ->St) (Qb:α->Exit->St->Prop) (h:Option.bind (kaa step n s0) K=some r) (hc:k5y (crun P k g)=true) (h0:LeSt (stOf (crun P k g)) (H s0))
  (a:∀ s r',step s=some r'->W P (ktu (kae2 (crun P k g)) (H s)) (Sum.elim (fun s' e st=>e = .normal/\LeSt st (H s')) (fun v e st=>(e ≠ .normal/\e ≠ .outgrown)/\Qb v e st) r'))
  (ha:∀ v,K v=some r->∀ e st',Qb v e st'->∃ st2,LeSt st' st2/\W P (unw e (ksOf (crun P k g)) st2) Q):W P g Q:=by
 refine kch (k:=k) ?_;generalize crun P k g=g' at *
 obtain ⟨foc,ks,st⟩:=g';obtain ⟨v,h1,h2⟩:=qk.1 h;unfold k5y at hc;simp only at hc;split at hc
 ·rename_i c;refine kaf7 (kadh (P:=P) (body:=c) (st:=st) H (Qb:=Qb) h1 h0 fun s r' hs=>?_) fun e st' d=>?_
  ·have:=a s r' hs;cases r' with
   | inl s'=>exact this
   | inr b=>exact this
  ·obtain ⟨st2,e1,e2⟩:=ha v h2 e st' d;exact ⟨st2,e1,kad6 e2⟩
 ·cases hc
theorem lp1 {σ α:Type} {step:σ->Option (σ ⊕ α)} {n:Nat} {s0:σ} {K:α->Option β} (k:Nat) (H:σ->St) (e:Exit) (J:α->St) (h:Option.bind (kaa step n s0) K=some r) (a:∀ s r',step s=some r'->W P (ktu (kae2 (crun P k g)) (H s)) (Sum.elim (fun s' e st=>e = .normal/\LeSt st (H s')) (fun v e' st=>(e' ≠ .normal/\e' ≠ .outgrown)/\(e'=e/\LeSt st (J v))) r')) (ha:∀ v,K v=some r->W P (unw e (ksOf (crun P k g)) (J v)) Q) (hc:k5y (crun P k g)=true:=by kernel_rfl) (h0:coA (stOf (crun P k g)) (H s0)=some (H s0):=by kernel_rfl):W P g Q:=by refine lpx k H _ h hc (le_a h0) a fun v hv e' st' b=>?_;obtain ⟨rfl,hl⟩:=b;exact ⟨_,hl,ha v hv⟩
theorem opc (k:Nat) {id:Nat} {e:TypeId} {cells:List AV} (h1:W P (ktu (crun P k g) { stOf (crun P k g) with heap:=(id, .box e (.fz (.atom (.pointer none))::cells))::(stOf (crun P k g)).heap }) Q) (h2:W P (ktu (crun P k g) { stOf (crun P k g) with heap:=(id, .box e (.ref id 0 0::cells))::(stOf (crun P k g)).heap }) Q) (a:kab (stOf (crun P k g)).heap id=some (.box e (.opt id::cells)):=by kernel_rfl) (hc:k9s (crun P k g)=true:=by kernel_rfl):W P g Q:=by
 refine kch (k:=k) ?_;generalize crun P k g=g' at *
 obtain ⟨foc,ks,st⟩:=g';cases foc with
 | code c=>exact k8d a h1 h2
 | _=>cases hc
def kl9 (fn:Func):Code:=fn.body.getD .skip
theorem kre {fn:Func} (h:fn.body.isSome=true):fn.body=some (kl9 fn):=by
 unfold kl9;cases a:fn.body with
 | none=>rw [a] at h;cases h
 | some c=>rfl
def inlW (P:Program) (os:Array Oper) (l:List Oper) (ks:List Frm) (dst:Option Nat) (n:Nat) (D:List Deferred) (gi:Nat) (cs:List Value) (keep:List (Nat×AV)) (rs:List ResultVar) (Q:Exit->St->Prop):Exit->St->Prop:=inlQ P os l dst n D gi cs keep rs (kjg P ks Q)
def inlF (g:Cfg):Option (FuncId×List AV):=match g.foc with
 | .ops os (o::_)=>match kdi os g.st o,kv7 g.st o with
  | some true,true=>match o.op with
   | .call c=>match c.callee with
    | .value x=>match g.st.eval x with
     | .fn f cap=>some (f,c.args.toList.map g.st.eval++cap)
     | _=>none
    | _=>none
   | _=>none
  | _,_=>none
 | _=>none
def opsOf (g:Cfg):Array Oper:=match g.foc with
 | .ops os _=>os
 | _=>#[]
def kame (g:Cfg):List Oper:=match g.foc with
 | .ops _ (_::l)=>l
 | _=>[]
def dstOf (g:Cfg):Option Nat:=match g.foc with
 | .ops _ (o::_)=>o.dst
 | _=>none
theorem inl (k : Nat) {f : FuncId} {fn : Func} {n gi : Nat} {ys : List AV} (e : P.funcs[f]? = some fn) (i : fn.body.isSome = true) (hn : (fn.name == "runtime.NumGoroutine") = false) (a : fn.ntmps = n) (b : Nat.ble ys.length n = true) (c : (stOf (crun P k g)).ids.contains gi = false)
  (hc:inlF (crun P k g)=some (f,ys))
  (h:∀ cs,W P ⟨.code (kl9 fn),[],{ n:=n,tmps:=argT 0 ys,heap:=(gi, .gho cs ((stOf (crun P k g)).tmps.map fun p=>(stOf (crun P k g)).get p.1))::(stOf (crun P k g)).heap,ids:=gi::(stOf (crun P k g)).ids }⟩
   (inlW P (opsOf (crun P k g)) (kame (crun P k g)) (ksOf (crun P k g)) (dstOf (crun P k g)) (stOf (crun P k g)).n (stOf (crun P k g)).dfr gi cs (stOf (crun P k g)).tmps fn.results.toList Q)):W P g Q:=by
 refine kch (k:=k) ?_;generalize crun P k g=g' at *
 obtain ⟨foc,ks,st⟩:=g';unfold inlF at hc;simp only at hc;split at hc
 ·split at hc
  ·rename_i j hd;split at hc
   ·rename_i c' ho;split at hc
    ·rename_i x d;split at hc;rename_i f' cap hv;simp only [ql,qak] at hc;obtain ⟨rfl,rfl⟩:=hc;obtain ⟨cc,as1,ts⟩:=c';simp only at d;subst d;exact kagr ho hv j (ksp hd) e (kre i) hn a rfl b c h
     ·cases hc
    ·cases hc
   ·cases hc
  ·cases hc
 ·cases hc
theorem hcx0 {f : FuncId} {fn : Func} {args : List AV} {pre : List (Nat × AObj)} {ids : List Nat} {E : HEnd} {post : List (Nat × AObj)} {ids' : List Nat} {gi : Nat} (d : P.funcs[f]? = some fn) (e : fn.body.isSome = true) (hn : (fn.name == "runtime.NumGoroutine") = false)
  (a:Nat.ble args.length fn.ntmps=true) (g:ids.contains gi=false) (b:ids'.contains gi=false) (c:(post.all fun p=>okO ids' p.2)=true) (i:E.ok ids'=true) (hk:(post.all fun p=>ids'.contains p.1)=true)
  (h:∀ ψ0 S1 w0,W P ⟨.code (kl9 fn),[],{ n:=fn.ntmps,tmps:=argT 0 args,heap:=(gi, .was ψ0 ids S1 w0)::pre,ids:=gi::ids }⟩ (hQ t.T fn.results.toList gi ids E post ids' ψ0 S1 w0)):kau P f args pre ids E post ids':=
 kxp t.ok d (kre e) hn a g b c i hk h
theorem hcx {f : FuncId} {fn : Func} {args : List AV} {pre : List (Nat × AObj)} {ids : List Nat} {E : HEnd} {post : List (Nat × AObj)} {ids' : List Nat} {gi : Nat} (d : P.funcs[f]? = some fn) (h : ∀ ψ0 S1 w0, W P ⟨.code (kl9 fn), [], { n := fn.ntmps, tmps := argT 0 args, heap := (gi, .was ψ0 ids S1 w0) :: pre, ids := gi :: ids }⟩ (hQ t.T fn.results.toList gi ids E post ids' ψ0 S1 w0)) (e : fn.body.isSome = true := by kernel_rfl) (hn : (fn.name == "runtime.NumGoroutine") = false := by kernel_rfl) (a : Nat.ble args.length fn.ntmps = true := by kernel_rfl) (g : ids.contains gi = false := by kernel_rfl) (b : ids'.contains gi = false := by kernel_rfl) (c : (post.all fun p => okO ids' p.2) = true := by kernel_rfl) (i : E.ok ids' = true := by kernel_rfl) (hk : (post.all fun p => ids'.contains p.1) = true := by kernel_rfl) : kau P f args pre ids E post ids' :=
 hcx0 d e hn a g b c i hk h
theorem lh (k:Nat) {rs:List ResultVar} {gi:Nat} {ids ids':List Nat} {res:AV} {post:List (Nat×AObj)} {ψ0:Env} {S1:Nat->Prop} {w0:World} (st2:St) (hl:LeSt (stOf (crun P k g)) st2) (b:st2.heap=(gi, .was ψ0 ids S1 w0)::post) (hi:st2.ids=gi::ids')
  (hc:(nilK (crun P k g) && kqs (crun P k g).foc)=true:=by kernel_rfl) (hr:retA t.T st2 rs=some res:=by kernel_rfl):W P g (hQ t.T rs gi ids (.ret res) post ids' ψ0 S1 w0):=by
 refine kch (k:=k) ?_;generalize crun P k g=g' at *
 obtain ⟨foc,ks,st⟩:=g';simp only [q8] at hc;cases ks with
 | cons=>cases hc.1
 | nil=>
  have a:kqs foc=true:=hc.2;unfold kqs at a;split at a;exact k1q hl b hi (.inl rfl) hr;exact k1q hl b hi (.inr rfl) hr
  ·cases a
def zipR (st:St):List ResultVar->List AV->List (Nat×AV)
 | .tmp t::rs,x::xs=>(t,x)::zipR st rs xs
 | .cell t _::rs,_::xs=>(t,st.get t)::zipR st rs xs
 | _,_=>[]
def retT (st:St):List ResultVar->AV->List (Nat×AV)
 | [.tmp t],a=>[(t,a)]
 | [.cell t _],_=>[(t,st.get t)]
 | rs, .fz (.tup xs)=>zipR st rs (xs.map .fz)
 | rs, .tup xs=>zipR st rs xs
 | _,_=>[]
def retJ (st:St) (rs:List ResultVar) (res:AV) (gi:Nat) (o:AObj) (post:List (Nat×AObj)) (ids':List Nat):St:={ n:=st.n,tmps:=retT st rs res,heap:=(gi,o)::post,ids:=gi::ids' }
theorem lhy (k:Nat) {rs:List ResultVar} {gi:Nat} {ids ids':List Nat} {res:AV} {post:List (Nat×AObj)} {ψ0:Env} {S1:Nat->Prop} {w0:World} (hl:coA (stOf (crun P k g)) (retJ (stOf (crun P k g)) rs res gi (.was ψ0 ids S1 w0) post ids')=some (retJ (stOf (crun P k g)) rs res gi (.was ψ0 ids S1 w0) post ids'):=by kernel_rfl)
  (hc:(nilK (crun P k g) && kqs (crun P k g).foc)=true:=by kernel_rfl) (hr:retA t.T (retJ (stOf (crun P k g)) rs res gi (.was ψ0 ids S1 w0) post ids') rs=some res:=by kernel_rfl):W P g (hQ t.T rs gi ids (.ret res) post ids' ψ0 S1 w0):=
 lh k _ (le_a hl) rfl rfl hc hr
theorem pcl {f : FuncId} {fn : Func} {args : List FV} {y : FV} (cs : List C1) (b : P.funcs[f]? = some fn) (h : W P ⟨.code (kl9 fn), [], { n := fn.ntmps, tmps := krb 0 args, heap := [], ids := [] }⟩ (retQ t.T fn.results.toList cs y)) (c : fn.body.isSome = true := by kernel_rfl) (hn : (fn.name == "runtime.NumGoroutine") = false := by kernel_rfl) (a : Nat.ble args.length fn.ntmps = true := by kernel_rfl) : kac P f args y := k80 t.ok cs b (kre c) hn a h
def pncV (g:Cfg):Option Value:=match g.foc with
 | .ops os (o::_)=>match kdi os g.st o,o.op with
  | some true, .panic x=>match g.st.eval x with
   | .fz (.atom (.iface t v))=>some (.iface t v)
   | _=>none
  | _,_=>none
 | _=>none
theorem pnc (k:Nat) {v:Value} (h:W P ⟨.fin (.panic [pnE v]),[],stOf (crun P k g)⟩ Q) (hc:pncV (crun P k g)=some v:=by kernel_rfl):W P g Q:=by
 refine kch (k:=k) ?_;generalize crun P k g=g' at *
 obtain ⟨foc,ks,st⟩:=g';unfold pncV at hc;simp only at hc;split at hc
 ·rename_i os o l;split at hc
  ·rename_i x c ho;split at hc;rename_i tt u d;injection hc with hc;subst hc;intro F S0 N0 ψ S a w hs;unfold wpList;rw [kks hs c];have hv:=hs.eval x;rw [d] at hv;have hv:=hv.atom;refine .inl ?_;unfold Oper.wp;have b:(execOp a.eval o).run P w = .halt (.panic (.iface tt u)) w:=(by simp only [execOp,ho,hv,Instr.panic,goPanic];rfl);rw [b];exact ⟨st,ψ,S,kyv h,hs,Fr.refl⟩
   ·cases hc
  ·cases hc
 ·cases hc
def kai9 (g:Cfg):Option (FuncId×List AV):=match g.foc with
 | .ops os (o::_)=>match kdi os g.st o,kv7 g.st o,o.op with
  | some true,true, .defer c=>match c.callee,c.args.toList with
   | .value x,[]=>match g.st.eval x with
    | .fn f vs=>some (f,vs)
    | _=>none
   | _,_=>none
  | _,_,_=>none
 | _=>none
def rsmD (gi:Nat) (f:FuncId) (cs:List Value) (vs:List AV) (g:Cfg):Cfg:=match g.foc with
 | .ops os (o::l)=>⟨.ops os l,g.ks,({ g.st with heap:=(gi, .gho cs vs)::g.st.heap,ids:=gi::g.st.ids,dfr:=dfn f cs::g.st.dfr }:St).put o.dst (.fz (.tup []))⟩
 | _=>⟨.bad,g.ks,g.st⟩
theorem dfer (k gi:Nat) {f:FuncId} {vs:List AV} (h:∀ cs,cs.length=vs.length->W P (rsmD gi f cs vs (crun P k g)) Q) (hc:kai9 (crun P k g)=some (f,vs):=by kernel_rfl) (e:(stOf (crun P k g)).ids.contains gi=false:=by kernel_rfl):W P g Q:=by
 refine kch (k:=k) ?_;generalize crun P k g=g' at *
 obtain ⟨foc,ks,st⟩:=g';have m:gi∉st.ids:=by simpa [stOf] using e
 clear e;have e:=m;clear m;unfold kai9 at hc;simp only at hc;split at hc
 ·rename_i os o l;split at hc
  ·rename_i c B hd ho;split at hc
   ·rename_i x h1 h2;split at hc
    ·rename_i f' vs' r;simp only [ql,qak] at hc;obtain ⟨rfl,rfl⟩:=hc;obtain ⟨cc,as_,ts⟩:=c;simp only at h1 h2;have h2:as_=#[]:=(by apply Array.ext'; simpa using h2);subst h1 h2;intro F S0 N0 ψ S a w hs;unfold wpList;rw [kks hs B];have hv:=hs.eval x;rw [r] at hv;obtain ⟨caps,hcx,s,z⟩:∃ caps:Array Value,a.eval x = .func (.func f') #[] caps/\caps.size=vs'.length/\∀ (i:Nat) (v:Value) (y:AV),caps[i]?=some v->vs'[i]?=some y->RV ψ (·∈st.ids) S w v y:=by
      generalize a.eval x=u at hv;cases hv with
      | fn h hr=>exact ⟨_,rfl,h,hr⟩
     refine .inl ?_;unfold Oper.wp;have p:(execOp a.eval o).run P w = .ok (.defer (dfn f' caps.toList)) w:=(by simp [execOp,ho,resolve,hcx,Deferred.ofValue,dfn]);rw [p];have j:=hs.core.add (n:=0) (v := .nilFunc) (w':=w) (ob := .gho caps.toList vs') (kai _) e (fun b C=>by cases C)
      ⟨kes _ _,by rw [kbp];rfl,by rw [kbp];rfl,fun i v x hv r=>(z i v x (by simpa using hv) r).keep (ker e _ _) (fun _ h=>qn _ h) (fun _ h=>h) (fun _ _ _=>rfl)⟩
     have A:Sim F S0 N0 { st with heap:=(gi, .gho caps.toList vs')::st.heap,ids:=gi::st.ids,dfr:=dfn f' caps.toList::st.dfr } (ψ.set gi 0 .nilFunc) S { a with defers:=dfn f' caps.toList::a.defers } w:=
      ⟨by show _::a.defers=_;rw [hs.defers],hs.size,fun t=>(hs.tmps t).keep (ker e _ _) (fun _ h=>qn _ h) (fun _ h=>h) (fun _ _ _=>rfl),j⟩
     have q:=A.put (st':={ st with heap:=(gi, .gho caps.toList vs')::st.heap,ids:=gi::st.ids,dfr:=dfn f' caps.toList::st.dfr }) (d:=o.dst) (v:=undef) (c := .fz (.tup [])) rfl rfl rfl j (.fz RF.undef) Ext.refl (fun _ h=>h) (fun _ h=>h) (fun _ _ _=>rfl) (ksp hd);exact h caps.toList (by simpa using s) F S0 N0 _ S _ w q
    ·cases hc
   ·cases hc
  ·cases hc
 ·cases hc
def ku1:Foc->Option Exit
 | .fin e=>some e
 | _=>none
def kaau (fn:Func):Code:=match ksm fn with
 | some q=>q.2.2
 | none => .skip
def dfxQ (T:List (TypeId×TD)) (rs:List ResultVar) (gi0:Nat) (ids:List Nat) (E:HEnd) (post:List (Nat×AObj)) (ids':List Nat) (ψ0:Env) (S1:Nat->Prop) (w0:World) (keep:List Nat) (gi2:Nat) (ocs:List Value) (st:St):Exit->St->Prop:=fun e2 st2=>
 (e2 = .normal\/e2 = .ret)/\st2.dfr=[]/\∃ vs',kab st2.heap gi2=some (.gho ocs vs')/\hQ T rs gi0 ids E post ids' ψ0 S1 w0 .ret (dstB keep gi2 vs' st st2)
theorem dfx (k gi2 t1 t2:Nat) (keep:List Nat) {rs:List ResultVar} {gi0 gi:Nat} {ids ids':List Nat} {E:HEnd} {post:List (Nat×AObj)} {ψ0:Env} {S1:Nat->Prop} {w0:World} {f:FuncId} {fn2:Func} {cvals:List Value} {vs:List AV} {pv:Value} (e:Exit)
  (b : cvals.length = vs.length) (m : P.funcs[f]? = some fn2) (n : ksm fn2 = some (t1, t2, kaau fn2)) (hn : (fn2.name == "runtime.NumGoroutine") = false) (d : Nat.ble vs.length fn2.ntmps = true) (i : (stOf (crun P k g)).dfr = [dfn f cvals]) (h : ∀ ocs, W P ⟨.code (kaau fn2), [], dst0 keep fn2.ntmps t1 t2 pv vs gi2 ocs (stOf (crun P k g))⟩ (dfxQ t.T rs gi0 ids E post ids' ψ0 S1 w0 keep gi2 ocs (stOf (crun P k g)))) (j : kab (stOf (crun P k g)).heap gi = some (.gho cvals vs) := by kernel_rfl) (a : (bif nilK (crun P k g) then ku1 (crun P k g).foc else none) = some e := by kernel_rfl) (l : recV e = some pv := by kernel_rfl) (c : (stOf (crun P k g)).ids.contains gi2 = false := by kernel_rfl) : W P g (hdQ P t.T rs gi0 ids E post ids' ψ0 S1 w0) := by
 refine kch (k:=k) ?_;generalize crun P k g=g' at *
 obtain ⟨foc,ks,st⟩:=g';cases ks with
 | cons=>cases a
 | nil=>
  simp only [nilK,qf] at a;unfold ku1 at a;split at a;injection a with a;subst a;exact .inr ⟨keep,f,fn2,t1,t2,kaau fn2,gi,cvals,vs,pv,gi2,i,j,b,m,n,hn,d,l,c,fun ocs=>h ocs⟩
  ·cases a
theorem ldx (k:Nat) {rs:List ResultVar} {gi0 gi2:Nat} {ids ids':List Nat} {res:AV} {post:List (Nat×AObj)} {ψ0:Env} {S1:Nat->Prop} {w0:World} {keep:List Nat} {ocs:List Value} {vs':List AV} {st:St} (st3:St) (hc:(bif nilK (crun P k g) && kqs (crun P k g).foc then kab (stOf (crun P k g)).heap gi2 else none)=some (.gho ocs vs'))
  (a:(stOf (crun P k g)).dfr=[]) (hl:LeSt (dstB keep gi2 vs' st (stOf (crun P k g))) st3) (c:st3.heap=(gi0, .was ψ0 ids S1 w0)::post) (hi:st3.ids=gi0::ids') (hr:retA t.T st3 rs=some res:=by kernel_rfl):W P g (dfxQ t.T rs gi0 ids (.ret res) post ids' ψ0 S1 w0 keep gi2 ocs st):=by
 refine kch (k:=k) ?_;generalize crun P k g=g' at *
 obtain ⟨foc,ks,st'⟩:=g';cases ks with
 | cons=>cases hc
 | nil=>
  simp only [nilK,Bool.true_and] at hc;cases b:kqs foc with
  | false=>rw [b] at hc;cases hc
  | true=>
   rw [b] at hc;unfold kqs at b;split at b;exact ⟨.inl rfl,a,vs',hc,k1q hl c hi (.inr rfl) hr⟩;exact ⟨.inr rfl,a,vs',hc,k1q hl c hi (.inr rfl) hr⟩
   ·cases b
theorem hdx {f : FuncId} {fn : Func} {args : List AV} {pre : List (Nat × AObj)} {ids : List Nat} {E : HEnd} {post : List (Nat × AObj)} {ids' : List Nat} {gi : Nat} (d : P.funcs[f]? = some fn) (h : ∀ ψ0 S1 w0, W P ⟨.code (kl9 fn), [], { n := fn.ntmps, tmps := argT 0 args, heap := (gi, .was ψ0 ids S1 w0) :: pre, ids := gi :: ids }⟩ (hdQ P t.T fn.results.toList gi ids E post ids' ψ0 S1 w0)) (e : fn.body.isSome = true := by kernel_rfl) (hn : (fn.name == "runtime.NumGoroutine") = false := by kernel_rfl) (a : Nat.ble args.length fn.ntmps = true := by kernel_rfl) (g : ids.contains gi = false := by kernel_rfl) (b : ids'.contains gi = false := by kernel_rfl) (c : (post.all fun p => okO ids' p.2) = true := by kernel_rfl) (i : E.ok ids' = true := by kernel_rfl) (hk : (post.all fun p => ids'.contains p.1) = true := by kernel_rfl) : kau P f args pre ids E post ids' :=
 k6l t.ok d (kre e) hn a g b c i hk h
theorem lhp (k:Nat) {rs:List ResultVar} {gi:Nat} {ids ids':List Nat} {v:Value} {post:List (Nat×AObj)} {ψ0:Env} {S1:Nat->Prop} {w0:World} (st2:St) (hl:LeSt (stOf (crun P k g)) st2) (a:st2.heap=(gi, .was ψ0 ids S1 w0)::post) (hi:st2.ids=gi::ids')
  (hc:(bif nilK (crun P k g) then ku1 (crun P k g).foc else none)=some (.panic [pnE v])) (hd:st2.dfr=[]):W P g (hQ t.T rs gi ids (.pan v) post ids' ψ0 S1 w0):=by
 refine kch (k:=k) ?_;generalize crun P k g=g' at *
 obtain ⟨foc,ks,st⟩:=g';cases ks with
 | cons=>cases hc
 | nil=>
  simp only [nilK,qf] at hc;unfold ku1 at hc;split at hc;injection hc with hc;subst hc;exact kani hl a hi hd
  ·cases hc
theorem hcx2 {α α':Type} {f:FuncId} {fn:Func} {args:List AV} {pre:List (Nat×AObj)} {ids:List Nat} {E:α->HEnd} {post:α->List (Nat×AObj)} {ids':List Nat} {E2:α'->HEnd} {post2:α'->List (Nat×AObj)} {ids2:List Nat} {gi:Nat} {r:α ⊕ α'}
  (j : P.funcs[f]? = some fn) (k : fn.body.isSome = true) (hn : (fn.name == "runtime.NumGoroutine") = false) (a : Nat.ble args.length fn.ntmps = true) (l : ids.contains gi = false)
  (b:ids'.contains gi=false) (c:∀ v,((post v).all fun p=>okO ids' p.2)=true) (m:∀ v,(E v).ok ids'=true) (hk:∀ v,((post v).all fun p=>ids'.contains p.1)=true)
  (d:ids2.contains gi=false) (e:∀ v,((post2 v).all fun p=>okO ids2 p.2)=true) (g:∀ v,(E2 v).ok ids2=true) (i:∀ v,((post2 v).all fun p=>ids2.contains p.1)=true)
  (h:∀ ψ0 S1 w0,W P ⟨.code (kl9 fn),[],{ n:=fn.ntmps,tmps:=argT 0 args,heap:=(gi, .was ψ0 ids S1 w0)::pre,ids:=gi::ids }⟩
   (Sum.elim (fun v=>hQ t.T fn.results.toList gi ids (E v) (post v) ids' ψ0 S1 w0) (fun v=>hQ t.T fn.results.toList gi ids (E2 v) (post2 v) ids2 ψ0 S1 w0) r)):
  Sum.elim (fun v=>kau P f args pre ids (E v) (post v) ids') (fun v=>kau P f args pre ids (E2 v) (post2 v) ids2) r:=by
 cases r with
 | inl v=>exact hcx0 j k hn a l b (c v) (m v) (hk v) h
 | inr v=>exact hcx0 j k hn a l d (e v) (g v) (i v) h
theorem lop (k:Nat) {l:List PanicEntry} {J:St} (hl:LeSt (stOf (crun P k g)) J) (hc:(bif nilK (crun P k g) then ku1 (crun P k g).foc else none)=some (.panic l):=by kernel_rfl):W P g fun e' st=>(e' ≠ .normal/\e' ≠ .outgrown)/\(e' = .panic l/\LeSt st J):=by
 refine kch (k:=k) ?_;generalize crun P k g=g' at *
 obtain ⟨foc,ks,st⟩:=g';cases ks with
 | cons=>cases hc
 | nil=>
  simp only [nilK,qf] at hc;unfold ku1 at hc;split at hc;injection hc with hc;subst hc;exact ⟨⟨(fun h=>nomatch h),(fun h=>nomatch h)⟩,rfl,hl⟩
  ·cases hc
theorem hpan (k:Nat) {f:FuncId} {cap:List AV} {x:Operand} {args:Array Operand} {ts:Array TypeId} {cs:List C1} {as1 as2 pre:_} {ids0 ids1:List Nat} {v:Value} {post:List (Nat×AObj)} {keys:List Nat} (r1 r2:List (Nat×Nat)) (hv:okP (crun P k g)=true) (ho:(knm (crun P k g)).op = .call { callee := .value x,args:=args,argTypes:=ts })
  (e:fnOf args.size ((stOf (crun P k g)).eval x)=some (f,cap)) (hc:kau P f (as1++as2) pre ids0 (.pan v) post ids1) (a:kpr (stOf (crun P k g)) r1 (renI r2 ids0) cs args.toList=some as1) (c:kp1 r1 (renI r2 ids0) cap=some as2)
  (b:km4 (stOf (crun P k g)) r1 r2 keys ids0 ids1 post=true) (d:preX (stOf (crun P k g)) r1 r2 (renI r2 ids0) keys=some pre)
  (h:W P ⟨.fin (.panic [pnE v]),[],{ stOf (crun P k g) with heap:=renH r2 post++kkh (renI r2 ids0) (stOf (crun P k g)).heap,ids:=renI r2 ids1++(stOf (crun P k g)).ids }⟩ Q):W P g Q:=by
 refine kch (k:=k) ?_;generalize crun P k g=g' at *
 obtain ⟨foc,ks,st⟩:=g';unfold okP at hv;simp only at hv;split at hv
 ·split at hv;rename_i i hd;exact h_pan r1 r2 ho e hc a c b d i (kyv h)
  ·cases hv
 ·cases hv
def kwh {γ:Type} (f:Oper->St->Option γ) (g:Cfg):Option γ:=bif okP g then f (knm g) (stOf g) else none
theorem k0u {γ:Type} {f:Oper->St->Option γ} {z:γ} {g:Cfg} (h:kwh f g=some z):okP g=true/\f (knm g) (stOf g)=some z:=by
 unfold kwh at h;cases hk:okP g with
 | false=>rw [hk] at h;cases h
 | true=>rw [hk] at h;exact ⟨rfl,h⟩
end
attribute [irreducible] W
end Go.Proofs.YtaimpcnpifoidaaGreatDoor
