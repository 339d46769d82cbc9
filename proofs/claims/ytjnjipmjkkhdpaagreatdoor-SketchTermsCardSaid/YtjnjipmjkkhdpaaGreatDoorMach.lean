import Derived.Test.YtjnjipmjkkhdpaaGreatDoorXb
import Derived.Test.YtjnjipmjkkhdpaaGreatDoorOpr
set_option linter.all false
set_option linter.unusedSectionVars false
namespace Go.Proofs.YtjnjipmjkkhdpaaGreatDoor
open Go Go.RowKit
variable [Dr]
class Tab (P:Program) where
 T:List (TypeId×TD)
 ok:TOk P T
 mixed:P.follows .mixedOrders=true
abbrev FsT:=List (Nat×Option Nat×AV)
structure Zn where
 os:Array Oper
 n:Nat
 es:List Nat
 ch:List Nat
 ai:List Nat
inductive Foc where
 | code (c:Code)
 | ops (os:Array Oper) (l:List Oper)
 | drz (z:Zn) (k i:Nat) (l:List Oper) (fs:FsT) (hp:List (Nat×AObj)) (ids:List Nat) (pn:Option Nat)
 | dry (z:Zn) (k i:Nat) (l:List Oper) (fs:FsT) (hp:List (Nat×AObj)) (nid:List Nat) (es:List (Nat×Nat))
 | fin (e:Exit)
 | bad
inductive Frm where
 | seq (c:Code)
 | block (id:Nat)
structure Cfg where
 foc:Foc
 ks:List Frm
 st:St
def kpr (T:List (TypeId×TD)) (t:TypeId):Option TK:=match kac T t with
 | some d=>some d.kind
 | none=>none
def k7y (T:List (TypeId×TD)) (sr t:TypeId) (x:AV):Option AV:=match kpr T sr,kpr T t,x with
 | some _,some (.int k), .fz (.atom (.int _ n))=>some (.fz (.atom (.int k (k.wrap n))))
 | some .str,some .str, .fz (.atom (.string s))=>some (.fz (.atom (.string s)))
 | _,_,_=>none
def ktt (T:List (TypeId×TD)) (o:Oper) (st:St):Option AV:=match ktw T o st with
 | some c=>some c
 | none=>match o.op with
  | .convert sr t x=>k7y T sr t (st.eval x)
  | .call c=>match c.callee,c.args.toList with
   | .builtin .min,[x,y]=>match st.eval x,st.eval y with
    | .fz (.atom (.int k m)), .fz (.atom (.int _ n))=>some (.fz (.atom (.int k (imin m n))))
    | _,_=>none
   | .builtin .max,[x,y]=>match st.eval x,st.eval y with
    | .fz (.atom (.int k m)), .fz (.atom (.int _ n))=>some (.fz (.atom (.int k (imax m n))))
    | _,_=>none
   | _,_=>none
  | .makeInterface t x=>match kpr T t with
   | some .ifc=>none
   | some _=>match toV (st.eval x) with
    | some v=>some (.fz (.atom (.iface t v)))
    | none=>none
   | none=>none
  | .typeAssert x _ t true=>match kpr T t,st.eval x with
   | some .ifc,_=>none
   | some _, .fz (.atom (.iface t' v))=>bif Nat.beq t' t then (match ofV v with
    | some y=>some (.fz (.tup [y, .atom (.bool true)]))
    | none=>none) else none
   | _,_=>none
  | .binOp op t x (.const .nilIface) _=>match kpr T t,st.eval x,op with
   | some .ifc, .fz (.atom (.iface _ _)), .eql=>some (.fz (.atom (.bool false)))
   | some .ifc, .fz (.atom (.iface _ _)), .neq=>some (.fz (.atom (.bool true)))
   | some .ifc, .fz (.atom .nilIface), .eql=>some (.fz (.atom (.bool true)))
   | some .ifc, .fz (.atom .nilIface), .neq=>some (.fz (.atom (.bool false)))
   | _,_,_=>none
  | _=>none
theorem kez {T:List (TypeId×TD)} {t:TypeId} {k:TK} (h:kpr T t=some k):∃ d,kac T t=some d/\d.kind=k:=by
 unfold kpr at h;split at h;rename_i d hd;injection h with h;exact ⟨d,hd,h⟩
 ·cases h
theorem kn7 {α:Type} {xs:Array α} {x y:α} (h:xs.toList=[x,y]):xs=#[x,y]:=by apply qbj;simpa using h
theorem kwo {P:Program} {T:List (TypeId×TD)} (e:TOk P T) {o:Oper} {st:St} {c:AV} (h:ktt T o st=some c):NStep P o st c:=by
 unfold ktt at h;split at h;rename_i c' hc;injection h with h;subst h;exact ko5 e _ (hx:=hc)
 ·split at h
  ·rename_i sr t x b;unfold k7y at h;split at h;rename_i ks k k' n h1 f i;injection h with h;subst h;obtain ⟨ds,hs,_⟩:=kez h1;obtain ⟨d,hd,hk⟩:=kez f;exact k34 e b hs hd hk i;rename_i s h1 f i;injection h with h;subst h;obtain ⟨ds,hs,j⟩:=kez h1;obtain ⟨d,hd,hk⟩:=kez f;exact k02 e b hs j hd hk i
   ·cases h
  ·rename_i c' b;obtain ⟨cc,as_,ts⟩:=c';split at h
   ·rename_i x y h1 f;simp only at h1 f;rw [h1,kn7 f] at b;split at h;rename_i k m k' n hx hy;injection h with h;subst h;exact k7t b hx hy
    ·cases h
   ·rename_i x y h1 f;simp only at h1 f;rw [h1,kn7 f] at b;split at h;rename_i k m k' n hx hy;injection h with h;subst h;exact k70 b hx hy
    ·cases h
   ·cases h
  ·rename_i tt x b;split at h;cases h
   ·rename_i kk g hk;obtain ⟨d,hd,a⟩:=kez hk;split at h;rename_i v hv;injection h with h;subst h;exact kaar b (e.get hd) (fun hi=>g (by rw [hi] at a;exact a.symm)) hv
    ·cases h
   ·cases h
  ·rename_i x xt tt b;split at h;cases h
   ·rename_i kk t' v g hk hx;obtain ⟨d,hd,a⟩:=kez hk;cases l:Nat.beq t' tt with
    | false=>rw [l] at h;cases h
    | true=>
     rw [l] at h;obtain rfl:=qe l;(try simp only [qg] at h);split at h;rename_i y hy;injection h with h;subst h;exact k3z b (e.get hd) (fun hi=>g (by rw [hi] at a;exact a.symm)) hx hy
     ·cases h
   ·cases h
  ·rename_i op tt x yt b;split at h;rename_i s z hk hx;obtain ⟨d,hd,a⟩:=kez hk;injection h with h;subst h;exact km0 false false b (e.get hd) a hx (.inl ⟨rfl,_,_,rfl⟩);rename_i s z hk hx;obtain ⟨d,hd,a⟩:=kez hk;injection h with h;subst h;exact km0 true false b (e.get hd) a hx (.inl ⟨rfl,_,_,rfl⟩);rename_i hk hx;obtain ⟨d,hd,a⟩:=kez hk;injection h with h;subst h;exact km0 false true b (e.get hd) a hx (.inr ⟨rfl,rfl⟩);rename_i hk hx;obtain ⟨d,hd,a⟩:=kez hk;injection h with h;subst h;exact km0 true true b (e.get hd) a hx (.inr ⟨rfl,rfl⟩)
   ·cases h
  ·cases h
def unwN:List Frm->St->Cfg
 | [],st=>⟨.fin .normal,[],st⟩
 | .seq y::ks,st=>⟨.code y,ks,st⟩
 | .block _::ks,st=>unwN ks st
def unwX (id:Nat):List Frm->St->Cfg
 | [],st=>⟨.fin (.exit id),[],st⟩
 | .seq _::ks,st=>unwX id ks st
 | .block i::ks,st=>bif Nat.beq id i then unwN ks st else unwX id ks st
def unw:Exit->List Frm->St->Cfg
 | .normal,ks,st=>unwN ks st
 | .exit i,ks,st=>unwX i ks st
 | .ret,_,st=>⟨.fin .ret,[],st⟩
 | .panic cs,_,st=>⟨.fin (.panic cs),[],st⟩
 | _,_,st=>⟨.bad,[],st⟩
def k2o (T:List (TypeId×TD)) (os:Array Oper) (o:Oper) (l:List Oper) (ks:List Frm) (st:St):Cfg:=match kbi os st o,ko1 st o with
 | some true,true=>match kri T o st with
  | some (c,h,i)=>⟨.ops os l,ks,({ st with heap:=h,ids:=i }:St).put o.dst c⟩
  | none=>match ktt T o st with
   | some c=>⟨.ops os l,ks,st.put o.dst c⟩
   | none=>⟨.bad,ks,st⟩
 | some false,true=>⟨.ops os l,ks,st.put o.dst (.fz (.tup []))⟩
 | _,_=>⟨.bad,ks,st⟩
def kw4 (T:List (TypeId×TD)) (os:Array Oper) (st:St) (o:Oper):Option AV:=match kbi os st o with
 | some true=>ktt T o st
 | some false=>some (.fz (.tup []))
 | none=>none
def k2k:Code->List Frm->St->Cfg
 | .skip,ks,st=>unwN ks st
 | .label _,ks,st=>unwN ks st
 | .exit i,ks,st=>unwX i ks st
 | .ret,_,st=>⟨.fin .ret,[],st⟩
 | .seq x y,ks,st=>⟨.code x, .seq y::ks,st⟩
 | .block id c,ks,st=>⟨.code c, .block id::ks,st⟩
 | .cond c x y,ks,st=>match st.eval c with
  | .fz (.atom (.bool b))=>⟨.code (bif b then x else y),ks,st⟩
  | _=>⟨.bad,ks,st⟩
 | .region _ os false,ks,st=>⟨.ops os os.toList,ks,st⟩
 | _,ks,st=>⟨.bad,ks,st⟩
def kk7 (z:Zn) (st:St) (i:Nat) (o:Oper) (fs:FsT) (hp:List (Nat×AObj)) (ids:List Nat):St:=kcp z.os.toList z.n z.es z.ch z.ai st i o fs hp ids
def k2p (ch:List Nat):List (Nat×AObj)->Bool
 | (k,_)::_=>ch.contains k
 | []=>true
def kpj (ai ids ids':List Nat):Bool:=ids'.all ai.contains && ids.all ids'.contains
def kxo (z:Zn) (i:Nat):Option Nat->Bool
 | some e=>anc z.os.toList i e
 | none=>false
def k2w (T:List (TypeId×TD)) (z:Zn) (k i:Nat) (o:Oper) (l:List Oper) (fs:FsT) (hp:List (Nat×AObj)) (ids:List Nat) (pn:Option Nat) (ks:List Frm) (st:St):Cfg:=
 bif kxo z i pn then ⟨.drz z k (i+1) l ((i,o.dst, .any)::fs) hp ids pn,ks,st⟩ else
 bif z.es.contains i then (match kbi z.os (kk7 z st i o fs hp ids) o,kri T o (kk7 z st i o fs hp ids),pn with
  | some false,_,none=>bif kpj z.ai ids ids then ⟨.drz z k (i+1) l ((i,o.dst, .fz (.tup []))::fs) hp ids none,ks,st⟩ else ⟨.bad,ks,st⟩
  | some true,some (c,a,i'),none=>bif Nat.beq (kk7 z st i o fs hp ids).heap.length hp.length && (phB z.os.toList z.es i && (k2p z.ch a && kpj z.ai ids i')) then ⟨.drz z k (i+1) l ((i,o.dst,c)::fs) a i' none,ks,st⟩ else ⟨.bad,ks,st⟩
  | _,_,_=>⟨.bad,ks,st⟩)
 else (match kw4 T z.os (kk7 z st i o fs hp ids) o with
  | some c=>bif phB z.os.toList z.es i || okA st.ids c then ⟨.drz z k (i+1) l ((i,o.dst,c)::fs) hp ids pn,ks,st⟩ else ⟨.bad,ks,st⟩
  | none=>⟨.bad,ks,st⟩)
def kuk (z:Zn) (st:St) (i:Nat) (o:Oper) (fs:FsT):St:=krt z.os.toList z.n z.ai st i o fs
def kx6 (T:List (TypeId×TD)) (o:Oper):Option (TypeId×List AV):=match o.op with
 | .alloc e=>match kac T e with
  | some d=>match knx d with
   | some cells=>some (e,cells)
   | none=>none
  | none=>none
 | _=>none
def kzj (T:List (TypeId×TD)) (v:St) (o:Oper):Option (Nat×AObj):=match o.op with
 | .store t x y=>match kqy T v t x y with
  | some (_,q::_,_)=>some q
  | _=>none
 | _=>none
def kzn (z:Zn) (st:St) (es:List (Nat×Nat)) (id:Nat):Bool:=!(st.ids.contains id || (st.heap.any fun q=>q.1 == id) || (es.any fun q=>q.2 == id) || !z.ai.contains id)
def k25 (T:List (TypeId×TD)) (z:Zn) (k i:Nat) (o:Oper) (l:List Oper) (fs:FsT) (hp:List (Nat×AObj)) (nid:List Nat) (es:List (Nat×Nat)) (ks:List Frm) (st:St):Cfg:=
 match kw4 T z.os (kuk z st i o fs) o with
 | some c=>bif okA (idsB z.os.toList i nid es st.ids) c then ⟨.dry z k (i+1) l ((i,o.dst,c)::fs) hp nid es,ks,st⟩ else ⟨.bad,ks,st⟩
 | none=>match kbi z.os (kuk z st i o fs) o,kx6 T o with
  | some true,some (e,cells)=>bif kzn z st es (fresh (nid++st.ids)) then ⟨.dry z k (i+1) l ((i,o.dst, .ref (fresh (nid++st.ids)) 0 0)::fs) ((fresh (nid++st.ids), .box e cells)::hp) (fresh (nid++st.ids)::nid) ((i,fresh (nid++st.ids))::es),ks,st⟩ else ⟨.bad,ks,st⟩
  | some true,none=>match kzj T { kuk z st i o fs with heap:=hp++st.heap } o with
   | some q=>bif !(st.heap.any fun r=>r.1 == q.1) && befB z.os.toList i q.1 es then ⟨.dry z k (i+1) l ((i,o.dst, .any)::fs) (q::hp) nid ((i,q.1)::es),ks,st⟩ else ⟨.bad,ks,st⟩
   | none=>⟨.bad,ks,st⟩
  | _,_=>⟨.bad,ks,st⟩
def k1v (T:List (TypeId×TD)) (g:Cfg):Cfg:=match g with
 | ⟨.code c,ks,st⟩=>k2k c ks st
 | ⟨.ops _ [],ks,st⟩=>unwN ks st
 | ⟨.ops os (o::l),ks,st⟩=>k2o T os o l ks st
 | ⟨.drz z 0 _ l fs hp ids none,ks,st⟩=>⟨.ops z.os l,ks,{ st with tmps:=hadd fs (fun _=>true) st.tmps,heap:=hp,ids:=ids }⟩
 | ⟨.drz z (k+1) i (o::l) fs hp ids pn,ks,st⟩=>k2w T z k i o l fs hp ids pn ks st
 | ⟨.dry z 0 _ l fs hp nid _,ks,st⟩=>⟨.ops z.os l,ks,{ st with tmps:=hadd fs (fun _=>true) st.tmps,heap:=hp++st.heap,ids:=nid++st.ids }⟩
 | ⟨.dry z (k+1) i (o::l) fs hp nid es,ks,st⟩=>k25 T z k i o l fs hp nid es ks st
 | ⟨_,ks,st⟩=>⟨.bad,ks,st⟩
def crunT (T:List (TypeId×TD)) (k:Nat) (g:Cfg):Cfg:=Nat.rec g (fun _ r=>k1v T r) k
def crun (P:Program) [t:Tab P] (k:Nat) (g:Cfg):Cfg:=crunT t.T k g
def kd9 [Rd] (P:Program):List Frm->(Exit->St->Prop)->Exit->St->Prop
 | [],Q=>Q
 | .seq y::ks,Q=>k7w (fun st=>awp P y st (kd9 P ks Q)) (kd9 P ks Q)
 | .block id::ks,Q=>kuv id (kd9 P ks Q)
def FW [Rd] (P:Program) (foc:Foc) (st:St) (Q:Exit->St->Prop):Prop:=match foc with
 | .code c=>awp P c st Q
 | .ops os l=>awpL P os l st Q
 | .drz z k i l fs hp ids pn=>kmu P z.os z.n z.es z.ch z.ai Q st k i l fs hp ids pn
 | .dry z k i l fs hp nid es=>ktl P z.os z.n z.ai Q st k i l fs hp nid es
 | .fin e=>Q e st
 | .bad=>False
def W [Rd] (P:Program) (g:Cfg) (Q:Exit->St->Prop):Prop:=FW P g.foc g.st (kd9 P g.ks Q)
section
variable {P:Program} {T:List (TypeId×TD)} {Q:Exit->St->Prop} {st:St} {ks:List Frm}
theorem kkv [Rd]:∀ {ks:List Frm},W P (unwN ks st) Q->kd9 P ks Q .normal st
 | [],h=>h
 | .seq _::_,h=>h
 | .block id::ks,h=>show kuv id (kd9 P ks Q) .normal st from kkv (ks:=ks) h
theorem krh [Rd] {i:Nat}:∀ {ks:List Frm},W P (unwX i ks st) Q->kd9 P ks Q (.exit i) st
 | [],h=>h
 | .seq _::ks,h=>krh (ks:=ks) h
 | .block id::ks,h=>by
  show (if i=id then kd9 P ks Q .normal st else kd9 P ks Q (.exit i) st);simp only [unwX] at h;by_cases hi:i=id;subst hi;rw [qr rfl];simp only [Nat.beq_refl,qg] at h;exact kkv h
  ·rw [qj hi];rw [Nat.beq_eq_false hi] at h;exact krh h
theorem kva [Rd] {ks:List Frm}:Q .ret st->kd9 P ks Q .ret st:=by
 induction ks with
 | nil=>exact id
 | cons k ks ih=>cases k <;> exact ih
theorem kvl [Rd] {cs} {ks:List Frm}:Q (.panic cs) st->kd9 P ks Q (.panic cs) st:=by
 induction ks with
 | nil=>exact id
 | cons k ks ih=>cases k <;> exact ih
theorem kze [Rd] {e:Exit} {ks:List Frm} (h:W P (unw e ks st) Q):kd9 P ks Q e st:=by
 cases e with
 | normal=>exact kkv h
 | exit i=>exact krh h
 | ret=>exact kva h
 | panic cs=>exact kvl h
 | _=>exact h.elim
theorem kzw (b:TOk P T) {os:Array Oper} {o:Oper} {c:AV} (h:kw4 T os st o=some c):(kbi os st o=some true/\NStep P o st c)\/(kbi os st o=some false/\c = .fz (.tup [])):=by
 unfold kw4 at h;split at h;rename_i a;exact .inl ⟨a,kwo b h⟩;rename_i a;injection h with h;exact .inr ⟨a,h.symm⟩
 ·cases h
theorem k5o [Rd] (b:TOk P T) {os:Array Oper} {o:Oper} {l:List Oper} (h:W P (k2o T os o l ks st) Q):awpL P os (o::l) st (kd9 P ks Q):=by
 unfold k2o at h;split at h
 ·rename_i a hd;split at h;rename_i c d i hx;exact kug (ky3 b hx) a (klj hd) h
  ·split at h;rename_i c hx;exact kug (kwo b hx).step a (klj hd) h
   ·exact h.elim
 rename_i a hd;exact kabl a (klj hd) h
 ·exact h.elim
theorem k6v [Rd] {c:Code} (h:W P (k2k c ks st) Q):awp P c st (kd9 P ks Q):=by
 unfold k2k at h;split at h;exact k6c (kkv h);exact fun F S0 N0 ψ S a w hs=>k5h ⟨st,ψ,S,kkv h,hs,Fr.refl⟩;exact k6i (krh h);exact k8r (kva h);exact k8z h;exact k43 h
 ·split at h;rename_i b;exact kyz b h
  ·exact h.elim
 exact k2s h
 ·exact h.elim
theorem k1o {o:Oper} {c:AV} {h:List (Nat×AObj)} {i:List Nat} (hx:kri T o st=some (c,h,i)):h=st.heap\/∃ id ob,h=(id,ob)::st.heap:=by
 unfold kri at hx;have a:∀ {e:TypeId} {cells:List AV},boxX e st cells=some (c,h,i)->h=st.heap\/∃ id ob,h=(id,ob)::st.heap:=fun {e cells} hx=>by
  unfold boxX at hx;cases d:(cells.all AV.single && !st.ids.contains (Go.Proofs.YtjnjipmjkkhdpaaGreatDoor.fresh st.ids)) with
  | false=>rw [d] at hx;cases hx
  | true=>rw [d] at hx;simp only [qg,qc,qp] at hx;exact .inr ⟨_,_,hx.2.1.symm⟩
 split at hx;exact a hx
 ·split at hx
  ·split at hx;exact a hx
   ·cases hx
  ·cases hx
 ·unfold kqy at hx;split at hx
  ·split at hx
   ·rename_i e cells f;generalize (Nat.beq _ 0 && _)=b at hx;cases b with
    | false=>cases hx
    | true=>simp only [qg,qc,qp] at hx;exact .inr ⟨_,_,hx.2.1.symm⟩
   ·cases hx
  ·cases hx
 ·refine .inl ?_;generalize ktw T o st=c0 at hx;cases c0 with
  | none=>cases hx
  | some x=>simp only [nres,qc,qp] at hx;exact hx.2.1.symm
theorem ksw {ai ids ids':List Nat} (h:kpj ai ids ids'=true):(∀ id,id∈ids'->id∈ai)/\∀ id,id∈ids->id∈ids':=by unfold kpj at h;simp only [qk] at h;exact ⟨fun id hi=>by simpa using qq.1 h.1 id hi,fun id hi=>by simpa using qq.1 h.2 id hi⟩
theorem k6e [Rd] (m:TOk P T) {z:Zn} {k i:Nat} {o:Oper} {l:List Oper} {fs:FsT} {hp:List (Nat×AObj)} {ids:List Nat} {pn:Option Nat} (h:W P (k2w T z k i o l fs hp ids pn ks st) Q):kmu P z.os z.n z.es z.ch z.ai (kd9 P ks Q) st (k+1) i (o::l) fs hp ids pn:=by
 unfold k2w at h;cases hd:kxo z i pn with
 | true=>
  rw [hd] at h;cases pn with
  | none=>cases hd
  | some e=>exact .inl ⟨e,rfl,hd,h⟩
 | false=>
  rw [hd] at h;simp only [qo] at h;cases d:z.es.contains i with
  | true=>
   rw [d] at h;simp only [qg] at h;split at h
   ·rename_i g;cases a:kpj z.ai ids ids with
    | false=>rw [a] at h;exact h.elim
    | true=>
     rw [a] at h;exact .inr (.inr (.inl ⟨d,rfl,_,hp,ids,⟨.inr ⟨g,rfl,rfl,rfl⟩, .inr ⟨fun _ _ _ h=>h,ksw a⟩⟩,h⟩))
   ·rename_i c p i' g hx;generalize a:(Nat.beq (kk7 z st i o fs hp ids).heap.length hp.length && (phB z.os.toList z.es i && (k2p z.ch p && kpj z.ai ids i')))=b at h;cases b with
    | false=>exact h.elim
    | true=>
     simp only [qk] at a;obtain ⟨_,b2,b3,b4⟩:=a;refine .inr (.inr (.inl ⟨d,rfl,c,p,i',⟨.inl ⟨g,ky3 m hx⟩, .inr ⟨?_,ksw b4⟩⟩,h⟩));have hv:(kk7 z st i o fs hp ids).heap=hp:=(by show (bif phB z.os.toList z.es i then hp else _)=hp;rw [b2];rfl);rcases k1o hx with f | ⟨id,ob,f⟩;rw [f,hv];exact fun _ _ _ h=>h
     ·rw [f,hv];rw [f] at b3;intro id' j ob' q;rw [kab,qj];exact q
      ·rintro rfl;exact j (by simpa [k2p] using b3)
   ·exact h.elim
  | false=>
   rw [d] at h;simp only [qo] at h;split at h
   ·rename_i c hc;cases hk:(phB z.os.toList z.es i || okA st.ids c) with
    | false=>rw [hk] at h;exact h.elim
    | true=>rw [hk] at h;exact .inr (.inl ⟨d,c,kzw m hc,hk,h⟩)
   ·exact h.elim
theorem k4b (c:TOk P T) {o:Oper} {e:TypeId} {cells:List AV} (h:kx6 T o=some (e,cells)) {v:St} (id:Nat):k8a P v o (.ref id 0 0) id (.box e cells):=by
 unfold kx6 at h;split at h
 ·rename_i e' f;split at h
  ·rename_i d hd;split at h;rename_i cells' g;simp only [qc,qp] at h;obtain ⟨rfl,rfl⟩:=h;exact fun a ids' b=>ku1 (st:={ v with heap:=a,ids:=ids' }) f (c.get hd) g b
   ·cases h
  ·cases h
 ·cases h
theorem k3f (f:TOk P T) {v:St} {o:Oper} {q:Nat×AObj} (h:kzj T v o=some q):k79 P v o .any q.1 q.2:=by
 unfold kzj at h;split at h
 ·rename_i t x y g;unfold kqy at h;cases hd:kac T t with
  | none=>rw [hd] at h;cases h
  | some d=>
   rw [hd] at h;generalize hx:v.eval x=ex at h;cases ex with
   | ref id n off=>
    simp only at h;cases a:kaa v.heap id with
    | none=>rw [a] at h;cases h
    | some ob=>
     rw [a] at h;cases ob with
     | box e cells=>
      simp only at h;cases b:(Nat.beq n 0 && (Nat.beq (v.eval y).cells.length d.size && ((v.eval y).cells.all AV.single && Nat.ble (off+(v.eval y).cells.length) cells.length))) with
      | false=>rw [b] at h;cases h
      | true=>
       rw [b] at h;simp only [qg,qc] at h;subst h;simp only [qk] at b;obtain ⟨b1,b2,b3,b4⟩:=b;obtain rfl:=qe b1;exact fun c ids' hl=>k0k (st:={ v with heap:=c,ids:=ids' }) g (f.get hd) hx (by rw [<- a];exact hl) rfl (qe b2) b3 (qh b4)
     | _=>cases h
   | _=>cases h
 ·cases h
theorem k5t [Rd] (b:TOk P T) {z:Zn} {k i:Nat} {o:Oper} {l:List Oper} {fs:FsT} {hp:List (Nat×AObj)} {nid:List Nat} {es:List (Nat×Nat)} (h:W P (k25 T z k i o l fs hp nid es ks st) Q):ktl P z.os z.n z.ai (kd9 P ks Q) st (k+1) i (o::l) fs hp nid es:=by
 unfold k25 at h;split at h
 ·rename_i c hc;cases hk:okA (idsB z.os.toList i nid es st.ids) c with
  | false=>rw [hk] at h;exact h.elim
  | true=>rw [hk] at h;exact .inl ⟨c,kzw b hc,hk,h⟩
 ·split at h
  ·rename_i e cells d ha;cases hk:kzn z st es (Go.Proofs.YtjnjipmjkkhdpaaGreatDoor.fresh (nid++st.ids)) with
   | false=>rw [hk] at h;exact h.elim
   | true=>
    rw [hk] at h;have a:=hk;unfold kzn at a;rw [qbn] at a;exact .inr (.inl ⟨_,_,_,d,k4b b ha _,a,h⟩)
  ·rename_i d _;split at h
   ·rename_i q f;cases hk:(!(st.heap.any fun r=>r.1 == q.1) && befB z.os.toList i q.1 es) with
    | false=>rw [hk] at h;exact h.elim
    | true=>
     rw [hk] at h;rw [qk,qbn] at hk;exact .inr (.inr ⟨_,_,_,d,k3f b f,hk.1,hk.2,h⟩)
   ·exact h.elim
  ·exact h.elim
theorem k6m [Rd] (a:TOk P T) {g:Cfg} (h:W P (k1v T g) Q):W P g Q:=by
 unfold k1v at h;split at h;exact k6v h;exact l_nil (kkv h);exact k5o a h;exact h;exact k6e a h;exact h;exact k5t a h
 ·exact h.elim
theorem ka0 [Rd] [t:Tab P] (k:Nat) {g:Cfg} (h:W P (crun P k g) Q):W P g Q:=by
 unfold crun at h
 induction k with
 | zero=>exact h
 | succ k ih=>exact ih (k6m t.ok h)
variable [t:Tab P] {g:Cfg} {β:Type} {r:β}
def kt9 (g:Cfg):Bool:=match g.foc with
 | .code _=>true
 | .ops _ _=>true
 | _=>false
def kaag (g:Cfg):Bool:=match g.foc with
 | .code _=>true
 | _=>false
def stOf (g:Cfg):St:=g.st
def klb (g:Cfg) (st:St):Cfg:=⟨g.foc,g.ks,st⟩
theorem wle [Rd] (k:Nat) {st':St} (hl:LeSt (stOf (crun P k g)) st') (h:W P (klb (crun P k g) st') Q) (hc:kt9 (crun P k g)=true:=by kernel_rfl):W P g Q:=by
 refine ka0 k ?_;generalize crun P k g=g' at *
 obtain ⟨foc,ks,st⟩:=g';cases foc with
 | code c=>exact k47 hl h
 | ops os l=>exact l_le hl h
 | _=>cases hc
def k78 (g:Cfg):Option Bool:=match g.foc with
 | .code (.cond c _ _)=>match g.st.eval c with
  | .fz (.atom (.bool b))=>some b
  | _=>none
 | _=>none
def brc (b:Bool) (g:Cfg):Cfg:=match g.foc with
 | .code (.cond _ x y)=>⟨.code (bif b then x else y),g.ks,g.st⟩
 | _=>⟨.bad,g.ks,g.st⟩
theorem cd [Rd] (k:Nat) {b:Bool} {X Y:Option β} (h:(bif b then X else Y)=some r) (h1:X=some r->W P (brc true (crun P k g)) Q) (a:Y=some r->W P (brc false (crun P k g)) Q) (hc:k78 (crun P k g)=some b:=by kernel_rfl):W P g Q:=by
 refine ka0 k ?_;generalize crun P k g=g' at *
 obtain ⟨foc,ks,st⟩:=g';have key:W P (brc b ⟨foc,ks,st⟩) Q:=by
  cases b with
  | true=>exact h1 h
  | false=>exact a h
 unfold k78 at hc;simp only at hc;split at hc
 ·rename_i c x y;split at hc;rename_i b' d;injection hc with hc;subst hc;exact kyz d key
  ·cases hc
 ·cases hc
def setT (t:Nat) (v:AV):List (Nat×AV)->List (Nat×AV)
 | []=>[]
 | (k,x)::l=>bif Nat.beq k t then (k,v)::l else (k,x)::setT t v l
def setF (j:Nat) (v:AV):FsT->FsT
 | []=>[]
 | (k,d,x)::l=>bif Nat.beq k j then (k,d,v)::l else (k,d,x)::setF j v l
def getF (j:Nat):FsT->Option AV
 | []=>none
 | (k,d,x)::l=>bif Nat.beq k j then some x else getF j l
def krr:AV->Option Bool
 | .fz (.atom (.bool b))=>some b
 | _=>none
def kx9 (g:Cfg):Option Bool:=match g.foc with
 | .ops os (o::_)=>match o.guard with
  | some (j,_)=>match (os[j]?).bind (·.dst) with
   | some t=>krr (g.st.get t)
   | none=>none
  | none=>none
 | .drz _ _ _ (o::_) fs _ _ _=>match o.guard with
  | some (j,_)=>match getF j fs with
   | some v=>krr v
   | none=>none
  | none=>none
 | _=>none
def setG (b:Bool) (g:Cfg):Cfg:=match g.foc with
 | .ops os (o::l)=>match o.guard with
  | some (j,_)=>match (os[j]?).bind (·.dst) with
   | some t=>⟨.ops os (o::l),g.ks,{ g.st with tmps:=setT t (.fz (.atom (.bool b))) g.st.tmps }⟩
   | none=>g
  | none=>g
 | .drz z k i (o::l) fs hp ids pn=>match o.guard with
  | some (j,_)=>⟨.drz z k i (o::l) (setF j (.fz (.atom (.bool b))) fs) hp ids pn,g.ks,g.st⟩
  | none=>g
 | _=>g
theorem k0n {t:Nat} {b:Bool}:∀ {l:List (Nat×AV)},krr (look .any l t)=some b->setT t (.fz (.atom (.bool b))) l=l
 | [],_=>rfl
 | (k,x)::l,h=>by
  simp only [setT,look] at h ⊢;cases hk:Nat.beq k t with
  | true=>
   rw [hk] at h;simp only [qg] at h ⊢;unfold krr at h;split at h;injection h with h;rw [h]
   ·cases h
  | false=>rw [hk] at h;simp only [qo] at h ⊢; rw [k0n h]
theorem k1f {j:Nat} {b:Bool}:∀ {l:FsT} {v:AV},getF j l=some v->krr v=some b->setF j (.fz (.atom (.bool b))) l=l
 | [],_,h,_=>rfl
 | (k,d,x)::l,v,h,a=>by
  simp only [setF,getF] at h ⊢;cases hk:Nat.beq k j with
  | true=>
   rw [hk] at h;simp only [qg,qc] at h ⊢;subst h;unfold krr at a;split at a;injection a with a;rw [a]
   ·cases a
  | false=>rw [hk] at h;simp only [qo] at h ⊢; rw [k1f h a]
theorem k9b {b:Bool} (h:kx9 g=some b):setG b g=g:=by
 obtain ⟨foc,ks,st⟩:=g;unfold kx9 at h;unfold setG;cases foc with
 | ops os l=>
  cases l with
  | nil=>rfl
  | cons o l=>
   (try dsimp only at h ⊢);split at h
   ·rename_i j w a;split at h;rename_i t ht;(try simp only [ht]);rw [k0n h]
    ·cases h
   ·cases h
 | drz z k i l fs hp ids pn=>
  cases l with
  | nil=>rfl
  | cons o l=>
   (try dsimp only at h ⊢);split at h
   ·rename_i j w a;split at h;rename_i v hv;(try dsimp only);rw [k1f hv h]
    ·cases h
   ·cases h
 | _=>rfl
theorem gd [Rd] (k:Nat) {b:Bool} {X Y:Option β} (h:(bif b then X else Y)=some r) (h1:X=some r->W P (setG true (crun P k g)) Q) (a:Y=some r->W P (setG false (crun P k g)) Q) (hc:kx9 (crun P k g)=some b:=by kernel_rfl):W P g Q:=by
 refine ka0 k ?_;rw [<- k9b hc];cases b with
 | true=>exact h1 h
 | false=>exact a h
def knh (g:Cfg):Option (Oper×St):=match g.foc with
 | .ops os (o::_)=>match kbi os g.st o,ko1 g.st o with
  | some true,true=>some (o,g.st)
  | _,_=>none
 | .drz z (_+1) i (o::_) fs hp ids pn=>match kbi z.os (kk7 z g.st i o fs hp ids) o with
  | some true=>bif z.es.contains i || kxo z i pn then none else some (o,kk7 z g.st i o fs hp ids)
  | _=>none
 | .dry z (_+1) i (o::_) fs _ _ _=>match kbi z.os (kuk z g.st i o fs) o with
  | some true=>some (o,kuk z g.st i o fs)
  | _=>none
 | _=>none
def kkf (g:Cfg):Oper:=match g.foc with
 | .ops _ (o::_)=>o
 | .drz _ _ _ (o::_) _ _ _ _=>o
 | .dry _ _ _ (o::_) _ _ _ _=>o
 | _=>default
def kxd (g:Cfg):St:=match knh g with
 | some p=>p.2
 | none=>g.st
def rsm (c:AV) (g:Cfg):Cfg:=match g.foc with
 | .ops os (o::l)=>⟨.ops os l,g.ks,g.st.put o.dst c⟩
 | .drz z (k+1) i (o::l) fs hp ids pn=>bif phB z.os.toList z.es i || okA g.st.ids c then ⟨.drz z k (i+1) l ((i,o.dst,c)::fs) hp ids pn,g.ks,g.st⟩ else ⟨.bad,g.ks,g.st⟩
 | .dry z (k+1) i (o::l) fs hp nid es=>bif okA (idsB z.os.toList i nid es g.st.ids) c then ⟨.dry z k (i+1) l ((i,o.dst,c)::fs) hp nid es,g.ks,g.st⟩ else ⟨.bad,g.ks,g.st⟩
 | _=>⟨.bad,g.ks,g.st⟩
end
variable {P:Program} {T:List (TypeId×TD)} {Q:Exit->St->Prop} {st:St} {ks:List Frm} {g:Cfg} {β:Type} {r:β}
theorem kyu [Rd] {o:Oper} {v:St} {c:AV} (hv:knh g=some (o,v)) (hn:NStep P o v c) (h:W P (rsm c g) Q):W P g Q:=by
 obtain ⟨foc,ks,st⟩:=g;unfold knh at hv;simp only at hv;split at hv
 ·split at hv;rename_i a hd;simp only [qc,qp] at hv;obtain ⟨rfl,rfl⟩:=hv;exact kug hn.step a (klj hd) h
  ·cases hv
 ·rename_i z k i o' l fs hp ids pn;split at hv
  ·rename_i a;generalize d:(z.es.contains i || kxo z i pn)=b at hv;cases b with
   | true=>cases hv
   | false=>
    rw [Bool.or_eq_false_iff] at d;simp only [qo,qc,qp] at hv;obtain ⟨rfl,rfl⟩:=hv;simp only [rsm] at h;cases hk:(phB z.os.toList z.es i || okA st.ids c) with
    | false=>rw [hk] at h;exact h.elim
    | true=>rw [hk] at h;exact .inr (.inl ⟨d.1,c, .inl ⟨a,hn⟩,hk,h⟩)
  ·cases hv
 ·rename_i z k i o' l fs hp nid es;split at hv
  ·rename_i a;simp only [qc,qp] at hv;obtain ⟨rfl,rfl⟩:=hv;simp only [rsm] at h;cases hk:okA (idsB z.os.toList i nid es st.ids) c with
   | false=>rw [hk] at h;exact h.elim
   | true=>rw [hk] at h;exact .inl ⟨c, .inl ⟨a,hn⟩,hk,h⟩
  ·cases hv
 ·cases hv
section
variable {P:Program} {T:List (TypeId×TD)} {Q:Exit->St->Prop} {st:St} {ks:List Frm} [t:Tab P] {g:Cfg} {β:Type} {r:β}
def mokV (g:Cfg):Bool:=(knh g).isSome
theorem kyh {o:Oper} {v:St} (h:knh g=some (o,v)):kkf g=o/\kxd g=v:=by
 refine ⟨?_,by unfold kxd;rw [h]⟩;obtain ⟨foc,ks,st⟩:=g;unfold knh at h;unfold kkf;simp only at h ⊢;split at h
 ·split at h;simp only [qc,qp] at h;exact h.1
  ·cases h
 ·rename_i z k i o' l fs hp ids pn;split at h
  ·generalize (z.es.contains i || _)=b at h;cases b with
   | true=>cases h
   | false=>simp only [qo,qc,qp] at h;exact h.1
  ·cases h
 ·split at h;simp only [qc,qp] at h;exact h.1
  ·cases h
 ·cases h
theorem nst [Rd] (k:Nat) {c:AV} (hn:NStep P (kkf (crun P k g)) (kxd (crun P k g)) c) (h:W P (rsm c (crun P k g)) Q) (hv:mokV (crun P k g)=true:=by kernel_rfl):W P g Q:=by refine ka0 k ?_;unfold mokV at hv;obtain ⟨⟨o,v⟩,hv⟩:=Option.isSome_iff_exists.1 hv;obtain ⟨e1,e2⟩:=kyh hv;rw [e1,e2] at hn;exact kyu hv hn h
def okP (g:Cfg):Bool:=match g.foc with
 | .ops os (o::_)=>match kbi os g.st o,ko1 g.st o with
  | some true,true=>true
  | _,_=>false
 | _=>false
def rsmA (c:AV) (h:List (Nat×AObj)) (i:List Nat) (g:Cfg):Cfg:=match g.foc with
 | .ops os (o::l)=>⟨.ops os l,g.ks,({ g.st with heap:=h,ids:=i }:St).put o.dst c⟩
 | _=>⟨.bad,g.ks,g.st⟩
theorem sst [Rd] (k:Nat) {c:AV} {h:List (Nat×AObj)} {i:List Nat} (hn:StepA P (kkf (crun P k g)) (stOf (crun P k g)) c h i) (a:W P (rsmA c h i (crun P k g)) Q) (hv:okP (crun P k g)=true:=by kernel_rfl):W P g Q:=by
 refine ka0 k ?_;generalize crun P k g=g' at *
 obtain ⟨foc,ks,st⟩:=g';unfold okP at hv;simp only at hv;split at hv
 ·split at hv;rename_i b hd;exact kug hn b (klj hd) a
  ·cases hv
 ·cases hv
def dzOk (n:Nat) (es ai:List Nat) (g:Cfg):Bool:=match g.foc with
 | .code (.region _ os true)=>relB os.toList n g.st.n && (kne os.toList n es && g.st.ids.all ai.contains)
 | _=>false
def dzOf (n:Nat) (es ch ai:List Nat) (g:Cfg):Cfg:=match g.foc with
 | .code (.region _ os true)=>⟨.drz ⟨os,n,es,ch,ai⟩ n 0 os.toList [] g.st.heap g.st.ids none,g.ks,g.st⟩
 | _=>⟨.bad,g.ks,g.st⟩
theorem dz [Rd] (k n:Nat) (es ch ai:List Nat) (a:W P (dzOf n es ch ai (crun P k g)) Q) (hc:dzOk n es ai (crun P k g)=true:=by kernel_rfl):W P g Q:=by
 refine ka0 k ?_;generalize crun P k g=g' at *
 obtain ⟨foc,ks,st⟩:=g';unfold dzOk at hc;simp only at hc;split at hc;rename_i id os;simp only [qk] at hc;obtain ⟨l⟩:=os;exact k8w t.mixed hc.1 hc.2.1 hc.2.2 a
 ·cases hc
def k7n (g:Cfg):List Nat:=g.st.ids
theorem dw [Rd] (k n:Nat) (hc:dzOk n [] (k7n (crun P k g)) (crun P k g)=true) (a:W P (dzOf n [] [] (k7n (crun P k g)) (crun P k g)) Q):W P g Q:=dz k n [] [] _ a (hc:=hc)
def okZ (g:Cfg):Bool:=match g.foc with
 | .drz z (_+1) i (o::_) fs hp ids none=>z.es.contains i && (match kbi z.os (kk7 z g.st i o fs hp ids) o with | some true=>true | _=>false)
 | _=>false
def ki6 (g:Cfg):St:=match g.foc with
 | .drz z _ i (o::_) fs hp ids _=>kk7 z g.st i o fs hp ids
 | _=>g.st
def offZ (g:Cfg) (h:List (Nat×AObj)):List (Option AObj):=match g.foc with
 | .drz z _ _ _ _ hp _ _=>(kp0 z.ch hp).map (kaa h)
 | _=>[]
def hpZ (g:Cfg):List (Nat×AObj):=match g.foc with
 | .drz _ _ _ _ _ hp _ _=>hp
 | _=>[]
def idsZ (i':List Nat) (g:Cfg):Bool:=match g.foc with
 | .drz z _ _ _ _ _ ids _=>kpj z.ai ids i'
 | _=>false
def rsmZ (c:AV) (a:List (Nat×AObj)) (i':List Nat) (g:Cfg):Cfg:=match g.foc with
 | .drz z (k+1) i (o::l) fs _ _ _=>⟨.drz z k (i+1) l ((i,o.dst,c)::fs) a i' none,g.ks,g.st⟩
 | _=>⟨.bad,g.ks,g.st⟩
theorem zst [Rd] (k:Nat) {c:AV} {a:List (Nat×AObj)} {i':List Nat} (hn:StepA P (kkf (crun P k g)) (ki6 (crun P k g)) c a i') (hv:okZ (crun P k g)=true) (hi:idsZ i' (crun P k g)=true) (hk:offZ (crun P k g) a=offZ (crun P k g) (hpZ (crun P k g))) (d:W P (rsmZ c a i' (crun P k g)) Q):W P g Q:=by
 refine ka0 k ?_;generalize crun P k g=g' at *
 obtain ⟨foc,ks,st⟩:=g';unfold okZ at hv;simp only at hv;split at hv
 ·rename_i z k i o l fs hp ids;simp only [qk] at hv;obtain ⟨h1,b⟩:=hv;split at b;rename_i e;exact .inr (.inr (.inl ⟨h1,rfl,c,a,i',⟨.inl ⟨e,hn⟩, .inr ⟨kabq hk,ksw hi⟩⟩,d⟩))
  ·cases b
 ·cases hv
def mpre (g:Cfg):Cfg:=⟨g.foc,[],g.st⟩
def ksOf (g:Cfg):List Frm:=g.ks
end
theorem k66 [Rd] {os:Array Oper} {l:List Oper} (h:awpL P os l st fun e st'=>∃ st2,LeSt st' st2/\Q e st2):awpL P os l st Q:=fun F S0 N0 ψ S a w hs=>
 kcu (fun e a' w' ⟨st',ψ',S',⟨st2,h0,h1⟩,b,c⟩=>by obtain ⟨ψ2,S2,d⟩:=h0 F S0 N0 ψ' S' a' w' b;exact ⟨st2,ψ2,S2,h1,d,c⟩) _ _ _ (h F S0 N0 ψ S a w hs)
theorem k3w [Rd] {os:Array Oper} {l:List Oper} {Q':Exit->St->Prop} (h:awpL P os l st Q) (b:∀ e st,Q e st->Q' e st):awpL P os l st Q':=fun F S0 N0 ψ S a w hs=>
 kcu (fun e a' w' ⟨st',ψ',S',h1,c⟩=>⟨st',ψ',S',b _ _ h1,c⟩) _ _ _ (h F S0 N0 ψ S a w hs)
section
variable {P:Program} {T:List (TypeId×TD)} {Q:Exit->St->Prop} {st:St} {ks:List Frm} [t:Tab P] {g:Cfg} {β:Type} {r:β}
def WeakQ (Q:Exit->St->Prop):Exit->St->Prop:=fun e st'=>∃ st2,LeSt st' st2/\Q e st2
end
section
variable {P:Program} {T:List (TypeId×TD)} {Q:Exit->St->Prop} {st:St} {ks:List Frm} [t:Tab P] {g:Cfg} {β:Type} {r:β}
theorem jn [Rd] (k:Nat) (Qa:Exit->St->Prop) (hc:kt9 (crun P k g)=true) (ha:W P (mpre (crun P k g)) Qa) (b:∀ e st',Qa e st'->∃ st2,LeSt st' st2/\W P (unw e (ksOf (crun P k g)) st2) Q):W P g Q:=by
 refine ka0 k ?_;generalize crun P k g=g' at *
 obtain ⟨foc,ks,st⟩:=g';have a:∀ e st',Qa e st'->WeakQ (kd9 P ks Q) e st':=fun e st' h=>let ⟨st2,h1,d⟩:=b e st' h;⟨st2,h1,kze d⟩;cases foc with
 | code c=>exact kps (kp1 (show awp P c st Qa from ha) a)
 | ops os l=>exact k66 (k3w (show awpL P os l st Qa from ha) a)
 | _=>cases hc
theorem jn1 [Rd] {α:Type} {E:Option α} {K:α->Option β} (k:Nat) (e:Exit) (J:α->St) (h:Option.bind E K=some r) (ha:∀ v,E=some v->W P (mpre (crun P k g)) fun e' st=>e'=e/\LeSt st (J v)) (a:∀ v,K v=some r->W P (unw e (ksOf (crun P k g)) (J v)) Q) (hc:kt9 (crun P k g)=true:=by kernel_rfl):W P g Q:=by
 obtain ⟨v,h1,b⟩:=qi.1 h;refine jn k _ hc (ha v h1) ?_;rintro _ st' ⟨rfl,hl⟩;exact ⟨_,hl,a v b⟩
def k7x:FV->C0
 | .lst s _ _ => .sl s
 | .bx _ => .px
 | _ => .keep
def k1m:AV->C0
 | .fz x=>k7x x
 | _ => .keep
def auto1:AV->C1
 | .fz (.agg xs) => .ag (xs.map k7x)
 | .agg xs => .ag (xs.map k1m)
 | x => .one (k1m x)
def autoT (st:St):List (Nat×C1):=st.tmps.map fun p=>(p.1,auto1 p.2)
def autoO:AObj->List C0
 | .box _ cs=>cs.map k1m
 | _=>[]
def autoH (st:St):List (Nat×List C0):=st.heap.map fun p=>(p.1,autoO p.2)
def coA (st J:St):Option St:=coSt st J.ids (autoT J) (autoH J)
theorem le_a {st J:St} (h:coA st J=some J:=by kernel_rfl):LeSt st J:=k7q h
def kgo:Foc->Exit->Bool
 | .fin .normal, .normal=>true
 | .fin .ret, .ret=>true
 | .fin (.exit i), .exit j=>Nat.beq i j
 | _,_=>false
theorem kjn {foc:Foc} {e:Exit} (h:kgo foc e=true):foc = .fin e/\(e = .normal\/e = .ret\/∃ i,e = .exit i):=by
 unfold kgo at h;split at h;exact ⟨rfl, .inl rfl⟩;exact ⟨rfl, .inr (.inl rfl)⟩;rename_i i j;rw [qe h];exact ⟨rfl, .inr (.inr ⟨_,rfl⟩)⟩
 ·cases h
def jok (g:Cfg) (e:Exit) (J:St):Option St:=bif kgo g.foc e then coA g.st J else none
end
section
variable {P:Program} {T:List (TypeId×TD)} {Q:Exit->St->Prop} {st:St} {ks:List Frm} [t:Tab P] {g:Cfg} {β:Type} {r:β}
def nilK (g:Cfg):Bool:=match g.ks with
 | []=>true
 | _=>false
theorem lj [Rd] (k:Nat) {e:Exit} {J:St} (hc:(bif nilK (crun P k g) then jok (crun P k g) e J else none)=some J:=by kernel_rfl):W P g fun e' st=>e'=e/\LeSt st J:=by
 refine ka0 k ?_;generalize crun P k g=g' at *
 obtain ⟨foc,ks,st⟩:=g';cases ks with
 | cons=>cases hc
 | nil=>
  simp only [nilK,jok,qg] at hc;cases a:kgo foc e with
  | false=>rw [a] at hc;cases hc
  | true=>
   rw [a] at hc;obtain ⟨rfl,_⟩:=kjn a;exact ⟨rfl,le_a hc⟩
theorem ljx [Rd] (k:Nat) {e:Exit} {J:St} (hl:LeSt (stOf (crun P k g)) J) (hc:(nilK (crun P k g) && kgo (crun P k g).foc e)=true:=by kernel_rfl):W P g fun e' st=>e'=e/\LeSt st J:=by
 refine ka0 k ?_;generalize crun P k g=g' at *
 obtain ⟨foc,ks,st⟩:=g';simp only [qk] at hc;cases ks with
 | cons=>cases hc.1
 | nil=>
  obtain ⟨rfl,_⟩:=kjn hc.2;exact ⟨rfl,hl⟩
theorem lo [Rd] (k:Nat) {e:Exit} {J:St} (hc:(bif nilK (crun P k g) && !kgo (crun P k g).foc .normal then jok (crun P k g) e J else none)=some J):W P g fun e' st=>(e' ≠ .normal/\e' ≠ .outgrown)/\(e'=e/\LeSt st J):=by
 refine ka0 k ?_;generalize crun P k g=g' at *
 obtain ⟨foc,ks,st⟩:=g';cases ks with
 | cons=>cases hc
 | nil=>
  simp only [nilK,jok,Bool.true_and] at hc;cases hn:kgo foc .normal with
  | true=>rw [hn] at hc;cases hc
  | false=>
   rw [hn] at hc;cases a:kgo foc e with
   | false=>rw [a] at hc;cases hc
   | true=>
    rw [a] at hc;obtain ⟨rfl,b⟩:=kjn a;refine ⟨⟨fun h=>?_,fun h=>?_⟩,rfl,le_a hc⟩;subst h;cases hn
    ·rcases b with rfl | rfl | ⟨i,rfl⟩ <;> cases h
theorem lox [Rd] (k:Nat) {e:Exit} (J:St) (hl:LeSt (stOf (crun P k g)) J) (hc:(nilK (crun P k g) && (!kgo (crun P k g).foc .normal && kgo (crun P k g).foc e))=true:=by kernel_rfl):W P g fun e' st=>(e' ≠ .normal/\e' ≠ .outgrown)/\(e'=e/\LeSt st J):=by
 refine ka0 k ?_;generalize crun P k g=g' at *
 obtain ⟨foc,ks,st⟩:=g';simp only [qk,qbn] at hc;cases ks with
 | cons=>cases hc.1
 | nil=>
  obtain ⟨rfl,a⟩:=kjn hc.2.2;refine ⟨⟨fun h=>?_,fun h=>?_⟩,rfl,hl⟩;subst h;cases hc.2.1
  ·rcases a with rfl | rfl | ⟨i,rfl⟩ <;> cases h
def kgr:Foc->Bool
 | .fin .normal=>true
 | .fin .ret=>true
 | _=>false
def kyv:Foc->Bool
 | .fin .ret=>true
 | _=>false
def rokq (T:List (TypeId×TD)) (g:Cfg) (rs:List ResultVar) (cs:List C1):Option FV:=bif nilK g && kgr g.foc then retX T g.st rs cs else none
def rokr (T:List (TypeId×TD)) (g:Cfg) (rs:List ResultVar) (cs:List C1):Option FV:=bif kyv g.foc then retX T g.st rs cs else none
theorem lq [Rd] (k:Nat) {rs:List ResultVar} {cs:List C1} {y:FV} (hc:rokq t.T (crun P k g) rs cs=some y:=by kernel_rfl):W P g (retQ t.T rs cs y):=by
 refine ka0 k ?_;generalize crun P k g=g' at *
 obtain ⟨foc,ks,st⟩:=g';unfold rokq at hc;cases ks with
 | cons=>cases hc
 | nil=>
  simp only [nilK,Bool.true_and] at hc;cases a:kgr foc with
  | false=>rw [a] at hc;cases hc
  | true=>
   rw [a] at hc;unfold kgr at a;split at a;exact hc;exact hc
   ·cases a
theorem lor [Rd] (k:Nat) {rs:List ResultVar} {cs:List C1} {y:FV} (hc:rokr t.T (crun P k g) rs cs=some y:=by kernel_rfl):W P g fun e st=>(e ≠ .normal/\e ≠ .outgrown)/\(e = .ret/\retX t.T st rs cs=some y):=by
 refine ka0 k ?_;generalize crun P k g=g' at *
 obtain ⟨foc,ks,st⟩:=g';unfold rokr at hc;cases a:kyv foc with
 | false=>simp only [a] at hc;cases hc
 | true=>
  simp only [a] at hc;unfold kyv at a;split at a;exact kva (Q:=fun e st=>(e ≠ .normal/\e ≠ .outgrown)/\(e = .ret/\retX t.T st rs cs=some y)) ⟨⟨(fun h=>nomatch h),(fun h=>nomatch h)⟩,rfl,hc⟩
  ·cases a
theorem lv [Rd] {rs:List ResultVar} {cs:List C1} {y:FV} {st:St} {ks:List Frm} (h:retX t.T st rs cs=some y):W P (unw .ret ks st) (retQ t.T rs cs y):=h
theorem lvr [Rd] {rs:List ResultVar} {cs:List C1} {y:FV} {st:St} {ks:List Frm} (h:retX t.T st rs cs=some y):W P (unw .ret ks st) fun e st=>e = .ret/\retX t.T st rs cs=some y:=⟨rfl,h⟩
theorem lvo [Rd] {rs:List ResultVar} {cs:List C1} {y:FV} {st:St} {ks:List Frm} (h:retX t.T st rs cs=some y):W P (unw .ret ks st) fun e st=>(e ≠ .normal/\e ≠ .outgrown)/\(e = .ret/\retX t.T st rs cs=some y):=⟨⟨fun h=>(nomatch h),fun h=>(nomatch h)⟩,rfl,h⟩
end
theorem ob [Rd] {α:Type} {E:Option α} {K:α->Option β} (h:Option.bind E K=some r) (f:∀ v,E=some v->K v=some r->W P g Q):W P g Q:=by obtain ⟨v,h1,a⟩:=qi.1 h;exact f v h1 a
def HidG (_:Nat) (p:Prop):Prop:=p
theorem ls [Rd] {α:Type} {X v:α} {Qf:α->Exit->St->Prop} (h:some X=some v) (a:W P g (Qf X)):W P g (Qf v):=by obtain rfl:=qu h;exact a
theorem lJ {p q:Prop} (k:Nat) (a:p->HidG k q:=by intro h;cases h;exact ljh _):p->q:=a
theorem lO {p q:Prop} (k:Nat) (a:p->HidG k q:=by intro h;cases h;exact loh _):p->q:=a
theorem lQ {p q:Prop} (k:Nat) (a:p->HidG k q:=by intro h;cases h;exact lqh _):p->q:=a
theorem lR {p q:Prop} (k:Nat) (a:p->HidG k q:=by intro h;cases h;exact lorh _):p->q:=a
section
variable {P:Program} {T:List (TypeId×TD)} {Q:Exit->St->Prop} {st:St} {ks:List Frm} [t:Tab P] {g:Cfg} {β:Type} {r:β}
theorem ljh [Rd] (k:Nat) {e:Exit} {J:St} (hc:(bif nilK (crun P k g) then jok (crun P k g) e J else none)=some J:=by kernel_rfl):HidG k (W P g fun e' st=>e'=e/\LeSt st J):=lj k hc
theorem loh [Rd] (k:Nat) {e:Exit} {J:St} (hc:(bif nilK (crun P k g) && !kgo (crun P k g).foc .normal then jok (crun P k g) e J else none)=some J:=by kernel_rfl):HidG k (W P g fun e' st=>(e' ≠ .normal/\e' ≠ .outgrown)/\(e'=e/\LeSt st J)):=lo k hc
theorem lqh [Rd] (k:Nat) {rs:List ResultVar} {cs:List C1} {y:FV} (hc:rokq t.T (crun P k g) rs cs=some y:=by kernel_rfl):HidG k (W P g (retQ t.T rs cs y)):=lq k hc
theorem lorh [Rd] (k:Nat) {rs:List ResultVar} {cs:List C1} {y:FV} (hc:rokr t.T (crun P k g) rs cs=some y:=by kernel_rfl):HidG k (W P g fun e st=>(e ≠ .normal/\e ≠ .outgrown)/\(e = .ret/\retX t.T st rs cs=some y)):=lor k hc
def kll (g:Cfg):Cfg:=match g.foc with
 | .code (.loop c)=>⟨.code c,[],g.st⟩
 | _=>⟨.bad,[],g.st⟩
def kj4 (g:Cfg):Bool:=match g.foc with
 | .code (.loop _)=>true
 | _=>false
theorem lpx [Rd] {σ α:Type} {step:σ->Option (σ ⊕ α)} {n:Nat} {s0:σ} {K:α->Option β} (k:Nat) (H:σ->St) (Qb:α->Exit->St->Prop) (h:Option.bind (kah step n s0) K=some r) (hc:kj4 (crun P k g)=true) (h0:LeSt (stOf (crun P k g)) (H s0))
  (a:∀ s r',step s=some r'->W P (klb (kll (crun P k g)) (H s)) (Sum.elim (fun s' e st=>e = .normal/\LeSt st (H s')) (fun v e st=>(e ≠ .normal/\e ≠ .outgrown)/\Qb v e st) r'))
  (ha:∀ v,K v=some r->∀ e st',Qb v e st'->∃ st2,LeSt st' st2/\W P (unw e (ksOf (crun P k g)) st2) Q):W P g Q:=by
 refine ka0 k ?_;generalize crun P k g=g' at *
 obtain ⟨foc,ks,st⟩:=g';obtain ⟨v,h1,d⟩:=qi.1 h;unfold kj4 at hc;simp only at hc;split at hc
 ·rename_i c;refine kx3 (k29 (st:=st) (P:=P) c H Qb h1 h0 fun s r' hs=>?_) fun e st' f=>?_
  ·have:=a s r' hs;cases r' with
   | inl s'=>exact this
   | inr b=>exact this
  ·obtain ⟨st2,e1,e2⟩:=ha v d e st' f;exact ⟨st2,e1,kze e2⟩
 ·cases hc
theorem lpI [Rd] (σ:Type) (k:Nat) (H:σ->St) (I:σ->Prop) (μ:σ->Nat) (Qb:Exit->St->Prop) (s0:σ) (a:I s0) (hc:kj4 (crun P k g)=true) (h0:LeSt (stOf (crun P k g)) (H s0)) (b:∀ s,I s->W P (klb (kll (crun P k g)) (H s)) (fun e st=>(e = .normal/\∃ s',(I s'/\μ s'<μ s)/\LeSt st (H s'))\/((e ≠ .normal/\e ≠ .outgrown)/\Qb e st))) (ha:∀ e st',Qb e st'->∃ st2,LeSt st' st2/\W P (unw e (ksOf (crun P k g)) st2) Q):W P g Q:=by
 refine ka0 k ?_;generalize crun P k g=g' at *
 obtain ⟨foc,ks,st⟩:=g';unfold kj4 at hc;simp only at hc;split at hc;rename_i c;refine kx3 (k5d (st:=st) (P:=P) c Qb H I μ a h0 fun s hs=>b s hs) fun e st' d=>?_;obtain ⟨st2,e1,e2⟩:=ha e st' d;exact ⟨st2,e1,kze e2⟩
 ·cases hc
theorem lpr [Rd] {σ α ρ:Type} {step:σ->Option (σ ⊕ (α ⊕ ρ))} {n:Nat} {s0:σ} {f:α->Option β} {q:ρ->Option β} (k:Nat) (h:Option.bind (kah step n s0) (fun v=>Sum.elim f q v)=some r) (H:σ->St) (e:Exit) (J:α->St) (rs:List ResultVar) (cs:List C1) (y:ρ->FV)
  (c:∀ s r',step s=some r'->W P (klb (kll (crun P k g)) (H s)) (Sum.elim (fun s' e' st=>e' = .normal/\LeSt st (H s')) (fun v e' st=>(e' ≠ .normal/\e' ≠ .outgrown)/\Sum.elim (fun p=>e'=e/\LeSt st (J p)) (fun p=>e' = .ret/\retX t.T st rs cs=some (y p)) v) r'))
  (h1:∀ p,f p=some r->W P (unw e (ksOf (crun P k g)) (J p)) Q)
  (d:∀ p st,q p=some r->retX t.T st rs cs=some (y p)->W P (unw .ret (ksOf (crun P k g)) st) Q:=by intro _ _ h a;cases h;first | exact lv a | exact lvo a | exact lvr a)
  (hc:kj4 (crun P k g)=true:=by kernel_rfl) (h0:coA (stOf (crun P k g)) (H s0)=some (H s0):=by kernel_rfl):W P g Q:=by
 refine lpx k H (fun v e' st=>Sum.elim (fun p=>e'=e/\LeSt st (J p)) (fun p=>e' = .ret/\retX t.T st rs cs=some (y p)) v) h hc (le_a h0) c fun v hv e' st' b=>?_;cases v with
 | inl p=>obtain ⟨rfl,hl⟩:=b;exact ⟨_,hl,h1 p hv⟩
 | inr p=>obtain ⟨rfl,hr⟩:=b;exact ⟨_,LeSt.refl,d p _ hv hr⟩
theorem lpq [Rd] {σ α:Type} {step:σ->Option (σ ⊕ (α ⊕ β))} {n:Nat} {s0:σ} {f:α->Option β} {rs:List ResultVar} {cs:List C1} (k:Nat) (h:Option.bind (kah step n s0) (fun v=>Sum.elim f (fun w=>some w) v)=some r) (H:σ->St) (e:Exit) (J:α->St) (y:β->FV)
  (b:∀ s r',step s=some r'->W P (klb (kll (crun P k g)) (H s)) (Sum.elim (fun s' e' st=>e' = .normal/\LeSt st (H s')) (fun v e' st=>(e' ≠ .normal/\e' ≠ .outgrown)/\Sum.elim (fun p=>e'=e/\LeSt st (J p)) (fun p=>e' = .ret/\retX t.T st rs cs=some (y p)) v) r'))
  (h1:∀ p,f p=some r->W P (unw e (ksOf (crun P k g)) (J p)) (retQ t.T rs cs (y r)))
  (hc:kj4 (crun P k g)=true:=by kernel_rfl) (h0:coA (stOf (crun P k g)) (H s0)=some (H s0):=by kernel_rfl):W P g (retQ t.T rs cs (y r)):=
 lpr k h H e J rs cs y b h1 (fun p st hp a=>by cases hp;exact lv a) hc h0
theorem lp1 [Rd] {σ α:Type} {step:σ->Option (σ ⊕ α)} {n:Nat} {s0:σ} {K:α->Option β} (k:Nat) (H:σ->St) (e:Exit) (J:α->St) (h:Option.bind (kah step n s0) K=some r) (a:∀ s r',step s=some r'->W P (klb (kll (crun P k g)) (H s)) (Sum.elim (fun s' e st=>e = .normal/\LeSt st (H s')) (fun v e' st=>(e' ≠ .normal/\e' ≠ .outgrown)/\(e'=e/\LeSt st (J v))) r')) (ha:∀ v,K v=some r->W P (unw e (ksOf (crun P k g)) (J v)) Q) (hc:kj4 (crun P k g)=true:=by kernel_rfl) (h0:coA (stOf (crun P k g)) (H s0)=some (H s0):=by kernel_rfl):W P g Q:=by
 refine lpx k H _ h hc (le_a h0) a fun v hv e' st' b=>?_;obtain ⟨rfl,hl⟩:=b;exact ⟨_,hl,ha v hv⟩
theorem opc [Rd] (k:Nat) (id:Nat) (e:TypeId) (cells:List AV) (h1:W P (klb (crun P k g) { stOf (crun P k g) with heap:=(id, .box e (.fz (.atom (.pointer none))::cells))::(stOf (crun P k g)).heap }) Q) (b:W P (klb (crun P k g) { stOf (crun P k g) with heap:=(id, .box e (.ref id 0 0::cells))::(stOf (crun P k g)).heap }) Q) (a:kaa (stOf (crun P k g)).heap id=some (.box e (.opt id::cells)):=by kernel_rfl) (hc:kaag (crun P k g)=true:=by kernel_rfl):W P g Q:=by
 refine ka0 k ?_;generalize crun P k g=g' at *
 obtain ⟨foc,ks,st⟩:=g';cases foc with
 | code c=>exact kxs a h1 b
 | _=>cases hc
def kgc (fn:Func):Code:=fn.body.getD .skip
theorem kln {fn:Func} (h:fn.body.isSome=true):fn.body=some (kgc fn):=by
 unfold kgc;cases a:fn.body with
 | none=>rw [a] at h;cases h
 | some c=>rfl
def inlW (P:Program) (os:Array Oper) (l:List Oper) (ks:List Frm) (dst:Option Nat) (n:Nat) (D:List Deferred) (gi:Nat) (cs:List Value) (keep:List (Nat×AV)) (rs:List ResultVar) (Q:Exit->St->Prop):Exit->St->Prop:=inlQ P os l dst n D gi cs keep rs (kd9 P ks Q)
def inlF (g:Cfg):Option (FuncId×List AV):=match g.foc with
 | .ops os (o::_)=>match kbi os g.st o,ko1 g.st o with
  | some true,true=>match o.op with
   | .call c=>match c.callee with
    | .value x=>match g.st.eval x with
     | .fn f cap=>some (f,c.args.toList.map g.st.eval++cap)
     | _=>none
    | _=>none
   | _=>none
  | _,_=>none
 | _=>none
def opsOf (g:Cfg):Array Oper:=match g.foc with
 | .ops os _=>os
 | _=>#[]
def kaal (g:Cfg):List Oper:=match g.foc with
 | .ops _ (_::l)=>l
 | _=>[]
def dstOf (g:Cfg):Option Nat:=match g.foc with
 | .ops _ (o::_)=>o.dst
 | _=>none
theorem inl (k: Nat) (f: FuncId) (fn: Func) (n gi: Nat) (ys: List AV) (d: P.funcs[f]? = some fn) (h:∀ cs,W P ⟨.code (kgc fn),[],{ n:=n,tmps:=argT 0 ys,heap:=(gi, .gho cs ((stOf (crun P k g)).tmps.map fun p=>(stOf (crun P k g)).get p.1))::(stOf (crun P k g)).heap,ids:=gi::(stOf (crun P k g)).ids }⟩
   (inlW P (opsOf (crun P k g)) (kaal (crun P k g)) (ksOf (crun P k g)) (dstOf (crun P k g)) (stOf (crun P k g)).n (stOf (crun P k g)).dfr gi cs (stOf (crun P k g)).tmps fn.results.toList Q)) (e: fn.body.isSome = true:=by kernel_rfl) (hn: (fn.name == "runtime.NumGoroutine") = false:=by kernel_rfl) (a: fn.ntmps = n:=by kernel_rfl) (b: Nat.ble ys.length n = true:=by kernel_rfl) (c: (stOf (crun P k g)).ids.contains gi = false:=by kernel_rfl) (hc:inlF (crun P k g)=some (f,ys):=by kernel_rfl):W P g Q:=by
 refine ka0 k ?_;generalize crun P k g=g' at *
 obtain ⟨foc,ks,st⟩:=g';unfold inlF at hc;simp only at hc;split at hc
 ·split at hc
  ·rename_i i hd;split at hc
   ·rename_i c' j;split at hc
    ·rename_i x hx;split at hc;rename_i f' cap hv;simp only [qc,qp] at hc;obtain ⟨rfl,rfl⟩:=hc;obtain ⟨cc,as1,ts⟩:=c';simp only at hx;subst hx;exact k6k j hv i (klj hd) d (kln e) hn a rfl b c h
     ·cases hc
    ·cases hc
   ·cases hc
  ·cases hc
 ·cases hc
theorem li (k:Nat) {os:Array Oper} {l:List Oper} {ks:List Frm} {dst:Option Nat} {n gi:Nat} {D:List Deferred} {cs:List Value} {keep:List (Nat×AV)} {rs:List ResultVar} (vs:List AV) (rv:AV) (hr:(rs=[]/\rv = .any)\/∃ z,rs=[.tmp z]/\(stOf (crun P k g)).get z=rv) (h:W P ⟨.ops os l,ks,({ n:=n,tmps:=zipS keep vs,heap:=kdm gi (stOf (crun P k g)).heap,ids:=(stOf (crun P k g)).ids,dfr:=D }:St).put dst rv⟩ Q) (hc:(bif nilK (crun P k g) && kgr (crun P k g).foc then kaa (stOf (crun P k g)).heap gi else none)=some (.gho cs vs):=by kernel_rfl) (a:(stOf (crun P k g)).dfr=[]:=by kernel_rfl):W P g (inlW P os l ks dst n D gi cs keep rs Q):=by
 refine ka0 k ?_;generalize crun P k g=g' at *
 obtain ⟨foc,ks',st⟩:=g';cases ks' with
 | cons=>cases hc
 | nil=>
  simp only [nilK,Bool.true_and] at hc;cases b:kgr foc with
  | false=>rw [b] at hc;cases hc
  | true=>
   rw [b] at hc;unfold kgr at b;split at b;exact ⟨.inl rfl,a,vs,rv,hc,hr,h⟩;exact ⟨.inr rfl,a,vs,rv,hc,hr,h⟩
   ·cases b
theorem hcx0 {f : FuncId} {fn : Func} {args : List AV} {pre : List (Nat × AObj)} {ids : List Nat} {E : HEnd} {post : List (Nat × AObj)} {ids' : List Nat} {gi : Nat} (d : P.funcs[f]? = some fn) (e : fn.body.isSome = true) (hn : (fn.name == "runtime.NumGoroutine") = false)
  (a:Nat.ble args.length fn.ntmps=true) (g:ids.contains gi=false) (b:ids'.contains gi=false) (c:(post.all fun p=>okO ids' p.2)=true) (i:E.ok ids'=true) (hk:(post.all fun p=>ids'.contains p.1)=true)
  (h:∀ ψ0 S1 w0,W P ⟨.code (kgc fn),[],{ n:=fn.ntmps,tmps:=argT 0 args,heap:=(gi, .was ψ0 ids S1 w0)::pre,ids:=gi::ids }⟩ (hQ t.T fn.results.toList gi ids E post ids' ψ0 S1 w0)):HCall P f args pre ids E post ids':=
 kyq t.ok d (kln e) hn a g b c i hk h
theorem hcx {f: FuncId} {fn: Func} {args: List AV} {pre: List (Nat × AObj)} {ids: List Nat} {E: HEnd} {post: List (Nat × AObj)} {ids': List Nat} (gi: Nat) (d: P.funcs[f]? = some fn) (h:∀ ψ0 S1 w0,W P ⟨.code (kgc fn),[],{ n:=fn.ntmps,tmps:=argT 0 args,heap:=(gi, .was ψ0 ids S1 w0)::pre,ids:=gi::ids }⟩ (hQ t.T fn.results.toList gi ids E post ids' ψ0 S1 w0)) (e: fn.body.isSome = true:=by kernel_rfl) (hn: (fn.name == "runtime.NumGoroutine") = false:=by kernel_rfl) (a:Nat.ble args.length fn.ntmps=true:=by kernel_rfl) (g:ids.contains gi=false:=by kernel_rfl) (b:ids'.contains gi=false:=by kernel_rfl) (c:(post.all fun p=>okO ids' p.2)=true:=by kernel_rfl) (i:E.ok ids'=true:=by kernel_rfl) (hk:(post.all fun p=>ids'.contains p.1)=true:=by kernel_rfl):HCall P f args pre ids E post ids':=
 hcx0 d e hn a g b c i hk h
theorem lh [Rd] (k:Nat) {rs:List ResultVar} {gi:Nat} {ids ids':List Nat} {res:AV} {post:List (Nat×AObj)} {ψ0:Env} {S1:Nat->Prop} {w0:World} (st2:St) (hl:LeSt (stOf (crun P k g)) st2) (hc:(nilK (crun P k g) && kgr (crun P k g).foc)=true:=by kernel_rfl) (hr:retA t.T st2 rs=some res:=by kernel_rfl) (b:st2.heap=(gi, .was ψ0 ids S1 w0)::post:=by rfl) (hi:st2.ids=gi::ids':=by rfl):W P g (hQ t.T rs gi ids (.ret res) post ids' ψ0 S1 w0):=by
 refine ka0 k ?_;generalize crun P k g=g' at *
 obtain ⟨foc,ks,st⟩:=g';simp only [qk] at hc;cases ks with
 | cons=>cases hc.1
 | nil=>
  have a:kgr foc=true:=hc.2;unfold kgr at a;split at a;exact ktr hl b hi (.inl rfl) hr;exact ktr hl b hi (.inr rfl) hr
  ·cases a
def zipR (st:St):List ResultVar->List AV->List (Nat×AV)
 | .tmp t::rs,x::xs=>(t,x)::zipR st rs xs
 | .cell t _::rs,_::xs=>(t,st.get t)::zipR st rs xs
 | _,_=>[]
def retT (st:St):List ResultVar->AV->List (Nat×AV)
 | [.tmp t],a=>[(t,a)]
 | [.cell t _],_=>[(t,st.get t)]
 | rs, .fz (.tup xs)=>zipR st rs (xs.map .fz)
 | rs, .tup xs=>zipR st rs xs
 | _,_=>[]
def retJ (st:St) (rs:List ResultVar) (res:AV) (gi:Nat) (o:AObj) (post:List (Nat×AObj)) (ids':List Nat):St:={ n:=st.n,tmps:=retT st rs res,heap:=(gi,o)::post,ids:=gi::ids' }
theorem lhy [Rd] (k:Nat) {rs:List ResultVar} {gi:Nat} {ids ids':List Nat} {res:AV} {post:List (Nat×AObj)} {ψ0:Env} {S1:Nat->Prop} {w0:World} (hl:coA (stOf (crun P k g)) (retJ (stOf (crun P k g)) rs res gi (.was ψ0 ids S1 w0) post ids')=some (retJ (stOf (crun P k g)) rs res gi (.was ψ0 ids S1 w0) post ids'):=by kernel_rfl)
  (hc:(nilK (crun P k g) && kgr (crun P k g).foc)=true:=by kernel_rfl) (hr:retA t.T (retJ (stOf (crun P k g)) rs res gi (.was ψ0 ids S1 w0) post ids') rs=some res:=by kernel_rfl):W P g (hQ t.T rs gi ids (.ret res) post ids' ψ0 S1 w0):=
 lh k _ (le_a hl) (hc:=hc) (hr:=hr)
theorem pcl {f : FuncId} {fn : Func} {args : List FV} {y : FV} (cs : List C1) (b : P.funcs[f]? = some fn) (c : fn.body.isSome = true) (hn : (fn.name == "runtime.NumGoroutine") = false) (a : Nat.ble args.length fn.ntmps = true)
  (h:W P ⟨.code (kgc fn),[],{ n:=fn.ntmps,tmps:=klv 0 args,heap:=[],ids:=[] }⟩ (retQ t.T fn.results.toList cs y)):PCall P f args y:=kz6 t.ok cs b (kln c) hn a h
def pncV (g:Cfg):Option Value:=match g.foc with
 | .ops os (o::_)=>match kbi os g.st o,o.op with
  | some true, .panic x=>match g.st.eval x with
   | .fz (.atom (.iface t v))=>some (.iface t v)
   | _=>none
  | _,_=>none
 | _=>none
theorem pnc [Rd] (k:Nat) (v:Value) (h:W P ⟨.fin (.panic [pnE v]),[],stOf (crun P k g)⟩ Q) (hc:pncV (crun P k g)=some v:=by kernel_rfl):W P g Q:=by
 refine ka0 k ?_;generalize crun P k g=g' at *
 obtain ⟨foc,ks,st⟩:=g';unfold pncV at hc;simp only at hc;split at hc
 ·rename_i os o l;split at hc
  ·rename_i x e d;split at hc;rename_i tt u hx;injection hc with hc;subst hc;intro F S0 N0 ψ S a w hs;unfold ka5;rw [kdp hs e];have hv:=hs.eval x;rw [hx] at hv;have hv:=hv.atom;have b:(execOp a.eval o).run P w = .halt (.panic (.iface tt u)) w:=(by simp only [execOp,d,hv,Instr.panic,goPanic];rfl);exact kry (fun c h=>by rw [d] at h;cases h) b ⟨st,ψ,S,kvl h,hs,Fr.refl⟩
   ·cases hc
  ·cases hc
 ·cases hc
def k7j (g:Cfg):Option (FuncId×List AV):=match g.foc with
 | .ops os (o::_)=>match kbi os g.st o,ko1 g.st o,o.op with
  | some true,true, .defer c=>match c.callee,c.args.toList with
   | .value x,[]=>match g.st.eval x with
    | .fn f vs=>some (f,vs)
    | _=>none
   | _,_=>none
  | _,_,_=>none
 | _=>none
def rsmD (gi:Nat) (f:FuncId) (cs:List Value) (vs:List AV) (g:Cfg):Cfg:=match g.foc with
 | .ops os (o::l)=>⟨.ops os l,g.ks,({ g.st with heap:=(gi, .gho cs vs)::g.st.heap,ids:=gi::g.st.ids,dfr:=dfn f cs::g.st.dfr }:St).put o.dst (.fz (.tup []))⟩
 | _=>⟨.bad,g.ks,g.st⟩
theorem dfer (k gi:Nat) (f:FuncId) (vs:List AV) (h:∀ cs,cs.length=vs.length->W P (rsmD gi f cs vs (crun P k g)) Q) (hc:k7j (crun P k g)=some (f,vs):=by kernel_rfl) (e:(stOf (crun P k g)).ids.contains gi=false:=by kernel_rfl):W P g Q:=by
 refine ka0 k ?_;generalize crun P k g=g' at *
 obtain ⟨foc,ks,st⟩:=g';have m:gi∉st.ids:=by simpa [stOf] using e
 clear e;have e:=m;clear m;unfold k7j at hc;simp only at hc;split at hc
 ·rename_i os o l;split at hc
  ·rename_i c B hd C;split at hc
   ·rename_i x h1 r;split at hc
    ·rename_i f' vs' hx;simp only [qc,qp] at hc;obtain ⟨rfl,rfl⟩:=hc;obtain ⟨cc,as_,ts⟩:=c;simp only at h1 r;have r:as_=#[]:=(by apply qbj;simpa using r);subst h1 r;intro F S0 N0 ψ S a w hs;unfold ka5;rw [kdp hs B];have hv:=hs.eval x;rw [hx] at hv;obtain ⟨caps,hcx,s,z⟩:∃ caps:Array Value,a.eval x = .func (.func f') #[] caps/\caps.size=vs'.length/\∀ (i:Nat) (v:Value) (y:AV),caps[i]?=some v->vs'[i]?=some y->RV ψ (·∈st.ids) S w v y:=by
      generalize a.eval x=u at hv;cases hv with
      | fn h hr=>exact ⟨_,rfl,h,hr⟩
     have p:(execOp a.eval o).run P w = .ok (.defer (dfn f' caps.toList)) w:=(by simp [execOp,C,resolve,hcx,Deferred.ofValue,dfn]);refine kyn p ?_;have j:=hs.core.add (n:=0) (v := .nilFunc) (w':=w) (ob := .gho caps.toList vs') (kae _) e (fun b D=>by cases D)
      ⟨kbf _ _,by rw [kaj];rfl,by rw [kaj];rfl,fun i v x hv hx=>(z i v x (by simpa using hv) hx).keep (ka3 e _ _) (fun _ h=>qf _ h) (fun _ h=>h) (fun _ _ _=>rfl)⟩
     have A:Sim F S0 N0 { st with heap:=(gi, .gho caps.toList vs')::st.heap,ids:=gi::st.ids,dfr:=dfn f' caps.toList::st.dfr } (ψ.set gi 0 .nilFunc) S { a with defers:=dfn f' caps.toList::a.defers } w:=
      ⟨by show _::a.defers=_;rw [hs.defers],hs.size,fun t=>(hs.tmps t).keep (ka3 e _ _) (fun _ h=>qf _ h) (fun _ h=>h) (fun _ _ _=>rfl),j⟩
     have q:=A.put (st':={ st with heap:=(gi, .gho caps.toList vs')::st.heap,ids:=gi::st.ids,dfr:=dfn f' caps.toList::st.dfr }) (d:=o.dst) (v:=undef) (c := .fz (.tup [])) rfl rfl rfl j (.fz RF.undef) Ext.refl (fun _ h=>h) (fun _ h=>h) (fun _ _ _=>rfl) (klj hd);exact h caps.toList (by simpa using s) F S0 N0 _ S _ w q
    ·cases hc
   ·cases hc
  ·cases hc
 ·cases hc
def kty:Foc->Option Exit
 | .fin e=>some e
 | _=>none
def k13 (fn:Func):Code:=match kju fn with
 | some q=>q.2.2
 | none => .skip
def dfxQ (T:List (TypeId×TD)) (rs:List ResultVar) (gi0:Nat) (ids:List Nat) (E:HEnd) (post:List (Nat×AObj)) (ids':List Nat) (ψ0:Env) (S1:Nat->Prop) (w0:World) (keep:List Nat) (gi2:Nat) (ocs:List Value) (st:St):Exit->St->Prop:=fun e2 st2=>
 (e2 = .normal\/e2 = .ret)/\st2.dfr=[]/\∃ vs',kaa st2.heap gi2=some (.gho ocs vs')/\hQ T rs gi0 ids E post ids' ψ0 S1 w0 .ret (dstB keep gi2 vs' st st2)
theorem dfx (k gi2 t1 t2:Nat) (keep:List Nat) {rs:List ResultVar} {gi0:Nat} (gi:Nat) {ids ids':List Nat} {E:HEnd} {post:List (Nat×AObj)} {ψ0:Env} {S1:Nat->Prop} {w0:World} {f:FuncId} {fn2:Func} {cvals:List Value} {vs:List AV} (pv:Value) (e:Exit) (b: cvals.length = vs.length) (m: P.funcs[f]? = some fn2) (h: ∀ ocs, W P ⟨.code (k13 fn2), [], dst0 keep fn2.ntmps t1 t2 pv vs gi2 ocs (stOf (crun P k g))⟩ (dfxQ t.T rs gi0 ids E post ids' ψ0 S1 w0 keep gi2 ocs (stOf (crun P k g)))) (j: kaa (stOf (crun P k g)).heap gi = some (.gho cvals vs) := by kernel_rfl) (a: (bif nilK (crun P k g) then kty (crun P k g).foc else none) = some e := by kernel_rfl) (l: recV e = some pv := by kernel_rfl) (c: (stOf (crun P k g)).ids.contains gi2 = false := by kernel_rfl) (n: kju fn2 = some (t1, t2, k13 fn2):=by kernel_rfl) (hn: (fn2.name == "runtime.NumGoroutine") = false:=by kernel_rfl) (d: Nat.ble vs.length fn2.ntmps = true:=by kernel_rfl) (i: (stOf (crun P k g)).dfr = [dfn f cvals]:=by kernel_rfl): W P g (hdQ P t.T rs gi0 ids E post ids' ψ0 S1 w0) := by
 refine ka0 k ?_;generalize crun P k g=g' at *
 obtain ⟨foc,ks,st⟩:=g';cases ks with
 | cons=>cases a
 | nil=>
  simp only [nilK,qg] at a;unfold kty at a;split at a;injection a with a;subst a;exact .inr ⟨keep,f,fn2,t1,t2,k13 fn2,gi,cvals,vs,pv,gi2,i,j,b,m,n,hn,d,l,c,fun ocs=>h ocs⟩
  ·cases a
theorem ldx (k:Nat) {rs:List ResultVar} {gi0 gi2:Nat} {ids ids':List Nat} {res:AV} {post:List (Nat×AObj)} {ψ0:Env} {S1:Nat->Prop} {w0:World} {keep:List Nat} {ocs:List Value} (vs':List AV) {st:St} (st3:St) (hl:LeSt (dstB keep gi2 vs' st (stOf (crun P k g))) st3) (c:st3.heap=(gi0, .was ψ0 ids S1 w0)::post) (hi:st3.ids=gi0::ids') (hr:retA t.T st3 rs=some res:=by kernel_rfl) (hc:(bif nilK (crun P k g) && kgr (crun P k g).foc then kaa (stOf (crun P k g)).heap gi2 else none)=some (.gho ocs vs'):=by kernel_rfl) (a:(stOf (crun P k g)).dfr=[]:=by kernel_rfl):W P g (dfxQ t.T rs gi0 ids (.ret res) post ids' ψ0 S1 w0 keep gi2 ocs st):=by
 refine ka0 k ?_;generalize crun P k g=g' at *
 obtain ⟨foc,ks,st'⟩:=g';cases ks with
 | cons=>cases hc
 | nil=>
  simp only [nilK,Bool.true_and] at hc;cases b:kgr foc with
  | false=>rw [b] at hc;cases hc
  | true=>
   rw [b] at hc;unfold kgr at b;split at b;exact ⟨.inl rfl,a,vs',hc,ktr hl c hi (.inr rfl) hr⟩;exact ⟨.inr rfl,a,vs',hc,ktr hl c hi (.inr rfl) hr⟩
   ·cases b
theorem hdx {f: FuncId} {fn: Func} {args: List AV} {pre: List (Nat × AObj)} {ids: List Nat} {E: HEnd} {post: List (Nat × AObj)} {ids': List Nat} (gi: Nat) (d: P.funcs[f]? = some fn) (h: ∀ ψ0 S1 w0, W P ⟨.code (kgc fn), [], { n := fn.ntmps, tmps := argT 0 args, heap := (gi, .was ψ0 ids S1 w0) :: pre, ids := gi :: ids }⟩ (hdQ P t.T fn.results.toList gi ids E post ids' ψ0 S1 w0)) (e: fn.body.isSome = true := by kernel_rfl) (hn: (fn.name == "runtime.NumGoroutine") = false := by kernel_rfl) (a: Nat.ble args.length fn.ntmps = true := by kernel_rfl) (g: ids.contains gi = false := by kernel_rfl) (b: ids'.contains gi = false := by kernel_rfl) (c: (post.all fun p => okO ids' p.2) = true := by kernel_rfl) (i: E.ok ids' = true := by kernel_rfl) (hk: (post.all fun p => ids'.contains p.1) = true := by kernel_rfl): HCall P f args pre ids E post ids' :=
 kxw t.ok d (kln e) hn a g b c i hk h
theorem lhp (k:Nat) {rs:List ResultVar} {gi:Nat} {ids ids':List Nat} {v:Value} {post:List (Nat×AObj)} {ψ0:Env} {S1:Nat->Prop} {w0:World} (st2:St) (hl:LeSt (stOf (crun P k g)) st2) (a:st2.heap=(gi, .was ψ0 ids S1 w0)::post) (hi:st2.ids=gi::ids') (hd:st2.dfr=[]) (hc:(bif nilK (crun P k g) then kty (crun P k g).foc else none)=some (.panic [pnE v]):=by kernel_rfl):W P g (hQ t.T rs gi ids (.pan v) post ids' ψ0 S1 w0):=by
 refine ka0 k ?_;generalize crun P k g=g' at *
 obtain ⟨foc,ks,st⟩:=g';cases ks with
 | cons=>cases hc
 | nil=>
  simp only [nilK,qg] at hc;unfold kty at hc;split at hc;injection hc with hc;subst hc;exact kaa7 hl a hi hd
  ·cases hc
theorem hcx2 {α α':Type} {f:FuncId} {fn:Func} {args:List AV} {pre:List (Nat×AObj)} {ids:List Nat} {E:α->HEnd} {post:α->List (Nat×AObj)} {ids':List Nat} {E2:α'->HEnd} {post2:α'->List (Nat×AObj)} {ids2:List Nat} (gi:Nat) {r:α ⊕ α'} (j: P.funcs[f]? = some fn) (h:∀ ψ0 S1 w0,W P ⟨.code (kgc fn),[],{ n:=fn.ntmps,tmps:=argT 0 args,heap:=(gi, .was ψ0 ids S1 w0)::pre,ids:=gi::ids }⟩
   (Sum.elim (fun v=>hQ t.T fn.results.toList gi ids (E v) (post v) ids' ψ0 S1 w0) (fun v=>hQ t.T fn.results.toList gi ids (E2 v) (post2 v) ids2 ψ0 S1 w0) r)) (k: fn.body.isSome = true:=by kernel_rfl) (hn: (fn.name == "runtime.NumGoroutine") = false:=by kernel_rfl) (a: Nat.ble args.length fn.ntmps = true:=by kernel_rfl) (l: ids.contains gi = false:=by kernel_rfl) (b:ids'.contains gi=false:=by kernel_rfl) (c:∀ v,((post v).all fun p=>okO ids' p.2)=true:=by intro _;kernel_rfl) (m:∀ v,(E v).ok ids'=true:=by intro _;kernel_rfl) (hk:∀ v,((post v).all fun p=>ids'.contains p.1)=true:=by intro _;kernel_rfl) (d:ids2.contains gi=false:=by kernel_rfl) (e:∀ v,((post2 v).all fun p=>okO ids2 p.2)=true:=by intro _;kernel_rfl) (g:∀ v,(E2 v).ok ids2=true:=by intro _;kernel_rfl) (i:∀ v,((post2 v).all fun p=>ids2.contains p.1)=true:=by intro _;kernel_rfl):
  Sum.elim (fun v=>HCall P f args pre ids (E v) (post v) ids') (fun v=>HCall P f args pre ids (E2 v) (post2 v) ids2) r:=by
 cases r with
 | inl v=>exact hcx0 j k hn a l b (c v) (m v) (hk v) h
 | inr v=>exact hcx0 j k hn a l d (e v) (g v) (i v) h
theorem hpan [Rd] (k:Nat) {f:FuncId} {cap:List AV} {x:Operand} {args:Array Operand} {ts:Array TypeId} {cs:List C1} {as1 as2 pre:_} {ids0 ids1:List Nat} {v:Value} {post:List (Nat×AObj)} {keys:List Nat} (r1 r2:List (Nat×Nat)) (hv:okP (crun P k g)=true) (e:(kkf (crun P k g)).op = .call { callee := .value x,args:=args,argTypes:=ts })
  (hx:fnOf args.size ((stOf (crun P k g)).eval x)=some (f,cap)) (hc:HCall P f (as1++as2) pre ids0 (.pan v) post ids1) (a:klf (stOf (crun P k g)) r1 (renI r2 ids0) cs args.toList=some as1) (c:kkj r1 (renI r2 ids0) cap=some as2)
  (b:kid (stOf (crun P k g)) r1 r2 keys ids0 ids1 post=true) (d:preX (stOf (crun P k g)) r1 r2 (renI r2 ids0) keys=some pre)
  (h:W P ⟨.fin (.panic [pnE v]),[],{ stOf (crun P k g) with heap:=renH r2 post++kf2 (renI r2 ids0) (stOf (crun P k g)).heap,ids:=renI r2 ids1++(stOf (crun P k g)).ids }⟩ Q):W P g Q:=by
 refine ka0 k ?_;generalize crun P k g=g' at *
 obtain ⟨foc,ks,st⟩:=g';unfold okP at hv;simp only at hv;split at hv
 ·split at hv;rename_i i hd;exact h_pan r1 r2 e hx hc a c b d i (kvl h)
  ·cases hv
 ·cases hv
def kpk {γ:Type} (f:Oper->St->Option γ) (g:Cfg):Option γ:=bif okP g then f (kkf g) (stOf g) else none
theorem ksy {γ:Type} {f:Oper->St->Option γ} {z:γ} {g:Cfg} (h:kpk f g=some z):okP g=true/\f (kkf g) (stOf g)=some z:=by
 unfold kpk at h;cases hk:okP g with
 | false=>rw [hk] at h;cases h
 | true=>rw [hk] at h;exact ⟨rfl,h⟩
end
theorem kaat [Rd] {c:Code} (h:awp P c st Q):W P ⟨.code c,[],st⟩ Q:=h
theorem ktj [Rd] {c:Code} (h:W P ⟨.code c,[],st⟩ Q):awp P c st Q:=h
attribute [irreducible] W
end Go.Proofs.YtjnjipmjkkhdpaaGreatDoor
