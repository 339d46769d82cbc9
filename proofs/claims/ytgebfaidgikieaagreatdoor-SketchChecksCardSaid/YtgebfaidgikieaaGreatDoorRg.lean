import Derived.Test.YtgebfaidgikieaaGreatDoorXd
import Derived.Test.YtgebfaidgikieaaGreatDoorOpr
import Derived.RangeFuncNested
set_option linter.all false
set_option linter.unusedSectionVars false
namespace Go.Proofs.YtgebfaidgikieaaGreatDoor
open Go Go.RowKit
variable [Dr]
class Tab (P:Program) where
 T:List (TypeId×TD)
 ok:TOk P T
 mixed:P.follows .mixedOrders=true
abbrev FsT:=List (Nat×Option Nat×AV)
structure Zn where
 os:Array Oper
 n:Nat
 es:List Nat
 ch:List Nat
 ai:List Nat
inductive Foc where
 | code (c:Code)
 | ops (os:Array Oper) (l:List Oper)
 | drz (z:Zn) (k i:Nat) (l:List Oper) (fs:FsT) (hp:List (Nat×AObj)) (ids:List Nat) (pn:Option Nat)
 | dry (z:Zn) (k i:Nat) (l:List Oper) (fs:FsT) (hp:List (Nat×AObj)) (nid:List Nat) (es:List (Nat×Nat))
 | fin (e:Exit)
 | bad
inductive Frm where
 | seq (c:Code)
 | block (id:Nat)
structure Cfg where
 foc:Foc
 ks:List Frm
 st:St
def kvo (T:List (TypeId×TD)) (t:TypeId):Option TK:=match kae T t with
 | some d=>some d.kind
 | none=>none
def kagk (T:List (TypeId×TD)) (sr t:TypeId) (x:AV):Option AV:=match kvo T sr,kvo T t,x with
 | some _,some (.int k), .fz (.atom (.int _ n))=>some (.fz (.atom (.int k (k.wrap n))))
 | some .str,some .str, .fz (.atom (.string s))=>some (.fz (.atom (.string s)))
 | _,_,_=>none
def k07 (T:List (TypeId×TD)) (o:Oper) (st:St):Option AV:=match k1b T o st with
 | some c=>some c
 | none=>match o.op with
  | .convert sr t x=>kagk T sr t (st.eval x)
  | .call c=>match c.callee,c.args.toList with
   | .builtin .min,[x,y]=>match st.eval x,st.eval y with
    | .fz (.atom (.int k m)), .fz (.atom (.int _ n))=>some (.fz (.atom (.int k (imin m n))))
    | _,_=>none
   | .builtin .max,[x,y]=>match st.eval x,st.eval y with
    | .fz (.atom (.int k m)), .fz (.atom (.int _ n))=>some (.fz (.atom (.int k (imax m n))))
    | _,_=>none
   | _,_=>none
  | .makeInterface t x=>match kvo T t with
   | some .ifc=>none
   | some _=>match toV (st.eval x) with
    | some v=>some (.fz (.atom (.iface t v)))
    | none=>none
   | none=>none
  | .typeAssert x _ t true=>match kvo T t,st.eval x with
   | some .ifc,_=>none
   | some _, .fz (.atom (.iface t' v))=>bif Nat.beq t' t then (match ofV v with
    | some y=>some (.fz (.tup [y, .atom (.bool true)]))
    | none=>none) else none
   | _,_=>none
  | .binOp op t x (.const .nilIface) _=>match kvo T t,st.eval x,op with
   | some .ifc, .fz (.atom (.iface _ _)), .eql=>some (.fz (.atom (.bool false)))
   | some .ifc, .fz (.atom (.iface _ _)), .neq=>some (.fz (.atom (.bool true)))
   | some .ifc, .fz (.atom .nilIface), .eql=>some (.fz (.atom (.bool true)))
   | some .ifc, .fz (.atom .nilIface), .neq=>some (.fz (.atom (.bool false)))
   | _,_,_=>none
  | _=>none
theorem kg8 {T:List (TypeId×TD)} {t:TypeId} {k:TK} (h:kvo T t=some k):∃ d,kae T t=some d/\d.kind=k:=by
 unfold kvo at h;split at h;rename_i d hd;injection h with h;exact ⟨d,hd,h⟩
 ·cases h
theorem ktd {α:Type} {xs:Array α} {x y:α} (h:xs.toList=[x,y]):xs=#[x,y]:=by apply qbj;simpa using h
theorem k4c {P:Program} {T:List (TypeId×TD)} (e:TOk P T) {o:Oper} {st:St} {c:AV} (h:k07 T o st=some c):NStep P o st c:=by
 unfold k07 at h;split at h;rename_i c' hc;injection h with h;subst h;exact ku0 e _ (hx:=hc)
 ·split at h
  ·rename_i sr t x b;unfold kagk at h;split at h;rename_i ks k k' n h1 f i;injection h with h;subst h;obtain ⟨ds,hs,_⟩:=kg8 h1;obtain ⟨d,hd,hk⟩:=kg8 f;exact kaca e b hs hd hk i;rename_i s h1 f i;injection h with h;subst h;obtain ⟨ds,hs,j⟩:=kg8 h1;obtain ⟨d,hd,hk⟩:=kg8 f;exact k9a e b hs j hd hk i
   ·cases h
  ·rename_i c' b;obtain ⟨cc,as_,ts⟩:=c';split at h
   ·rename_i x y h1 f;simp only at h1 f;rw [h1,ktd f] at b;split at h;rename_i k m k' n hx hy;injection h with h;subst h;exact kagf b hx hy
    ·cases h
   ·rename_i x y h1 f;simp only at h1 f;rw [h1,ktd f] at b;split at h;rename_i k m k' n hx hy;injection h with h;subst h;exact kagl b hx hy
    ·cases h
   ·cases h
  ·rename_i tt x b;split at h;cases h
   ·rename_i kk g hk;obtain ⟨d,hd,a⟩:=kg8 hk;split at h;rename_i v hv;injection h with h;subst h;exact kajg b (e.get hd) (fun hi=>g (by rw [hi] at a;exact a.symm)) hv
    ·cases h
   ·cases h
  ·rename_i x xt tt b;split at h;cases h
   ·rename_i kk t' v g hk hx;obtain ⟨d,hd,a⟩:=kg8 hk;cases l:Nat.beq t' tt with
    | false=>rw [l] at h;cases h
    | true=>
     rw [l] at h;obtain rfl:=qi l;(try simp only [qe] at h);split at h;rename_i y hy;injection h with h;subst h;exact kab5 b (e.get hd) (fun hi=>g (by rw [hi] at a;exact a.symm)) hx hy
     ·cases h
   ·cases h
  ·rename_i op tt x yt b;split at h;rename_i s z hk hx;obtain ⟨d,hd,a⟩:=kg8 hk;injection h with h;subst h;exact krv false false b (e.get hd) a hx (.inl ⟨rfl,_,_,rfl⟩);rename_i s z hk hx;obtain ⟨d,hd,a⟩:=kg8 hk;injection h with h;subst h;exact krv true false b (e.get hd) a hx (.inl ⟨rfl,_,_,rfl⟩);rename_i hk hx;obtain ⟨d,hd,a⟩:=kg8 hk;injection h with h;subst h;exact krv false true b (e.get hd) a hx (.inr ⟨rfl,rfl⟩);rename_i hk hx;obtain ⟨d,hd,a⟩:=kg8 hk;injection h with h;subst h;exact krv true true b (e.get hd) a hx (.inr ⟨rfl,rfl⟩)
   ·cases h
  ·cases h
def unwN:List Frm->St->Cfg
 | [],st=>⟨.fin .normal,[],st⟩
 | .seq y::ks,st=>⟨.code y,ks,st⟩
 | .block _::ks,st=>unwN ks st
def unwX (id:Nat):List Frm->St->Cfg
 | [],st=>⟨.fin (.exit id),[],st⟩
 | .seq _::ks,st=>unwX id ks st
 | .block i::ks,st=>bif Nat.beq id i then unwN ks st else unwX id ks st
def unw:Exit->List Frm->St->Cfg
 | .normal,ks,st=>unwN ks st
 | .exit i,ks,st=>unwX i ks st
 | .ret,_,st=>⟨.fin .ret,[],st⟩
 | .panic cs,_,st=>⟨.fin (.panic cs),[],st⟩
 | _,_,st=>⟨.bad,[],st⟩
def kaaw (T:List (TypeId×TD)) (os:Array Oper) (o:Oper) (l:List Oper) (ks:List Frm) (st:St):Cfg:=match kb7 os st o,kux st o with
 | some true,true=>match kx6 T o st with
  | some (c,h,i)=>⟨.ops os l,ks,({ st with heap:=h,ids:=i }:St).put o.dst c⟩
  | none=>match k07 T o st with
   | some c=>⟨.ops os l,ks,st.put o.dst c⟩
   | none=>⟨.bad,ks,st⟩
 | some false,true=>⟨.ops os l,ks,st.put o.dst (.fz (.tup []))⟩
 | _,_=>⟨.bad,ks,st⟩
def k4s (T:List (TypeId×TD)) (os:Array Oper) (st:St) (o:Oper):Option AV:=match kb7 os st o with
 | some true=>k07 T o st
 | some false=>some (.fz (.tup []))
 | none=>none
def kaas:Code->List Frm->St->Cfg
 | .skip,ks,st=>unwN ks st
 | .label _,ks,st=>unwN ks st
 | .exit i,ks,st=>unwX i ks st
 | .ret,_,st=>⟨.fin .ret,[],st⟩
 | .seq x y,ks,st=>⟨.code x, .seq y::ks,st⟩
 | .block id c,ks,st=>⟨.code c, .block id::ks,st⟩
 | .cond c x y,ks,st=>match st.eval c with
  | .fz (.atom (.bool b))=>⟨.code (bif b then x else y),ks,st⟩
  | _=>⟨.bad,ks,st⟩
 | .region _ os false,ks,st=>⟨.ops os os.toList,ks,st⟩
 | _,ks,st=>⟨.bad,ks,st⟩
def kpq (z:Zn) (st:St) (i:Nat) (o:Oper) (fs:FsT) (hp:List (Nat×AObj)) (ids:List Nat):St:=kex z.os.toList z.n z.es z.ch z.ai st i o fs hp ids
def kaax (ch:List Nat):List (Nat×AObj)->Bool
 | (k,_)::_=>ch.contains k
 | []=>true
def kvf (ai ids ids':List Nat):Bool:=ids'.all ai.contains && ids.all ids'.contains
def k49 (z:Zn) (i:Nat):Option Nat->Bool
 | some e=>anc z.os.toList i e
 | none=>false
def kaa5 (T:List (TypeId×TD)) (z:Zn) (k i:Nat) (o:Oper) (l:List Oper) (fs:FsT) (hp:List (Nat×AObj)) (ids:List Nat) (pn:Option Nat) (ks:List Frm) (st:St):Cfg:=
 bif k49 z i pn then ⟨.drz z k (i+1) l ((i,o.dst, .any)::fs) hp ids pn,ks,st⟩ else
 bif z.es.contains i then (match kb7 z.os (kpq z st i o fs hp ids) o,kx6 T o (kpq z st i o fs hp ids),pn with
  | some false,_,none=>bif kvf z.ai ids ids then ⟨.drz z k (i+1) l ((i,o.dst, .fz (.tup []))::fs) hp ids none,ks,st⟩ else ⟨.bad,ks,st⟩
  | some true,some (c,a,i'),none=>bif Nat.beq (kpq z st i o fs hp ids).heap.length hp.length && (phB z.os.toList z.es i && (kaax z.ch a && kvf z.ai ids i')) then ⟨.drz z k (i+1) l ((i,o.dst,c)::fs) a i' none,ks,st⟩ else ⟨.bad,ks,st⟩
  | _,_,_=>⟨.bad,ks,st⟩)
 else (match k4s T z.os (kpq z st i o fs hp ids) o with
  | some c=>bif phB z.os.toList z.es i || okA st.ids c then ⟨.drz z k (i+1) l ((i,o.dst,c)::fs) hp ids pn,ks,st⟩ else ⟨.bad,ks,st⟩
  | none=>⟨.bad,ks,st⟩)
def k1w (z:Zn) (st:St) (i:Nat) (o:Oper) (fs:FsT):St:=kyk z.os.toList z.n z.ai st i o fs
def k5t (T:List (TypeId×TD)) (o:Oper):Option (TypeId×List AV):=match o.op with
 | .alloc e=>match kae T e with
  | some d=>match ks0 d with
   | some cells=>some (e,cells)
   | none=>none
  | none=>none
 | _=>none
def k7g (T:List (TypeId×TD)) (v:St) (o:Oper):Option (Nat×AObj):=match o.op with
 | .store t x y=>match kxj T v t x y with
  | some (_,q::_,_)=>some q
  | _=>none
 | _=>none
def k7l (z:Zn) (st:St) (es:List (Nat×Nat)) (id:Nat):Bool:=!(st.ids.contains id || (st.heap.any fun q=>q.1 == id) || (es.any fun q=>q.2 == id) || !z.ai.contains id)
def kabd (T:List (TypeId×TD)) (z:Zn) (k i:Nat) (o:Oper) (l:List Oper) (fs:FsT) (hp:List (Nat×AObj)) (nid:List Nat) (es:List (Nat×Nat)) (ks:List Frm) (st:St):Cfg:=
 match k4s T z.os (k1w z st i o fs) o with
 | some c=>bif okA (idsB z.os.toList i nid es st.ids) c then ⟨.dry z k (i+1) l ((i,o.dst,c)::fs) hp nid es,ks,st⟩ else ⟨.bad,ks,st⟩
 | none=>match kb7 z.os (k1w z st i o fs) o,k5t T o with
  | some true,some (e,cells)=>bif k7l z st es (fresh (nid++st.ids)) then ⟨.dry z k (i+1) l ((i,o.dst, .ref (fresh (nid++st.ids)) 0 0)::fs) ((fresh (nid++st.ids), .box e cells)::hp) (fresh (nid++st.ids)::nid) ((i,fresh (nid++st.ids))::es),ks,st⟩ else ⟨.bad,ks,st⟩
  | some true,none=>match k7g T { k1w z st i o fs with heap:=hp++st.heap } o with
   | some q=>bif !(st.heap.any fun r=>r.1 == q.1) && befB z.os.toList i q.1 es then ⟨.dry z k (i+1) l ((i,o.dst, .any)::fs) (q::hp) nid ((i,q.1)::es),ks,st⟩ else ⟨.bad,ks,st⟩
   | none=>⟨.bad,ks,st⟩
  | _,_=>⟨.bad,ks,st⟩
def k93 (T:List (TypeId×TD)) (g:Cfg):Cfg:=match g with
 | ⟨.code c,ks,st⟩=>kaas c ks st
 | ⟨.ops _ [],ks,st⟩=>unwN ks st
 | ⟨.ops os (o::l),ks,st⟩=>kaaw T os o l ks st
 | ⟨.drz z 0 _ l fs hp ids none,ks,st⟩=>⟨.ops z.os l,ks,{ st with tmps:=hadd fs (fun _=>true) st.tmps,heap:=hp,ids:=ids }⟩
 | ⟨.drz z (k+1) i (o::l) fs hp ids pn,ks,st⟩=>kaa5 T z k i o l fs hp ids pn ks st
 | ⟨.dry z 0 _ l fs hp nid _,ks,st⟩=>⟨.ops z.os l,ks,{ st with tmps:=hadd fs (fun _=>true) st.tmps,heap:=hp++st.heap,ids:=nid++st.ids }⟩
 | ⟨.dry z (k+1) i (o::l) fs hp nid es,ks,st⟩=>kabd T z k i o l fs hp nid es ks st
 | ⟨_,ks,st⟩=>⟨.bad,ks,st⟩
def crunT (T:List (TypeId×TD)) (k:Nat) (g:Cfg):Cfg:=Nat.rec g (fun _ r=>k93 T r) k
def crun (P:Program) [t:Tab P] (k:Nat) (g:Cfg):Cfg:=crunT t.T k g
def kgq [Rd] (P:Program):List Frm->(Exit->St->Prop)->Exit->St->Prop
 | [],Q=>Q
 | .seq y::ks,Q=>kagi (fun st=>awp P y st (kgq P ks Q)) (kgq P ks Q)
 | .block id::ks,Q=>k2a id (kgq P ks Q)
def FW [Rd] (P:Program) (foc:Foc) (st:St) (Q:Exit->St->Prop):Prop:=match foc with
 | .code c=>awp P c st Q
 | .ops os l=>awpL P os l st Q
 | .drz z k i l fs hp ids pn=>krl P z.os z.n z.es z.ch z.ai Q st k i l fs hp ids pn
 | .dry z k i l fs hp nid es=>k0w P z.os z.n z.ai Q st k i l fs hp nid es
 | .fin e=>Q e st
 | .bad=>False
def W [Rd] (P:Program) (g:Cfg) (Q:Exit->St->Prop):Prop:=FW P g.foc g.st (kgq P g.ks Q)
section
variable {P:Program} {T:List (TypeId×TD)} {Q:Exit->St->Prop} {st:St} {ks:List Frm}
theorem kpd [Rd]:∀ {ks:List Frm},W P (unwN ks st) Q->kgq P ks Q .normal st
 | [],h=>h
 | .seq _::_,h=>h
 | .block id::ks,h=>show k2a id (kgq P ks Q) .normal st from kpd (ks:=ks) h
theorem kx3 [Rd] {i:Nat}:∀ {ks:List Frm},W P (unwX i ks st) Q->kgq P ks Q (.exit i) st
 | [],h=>h
 | .seq _::ks,h=>kx3 (ks:=ks) h
 | .block id::ks,h=>by
  show (if i=id then kgq P ks Q .normal st else kgq P ks Q (.exit i) st);simp only [unwX] at h;by_cases hi:i=id;subst hi;rw [qs rfl];simp only [Nat.beq_refl,qe] at h;exact kpd h
  ·rw [ql hi];rw [Nat.beq_eq_false hi] at h;exact kx3 h
theorem kyg [Rd] {ks:List Frm}:Q .ret st->kgq P ks Q .ret st:=by
 induction ks with
 | nil=>exact id
 | cons k ks ih=>cases k <;> exact ih
theorem k24 [Rd] {cs} {ks:List Frm}:Q (.panic cs) st->kgq P ks Q (.panic cs) st:=by
 induction ks with
 | nil=>exact id
 | cons k ks ih=>cases k <;> exact ih
theorem k69 [Rd] {e:Exit} {ks:List Frm} (h:W P (unw e ks st) Q):kgq P ks Q e st:=by
 cases e with
 | normal=>exact kpd h
 | exit i=>exact kx3 h
 | ret=>exact kyg h
 | panic cs=>exact k24 h
 | _=>exact h.elim
theorem k7x (b:TOk P T) {os:Array Oper} {o:Oper} {c:AV} (h:k4s T os st o=some c):(kb7 os st o=some true/\NStep P o st c)\/(kb7 os st o=some false/\c = .fz (.tup [])):=by
 unfold k4s at h;split at h;rename_i a;exact .inl ⟨a,k4c b h⟩;rename_i a;injection h with h;exact .inr ⟨a,h.symm⟩
 ·cases h
theorem kad2 [Rd] (b:TOk P T) {os:Array Oper} {o:Oper} {l:List Oper} (h:W P (kaaw T os o l ks st) Q):awpL P os (o::l) st (kgq P ks Q):=by
 unfold kaaw at h;split at h
 ·rename_i a hd;split at h;rename_i c d i hx;exact k1s (k6y b hx) a (kp2 hd) h
  ·split at h;rename_i c hx;exact k1s (k4c b hx).step a (kp2 hd) h
   ·exact h.elim
 rename_i a hd;exact kakk a (kp2 hd) h
 ·exact h.elim
theorem kaff [Rd] {c:Code} (h:W P (kaas c ks st) Q):awp P c st (kgq P ks Q):=by
 unfold kaas at h;split at h;exact kaeu (kpd h);exact fun F S0 N0 ψ S a w hs=>kadt ⟨st,ψ,S,kpd h,hs,Fr.refl⟩;exact kae0 (kx3 h);exact kahb (kyg h);exact kahm h;exact kada h
 ·split at h;rename_i b;exact k6u b h
  ·exact h.elim
 exact kaaz h
 ·exact h.elim
theorem k9y {o:Oper} {c:AV} {h:List (Nat×AObj)} {i:List Nat} (hx:kx6 T o st=some (c,h,i)):h=st.heap\/∃ id ob,h=(id,ob)::st.heap:=by
 unfold kx6 at hx;have a:∀ {e:TypeId} {cells:List AV},boxX e st cells=some (c,h,i)->h=st.heap\/∃ id ob,h=(id,ob)::st.heap:=fun {e cells} hx=>by
  unfold boxX at hx;cases d:(cells.all AV.single && !st.ids.contains (Go.Proofs.YtgebfaidgikieaaGreatDoor.fresh st.ids)) with
  | false=>rw [d] at hx;cases hx
  | true=>rw [d] at hx;simp only [qe,qc,qq] at hx;exact .inr ⟨_,_,hx.2.1.symm⟩
 split at hx;exact a hx
 ·split at hx
  ·split at hx;exact a hx
   ·cases hx
  ·cases hx
 ·unfold kxj at hx;split at hx
  ·split at hx
   ·rename_i e cells f;generalize (Nat.beq _ 0 && _)=b at hx;cases b with
    | false=>cases hx
    | true=>simp only [qe,qc,qq] at hx;exact .inr ⟨_,_,hx.2.1.symm⟩
   ·cases hx
  ·cases hx
 ·refine .inl ?_;generalize k1b T o st=c0 at hx;cases c0 with
  | none=>cases hx
  | some x=>simp only [nres,qc,qq] at hx;exact hx.2.1.symm
theorem kz5 {ai ids ids':List Nat} (h:kvf ai ids ids'=true):(∀ id,id∈ids'->id∈ai)/\∀ id,id∈ids->id∈ids':=by unfold kvf at h;simp only [qo] at h;exact ⟨fun id hi=>by simpa using qp.1 h.1 id hi,fun id hi=>by simpa using qp.1 h.2 id hi⟩
theorem kaew [Rd] (m:TOk P T) {z:Zn} {k i:Nat} {o:Oper} {l:List Oper} {fs:FsT} {hp:List (Nat×AObj)} {ids:List Nat} {pn:Option Nat} (h:W P (kaa5 T z k i o l fs hp ids pn ks st) Q):krl P z.os z.n z.es z.ch z.ai (kgq P ks Q) st (k+1) i (o::l) fs hp ids pn:=by
 unfold kaa5 at h;cases hd:k49 z i pn with
 | true=>
  rw [hd] at h;cases pn with
  | none=>cases hd
  | some e=>exact .inl ⟨e,rfl,hd,h⟩
 | false=>
  rw [hd] at h;simp only [qd] at h;cases d:z.es.contains i with
  | true=>
   rw [d] at h;simp only [qe] at h;split at h
   ·rename_i g;cases a:kvf z.ai ids ids with
    | false=>rw [a] at h;exact h.elim
    | true=>
     rw [a] at h;exact .inr (.inr (.inl ⟨d,rfl,_,hp,ids,⟨.inr ⟨g,rfl,rfl,rfl⟩, .inr ⟨fun _ _ _ h=>h,kz5 a⟩⟩,h⟩))
   ·rename_i c p i' g hx;generalize a:(Nat.beq (kpq z st i o fs hp ids).heap.length hp.length && (phB z.os.toList z.es i && (kaax z.ch p && kvf z.ai ids i')))=b at h;cases b with
    | false=>exact h.elim
    | true=>
     simp only [qo] at a;obtain ⟨_,b2,b3,b4⟩:=a;refine .inr (.inr (.inl ⟨d,rfl,c,p,i',⟨.inl ⟨g,k6y m hx⟩, .inr ⟨?_,kz5 b4⟩⟩,h⟩));have hv:(kpq z st i o fs hp ids).heap=hp:=(by show (bif phB z.os.toList z.es i then hp else _)=hp;rw [b2];rfl);rcases k9y hx with f | ⟨id,ob,f⟩;rw [f,hv];exact fun _ _ _ h=>h
     ·rw [f,hv];rw [f] at b3;intro id' j ob' q;rw [kac,ql];exact q
      ·rintro rfl;exact j (by simpa [kaax] using b3)
   ·exact h.elim
  | false=>
   rw [d] at h;simp only [qd] at h;split at h
   ·rename_i c hc;cases hk:(phB z.os.toList z.es i || okA st.ids c) with
    | false=>rw [hk] at h;exact h.elim
    | true=>rw [hk] at h;exact .inr (.inl ⟨d,c,k7x m hc,hk,h⟩)
   ·exact h.elim
theorem kacf (c:TOk P T) {o:Oper} {e:TypeId} {cells:List AV} (h:k5t T o=some (e,cells)) {v:St} (id:Nat):kagt P v o (.ref id 0 0) id (.box e cells):=by
 unfold k5t at h;split at h
 ·rename_i e' f;split at h
  ·rename_i d hd;split at h;rename_i cells' g;simp only [qc,qq] at h;obtain ⟨rfl,rfl⟩:=h;exact fun a ids' b=>k2l (st:={ v with heap:=a,ids:=ids' }) f (c.get hd) g b
   ·cases h
  ·cases h
 ·cases h
theorem kabm (f:TOk P T) {v:St} {o:Oper} {q:Nat×AObj} (h:k7g T v o=some q):kags P v o .any q.1 q.2:=by
 unfold k7g at h;split at h
 ·rename_i t x y g;unfold kxj at h;cases hd:kae T t with
  | none=>rw [hd] at h;cases h
  | some d=>
   rw [hd] at h;generalize hx:v.eval x=ex at h;cases ex with
   | ref id n off=>
    simp only at h;cases a:kaa v.heap id with
    | none=>rw [a] at h;cases h
    | some ob=>
     rw [a] at h;cases ob with
     | box e cells=>
      simp only at h;cases b:(Nat.beq n 0 && (Nat.beq (v.eval y).cells.length d.size && ((v.eval y).cells.all AV.single && Nat.ble (off+(v.eval y).cells.length) cells.length))) with
      | false=>rw [b] at h;cases h
      | true=>
       rw [b] at h;simp only [qe,qc] at h;subst h;simp only [qo] at b;obtain ⟨b1,b2,b3,b4⟩:=b;obtain rfl:=qi b1;exact fun c ids' hl=>k8o (st:={ v with heap:=c,ids:=ids' }) g (f.get hd) hx (by rw [<- a];exact hl) rfl (qi b2) b3 (qn b4)
     | _=>cases h
   | _=>cases h
 ·cases h
theorem kad8 [Rd] (b:TOk P T) {z:Zn} {k i:Nat} {o:Oper} {l:List Oper} {fs:FsT} {hp:List (Nat×AObj)} {nid:List Nat} {es:List (Nat×Nat)} (h:W P (kabd T z k i o l fs hp nid es ks st) Q):k0w P z.os z.n z.ai (kgq P ks Q) st (k+1) i (o::l) fs hp nid es:=by
 unfold kabd at h;split at h
 ·rename_i c hc;cases hk:okA (idsB z.os.toList i nid es st.ids) c with
  | false=>rw [hk] at h;exact h.elim
  | true=>rw [hk] at h;exact .inl ⟨c,k7x b hc,hk,h⟩
 ·split at h
  ·rename_i e cells d ha;cases hk:k7l z st es (Go.Proofs.YtgebfaidgikieaaGreatDoor.fresh (nid++st.ids)) with
   | false=>rw [hk] at h;exact h.elim
   | true=>
    rw [hk] at h;have a:=hk;unfold k7l at a;rw [qbm] at a;exact .inr (.inl ⟨_,_,_,d,kacf b ha _,a,h⟩)
  ·rename_i d _;split at h
   ·rename_i q f;cases hk:(!(st.heap.any fun r=>r.1 == q.1) && befB z.os.toList i q.1 es) with
    | false=>rw [hk] at h;exact h.elim
    | true=>
     rw [hk] at h;rw [qo,qbm] at hk;exact .inr (.inr ⟨_,_,_,d,kabm b f,hk.1,hk.2,h⟩)
   ·exact h.elim
  ·exact h.elim
theorem kae4 [Rd] (a:TOk P T) {g:Cfg} (h:W P (k93 T g) Q):W P g Q:=by
 unfold k93 at h;split at h;exact kaff h;exact l_nil (kpd h);exact kad2 a h;exact h;exact kaew a h;exact h;exact kad8 a h
 ·exact h.elim
theorem kbl [Rd] [t:Tab P] (k:Nat) {g:Cfg} (h:W P (crun P k g) Q):W P g Q:=by
 unfold crun at h
 induction k with
 | zero=>exact h
 | succ k ih=>exact ih (kae4 t.ok h)
variable [t:Tab P] {g:Cfg} {β:Type} {r:β}
def kxi (g:Cfg):Bool:=match g.foc with
 | .code _=>true
 | .ops _ _=>true
 | _=>false
def kai6 (g:Cfg):Bool:=match g.foc with
 | .code _=>true
 | _=>false
def stOf (g:Cfg):St:=g.st
def kpv (g:Cfg) (st:St):Cfg:=⟨g.foc,g.ks,st⟩
theorem wle [Rd] (k:Nat) {st':St} (hl:LeSt (stOf (crun P k g)) st') (h:W P (kpv (crun P k g) st') Q) (hc:kxi (crun P k g)=true:=by kernel_rfl):W P g Q:=by
 refine kbl k ?_;generalize crun P k g=g' at *
 obtain ⟨foc,ks,st⟩:=g';cases foc with
 | code c=>exact kadf hl h
 | ops os l=>exact l_le hl h
 | _=>cases hc
def kagq (g:Cfg):Option Bool:=match g.foc with
 | .code (.cond c _ _)=>match g.st.eval c with
  | .fz (.atom (.bool b))=>some b
  | _=>none
 | _=>none
def brc (b:Bool) (g:Cfg):Cfg:=match g.foc with
 | .code (.cond _ x y)=>⟨.code (bif b then x else y),g.ks,g.st⟩
 | _=>⟨.bad,g.ks,g.st⟩
theorem cd [Rd] (k:Nat) {b:Bool} {X Y:Option β} (h:(bif b then X else Y)=some r) (h1:X=some r->W P (brc true (crun P k g)) Q) (a:Y=some r->W P (brc false (crun P k g)) Q) (hc:kagq (crun P k g)=some b:=by kernel_rfl):W P g Q:=by
 refine kbl k ?_;generalize crun P k g=g' at *
 obtain ⟨foc,ks,st⟩:=g';have key:W P (brc b ⟨foc,ks,st⟩) Q:=by
  cases b with
  | true=>exact h1 h
  | false=>exact a h
 unfold kagq at hc;simp only at hc;split at hc
 ·rename_i c x y;split at hc;rename_i b' d;injection hc with hc;subst hc;exact k6u d key
  ·cases hc
 ·cases hc
def setT (t:Nat) (v:AV):List (Nat×AV)->List (Nat×AV)
 | []=>[]
 | (k,x)::l=>bif Nat.beq k t then (k,v)::l else (k,x)::setT t v l
def setF (j:Nat) (v:AV):FsT->FsT
 | []=>[]
 | (k,d,x)::l=>bif Nat.beq k j then (k,d,v)::l else (k,d,x)::setF j v l
def getF (j:Nat):FsT->Option AV
 | []=>none
 | (k,d,x)::l=>bif Nat.beq k j then some x else getF j l
def kyi:AV->Option Bool
 | .fz (.atom (.bool b))=>some b
 | _=>none
def k5w (g:Cfg):Option Bool:=match g.foc with
 | .ops os (o::_)=>match o.guard with
  | some (j,_)=>match (os[j]?).bind (·.dst) with
   | some t=>kyi (g.st.get t)
   | none=>none
  | none=>none
 | .drz _ _ _ (o::_) fs _ _ _=>match o.guard with
  | some (j,_)=>match getF j fs with
   | some v=>kyi v
   | none=>none
  | none=>none
 | _=>none
def setG (b:Bool) (g:Cfg):Cfg:=match g.foc with
 | .ops os (o::l)=>match o.guard with
  | some (j,_)=>match (os[j]?).bind (·.dst) with
   | some t=>⟨.ops os (o::l),g.ks,{ g.st with tmps:=setT t (.fz (.atom (.bool b))) g.st.tmps }⟩
   | none=>g
  | none=>g
 | .drz z k i (o::l) fs hp ids pn=>match o.guard with
  | some (j,_)=>⟨.drz z k i (o::l) (setF j (.fz (.atom (.bool b))) fs) hp ids pn,g.ks,g.st⟩
  | none=>g
 | _=>g
theorem k8s {t:Nat} {b:Bool}:∀ {l:List (Nat×AV)},kyi (look .any l t)=some b->setT t (.fz (.atom (.bool b))) l=l
 | [],_=>rfl
 | (k,x)::l,h=>by
  simp only [setT,look] at h ⊢;cases hk:Nat.beq k t with
  | true=>
   rw [hk] at h;simp only [qe] at h ⊢;unfold kyi at h;split at h;injection h with h;rw [h]
   ·cases h
  | false=>rw [hk] at h;simp only [qd] at h ⊢; rw [k8s h]
theorem k9n {j:Nat} {b:Bool}:∀ {l:FsT} {v:AV},getF j l=some v->kyi v=some b->setF j (.fz (.atom (.bool b))) l=l
 | [],_,h,_=>rfl
 | (k,d,x)::l,v,h,a=>by
  simp only [setF,getF] at h ⊢;cases hk:Nat.beq k j with
  | true=>
   rw [hk] at h;simp only [qe,qc] at h ⊢;subst h;unfold kyi at a;split at a;injection a with a;rw [a]
   ·cases a
  | false=>rw [hk] at h;simp only [qd] at h ⊢; rw [k9n h a]
theorem kah0 {b:Bool} (h:k5w g=some b):setG b g=g:=by
 obtain ⟨foc,ks,st⟩:=g;unfold k5w at h;unfold setG;cases foc with
 | ops os l=>
  cases l with
  | nil=>rfl
  | cons o l=>
   (try dsimp only at h ⊢);split at h
   ·rename_i j w a;split at h;rename_i t ht;(try simp only [ht]);rw [k8s h]
    ·cases h
   ·cases h
 | drz z k i l fs hp ids pn=>
  cases l with
  | nil=>rfl
  | cons o l=>
   (try dsimp only at h ⊢);split at h
   ·rename_i j w a;split at h;rename_i v hv;(try dsimp only);rw [k9n hv h]
    ·cases h
   ·cases h
 | _=>rfl
theorem gd [Rd] (k:Nat) {b:Bool} {X Y:Option β} (h:(bif b then X else Y)=some r) (h1:X=some r->W P (setG true (crun P k g)) Q) (a:Y=some r->W P (setG false (crun P k g)) Q) (hc:k5w (crun P k g)=some b:=by kernel_rfl):W P g Q:=by
 refine kbl k ?_;rw [<- kah0 hc];cases b with
 | true=>exact h1 h
 | false=>exact a h
def kse (g:Cfg):Option (Oper×St):=match g.foc with
 | .ops os (o::_)=>match kb7 os g.st o,kux g.st o with
  | some true,true=>some (o,g.st)
  | _,_=>none
 | .drz z (_+1) i (o::_) fs hp ids pn=>match kb7 z.os (kpq z g.st i o fs hp ids) o with
  | some true=>bif z.es.contains i || k49 z i pn then none else some (o,kpq z g.st i o fs hp ids)
  | _=>none
 | .dry z (_+1) i (o::_) fs _ _ _=>match kb7 z.os (k1w z g.st i o fs) o with
  | some true=>some (o,k1w z g.st i o fs)
  | _=>none
 | _=>none
def kol (g:Cfg):Oper:=match g.foc with
 | .ops _ (o::_)=>o
 | .drz _ _ _ (o::_) _ _ _ _=>o
 | .dry _ _ _ (o::_) _ _ _ _=>o
 | _=>default
def k40 (g:Cfg):St:=match kse g with
 | some p=>p.2
 | none=>g.st
def rsm (c:AV) (g:Cfg):Cfg:=match g.foc with
 | .ops os (o::l)=>⟨.ops os l,g.ks,g.st.put o.dst c⟩
 | .drz z (k+1) i (o::l) fs hp ids pn=>bif phB z.os.toList z.es i || okA g.st.ids c then ⟨.drz z k (i+1) l ((i,o.dst,c)::fs) hp ids pn,g.ks,g.st⟩ else ⟨.bad,g.ks,g.st⟩
 | .dry z (k+1) i (o::l) fs hp nid es=>bif okA (idsB z.os.toList i nid es g.st.ids) c then ⟨.dry z k (i+1) l ((i,o.dst,c)::fs) hp nid es,g.ks,g.st⟩ else ⟨.bad,g.ks,g.st⟩
 | _=>⟨.bad,g.ks,g.st⟩
end
variable {P:Program} {T:List (TypeId×TD)} {Q:Exit->St->Prop} {st:St} {ks:List Frm} {g:Cfg} {β:Type} {r:β}
theorem k6p [Rd] {o:Oper} {v:St} {c:AV} (hv:kse g=some (o,v)) (hn:NStep P o v c) (h:W P (rsm c g) Q):W P g Q:=by
 obtain ⟨foc,ks,st⟩:=g;unfold kse at hv;simp only at hv;split at hv
 ·split at hv;rename_i a hd;simp only [qc,qq] at hv;obtain ⟨rfl,rfl⟩:=hv;exact k1s hn.step a (kp2 hd) h
  ·cases hv
 ·rename_i z k i o' l fs hp ids pn;split at hv
  ·rename_i a;generalize d:(z.es.contains i || k49 z i pn)=b at hv;cases b with
   | true=>cases hv
   | false=>
    rw [Bool.or_eq_false_iff] at d;simp only [qd,qc,qq] at hv;obtain ⟨rfl,rfl⟩:=hv;simp only [rsm] at h;cases hk:(phB z.os.toList z.es i || okA st.ids c) with
    | false=>rw [hk] at h;exact h.elim
    | true=>rw [hk] at h;exact .inr (.inl ⟨d.1,c, .inl ⟨a,hn⟩,hk,h⟩)
  ·cases hv
 ·rename_i z k i o' l fs hp nid es;split at hv
  ·rename_i a;simp only [qc,qq] at hv;obtain ⟨rfl,rfl⟩:=hv;simp only [rsm] at h;cases hk:okA (idsB z.os.toList i nid es st.ids) c with
   | false=>rw [hk] at h;exact h.elim
   | true=>rw [hk] at h;exact .inl ⟨c, .inl ⟨a,hn⟩,hk,h⟩
  ·cases hv
 ·cases hv
section
variable {P:Program} {T:List (TypeId×TD)} {Q:Exit->St->Prop} {st:St} {ks:List Frm} [t:Tab P] {g:Cfg} {β:Type} {r:β}
def mokV (g:Cfg):Bool:=(kse g).isSome
theorem k55 {o:Oper} {v:St} (h:kse g=some (o,v)):kol g=o/\k40 g=v:=by
 refine ⟨?_,by unfold k40;rw [h]⟩;obtain ⟨foc,ks,st⟩:=g;unfold kse at h;unfold kol;simp only at h ⊢;split at h
 ·split at h;simp only [qc,qq] at h;exact h.1
  ·cases h
 ·rename_i z k i o' l fs hp ids pn;split at h
  ·generalize (z.es.contains i || _)=b at h;cases b with
   | true=>cases h
   | false=>simp only [qd,qc,qq] at h;exact h.1
  ·cases h
 ·split at h;simp only [qc,qq] at h;exact h.1
  ·cases h
 ·cases h
theorem nst [Rd] (k:Nat) {c:AV} (hn:NStep P (kol (crun P k g)) (k40 (crun P k g)) c) (h:W P (rsm c (crun P k g)) Q) (hv:mokV (crun P k g)=true:=by kernel_rfl):W P g Q:=by refine kbl k ?_;unfold mokV at hv;obtain ⟨⟨o,v⟩,hv⟩:=Option.isSome_iff_exists.1 hv;obtain ⟨e1,e2⟩:=k55 hv;rw [e1,e2] at hn;exact k6p hv hn h
def okP (g:Cfg):Bool:=match g.foc with
 | .ops os (o::_)=>match kb7 os g.st o,kux g.st o with
  | some true,true=>true
  | _,_=>false
 | _=>false
def rsmA (c:AV) (h:List (Nat×AObj)) (i:List Nat) (g:Cfg):Cfg:=match g.foc with
 | .ops os (o::l)=>⟨.ops os l,g.ks,({ g.st with heap:=h,ids:=i }:St).put o.dst c⟩
 | _=>⟨.bad,g.ks,g.st⟩
theorem sst [Rd] (k:Nat) {c:AV} {h:List (Nat×AObj)} {i:List Nat} (hn:StepA P (kol (crun P k g)) (stOf (crun P k g)) c h i) (a:W P (rsmA c h i (crun P k g)) Q) (hv:okP (crun P k g)=true:=by kernel_rfl):W P g Q:=by
 refine kbl k ?_;generalize crun P k g=g' at *
 obtain ⟨foc,ks,st⟩:=g';unfold okP at hv;simp only at hv;split at hv
 ·split at hv;rename_i b hd;exact k1s hn b (kp2 hd) a
  ·cases hv
 ·cases hv
def dzOk (n:Nat) (es ai:List Nat) (g:Cfg):Bool:=match g.foc with
 | .code (.region _ os true)=>relB os.toList n g.st.n && (ksb os.toList n es && g.st.ids.all ai.contains)
 | _=>false
def dzOf (n:Nat) (es ch ai:List Nat) (g:Cfg):Cfg:=match g.foc with
 | .code (.region _ os true)=>⟨.drz ⟨os,n,es,ch,ai⟩ n 0 os.toList [] g.st.heap g.st.ids none,g.ks,g.st⟩
 | _=>⟨.bad,g.ks,g.st⟩
theorem dz [Rd] (k n:Nat) (es ch ai:List Nat) (a:W P (dzOf n es ch ai (crun P k g)) Q) (hc:dzOk n es ai (crun P k g)=true:=by kernel_rfl):W P g Q:=by
 refine kbl k ?_;generalize crun P k g=g' at *
 obtain ⟨foc,ks,st⟩:=g';unfold dzOk at hc;simp only at hc;split at hc;rename_i id os;simp only [qo] at hc;obtain ⟨l⟩:=os;exact kahh t.mixed hc.1 hc.2.1 hc.2.2 a
 ·cases hc
def kagb (g:Cfg):List Nat:=g.st.ids
theorem dw [Rd] (k n:Nat) (hc:dzOk n [] (kagb (crun P k g)) (crun P k g)=true) (a:W P (dzOf n [] [] (kagb (crun P k g)) (crun P k g)) Q):W P g Q:=dz k n [] [] _ a (hc:=hc)
def okZ (g:Cfg):Bool:=match g.foc with
 | .drz z (_+1) i (o::_) fs hp ids none=>z.es.contains i && (match kb7 z.os (kpq z g.st i o fs hp ids) o with | some true=>true | _=>false)
 | _=>false
def kmp (g:Cfg):St:=match g.foc with
 | .drz z _ i (o::_) fs hp ids _=>kpq z g.st i o fs hp ids
 | _=>g.st
def offZ (g:Cfg) (h:List (Nat×AObj)):List (Option AObj):=match g.foc with
 | .drz z _ _ _ _ hp _ _=>(kvv z.ch hp).map (kaa h)
 | _=>[]
def hpZ (g:Cfg):List (Nat×AObj):=match g.foc with
 | .drz _ _ _ _ _ hp _ _=>hp
 | _=>[]
def idsZ (i':List Nat) (g:Cfg):Bool:=match g.foc with
 | .drz z _ _ _ _ _ ids _=>kvf z.ai ids i'
 | _=>false
def rsmZ (c:AV) (a:List (Nat×AObj)) (i':List Nat) (g:Cfg):Cfg:=match g.foc with
 | .drz z (k+1) i (o::l) fs _ _ _=>⟨.drz z k (i+1) l ((i,o.dst,c)::fs) a i' none,g.ks,g.st⟩
 | _=>⟨.bad,g.ks,g.st⟩
theorem zst [Rd] (k:Nat) {c:AV} {a:List (Nat×AObj)} {i':List Nat} (hn:StepA P (kol (crun P k g)) (kmp (crun P k g)) c a i') (hv:okZ (crun P k g)=true) (hi:idsZ i' (crun P k g)=true) (hk:offZ (crun P k g) a=offZ (crun P k g) (hpZ (crun P k g))) (d:W P (rsmZ c a i' (crun P k g)) Q):W P g Q:=by
 refine kbl k ?_;generalize crun P k g=g' at *
 obtain ⟨foc,ks,st⟩:=g';unfold okZ at hv;simp only at hv;split at hv
 ·rename_i z k i o l fs hp ids;simp only [qo] at hv;obtain ⟨h1,b⟩:=hv;split at b;rename_i e;exact .inr (.inr (.inl ⟨h1,rfl,c,a,i',⟨.inl ⟨e,hn⟩, .inr ⟨kako hk,kz5 hi⟩⟩,d⟩))
  ·cases b
 ·cases hv
def mpre (g:Cfg):Cfg:=⟨g.foc,[],g.st⟩
def ksOf (g:Cfg):List Frm:=g.ks
end
theorem kafs [Rd] {os:Array Oper} {l:List Oper} (h:awpL P os l st fun e st'=>∃ st2,LeSt st' st2/\Q e st2):awpL P os l st Q:=fun F S0 N0 ψ S a w hs=>
 ke4 (fun e a' w' ⟨st',ψ',S',⟨st2,h0,h1⟩,b,c⟩=>by obtain ⟨ψ2,S2,d⟩:=h0 F S0 N0 ψ' S' a' w' b;exact ⟨st2,ψ2,S2,h1,d,c⟩) _ _ _ (h F S0 N0 ψ S a w hs)
theorem kab2 [Rd] {os:Array Oper} {l:List Oper} {Q':Exit->St->Prop} (h:awpL P os l st Q) (b:∀ e st,Q e st->Q' e st):awpL P os l st Q':=fun F S0 N0 ψ S a w hs=>
 ke4 (fun e a' w' ⟨st',ψ',S',h1,c⟩=>⟨st',ψ',S',b _ _ h1,c⟩) _ _ _ (h F S0 N0 ψ S a w hs)
section
variable {P:Program} {T:List (TypeId×TD)} {Q:Exit->St->Prop} {st:St} {ks:List Frm} [t:Tab P] {g:Cfg} {β:Type} {r:β}
def WeakQ (Q:Exit->St->Prop):Exit->St->Prop:=fun e st'=>∃ st2,LeSt st' st2/\Q e st2
end
section
variable {P:Program} {T:List (TypeId×TD)} {Q:Exit->St->Prop} {st:St} {ks:List Frm} [t:Tab P] {g:Cfg} {β:Type} {r:β}
theorem jn [Rd] (k:Nat) (Qa:Exit->St->Prop) (hc:kxi (crun P k g)=true) (ha:W P (mpre (crun P k g)) Qa) (b:∀ e st',Qa e st'->∃ st2,LeSt st' st2/\W P (unw e (ksOf (crun P k g)) st2) Q):W P g Q:=by
 refine kbl k ?_;generalize crun P k g=g' at *
 obtain ⟨foc,ks,st⟩:=g';have a:∀ e st',Qa e st'->WeakQ (kgq P ks Q) e st':=fun e st' h=>let ⟨st2,h1,d⟩:=b e st' h;⟨st2,h1,k69 d⟩;cases foc with
 | code c=>exact kvp (kvw (show awp P c st Qa from ha) a)
 | ops os l=>exact kafs (kab2 (show awpL P os l st Qa from ha) a)
 | _=>cases hc
theorem jn1 [Rd] {α:Type} {E:Option α} {K:α->Option β} (k:Nat) (e:Exit) (J:α->St) (h:Option.bind E K=some r) (ha:∀ v,E=some v->W P (mpre (crun P k g)) fun e' st=>e'=e/\LeSt st (J v)) (a:∀ v,K v=some r->W P (unw e (ksOf (crun P k g)) (J v)) Q) (hc:kxi (crun P k g)=true:=by kernel_rfl):W P g Q:=by obtain ⟨v,h1,b⟩:=qg.1 h;refine jn k _ hc (ha v h1) ?_;rintro _ st' ⟨rfl,hl⟩;exact ⟨_,hl,a v b⟩
theorem jnQ [Rd] {α:Type} {E:Option α} {K:α->Option β} (k:Nat) (Qa:α->Exit->St->Prop) (h:Option.bind E K=some r) (ha:∀ v,E=some v->W P (mpre (crun P k g)) (Qa v)) (a:∀ v,K v=some r->∀ e st',Qa v e st'->∃ st2,LeSt st' st2/\W P (unw e (ksOf (crun P k g)) st2) Q) (hc:kxi (crun P k g)=true:=by kernel_rfl):W P g Q:=by obtain ⟨v,h1,b⟩:=qg.1 h;exact jn k _ hc (ha v h1) (a v b)
def kagj:FV->C0
 | .lst s _ _ => .sl s
 | .bx _ => .px
 | _ => .keep
def k9w:AV->C0
 | .fz x=>kagj x
 | _ => .keep
def auto1:AV->C1
 | .fz (.agg xs) => .ag (xs.map kagj)
 | .agg xs => .ag (xs.map k9w)
 | x => .one (k9w x)
def autoT (st:St):List (Nat×C1):=st.tmps.map fun p=>(p.1,auto1 p.2)
def autoO:AObj->List C0
 | .box _ cs=>cs.map k9w
 | _=>[]
def autoH (st:St):List (Nat×List C0):=st.heap.map fun p=>(p.1,autoO p.2)
def coA (st J:St):Option St:=coSt st J.ids (autoT J) (autoH J)
theorem le_a {st J:St} (h:coA st J=some J:=by kernel_rfl):LeSt st J:=kaap _ _ (h:=h)
def kk4:Foc->Exit->Bool
 | .fin .normal, .normal=>true
 | .fin .ret, .ret=>true
 | .fin (.exit i), .exit j=>Nat.beq i j
 | _,_=>false
theorem kpf {foc:Foc} {e:Exit} (h:kk4 foc e=true):foc = .fin e/\(e = .normal\/e = .ret\/∃ i,e = .exit i):=by
 unfold kk4 at h;split at h;exact ⟨rfl, .inl rfl⟩;exact ⟨rfl, .inr (.inl rfl)⟩;rename_i i j;rw [qi h];exact ⟨rfl, .inr (.inr ⟨_,rfl⟩)⟩
 ·cases h
def jok (g:Cfg) (e:Exit) (J:St):Option St:=bif kk4 g.foc e then coA g.st J else none
end
section
variable {P:Program} {T:List (TypeId×TD)} {Q:Exit->St->Prop} {st:St} {ks:List Frm} [t:Tab P] {g:Cfg} {β:Type} {r:β}
def nilK (g:Cfg):Bool:=match g.ks with
 | []=>true
 | _=>false
theorem lj [Rd] (k:Nat) {e:Exit} {J:St} (hc:(bif nilK (crun P k g) then jok (crun P k g) e J else none)=some J:=by kernel_rfl):W P g fun e' st=>e'=e/\LeSt st J:=by
 refine kbl k ?_;generalize crun P k g=g' at *
 obtain ⟨foc,ks,st⟩:=g';cases ks with
 | cons=>cases hc
 | nil=>
  simp only [nilK,jok,qe] at hc;cases a:kk4 foc e with
  | false=>rw [a] at hc;cases hc
  | true=>
   rw [a] at hc;obtain ⟨rfl,_⟩:=kpf a;exact ⟨rfl,le_a hc⟩
theorem ljx [Rd] (k:Nat) {e:Exit} {J:St} (hl:LeSt (stOf (crun P k g)) J) (hc:(nilK (crun P k g) && kk4 (crun P k g).foc e)=true:=by kernel_rfl):W P g fun e' st=>e'=e/\LeSt st J:=by
 refine kbl k ?_;generalize crun P k g=g' at *
 obtain ⟨foc,ks,st⟩:=g';simp only [qo] at hc;cases ks with
 | cons=>cases hc.1
 | nil=>
  obtain ⟨rfl,_⟩:=kpf hc.2;exact ⟨rfl,hl⟩
theorem lo [Rd] (k:Nat) {e:Exit} {J:St} (hc:(bif nilK (crun P k g) && !kk4 (crun P k g).foc .normal then jok (crun P k g) e J else none)=some J):W P g fun e' st=>(e' ≠ .normal/\e' ≠ .outgrown)/\(e'=e/\LeSt st J):=by
 refine kbl k ?_;generalize crun P k g=g' at *
 obtain ⟨foc,ks,st⟩:=g';cases ks with
 | cons=>cases hc
 | nil=>
  simp only [nilK,jok,Bool.true_and] at hc;cases hn:kk4 foc .normal with
  | true=>rw [hn] at hc;cases hc
  | false=>
   rw [hn] at hc;cases a:kk4 foc e with
   | false=>rw [a] at hc;cases hc
   | true=>
    rw [a] at hc;obtain ⟨rfl,b⟩:=kpf a;refine ⟨⟨fun h=>?_,fun h=>?_⟩,rfl,le_a hc⟩;subst h;cases hn
    ·rcases b with rfl | rfl | ⟨i,rfl⟩ <;> cases h
def kjs:Foc->Bool
 | .fin .normal=>true
 | .fin .ret=>true
 | _=>false
def kxd:Foc->Bool
 | .fin .ret=>true
 | _=>false
def rokq (T:List (TypeId×TD)) (g:Cfg) (rs:List ResultVar) (cs:List C1):Option FV:=bif nilK g && kjs g.foc then retX T g.st rs cs else none
def rokr (T:List (TypeId×TD)) (g:Cfg) (rs:List ResultVar) (cs:List C1):Option FV:=bif kxd g.foc then retX T g.st rs cs else none
theorem lq [Rd] (k:Nat) {rs:List ResultVar} {cs:List C1} {y:FV} (hc:rokq t.T (crun P k g) rs cs=some y:=by kernel_rfl):W P g (retQ t.T rs cs y):=by
 refine kbl k ?_;generalize crun P k g=g' at *
 obtain ⟨foc,ks,st⟩:=g';unfold rokq at hc;cases ks with
 | cons=>cases hc
 | nil=>
  simp only [nilK,Bool.true_and] at hc;cases a:kjs foc with
  | false=>rw [a] at hc;cases hc
  | true=>
   rw [a] at hc;unfold kjs at a;split at a;exact hc;exact hc
   ·cases a
theorem lr [Rd] (k:Nat) {rs:List ResultVar} {cs:List C1} {y:FV} (hc:rokr t.T (crun P k g) rs cs=some y:=by kernel_rfl):W P g fun e st=>e = .ret/\retX t.T st rs cs=some y:=by
 refine kbl k ?_;generalize crun P k g=g' at *
 obtain ⟨foc,ks,st⟩:=g';unfold rokr at hc;cases a:kxd foc with
 | false=>simp only [a] at hc;cases hc
 | true=>
  simp only [a] at hc;unfold kxd at a;split at a;exact kyg (Q:=fun e st=>e = .ret/\retX t.T st rs cs=some y) ⟨rfl,hc⟩
  ·cases a
theorem lor [Rd] (k:Nat) {rs:List ResultVar} {cs:List C1} {y:FV} (hc:rokr t.T (crun P k g) rs cs=some y:=by kernel_rfl):W P g fun e st=>(e ≠ .normal/\e ≠ .outgrown)/\(e = .ret/\retX t.T st rs cs=some y):=by
 refine kbl k ?_;generalize crun P k g=g' at *
 obtain ⟨foc,ks,st⟩:=g';unfold rokr at hc;cases a:kxd foc with
 | false=>simp only [a] at hc;cases hc
 | true=>
  simp only [a] at hc;unfold kxd at a;split at a;exact kyg (Q:=fun e st=>(e ≠ .normal/\e ≠ .outgrown)/\(e = .ret/\retX t.T st rs cs=some y)) ⟨⟨(fun h=>nomatch h),(fun h=>nomatch h)⟩,rfl,hc⟩
  ·cases a
theorem lv [Rd] {rs:List ResultVar} {cs:List C1} {y:FV} {st:St} {ks:List Frm} (h:retX t.T st rs cs=some y):W P (unw .ret ks st) (retQ t.T rs cs y):=h
theorem lvr [Rd] {rs:List ResultVar} {cs:List C1} {y:FV} {st:St} {ks:List Frm} (h:retX t.T st rs cs=some y):W P (unw .ret ks st) fun e st=>e = .ret/\retX t.T st rs cs=some y:=⟨rfl,h⟩
theorem lvo [Rd] {rs:List ResultVar} {cs:List C1} {y:FV} {st:St} {ks:List Frm} (h:retX t.T st rs cs=some y):W P (unw .ret ks st) fun e st=>(e ≠ .normal/\e ≠ .outgrown)/\(e = .ret/\retX t.T st rs cs=some y):=⟨⟨fun h=>(nomatch h),fun h=>(nomatch h)⟩,rfl,h⟩
end
theorem ob [Rd] {α:Type} {E:Option α} {K:α->Option β} (h:Option.bind E K=some r) (f:∀ v,E=some v->K v=some r->W P g Q):W P g Q:=by obtain ⟨v,h1,a⟩:=qg.1 h;exact f v h1 a
def HidG (_:Nat) (p:Prop):Prop:=p
theorem ls [Rd] {α:Type} {X v:α} {Qf:α->Exit->St->Prop} (h:some X=some v) (a:W P g (Qf X)):W P g (Qf v):=by obtain rfl:=qt h;exact a
theorem lJ {p q:Prop} (k:Nat) (a:p->HidG k q:=by intro h;cases h;exact ljh _):p->q:=a
theorem lO {p q:Prop} (k:Nat) (a:p->HidG k q:=by intro h;cases h;exact loh _):p->q:=a
theorem lQ {p q:Prop} (k:Nat) (a:p->HidG k q:=by intro h;cases h;exact lqh _):p->q:=a
theorem lR {p q:Prop} (k:Nat) (a:p->HidG k q:=by intro h;cases h;exact lorh _):p->q:=a
section
variable {P:Program} {T:List (TypeId×TD)} {Q:Exit->St->Prop} {st:St} {ks:List Frm} [t:Tab P] {g:Cfg} {β:Type} {r:β}
theorem ljh [Rd] (k:Nat) {e:Exit} {J:St} (hc:(bif nilK (crun P k g) then jok (crun P k g) e J else none)=some J:=by kernel_rfl):HidG k (W P g fun e' st=>e'=e/\LeSt st J):=lj k hc
theorem loh [Rd] (k:Nat) {e:Exit} {J:St} (hc:(bif nilK (crun P k g) && !kk4 (crun P k g).foc .normal then jok (crun P k g) e J else none)=some J:=by kernel_rfl):HidG k (W P g fun e' st=>(e' ≠ .normal/\e' ≠ .outgrown)/\(e'=e/\LeSt st J)):=lo k hc
theorem lqh [Rd] (k:Nat) {rs:List ResultVar} {cs:List C1} {y:FV} (hc:rokq t.T (crun P k g) rs cs=some y:=by kernel_rfl):HidG k (W P g (retQ t.T rs cs y)):=lq k hc
theorem lorh [Rd] (k:Nat) {rs:List ResultVar} {cs:List C1} {y:FV} (hc:rokr t.T (crun P k g) rs cs=some y:=by kernel_rfl):HidG k (W P g fun e st=>(e ≠ .normal/\e ≠ .outgrown)/\(e = .ret/\retX t.T st rs cs=some y)):=lor k hc
def kp4 (g:Cfg):Cfg:=match g.foc with
 | .code (.loop c)=>⟨.code c,[],g.st⟩
 | _=>⟨.bad,[],g.st⟩
def kn7 (g:Cfg):Bool:=match g.foc with
 | .code (.loop _)=>true
 | _=>false
theorem lpx [Rd] {σ α:Type} {step:σ->Option (σ ⊕ α)} {n:Nat} {s0:σ} {K:α->Option β} (k:Nat) (H:σ->St) (Qb:α->Exit->St->Prop) (h:Option.bind (kab step n s0) K=some r) (h0:LeSt (stOf (crun P k g)) (H s0)) (a:∀ s r',step s=some r'->W P (kpv (kp4 (crun P k g)) (H s)) (Sum.elim (fun s' e st=>e = .normal/\LeSt st (H s')) (fun v e st=>(e ≠ .normal/\e ≠ .outgrown)/\Qb v e st) r')) (ha:∀ v,K v=some r->∀ e st',Qb v e st'->∃ st2,LeSt st' st2/\W P (unw e (ksOf (crun P k g)) st2) Q) (hc:kn7 (crun P k g)=true:=by kernel_rfl):W P g Q:=by
 refine kbl k ?_;generalize crun P k g=g' at *
 obtain ⟨foc,ks,st⟩:=g';obtain ⟨v,h1,d⟩:=qg.1 h;unfold kn7 at hc;simp only at hc;split at hc
 ·rename_i c;refine k5r (kabg (st:=st) (P:=P) c H Qb h1 h0 fun s r' hs=>?_) fun e st' f=>?_
  ·have:=a s r' hs;cases r' with
   | inl s'=>exact this
   | inr b=>exact this
  ·obtain ⟨st2,e1,e2⟩:=ha v d e st' f;exact ⟨st2,e1,k69 e2⟩
 ·cases hc
theorem lpI [Rd] (σ:Type) (k:Nat) (H:σ->St) (I:σ->Prop) (μ:σ->Nat) (Qb:Exit->St->Prop) (s0:σ) (a:I s0) (hc:kn7 (crun P k g)=true) (h0:LeSt (stOf (crun P k g)) (H s0)) (b:∀ s,I s->W P (kpv (kp4 (crun P k g)) (H s)) (fun e st=>(e = .normal/\∃ s',(I s'/\μ s'<μ s)/\LeSt st (H s'))\/((e ≠ .normal/\e ≠ .outgrown)/\Qb e st))) (ha:∀ e st',Qb e st'->∃ st2,LeSt st' st2/\W P (unw e (ksOf (crun P k g)) st2) Q):W P g Q:=by
 refine kbl k ?_;generalize crun P k g=g' at *
 obtain ⟨foc,ks,st⟩:=g';unfold kn7 at hc;simp only at hc;split at hc;rename_i c;refine k5r (kadp (st:=st) (P:=P) c Qb H I μ a h0 fun s hs=>b s hs) fun e st' d=>?_;obtain ⟨st2,e1,e2⟩:=ha e st' d;exact ⟨st2,e1,k69 e2⟩
 ·cases hc
theorem lpr [Rd] {σ α ρ:Type} {step:σ->Option (σ ⊕ (α ⊕ ρ))} {n:Nat} {s0:σ} {f:α->Option β} {q:ρ->Option β} (k:Nat) (h:Option.bind (kab step n s0) (fun v=>Sum.elim f q v)=some r) (H:σ->St) (e:Exit) (J:α->St) (rs:List ResultVar) (cs:List C1) (y:ρ->FV)
  (c:∀ s r',step s=some r'->W P (kpv (kp4 (crun P k g)) (H s)) (Sum.elim (fun s' e' st=>e' = .normal/\LeSt st (H s')) (fun v e' st=>(e' ≠ .normal/\e' ≠ .outgrown)/\Sum.elim (fun p=>e'=e/\LeSt st (J p)) (fun p=>e' = .ret/\retX t.T st rs cs=some (y p)) v) r'))
  (h1:∀ p,f p=some r->W P (unw e (ksOf (crun P k g)) (J p)) Q)
  (d:∀ p st,q p=some r->retX t.T st rs cs=some (y p)->W P (unw .ret (ksOf (crun P k g)) st) Q:=by intro _ _ h a;cases h;first | exact lv a | exact lvo a | exact lvr a)
  (hc:kn7 (crun P k g)=true:=by kernel_rfl) (h0:coA (stOf (crun P k g)) (H s0)=some (H s0):=by kernel_rfl):W P g Q:=by
 refine lpx k H (fun v e' st=>Sum.elim (fun p=>e'=e/\LeSt st (J p)) (fun p=>e' = .ret/\retX t.T st rs cs=some (y p)) v) h (le_a h0) c (fun v hv e' st' b=>?_) (hc:=hc);cases v with
 | inl p=>obtain ⟨rfl,hl⟩:=b;exact ⟨_,hl,h1 p hv⟩
 | inr p=>obtain ⟨rfl,hr⟩:=b;exact ⟨_,LeSt.refl,d p _ hv hr⟩
theorem lpq [Rd] {σ α:Type} {step:σ->Option (σ ⊕ (α ⊕ β))} {n:Nat} {s0:σ} {f:α->Option β} {rs:List ResultVar} {cs:List C1} (k:Nat) (h:Option.bind (kab step n s0) (fun v=>Sum.elim f (fun w=>some w) v)=some r) (H:σ->St) (e:Exit) (J:α->St) (y:β->FV)
  (b:∀ s r',step s=some r'->W P (kpv (kp4 (crun P k g)) (H s)) (Sum.elim (fun s' e' st=>e' = .normal/\LeSt st (H s')) (fun v e' st=>(e' ≠ .normal/\e' ≠ .outgrown)/\Sum.elim (fun p=>e'=e/\LeSt st (J p)) (fun p=>e' = .ret/\retX t.T st rs cs=some (y p)) v) r'))
  (h1:∀ p,f p=some r->W P (unw e (ksOf (crun P k g)) (J p)) (retQ t.T rs cs (y r)))
  (hc:kn7 (crun P k g)=true:=by kernel_rfl) (h0:coA (stOf (crun P k g)) (H s0)=some (H s0):=by kernel_rfl):W P g (retQ t.T rs cs (y r)):=
 lpr k h H e J rs cs y b h1 (fun p st hp a=>by cases hp;exact lv a) hc h0
theorem lp1 [Rd] {σ α:Type} {step:σ->Option (σ ⊕ α)} {n:Nat} {s0:σ} {K:α->Option β} (k:Nat) (H:σ->St) (e:Exit) (J:α->St) (h:Option.bind (kab step n s0) K=some r) (a:∀ s r',step s=some r'->W P (kpv (kp4 (crun P k g)) (H s)) (Sum.elim (fun s' e st=>e = .normal/\LeSt st (H s')) (fun v e' st=>(e' ≠ .normal/\e' ≠ .outgrown)/\(e'=e/\LeSt st (J v))) r')) (ha:∀ v,K v=some r->W P (unw e (ksOf (crun P k g)) (J v)) Q) (hc:kn7 (crun P k g)=true:=by kernel_rfl) (h0:coA (stOf (crun P k g)) (H s0)=some (H s0):=by kernel_rfl):W P g Q:=by refine lpx k H _ h (le_a h0) a (fun v hv e' st' b=>?_) (hc:=hc);obtain ⟨rfl,hl⟩:=b;exact ⟨_,hl,ha v hv⟩
theorem opc [Rd] (k:Nat) (id:Nat) (e:TypeId) (cells:List AV) (h1:W P (kpv (crun P k g) { stOf (crun P k g) with heap:=(id, .box e (.fz (.atom (.pointer none))::cells))::(stOf (crun P k g)).heap }) Q) (b:W P (kpv (crun P k g) { stOf (crun P k g) with heap:=(id, .box e (.ref id 0 0::cells))::(stOf (crun P k g)).heap }) Q) (a:kaa (stOf (crun P k g)).heap id=some (.box e (.opt id::cells)):=by kernel_rfl) (hc:kai6 (crun P k g)=true:=by kernel_rfl):W P g Q:=by
 refine kbl k ?_;generalize crun P k g=g' at *
 obtain ⟨foc,ks,st⟩:=g';cases foc with
 | code c=>exact k5g a h1 b
 | _=>cases hc
def kjb (fn:Func):Code:=fn.body.getD .skip
theorem kp6 {fn:Func} (h:fn.body.isSome=true):fn.body=some (kjb fn):=by
 unfold kjb;cases a:fn.body with
 | none=>rw [a] at h;cases h
 | some c=>rfl
def inlW (P:Program) (os:Array Oper) (l:List Oper) (ks:List Frm) (dst:Option Nat) (n:Nat) (D:List Deferred) (gi:Nat) (cs:List Value) (keep:List (Nat×AV)) (rs:List ResultVar) (Q:Exit->St->Prop):Exit->St->Prop:=inlQ P os l dst n D gi cs keep rs (kgq P ks Q)
def inlF (g:Cfg):Option (FuncId×List AV):=match g.foc with
 | .ops os (o::_)=>match kb7 os g.st o,kux g.st o with
  | some true,true=>match o.op with
   | .call c=>match c.callee with
    | .value x=>match g.st.eval x with
     | .fn f cap=>some (f,c.args.toList.map g.st.eval++cap)
     | _=>none
    | _=>none
   | _=>none
  | _,_=>none
 | _=>none
def opsOf (g:Cfg):Array Oper:=match g.foc with
 | .ops os _=>os
 | _=>#[]
def kajc (g:Cfg):List Oper:=match g.foc with
 | .ops _ (_::l)=>l
 | _=>[]
def dstOf (g:Cfg):Option Nat:=match g.foc with
 | .ops _ (o::_)=>o.dst
 | _=>none
theorem inl (k : Nat) {f : FuncId} {fn : Func} {n gi : Nat} {ys : List AV} (d : P.funcs[f]? = some fn) (e : fn.body.isSome = true) (hn : (fn.name == "runtime.NumGoroutine") = false) (a : fn.ntmps = n) (b : Nat.ble ys.length n = true) (c : (stOf (crun P k g)).ids.contains gi = false)
  (hc:inlF (crun P k g)=some (f,ys))
  (h:∀ cs,W P ⟨.code (kjb fn),[],{ n:=n,tmps:=argT 0 ys,heap:=(gi, .gho cs ((stOf (crun P k g)).tmps.map fun p=>(stOf (crun P k g)).get p.1))::(stOf (crun P k g)).heap,ids:=gi::(stOf (crun P k g)).ids }⟩
   (inlW P (opsOf (crun P k g)) (kajc (crun P k g)) (ksOf (crun P k g)) (dstOf (crun P k g)) (stOf (crun P k g)).n (stOf (crun P k g)).dfr gi cs (stOf (crun P k g)).tmps fn.results.toList Q)):W P g Q:=by
 refine kbl k ?_;generalize crun P k g=g' at *
 obtain ⟨foc,ks,st⟩:=g';unfold inlF at hc;simp only at hc;split at hc
 ·split at hc
  ·rename_i i hd;split at hc
   ·rename_i c' j;split at hc
    ·rename_i x hx;split at hc;rename_i f' cap hv;simp only [qc,qq] at hc;obtain ⟨rfl,rfl⟩:=hc;obtain ⟨cc,as1,ts⟩:=c';simp only at hx;subst hx;exact kae3 j hv i (kp2 hd) d (kp6 e) hn a rfl b c h
     ·cases hc
    ·cases hc
   ·cases hc
  ·cases hc
 ·cases hc
theorem li (k:Nat) {os:Array Oper} {l:List Oper} {ks:List Frm} {dst:Option Nat} {n gi:Nat} {D:List Deferred} {cs:List Value} {keep:List (Nat×AV)} {rs:List ResultVar} (vs:List AV) (rv:AV) (hr:(rs=[]/\rv = .any)\/∃ z,rs=[.tmp z]/\(stOf (crun P k g)).get z=rv) (h:W P ⟨.ops os l,ks,({ n:=n,tmps:=zipS keep vs,heap:=ked gi (stOf (crun P k g)).heap,ids:=(stOf (crun P k g)).ids,dfr:=D }:St).put dst rv⟩ Q) (hc:(bif nilK (crun P k g) && kjs (crun P k g).foc then kaa (stOf (crun P k g)).heap gi else none)=some (.gho cs vs):=by kernel_rfl) (a:(stOf (crun P k g)).dfr=[]:=by kernel_rfl):W P g (inlW P os l ks dst n D gi cs keep rs Q):=by
 refine kbl k ?_;generalize crun P k g=g' at *
 obtain ⟨foc,ks',st⟩:=g';cases ks' with
 | cons=>cases hc
 | nil=>
  simp only [nilK,Bool.true_and] at hc;cases b:kjs foc with
  | false=>rw [b] at hc;cases hc
  | true=>
   rw [b] at hc;unfold kjs at b;split at b;exact ⟨.inl rfl,a,vs,rv,hc,hr,h⟩;exact ⟨.inr rfl,a,vs,rv,hc,hr,h⟩
   ·cases b
theorem hcx0 {f : FuncId} {fn : Func} {args : List AV} {pre : List (Nat × AObj)} {ids : List Nat} {E : HEnd} {post : List (Nat × AObj)} {ids' : List Nat} {gi : Nat} (d : P.funcs[f]? = some fn) (e : fn.body.isSome = true) (hn : (fn.name == "runtime.NumGoroutine") = false)
  (a:Nat.ble args.length fn.ntmps=true) (g:ids.contains gi=false) (b:ids'.contains gi=false) (c:(post.all fun p=>okO ids' p.2)=true) (i:E.ok ids'=true) (hk:(post.all fun p=>ids'.contains p.1)=true)
  (h:∀ ψ0 S1 w0,W P ⟨.code (kjb fn),[],{ n:=fn.ntmps,tmps:=argT 0 args,heap:=(gi, .was ψ0 ids S1 w0)::pre,ids:=gi::ids }⟩ (hQ t.T fn.results.toList gi ids E post ids' ψ0 S1 w0)):HCall P f args pre ids E post ids':=
 k6k t.ok d (kp6 e) hn a g b c i hk h
theorem hcx {f: FuncId} {fn: Func} {args: List AV} {pre: List (Nat × AObj)} {ids: List Nat} {E: HEnd} {post: List (Nat × AObj)} {ids': List Nat} (gi: Nat) (d: P.funcs[f]? = some fn) (h:∀ ψ0 S1 w0,W P ⟨.code (kjb fn),[],{ n:=fn.ntmps,tmps:=argT 0 args,heap:=(gi, .was ψ0 ids S1 w0)::pre,ids:=gi::ids }⟩ (hQ t.T fn.results.toList gi ids E post ids' ψ0 S1 w0)) (e: fn.body.isSome = true:=by kernel_rfl) (hn: (fn.name == "runtime.NumGoroutine") = false:=by kernel_rfl) (a:Nat.ble args.length fn.ntmps=true:=by kernel_rfl) (g:ids.contains gi=false:=by kernel_rfl) (b:ids'.contains gi=false:=by kernel_rfl) (c:(post.all fun p=>okO ids' p.2)=true:=by kernel_rfl) (i:E.ok ids'=true:=by kernel_rfl) (hk:(post.all fun p=>ids'.contains p.1)=true:=by kernel_rfl):HCall P f args pre ids E post ids':=
 hcx0 d e hn a g b c i hk h
theorem lh [Rd] (k:Nat) {rs:List ResultVar} {gi:Nat} {ids ids':List Nat} {res:AV} {post:List (Nat×AObj)} {ψ0:Env} {S1:Nat->Prop} {w0:World} (st2:St) (hl:LeSt (stOf (crun P k g)) st2) (hc:(nilK (crun P k g) && kjs (crun P k g).foc)=true:=by kernel_rfl) (hr:retA t.T st2 rs=some res:=by kernel_rfl) (b:st2.heap=(gi, .was ψ0 ids S1 w0)::post:=by rfl) (hi:st2.ids=gi::ids':=by rfl):W P g (hQ t.T rs gi ids (.ret res) post ids' ψ0 S1 w0):=by
 refine kbl k ?_;generalize crun P k g=g' at *
 obtain ⟨foc,ks,st⟩:=g';simp only [qo] at hc;cases ks with
 | cons=>cases hc.1
 | nil=>
  have a:kjs foc=true:=hc.2;unfold kjs at a;split at a;exact k06 hl b hi (.inl rfl) hr;exact k06 hl b hi (.inr rfl) hr
  ·cases a
def zipR (st:St):List ResultVar->List AV->List (Nat×AV)
 | .tmp t::rs,x::xs=>(t,x)::zipR st rs xs
 | .cell t _::rs,_::xs=>(t,st.get t)::zipR st rs xs
 | _,_=>[]
def retT (st:St):List ResultVar->AV->List (Nat×AV)
 | [.tmp t],a=>[(t,a)]
 | [.cell t _],_=>[(t,st.get t)]
 | rs, .fz (.tup xs)=>zipR st rs (xs.map .fz)
 | rs, .tup xs=>zipR st rs xs
 | _,_=>[]
def retJ (st:St) (rs:List ResultVar) (res:AV) (gi:Nat) (o:AObj) (post:List (Nat×AObj)) (ids':List Nat):St:={ n:=st.n,tmps:=retT st rs res,heap:=(gi,o)::post,ids:=gi::ids' }
theorem lhy [Rd] (k:Nat) {rs:List ResultVar} {gi:Nat} {ids ids':List Nat} {res:AV} {post:List (Nat×AObj)} {ψ0:Env} {S1:Nat->Prop} {w0:World} (hl:coA (stOf (crun P k g)) (retJ (stOf (crun P k g)) rs res gi (.was ψ0 ids S1 w0) post ids')=some (retJ (stOf (crun P k g)) rs res gi (.was ψ0 ids S1 w0) post ids'):=by kernel_rfl)
  (hc:(nilK (crun P k g) && kjs (crun P k g).foc)=true:=by kernel_rfl) (hr:retA t.T (retJ (stOf (crun P k g)) rs res gi (.was ψ0 ids S1 w0) post ids') rs=some res:=by kernel_rfl):W P g (hQ t.T rs gi ids (.ret res) post ids' ψ0 S1 w0):=
 lh k _ (le_a hl) (hc:=hc) (hr:=hr)
theorem pcl {f : FuncId} {fn : Func} {args : List FV} {y : FV} (cs : List C1) (b : P.funcs[f]? = some fn) (c : fn.body.isSome = true) (hn : (fn.name == "runtime.NumGoroutine") = false) (a : Nat.ble args.length fn.ntmps = true)
  (h:W P ⟨.code (kjb fn),[],{ n:=fn.ntmps,tmps:=kqi 0 args,heap:=[],ids:=[] }⟩ (retQ t.T fn.results.toList cs y)):PCall P f args y:=k75 t.ok cs b (kp6 c) hn a h
def pncV (g:Cfg):Option Value:=match g.foc with
 | .ops os (o::_)=>match kb7 os g.st o,o.op with
  | some true, .panic x=>match g.st.eval x with
   | .fz (.atom (.iface t v))=>some (.iface t v)
   | _=>none
  | _,_=>none
 | _=>none
theorem pnc [Rd] (k:Nat) (v:Value) (h:W P ⟨.fin (.panic [pnE v]),[],stOf (crun P k g)⟩ Q) (hc:pncV (crun P k g)=some v:=by kernel_rfl):W P g Q:=by
 refine kbl k ?_;generalize crun P k g=g' at *
 obtain ⟨foc,ks,st⟩:=g';unfold pncV at hc;simp only at hc;split at hc
 ·rename_i os o l;split at hc
  ·rename_i x e d;split at hc;rename_i tt u hx;injection hc with hc;subst hc;intro F S0 N0 ψ S a w hs;unfold kbt;rw [kfx hs e];have hv:=hs.eval x;rw [hx] at hv;have hv:=hv.atom;have b:(execOp a.eval o).run P w = .halt (.panic (.iface tt u)) w:=(by simp only [execOp,d,hv,Instr.panic,goPanic];rfl);exact kyq (fun c h=>by rw [d] at h;cases h) b ⟨st,ψ,S,k24 h,hs,Fr.refl⟩
   ·cases hc
  ·cases hc
 ·cases hc
def kaf5 (g:Cfg):Option (FuncId×List AV):=match g.foc with
 | .ops os (o::_)=>match kb7 os g.st o,kux g.st o,o.op with
  | some true,true, .defer c=>match c.callee,c.args.toList with
   | .value x,[]=>match g.st.eval x with
    | .fn f vs=>some (f,vs)
    | _=>none
   | _,_=>none
  | _,_,_=>none
 | _=>none
def rsmD (gi:Nat) (f:FuncId) (cs:List Value) (vs:List AV) (g:Cfg):Cfg:=match g.foc with
 | .ops os (o::l)=>⟨.ops os l,g.ks,({ g.st with heap:=(gi, .gho cs vs)::g.st.heap,ids:=gi::g.st.ids,dfr:=dfn f cs::g.st.dfr }:St).put o.dst (.fz (.tup []))⟩
 | _=>⟨.bad,g.ks,g.st⟩
theorem dfer (k gi:Nat) (f:FuncId) (vs:List AV) (h:∀ cs,cs.length=vs.length->W P (rsmD gi f cs vs (crun P k g)) Q) (hc:kaf5 (crun P k g)=some (f,vs):=by kernel_rfl) (e:(stOf (crun P k g)).ids.contains gi=false:=by kernel_rfl):W P g Q:=by
 refine kbl k ?_;generalize crun P k g=g' at *
 obtain ⟨foc,ks,st⟩:=g';have m:gi∉st.ids:=by simpa [stOf] using e
 clear e;have e:=m;clear m;unfold kaf5 at hc;simp only at hc;split at hc
 ·rename_i os o l;split at hc
  ·rename_i c B hd C;split at hc
   ·rename_i x h1 r;split at hc
    ·rename_i f' vs' hx;simp only [qc,qq] at hc;obtain ⟨rfl,rfl⟩:=hc;obtain ⟨cc,as_,ts⟩:=c;simp only at h1 r;have r:as_=#[]:=(by apply qbj;simpa using r);subst h1 r;intro F S0 N0 ψ S a w hs;unfold kbt;rw [kfx hs B];have hv:=hs.eval x;rw [hx] at hv;obtain ⟨caps,hcx,s,z⟩:∃ caps:Array Value,a.eval x = .func (.func f') #[] caps/\caps.size=vs'.length/\∀ (i:Nat) (v:Value) (y:AV),caps[i]?=some v->vs'[i]?=some y->RV ψ (·∈st.ids) S w v y:=by
      generalize a.eval x=u at hv;cases hv with
      | fn h hr=>exact ⟨_,rfl,h,hr⟩
     have p:(execOp a.eval o).run P w = .ok (.defer (dfn f' caps.toList)) w:=(by simp [execOp,C,resolve,hcx,Deferred.ofValue,dfn]);refine k6d p ?_;have j:=hs.core.add (n:=0) (v := .nilFunc) (w':=w) (ob := .gho caps.toList vs') (kaf _) e (fun b D=>by cases D)
      ⟨kbv _ _,by rw [kan];rfl,by rw [kan];rfl,fun i v x hv hx=>(z i v x (by simpa using hv) hx).keep (kbm e _ _) (fun _ h=>qk _ h) (fun _ h=>h) (fun _ _ _=>rfl)⟩
     have A:Sim F S0 N0 { st with heap:=(gi, .gho caps.toList vs')::st.heap,ids:=gi::st.ids,dfr:=dfn f' caps.toList::st.dfr } (ψ.set gi 0 .nilFunc) S { a with defers:=dfn f' caps.toList::a.defers } w:=
      ⟨by show _::a.defers=_;rw [hs.defers],hs.size,fun t=>(hs.tmps t).keep (kbm e _ _) (fun _ h=>qk _ h) (fun _ h=>h) (fun _ _ _=>rfl),j⟩
     have q:=A.put (st':={ st with heap:=(gi, .gho caps.toList vs')::st.heap,ids:=gi::st.ids,dfr:=dfn f' caps.toList::st.dfr }) (d:=o.dst) (v:=undef) (c := .fz (.tup [])) rfl rfl rfl j (.fz RF.undef) Ext.refl (fun _ h=>h) (fun _ h=>h) (fun _ _ _=>rfl) (kp2 hd);exact h caps.toList (by simpa using s) F S0 N0 _ S _ w q
    ·cases hc
   ·cases hc
  ·cases hc
 ·cases hc
def k1e:Foc->Option Exit
 | .fin e=>some e
 | _=>none
def k97 (fn:Func):Code:=match knq fn with
 | some q=>q.2.2
 | none => .skip
def dfxQ (T:List (TypeId×TD)) (rs:List ResultVar) (gi0:Nat) (ids:List Nat) (E:HEnd) (post:List (Nat×AObj)) (ids':List Nat) (ψ0:Env) (S1:Nat->Prop) (w0:World) (keep:List Nat) (gi2:Nat) (ocs:List Value) (st:St):Exit->St->Prop:=fun e2 st2=>
 (e2 = .normal\/e2 = .ret)/\st2.dfr=[]/\∃ vs',kaa st2.heap gi2=some (.gho ocs vs')/\hQ T rs gi0 ids E post ids' ψ0 S1 w0 .ret (dstB keep gi2 vs' st st2)
theorem dfx (k gi2 t1 t2:Nat) (keep:List Nat) {rs:List ResultVar} {gi0:Nat} (gi:Nat) {ids ids':List Nat} {E:HEnd} {post:List (Nat×AObj)} {ψ0:Env} {S1:Nat->Prop} {w0:World} {f:FuncId} {fn2:Func} {cvals:List Value} {vs:List AV} (pv:Value) (e:Exit) (b: cvals.length = vs.length) (m: P.funcs[f]? = some fn2) (h: ∀ ocs, W P ⟨.code (k97 fn2), [], dst0 keep fn2.ntmps t1 t2 pv vs gi2 ocs (stOf (crun P k g))⟩ (dfxQ t.T rs gi0 ids E post ids' ψ0 S1 w0 keep gi2 ocs (stOf (crun P k g)))) (j: kaa (stOf (crun P k g)).heap gi = some (.gho cvals vs) := by kernel_rfl) (a: (bif nilK (crun P k g) then k1e (crun P k g).foc else none) = some e := by kernel_rfl) (l: recV e = some pv := by kernel_rfl) (c: (stOf (crun P k g)).ids.contains gi2 = false := by kernel_rfl) (n: knq fn2 = some (t1, t2, k97 fn2):=by kernel_rfl) (hn: (fn2.name == "runtime.NumGoroutine") = false:=by kernel_rfl) (d: Nat.ble vs.length fn2.ntmps = true:=by kernel_rfl) (i: (stOf (crun P k g)).dfr = [dfn f cvals]:=by kernel_rfl): W P g (hdQ P t.T rs gi0 ids E post ids' ψ0 S1 w0) := by
 refine kbl k ?_;generalize crun P k g=g' at *
 obtain ⟨foc,ks,st⟩:=g';cases ks with
 | cons=>cases a
 | nil=>
  simp only [nilK,qe] at a;unfold k1e at a;split at a;injection a with a;subst a;exact .inr ⟨keep,f,fn2,t1,t2,k97 fn2,gi,cvals,vs,pv,gi2,i,j,b,m,n,hn,d,l,c,fun ocs=>h ocs⟩
  ·cases a
theorem ldx (k:Nat) {rs:List ResultVar} {gi0 gi2:Nat} {ids ids':List Nat} {res:AV} {post:List (Nat×AObj)} {ψ0:Env} {S1:Nat->Prop} {w0:World} {keep:List Nat} {ocs:List Value} (vs':List AV) {st:St} (st3:St) (hl:LeSt (dstB keep gi2 vs' st (stOf (crun P k g))) st3) (c:st3.heap=(gi0, .was ψ0 ids S1 w0)::post) (hi:st3.ids=gi0::ids') (hr:retA t.T st3 rs=some res:=by kernel_rfl) (hc:(bif nilK (crun P k g) && kjs (crun P k g).foc then kaa (stOf (crun P k g)).heap gi2 else none)=some (.gho ocs vs'):=by kernel_rfl) (a:(stOf (crun P k g)).dfr=[]:=by kernel_rfl):W P g (dfxQ t.T rs gi0 ids (.ret res) post ids' ψ0 S1 w0 keep gi2 ocs st):=by
 refine kbl k ?_;generalize crun P k g=g' at *
 obtain ⟨foc,ks,st'⟩:=g';cases ks with
 | cons=>cases hc
 | nil=>
  simp only [nilK,Bool.true_and] at hc;cases b:kjs foc with
  | false=>rw [b] at hc;cases hc
  | true=>
   rw [b] at hc;unfold kjs at b;split at b;exact ⟨.inl rfl,a,vs',hc,k06 hl c hi (.inr rfl) hr⟩;exact ⟨.inr rfl,a,vs',hc,k06 hl c hi (.inr rfl) hr⟩
   ·cases b
theorem hdx {f: FuncId} {fn: Func} {args: List AV} {pre: List (Nat × AObj)} {ids: List Nat} {E: HEnd} {post: List (Nat × AObj)} {ids': List Nat} (gi: Nat) (d: P.funcs[f]? = some fn) (h: ∀ ψ0 S1 w0, W P ⟨.code (kjb fn), [], { n := fn.ntmps, tmps := argT 0 args, heap := (gi, .was ψ0 ids S1 w0) :: pre, ids := gi :: ids }⟩ (hdQ P t.T fn.results.toList gi ids E post ids' ψ0 S1 w0)) (e: fn.body.isSome = true := by kernel_rfl) (hn: (fn.name == "runtime.NumGoroutine") = false := by kernel_rfl) (a: Nat.ble args.length fn.ntmps = true := by kernel_rfl) (g: ids.contains gi = false := by kernel_rfl) (b: ids'.contains gi = false := by kernel_rfl) (c: (post.all fun p => okO ids' p.2) = true := by kernel_rfl) (i: E.ok ids' = true := by kernel_rfl) (hk: (post.all fun p => ids'.contains p.1) = true := by kernel_rfl): HCall P f args pre ids E post ids' :=
 k5k t.ok d (kp6 e) hn a g b c i hk h
theorem lhp (k:Nat) {rs:List ResultVar} {gi:Nat} {ids ids':List Nat} {v:Value} {post:List (Nat×AObj)} {ψ0:Env} {S1:Nat->Prop} {w0:World} (st2:St) (hl:LeSt (stOf (crun P k g)) st2) (a:st2.heap=(gi, .was ψ0 ids S1 w0)::post) (hi:st2.ids=gi::ids') (hd:st2.dfr=[]) (hc:(bif nilK (crun P k g) then k1e (crun P k g).foc else none)=some (.panic [pnE v]):=by kernel_rfl):W P g (hQ t.T rs gi ids (.pan v) post ids' ψ0 S1 w0):=by
 refine kbl k ?_;generalize crun P k g=g' at *
 obtain ⟨foc,ks,st⟩:=g';cases ks with
 | cons=>cases hc
 | nil=>
  simp only [nilK,qe] at hc;unfold k1e at hc;split at hc;injection hc with hc;subst hc;exact kaj3 hl a hi hd
  ·cases hc
theorem hcx2 {α α':Type} {f:FuncId} {fn:Func} {args:List AV} {pre:List (Nat×AObj)} {ids:List Nat} {E:α->HEnd} {post:α->List (Nat×AObj)} {ids':List Nat} {E2:α'->HEnd} {post2:α'->List (Nat×AObj)} {ids2:List Nat} (gi:Nat) {r:α ⊕ α'} (j: P.funcs[f]? = some fn) (h:∀ ψ0 S1 w0,W P ⟨.code (kjb fn),[],{ n:=fn.ntmps,tmps:=argT 0 args,heap:=(gi, .was ψ0 ids S1 w0)::pre,ids:=gi::ids }⟩
   (Sum.elim (fun v=>hQ t.T fn.results.toList gi ids (E v) (post v) ids' ψ0 S1 w0) (fun v=>hQ t.T fn.results.toList gi ids (E2 v) (post2 v) ids2 ψ0 S1 w0) r)) (k: fn.body.isSome = true:=by kernel_rfl) (hn: (fn.name == "runtime.NumGoroutine") = false:=by kernel_rfl) (a: Nat.ble args.length fn.ntmps = true:=by kernel_rfl) (l: ids.contains gi = false:=by kernel_rfl) (b:ids'.contains gi=false:=by kernel_rfl) (c:∀ v,((post v).all fun p=>okO ids' p.2)=true:=by intro _;kernel_rfl) (m:∀ v,(E v).ok ids'=true:=by intro _;kernel_rfl) (hk:∀ v,((post v).all fun p=>ids'.contains p.1)=true:=by intro _;kernel_rfl) (d:ids2.contains gi=false:=by kernel_rfl) (e:∀ v,((post2 v).all fun p=>okO ids2 p.2)=true:=by intro _;kernel_rfl) (g:∀ v,(E2 v).ok ids2=true:=by intro _;kernel_rfl) (i:∀ v,((post2 v).all fun p=>ids2.contains p.1)=true:=by intro _;kernel_rfl):
  Sum.elim (fun v=>HCall P f args pre ids (E v) (post v) ids') (fun v=>HCall P f args pre ids (E2 v) (post2 v) ids2) r:=by
 cases r with
 | inl v=>exact hcx0 j k hn a l b (c v) (m v) (hk v) h
 | inr v=>exact hcx0 j k hn a l d (e v) (g v) (i v) h
theorem hpan [Rd] (k:Nat) {f:FuncId} {cap:List AV} {x:Operand} {args:Array Operand} {ts:Array TypeId} {cs:List C1} {as1 as2 pre:_} {ids0 ids1:List Nat} {v:Value} {post:List (Nat×AObj)} {keys:List Nat} (r1 r2:List (Nat×Nat)) (hv:okP (crun P k g)=true) (e:(kol (crun P k g)).op = .call { callee := .value x,args:=args,argTypes:=ts })
  (hx:fnOf args.size ((stOf (crun P k g)).eval x)=some (f,cap)) (hc:HCall P f (as1++as2) pre ids0 (.pan v) post ids1) (a:kpx (stOf (crun P k g)) r1 (renI r2 ids0) cs args.toList=some as1) (c:kou r1 (renI r2 ids0) cap=some as2)
  (b:kls (stOf (crun P k g)) r1 r2 keys ids0 ids1 post=true) (d:preX (stOf (crun P k g)) r1 r2 (renI r2 ids0) keys=some pre)
  (h:W P ⟨.fin (.panic [pnE v]),[],{ stOf (crun P k g) with heap:=renH r2 post++kix (renI r2 ids0) (stOf (crun P k g)).heap,ids:=renI r2 ids1++(stOf (crun P k g)).ids }⟩ Q):W P g Q:=by
 refine kbl k ?_;generalize crun P k g=g' at *
 obtain ⟨foc,ks,st⟩:=g';unfold okP at hv;simp only at hv;split at hv
 ·split at hv;rename_i i hd;exact h_pan r1 r2 e hx hc a c b d i (k24 h)
  ·cases hv
 ·cases hv
def kvg {γ:Type} (f:Oper->St->Option γ) (g:Cfg):Option γ:=bif okP g then f (kol g) (stOf g) else none
theorem kz7 {γ:Type} {f:Oper->St->Option γ} {z:γ} {g:Cfg} (h:kvg f g=some z):okP g=true/\f (kol g) (stOf g)=some z:=by
 unfold kvg at h;cases hk:okP g with
 | false=>rw [hk] at h;cases h
 | true=>rw [hk] at h;exact ⟨rfl,h⟩
end
theorem kaji [Rd] {c:Code} (h:awp P c st Q):W P ⟨.code c,[],st⟩ Q:=h
theorem k0u [Rd] {c:Code} (h:W P ⟨.code c,[],st⟩ Q):awp P c st Q:=h
attribute [irreducible] W
end Go.Proofs.YtgebfaidgikieaaGreatDoor
set_option linter.all false
set_option linter.unusedSectionVars false
namespace Go.Proofs.YtgebfaidgikieaaGreatDoor
open Go Go.RowKit
variable [Dr]
structure En (α:Type) where
 f:α->FV
 n:Nat
 cl:α->List FV
 hcl:∀ x,(f x).cells=cl x
 hn:∀ x,(f x).cells.length=n
def nB:En Bool:=⟨eB,1,fun x=>[eB x],fun _=>rfl,fun _=>rfl⟩
def nI:En Int:=⟨eI,1,fun x=>[eI x],fun _=>rfl,fun _=>rfl⟩
def nS:En BA:=⟨eS,1,fun x=>[eS x],fun _=>rfl,fun _=>rfl⟩
def nU8:En Int:=⟨eU8,1,fun x=>[eU8 x],fun _=>rfl,fun _=>rfl⟩
def nL {α:Type} (s:Nat) (E:En α):En (List α):=⟨eL s E.f,1,fun x=>[eL s E.f x],fun _=>rfl,fun _=>rfl⟩
def nVaR:En Va:=⟨eVaR,4,fun x=>(eVa x).cells,kaa3,kaeb⟩
def nTmR:En Tm:=⟨eTmR,2,fun x=>(eTm x).cells,k90,kaer⟩
def nSy:En Sy:=⟨eSy,2,fun x=>(eSy x).cells,fun _=>rfl,fun _=>rfl⟩
def nRu:En Ru:=⟨eRu,9,fun x=>(eRu x).cells,fun _=>rfl,fun _=>rfl⟩
def kuz {γ:Type} (f:Oper->St->Option γ) (g:Cfg):Option γ:=match kse g with
 | some p=>f p.1 p.2
 | none=>none
section
variable {P:Program} [t:Tab P] {Q:Exit->St->Prop} {g:Cfg} {β:Type} {r:β}
theorem vst [Rd] {γ:Type} {f:Oper->St->Option γ} {z:γ} {c:AV} (k:Nat) (hc:kuz f (crun P k g)=some z) (hn:∀ o v,f o v=some z->NStep P o v c) (h:W P (rsm c (crun P k g)) Q):W P g Q:=by
 refine kbl k ?_;unfold kuz at hc;split at hc;rename_i p hp;exact k6p hp (hn _ _ hc) h
 ·cases hc
def ixOf (T:List (TypeId×TD)) (o:Oper) (st:St):Option (Nat×List FV×Int):=match o.op with
 | .indexAddr t x y=>match kae T t with
  | some d=>match d.kind,kok (st.eval x),st.eval y with
   | .slice e,some xs, .fz (.atom (.int _ i))=>match kae T e with
    | some de=>some (de.size,xs,i)
    | none=>none
   | _,_,_=>none
  | none=>none
 | _=>none
theorem ix [Rd] {α:Type} {ys:List α} {i:Int} {K:α->Option β} (E:En α) (k:Nat) (h:Option.bind (idx ys i) K=some r) (c:∀ v,K v=some r->W P (rsm (.fz (.fp (E.cl v))) (crun P k g)) Q) (hc:kuz (ixOf t.T) (crun P k g)=some (E.n,ys.map E.f,i):=by kernel_rfl):W P g Q:=by
 obtain ⟨v,h1,j⟩:=qg.1 h;refine vst k hc (fun o st a=>?_) (c v j);unfold ixOf at a;split at a
 ·rename_i tt x y l;split at a
  ·rename_i d hd;split at a
   ·rename_i e xs k' i' hk hx hy;split at a;rename_i de b;simp only [qc,qq] at a;obtain ⟨z1,z2,z3⟩:=a;subst z2 z3;exact kag5 E.f h1 t.ok l hd hk b hx (fun x=>by rw [E.hn,z1]) hy (E.hcl v)
    ·cases a
   ·cases a
  ·cases a
 ·cases a
def byOf (T:List (TypeId×TD)) (o:Oper) (st:St):Option (BA×Int):=match o.op with
 | .index t x y=>match kae T t with
  | some d=>match d.kind,st.eval x,st.eval y with
   | .str, .fz (.atom (.string s)), .fz (.atom (.int _ i))=>some (s,i)
   | _,_,_=>none
  | none=>none
 | _=>none
theorem byx [Rd] {s:BA} {i:Int} {K:Int->Option β} (k:Nat) (h:Option.bind (byt s i) K=some r) (b:∀ v,K v=some r->W P (rsm (.fz (eU8 v)) (crun P k g)) Q) (hc:kuz (byOf t.T) (crun P k g)=some (s,i):=by kernel_rfl):W P g Q:=by
 obtain ⟨v,h1,c⟩:=qg.1 h;refine vst k hc (fun o st a=>?_) (b v c);unfold byOf at a;split at a
 ·rename_i tt x y e;split at a
  ·rename_i d hd;split at a;rename_i s' k' i' hk hx hy;simp only [qc,qq] at a;obtain ⟨rfl,rfl⟩:=a;exact kak1 h1 t.ok e hd hk hx hy
   ·cases a
  ·cases a
 ·cases a
def tyCs (T:List (TypeId×TD)):Nat->TypeId->List C0
 | 0,_=>[]
 | n+1,t=>match kae T t with
  | some d=>match d.kind with
   | .slice e=>match kae T e with
    | some de=>[.sl de.size]
    | none=>[.keep]
   | .st fs=>fs.flatMap fun p=>tyCs T n p.1
   | .arr m e=>(List.replicate m e).flatMap fun e=>tyCs T n e
   | _=>[.keep]
  | none=>[.keep]
def tyC (T:List (TypeId×TD)) (t:TypeId):C1:=match kae T t with
 | some d=>match d.kind with
  | .slice e=>match kae T e with
   | some de => .one (.sl de.size)
   | none => .one .keep
  | .st _ => .ag (tyCs T 9 t)
  | .arr _ _ => .ag (tyCs T 9 t)
  | _ => .one .keep
 | none => .one .keep
def clOf (T:List (TypeId×TD)) (o:Oper) (st:St):Option (FuncId×List FV):=match o.op with
 | .call c=>match c.callee with
  | .value (.func f)=>match ktx st (c.argTypes.toList.map (tyC T)) c.args.toList with
   | some ys=>some (f,ys)
   | none=>none
  | _=>none
 | _=>none
theorem cl [Rd] {α:Type} {E:Option α} {K:α->Option β} {f:FuncId} {ys:List FV} {y:α->FV} (k:Nat) (h:Option.bind E K=some r) (hp:∀ v,E=some v->PCall P f ys (y v)) (d:∀ v,K v=some r->W P (rsm (.fz (y v)) (crun P k g)) Q) (hc:kuz (clOf t.T) (crun P k g)=some (f,ys):=by kernel_rfl):W P g Q:=by
 obtain ⟨v,h1,e⟩:=qg.1 h;refine vst k hc (fun o st a=>?_) (d v e);unfold clOf at a;split at a
 ·rename_i c i;split at a
  ·rename_i f' b;split at a;rename_i ys' hy;simp only [qc,qq] at a;obtain ⟨rfl,rfl⟩:=a;obtain ⟨cc,as_,ts⟩:=c;simp only at b;subst b;exact kadj i hy (hp v h1)
   ·cases a
  ·cases a
 ·cases a
def hcOf (cs:List C1) (r1 r2:List (Nat×Nat)) (keys ids0 ids1:List Nat) (post:List (Nat×AObj)) (o:Oper) (st:St):Option (FuncId×List AV×List (Nat×AObj)):=match o.op with
 | .call c=>match c.callee with
  | .value x=>match fnOf c.args.size (st.eval x) with
   | some (f,cap)=>match kpx st r1 (renI r2 ids0) cs c.args.toList,kou r1 (renI r2 ids0) cap,preX st r1 r2 (renI r2 ids0) keys with
    | some as1,some as2,some pre=>bif kls st r1 r2 keys ids0 ids1 post then some (f,as1++as2,pre) else none
    | _,_,_=>none
   | _=>none
  | _=>none
 | _=>none
theorem hcl [Rd] {α:Type} {E:Option α} {K:α->Option β} {f:FuncId} {as_:List AV} {pre:List (Nat×AObj)} {ids0 ids1:List Nat} {res:α->AV} {post:α->List (Nat×AObj)} (k:Nat) (cs:List C1) (r1 r2:List (Nat×Nat)) (keys:List Nat) (h:Option.bind E K=some r) (hp:∀ v,E=some v->HCall P f as_ pre ids0 (.ret (res v)) (post v) ids1) (e:∀ v,K v=some r->W P (rsmA (renA r2 (res v)) (renH r2 (post v)++kix (renI r2 ids0) (stOf (crun P k g)).heap) (renI r2 ids1++(stOf (crun P k g)).ids) (crun P k g)) Q) (hc:∀ v,kvg (hcOf cs r1 r2 keys ids0 ids1 (post v)) (crun P k g)=some (f,as_,pre):=by intro _;kernel_rfl):W P g Q:=by
 obtain ⟨v,h1,i⟩:=qg.1 h;obtain ⟨hk,a⟩:=kz7 (hc v);refine sst k ?_ (e v i) (hv:=hk);unfold hcOf at a;split at a
 ·rename_i c j;split at a
  ·rename_i x hx;split at a
   ·rename_i f' cap b;split at a
    ·rename_i as1 as2 pre' e1 e2 e3;cases d:kls (stOf (crun P k g)) r1 r2 keys ids0 ids1 (post v) with
     | false=>rw [d] at a;cases a
     | true=>
      rw [d] at a;simp only [qe,qc,qq] at a;obtain ⟨rfl,rfl,rfl⟩:=a;obtain ⟨cc,as_,ts⟩:=c;simp only at hx;subst hx;exact kacq r1 r2 j b (hp v h1) e1 e2 d e3
    ·cases a
   ·cases a
  ·cases a
 ·cases a
theorem k9s {cs:List C1} {r1 r2:List (Nat×Nat)} {keys ids0 ids1:List Nat} {post:List (Nat×AObj)} {o:Oper} {st:St} {f:FuncId} {as_:List AV} {pre:List (Nat×AObj)} (a:hcOf cs r1 r2 keys ids0 ids1 post o st=some (f,as_,pre)):
  ∃ x args ts cap as1 as2,o.op = .call { callee := .value x,args:=args,argTypes:=ts }/\fnOf args.size (st.eval x)=some (f,cap)/\kpx st r1 (renI r2 ids0) cs args.toList=some as1/\kou r1 (renI r2 ids0) cap=some as2/\as_=as1++as2/\kls st r1 r2 keys ids0 ids1 post=true/\preX st r1 r2 (renI r2 ids0) keys=some pre:=by
 unfold hcOf at a;split at a
 ·rename_i c e;split at a
  ·rename_i x hx;split at a
   ·rename_i f' cap b;split at a
    ·rename_i as1 as2 pre' e1 e2 e3;cases d:kls st r1 r2 keys ids0 ids1 post with
     | false=>rw [d] at a;cases a
     | true=>
      rw [d] at a;simp only [qe,qc,qq] at a;obtain ⟨rfl,rfl,rfl⟩:=a;obtain ⟨cc,as_,ts⟩:=c;simp only at hx;subst hx;exact ⟨x,as_,ts,cap,as1,as2,e,b,e1,e2,rfl,rfl,e3⟩
    ·cases a
   ·cases a
  ·cases a
 ·cases a
theorem hclS [Rd] {α α':Type} {E:Option (α ⊕ α')} {K1:α->Option β} {K2:α'->Option β} {f:FuncId} {as_:List AV} {pre:List (Nat×AObj)} {ids0 ids1 ids2:List Nat} {res:α->AV} {post:α->List (Nat×AObj)} {pv:α'->Value} {post2:α'->List (Nat×AObj)} (k:Nat) (cs:List C1) (r1 r2:List (Nat×Nat)) (keys:List Nat) (h:Option.bind E (fun v=>Sum.elim K1 K2 v)=some r) (hp:∀ v,E=some v->Sum.elim (fun v=>HCall P f as_ pre ids0 (.ret (res v)) (post v) ids1) (fun v=>HCall P f as_ pre ids0 (.pan (pv v)) (post2 v) ids2) v) (a:∀ v,K2 v=some r->W P ⟨.fin (.panic [pnE (pv v)]),[],{ stOf (crun P k g) with heap:=renH r2 (post2 v)++kix (renI r2 ids0) (stOf (crun P k g)).heap,ids:=renI r2 ids2++(stOf (crun P k g)).ids }⟩ Q) (c:∀ v,K1 v=some r->W P (rsmA (renA r2 (res v)) (renH r2 (post v)++kix (renI r2 ids0) (stOf (crun P k g)).heap) (renI r2 ids1++(stOf (crun P k g)).ids) (crun P k g)) Q) (hc:∀ v,kvg (hcOf cs r1 r2 keys ids0 ids1 (post v)) (crun P k g)=some (f,as_,pre):=by intro _;kernel_rfl) (hc2:∀ v,kvg (hcOf cs r1 r2 keys ids0 ids2 (post2 v)) (crun P k g)=some (f,as_,pre):=by intro _;kernel_rfl):W P g Q:=by
 obtain ⟨v,h1,b⟩:=qg.1 h;have hp:=hp v h1;cases v with
 | inl v=>exact hcl (post:=post) (res:=res) (K:=fun v=>K1 v) (E:=some v) k cs r1 r2 keys b (fun v' hv=>by injection hv with hv;subst hv;exact hp) c (hc:=hc)
 | inr v=>
  obtain ⟨hk,d⟩:=kz7 (hc2 v);obtain ⟨x,args,ts,cap,as1,as2,e1,e2,e3,e4,rfl,e5,e6⟩:=k9s d;exact hpan k r1 r2 hk e1 e2 hp e3 e4 e5 e6 (a v b)
structure ApR where
 id:Nat
 e:TypeId
 size:Nat
 bytes:Nat
 n:Nat
 xs:List FV
 ys:List FV
def kaaj (size:Nat):AV->Option (List FV)
 | .fz (.lst s _ ys)=>bif Nat.beq s size then some ys else none
 | .lim s _ ys=>bif Nat.beq s size then some ys else none
 | _=>none
theorem kad4 {size:Nat} {x:AV} {ys:List FV} (h:kaaj size x=some ys):∃ m,x = .fz (.lst size m ys)\/x = .lim size m ys:=by
 unfold kaaj at h;split at h
 ·rename_i s m zs;cases a:Nat.beq s size with
  | false=>rw [a] at h;cases h
  | true=>
   rw [a] at h;obtain rfl:=qi a;obtain rfl:=qt h;exact ⟨m, .inl rfl⟩
 ·rename_i s m zs;cases a:Nat.beq s size with
  | false=>rw [a] at h;cases h
  | true=>
   rw [a] at h;obtain rfl:=qi a;obtain rfl:=qt h;exact ⟨m, .inr rfl⟩
 ·cases h
def apOf (T:List (TypeId×TD)) (o:Oper) (st:St):Option ApR:=match o.op with
 | .call c=>match c.callee,c.args.toList,c.argTypes.toList with
  | .builtin .append,[X,Y],[t,u]=>bif Nat.beq u t then (match kae T t with
   | some d=>match d.kind,st.eval X with
    | .slice e, .row id n=>match kae T e,kaa st.heap id with
     | some de,some (.frow e' s xs)=>match kaaj de.size (st.eval Y) with
      | some ys=>bif Nat.beq e' e && (Nat.beq s de.size && (Nat.ble 1 de.size && Nat.beq de.zero.length de.size)) then some ⟨id,e,de.size,de.bytes,n,xs,ys⟩ else none
      | none=>none
     | _,_=>none
    | _,_=>none
   | none=>none) else none
  | _,_,_=>none
 | _=>none
theorem k8l {α:Type} {E:En α} {xs ys v:List α} {o:Oper} {st:St} {q:ApR} (a:apOf t.T o st=some q) (h:app q.bytes xs ys=some v) (hn:q.n=xs.length) (hx:q.xs=xs.map E.f) (hy:q.ys=ys.map E.f):
  ∃ (X Y:Operand) (ty:TypeId) (d de:TD) (m:Nat),o.op = .call { callee := .builtin .append,args:=#[X,Y],argTypes:=#[ty,ty] }/\kae t.T ty=some d/\d.kind = .slice q.e/\kae t.T q.e=some de/\de.size=q.size/\Nat.ble 1 de.size=true/\de.zero.length=de.size/\de.bytes=q.bytes /\
   st.eval X = .row q.id xs.length/\kaa st.heap q.id=some (.frow q.e de.size (xs.map E.f))/\(st.eval Y = .fz (.lst de.size m (ys.map E.f))\/st.eval Y = .lim de.size m (ys.map E.f)):=by
 unfold apOf at a;split at a
 ·rename_i c k;split at a
  ·rename_i X Y ty u h1 l p;cases g:Nat.beq u ty with
   | false=>rw [g] at a;cases a
   | true=>
    rw [g] at a;obtain rfl:=qi g;simp only [qe] at a;split at a
    ·rename_i d hd;split at a
     ·rename_i e id n hk r;split at a
      ·rename_i de e' s xs' i j;split at a
       ·rename_i ys' w;cases b:(Nat.beq e' e && (Nat.beq s de.size && (Nat.ble 1 de.size && Nat.beq de.zero.length de.size))) with
        | false=>rw [b] at a;cases a
        | true=>
         rw [b] at a;obtain rfl:=qt a;simp only [qo] at b;obtain ⟨b1,b2,b3,b4⟩:=b;obtain rfl:=qi b1;obtain rfl:=qi b2;simp only at hn hx hy;subst hn hx hy;obtain ⟨m,hm⟩:=kad4 w;obtain ⟨cc,as_,ts⟩:=c;simp only at h1 l p;rw [h1,ktd l,ktd p] at k;exact ⟨X,Y,_,d,de,m,k,hd,hk,i,rfl,b3,qi b4,rfl,r,j,hm⟩
       ·cases a
      ·cases a
     ·cases a
    ·cases a
  ·cases a
 ·cases a
def apK (q:Option ApR):Option (Nat×Nat×List FV×List FV):=match q with
 | some q=>some (q.bytes,q.n,q.xs,q.ys)
 | none=>none
def apG {α:Type} (T:List (TypeId×TD)) (E:En α) (v:List α) (g:Cfg):Cfg:=match kvg (apOf T) g with
 | some q=>rsmA (.row q.id v.length) ((q.id, .frow q.e q.size (v.map E.f))::(stOf g).heap) (stOf g).ids g
 | none=>⟨.bad,g.ks,g.st⟩
theorem ap [Rd] {α:Type} {bytes:Nat} {xs ys:List α} {K:List α->Option β} (E:En α) (k:Nat) (h:Option.bind (app bytes xs ys) K=some r) (a:∀ v,K v=some r->W P (apG t.T E v (crun P k g)) Q) (hc:apK (kvg (apOf t.T) (crun P k g))=some (bytes,xs.length,xs.map E.f,ys.map E.f):=by kernel_rfl):W P g Q:=by
 obtain ⟨v,h1,c⟩:=qg.1 h;have a:=a v c;unfold apK at hc;split at hc;rename_i q b;simp only [qc,qq] at hc;obtain ⟨rfl,e1,e2,e3⟩:=hc;unfold apG at a;rw [b] at a;obtain ⟨hk,e⟩:=kz7 b;refine sst k ?_ a (hv:=hk);obtain ⟨X,Y,ty,d,de,m,k1,k2,k3,k4,k5,k6,k7,k8,k9,k10,k11⟩:=k8l e h1 e1 e2 e3;rw [<- k5];exact k5y E.f h1 t.ok k1 k2 k3 k4 k6 k7 k8 k9 k10 rfl k11
 ·cases hc
def kuj {γ:Type} (f:Oper->St->Option γ) (g:Cfg):Option γ:=bif okZ g then f (kol g) (kmp g) else none
theorem k3y {γ:Type} {f:Oper->St->Option γ} {z:γ} {g:Cfg} (h:kuj f g=some z):okZ g=true/\f (kol g) (kmp g)=some z:=by
 unfold kuj at h;cases hk:okZ g with
 | false=>rw [hk] at h;cases h
 | true=>rw [hk] at h;exact ⟨rfl,h⟩
def apZh {α:Type} (T:List (TypeId×TD)) (E:En α) (v:List α) (g:Cfg):List (Nat×AObj):=match kuj (apOf T) g with
 | some q=>(q.id, .frow q.e q.size (v.map E.f))::(kmp g).heap
 | none=>[]
def apGZ {α:Type} (T:List (TypeId×TD)) (E:En α) (v:List α) (g:Cfg):Cfg:=match kuj (apOf T) g with
 | some q=>rsmZ (.row q.id v.length) (apZh T E v g) (kmp g).ids g
 | none=>⟨.bad,g.ks,g.st⟩
theorem apZ [Rd] {α:Type} {bytes:Nat} {xs ys:List α} {K:List α->Option β} (E:En α) (k:Nat) (h:Option.bind (app bytes xs ys) K=some r) (a:∀ v,K v=some r->W P (apGZ t.T E v (crun P k g)) Q) (hc:apK (kuj (apOf t.T) (crun P k g))=some (bytes,xs.length,xs.map E.f,ys.map E.f):=by kernel_rfl) (hi:idsZ (kmp (crun P k g)).ids (crun P k g)=true:=by kernel_rfl) (hk:∀ v,offZ (crun P k g) (apZh t.T E v (crun P k g))=offZ (crun P k g) (hpZ (crun P k g)):=by intro _;kernel_rfl):W P g Q:=by
 obtain ⟨v,h1,e⟩:=qg.1 h;have a:=a v e;have hk:=hk v;unfold apK at hc;split at hc;rename_i q b;simp only [qc,qq] at hc;obtain ⟨rfl,e1,e2,e3⟩:=hc;unfold apGZ at a;rw [b] at a;obtain ⟨c,i⟩:=k3y b;refine zst k ?_ c hi hk a;obtain ⟨X,Y,ty,d,de,m,k1,k2,k3,k4,k5,k6,k7,k8,k9,k10,k11⟩:=k8l i h1 e1 e2 e3;unfold apZh;rw [b];simp only;rw [<- k5];exact k5y E.f h1 t.ok k1 k2 k3 k4 k6 k7 k8 k9 k10 rfl k11
 ·cases hc
theorem hclZ [Rd] {α:Type} {E:Option α} {K:α->Option β} {f:FuncId} {as_:List AV} {pre:List (Nat×AObj)} {ids0 ids1:List Nat} {res:α->AV} {post:α->List (Nat×AObj)} (k:Nat) (cs:List C1) (r1 r2:List (Nat×Nat)) (keys:List Nat) (h:Option.bind E K=some r) (hp:∀ v,E=some v->HCall P f as_ pre ids0 (.ret (res v)) (post v) ids1) (b:∀ v,K v=some r->W P (rsmZ (renA r2 (res v)) (renH r2 (post v)++kix (renI r2 ids0) (kmp (crun P k g)).heap) (renI r2 ids1++(kmp (crun P k g)).ids) (crun P k g)) Q) (hc:∀ v,kuj (hcOf cs r1 r2 keys ids0 ids1 (post v)) (crun P k g)=some (f,as_,pre):=by intro _;kernel_rfl) (hi:idsZ (renI r2 ids1++(kmp (crun P k g)).ids) (crun P k g)=true:=by kernel_rfl) (hk:∀ v,offZ (crun P k g) (renH r2 (post v)++kix (renI r2 ids0) (kmp (crun P k g)).heap)=offZ (crun P k g) (hpZ (crun P k g)):=by intro _;kernel_rfl):W P g Q:=by
 obtain ⟨v,h1,c⟩:=qg.1 h;obtain ⟨a,d⟩:=k3y (hc v);obtain ⟨x,args,ts,cap,as1,as2,e1,e2,e3,e4,rfl,e5,e6⟩:=k9s d;exact zst k (kacq r1 r2 e1 e2 (hp v h1) e3 e4 e5 e6) a hi (hk v) (b v c)
theorem clL [Rd] {α:Type} {E:Option α} {K:α->Option β} {f:FuncId} {ys:List FV} {y:α->FV} (k:Nat) (ls:List LendI) (h:Option.bind E K=some r) (hp:∀ v,E=some v->PCall P f ys (y v)) (hl:∀ l∈ls,l.ok (k40 (crun P k g)))
  (hc:kuz (fun o st=>clOf t.T o (kagn ls st)) (crun P k g)=some (f,ys)) (ha:∀ v,kafz (y v)=true) (a:∀ v,K v=some r->W P (rsm (.fz (y v)) (crun P k g)) Q):W P g Q:=by
 obtain ⟨v,h1,d⟩:=qg.1 h;refine kbl k ?_;have a:=a v d;generalize crun P k g=g' at *
 unfold kuz at hc;split at hc
 ·rename_i p hv;obtain ⟨o,st⟩:=p;obtain ⟨e1,e2⟩:=k55 hv;rw [e2] at hl;refine k6p hv (kajp ls hl ?_ (ha v)) a;unfold clOf at hc;simp only at hc;split at hc
  ·rename_i c e;split at hc
   ·rename_i f' b;split at hc;rename_i ys' hy;simp only [qc,qq] at hc;obtain ⟨rfl,rfl⟩:=hc;obtain ⟨cc,as_,ts⟩:=c;simp only at b;subst b;exact kadj e hy (hp v h1)
    ·cases hc
   ·cases hc
  ·cases hc
 ·cases hc
end
end Go.Proofs.YtgebfaidgikieaaGreatDoor
set_option linter.all false
set_option linter.unusedSectionVars false
namespace Go.Proofs.YtgebfaidgikieaaGreatDoor
open Go Go.RowKit
variable [Dr]
section
variable {P:Program} {F S0:Nat->Prop} {N0:Nat} {w w':World} {S S':Nat->Prop} {ψ:Env} {K:Nat->Prop} {T:List (TypeId×TD)} {o:Oper} {a:Act} {st:St} {t:TypeId} {d:TD} {id:Nat}
theorem k9v {v:Value} {e:TypeId} {size n:Nat} {cs:List Value} (h:w.ownsRow 0 e size v n cs) (hn:0<n):∃ g cap,v = .slice (some ⟨g,0,none⟩) n cap:=by
 rcases h.2 with ⟨_,h0⟩ | ⟨g,cap,cur,hv,_⟩;omega
 ·exact ⟨g,cap,hv⟩
theorem k1o {α:Type} (E:En α) (xs:List α) {x:α} {i:Int} (X Y:Operand) (e:TypeId) (de:TD) (k:IntKind) (n:Nat) (h:idx xs i=some x) (r:TOk P T) (hn:n=xs.length) (s:o.op = .indexAddr t X Y:=by kernel_rfl) (hd:kae T t=some d:=by kernel_rfl) (hk:d.kind = .slice e:=by kernel_rfl) (l:kae T e=some de:=by kernel_rfl) (y:de.size=E.n:=by kernel_rfl) (hx:st.eval X = .row id n:=by kernel_rfl) (q:kaa st.heap id=some (.frow e E.n (xs.map E.f)):=by kernel_rfl) (hy:st.eval Y = .fz (.atom (.int k i)):=by kernel_rfl):NStep P o st (.ref id n (i.toNat*E.n+0)):=by
 intro ψ S a w ht z;subst hn;have hd:=r.get hd;have l:=r.get l;obtain ⟨h0,hi⟩:=kpj h;have A:i.toNat<xs.length:=(qj.1 hi).1;have m:=Sim.eval_tmps ht X;rw [hx] at m;have b:=Sim.eval_tmps ht Y;rw [hy] at b;have b:=b.atom;obtain ⟨hl,_,cs,c,_,_⟩:=z id _ q;rw [qaw] at hl c;obtain ⟨g,cap,j⟩:=k9v c (by omega);have hK:id∈st.ids/\a.eval X=ψ.val id:=by
  generalize a.eval X=u at m;cases m with
  | row hK B h1 hv=>exact ⟨hK,hv hl.symm⟩
 refine kad w (.pointer (some ⟨g,i.toNat*E.n+0,none⟩)) ?_ ⟨kaf _, .ref hK.1 (by omega) rfl fun _=>⟨g,by rw [j];rfl,rfl⟩⟩;have p:i<(xs.length:Int):=by omega
 simp [execOp,s,hK.2,j,b,Instr.indexAt,asIntOf,run_underlying (hd.slice hk),h0,p,l.size,y,kck]
end
end Go.Proofs.YtgebfaidgikieaaGreatDoor
set_option linter.all false
set_option linter.unusedSectionVars false
namespace Go.Proofs.YtgebfaidgikieaaGreatDoor
open Go Go.RowKit
variable [Dr]
section
variable {P:Program} {F S0:Nat->Prop} {N0:Nat} {w w':World} {S S':Nat->Prop} {ψ:Env} {K:Nat->Prop} {T:List (TypeId×TD)} {o:Oper} {a:Act} {st:St} {t:TypeId} {d:TD} {id:Nat}
end
section
variable {P:Program} [t:Tab P] {g:Cfg} {Q:Exit->St->Prop} {β:Type} {r:β}
end
end Go.Proofs.YtgebfaidgikieaaGreatDoor
set_option linter.all false
set_option linter.unusedSectionVars false
namespace Go.Proofs.YtgebfaidgikieaaGreatDoor
open Go Go.RowKit
def klx {σ α:Type} (P:Program) (l:Nat) (enc:α->FV) (step:σ->α->Option σ) (J:σ->(Nat->Prop)->List Nat->World->Prop):Prop:=
 ∀ (s:σ) (x:α) (s':σ),step s x=some s'->∀ (F S:Nat->Prop) (bs:List Nat) (w:World) (v:Value),OpqC (J s) S bs w->(∀ b∈bs,b<w.heap.size/\¬ S b/\¬ F b)->(∀ b,S b->b<w.heap.size)->(∀ b,F b->b<w.heap.size)->RF S w v (enc x) ->
  YieldAt Fence.wide 0 P l #[v] w fun e w'=>e = .returned (.bool true)/\∃ (S':Nat->Prop) (bs':List Nat),OpqC (J s') S' bs' w'/\(∀ b∈bs',b<w'.heap.size/\¬ S' b/\¬ F b/\(b∈bs\/w.heap.size<=b)) /\
   (∀ b,S b->S' b)/\(∀ b,S' b->b<w'.heap.size/\(S b\/b∈bs\/w.heap.size<=b))/\Same S w w'/\Fr F w w'
variable {P:Program} {F S0:Nat->Prop} {N0:Nat} {w w':World} {S S':Nat->Prop} {ψ:Env} {o:Oper} {a:Act} {st:St}
theorem k32 {heap:List (Nat×AObj)} {ids:List Nat} {id:Nat} {J J':(Nat->Prop)->List Nat->World->Prop} {bs':List Nat} (h:Core F S0 N0 heap ids ψ S w) (v:kaa heap id=some (.xo (.opq J)))
  (o:w.heap.size<=w'.heap.size) (x:OpqC J' S' bs' w') (l:∀ b∈bs',b<w'.heap.size/\¬ S' b/\¬ F b/\(S0 b\/N0<=b)/\∀ i ob,i≠id->kaa heap i=some ob->¬ Blk (ψ.val i) b)
  (hS:∀ b,S b->S' b) (m:∀ b,S' b->b<w'.heap.size/\(S0 b\/N0<=b)/\∀ i ob,i≠id->kaa heap i=some ob->¬ Blk (ψ.val i) b) (hk:Same S w w') (p:∀ i ob b,i≠id->kaa heap i=some ob->Blk (ψ.val i) b->w'.heap[b]?=w.heap[b]?):
  Core F S0 N0 ((id, .xo (.opq J'))::heap) ids (ψ.set id (ψ.len id+1) (.tuple (bs'.map fun b => .pointer (some ⟨b,0,none⟩)).toArray)) S' w'/\Ext (·∈ids) ψ (ψ.set id (ψ.len id+1) (.tuple (bs'.map fun b => .pointer (some ⟨b,0,none⟩)).toArray)):=by
 obtain ⟨r,y,z⟩:=h.obj id _ v;have hx:Ext (·∈ids) ψ (ψ.set id (ψ.len id+1) (.tuple (bs'.map fun b => .pointer (some ⟨b,0,none⟩)).toArray)):=kul (.inl (Nat.lt_succ_self _));refine ⟨⟨fun i o' c=>?_,fun i i' o' o'' b k f d g e=>?_,fun b l=>(m b l).1,fun b s=>(m b s).2.1,qa1 h.n0 o,fun b l=>qbe (h.fr b l) o⟩,hx⟩
 ·rw [kac] at c;by_cases j:id=i;subst j;rw [qs rfl] at c;injection c with c;subst c;refine ⟨r,⟨bs',kan _ _,fun b a=>(l b a).1,x⟩,fun b a=>?_⟩;rw [kan] at a;obtain ⟨q1,q2,q3,q4,_⟩:=l b (blk_ptrs.1 a);exact ⟨q2,q3,q4⟩
  ·rw [ql j] at c;obtain ⟨h1,A,B⟩:=h.obj i o' c;have q:=kd0 ψ (Ne.symm j) (ψ.len id+1) (.tuple (bs'.map fun b => .pointer (some ⟨b,0,none⟩)).toArray);refine ⟨h1,A.keep hx (fun _ h=>h) hS hk q fun b a=>p i o' b (Ne.symm j) c a,fun b a=>?_⟩;rw [q.2] at a;exact ⟨fun hs=>(m b hs).2.2 i o' (Ne.symm j) c a,(B b a).2⟩
 ·have key:∀ {i' o'' b},id≠i'->kaa heap i'=some o''->Blk (ψ.val i') b->b∉bs':=fun {i' o'' b} d t u hm=>(l b hm).2.2.2.2 i' o'' (Ne.symm d) t u;rw [kac] at k f;by_cases j:id=i;subst j;rw [kan] at g;rw [ql d] at f;rw [(kd0 ψ (Ne.symm d) _ _).2] at e;exact key d f e (blk_ptrs.1 g)
  ·rw [ql j] at k;rw [(kd0 ψ (Ne.symm j) _ _).2] at g;by_cases n:id=i';subst n;rw [kan] at e;exact key j k g (blk_ptrs.1 e)
   ·rw [ql n] at f;rw [(kd0 ψ (Ne.symm n) _ _).2] at e;exact h.inj i i' o' o'' b k f d g e
theorem kad1 {heap:List (Nat×AObj)} {ids:List Nat} {id:Nat} {J J':(Nat->Prop)->List Nat->World->Prop} {bs bs':List Nat} (h:Core F S0 N0 heap ids ψ S w) (f:kaa heap id=some (.xo (.opq J)))
  (hv:ψ.val id = .tuple (bs.map fun b => .pointer (some ⟨b,0,none⟩)).toArray) (g:w.heap.size<=w'.heap.size) (n:OpqC J' S' bs' w') (o:∀ b∈bs',b<w'.heap.size/\¬ S' b/\¬ F b/\(b∈bs\/w.heap.size<=b))
  (hS:∀ b,S b->S' b) (j:∀ b,S' b->b<w'.heap.size/\(S b\/b∈bs\/w.heap.size<=b)) (hk:Same S w w') (c:∀ i ob b,i≠id->kaa heap i=some ob->Blk (ψ.val i) b->w'.heap[b]?=w.heap[b]?):
  Core F S0 N0 ((id, .xo (.opq J'))::heap) ids (ψ.set id (ψ.len id+1) (.tuple (bs'.map fun b => .pointer (some ⟨b,0,none⟩)).toArray)) S' w'/\Ext (·∈ids) ψ (ψ.set id (ψ.len id+1) (.tuple (bs'.map fun b => .pointer (some ⟨b,0,none⟩)).toArray)):=by
 obtain ⟨_,_,k⟩:=h.obj id _ f;have a:∀ b,b∈bs\/w.heap.size<=b->(S0 b\/N0<=b)/\∀ i ob,i≠id->kaa heap i=some ob->¬ Blk (ψ.val i) b:=fun b q=>by
  rcases q with q | q;exact ⟨(k b (by rw [hv];exact blk_ptrs.2 q)).2.2,fun i ob d h1 e=>h.inj i id ob _ b h1 f d e (by rw [hv];exact blk_ptrs.2 q)⟩
  ·exact ⟨.inr (qa1 h.n0 q),fun i ob d h1 e=>by have:=(h.obj i ob h1).2.1.lt e;omega⟩
 refine k32 h f g n (fun b l=>?_) hS (fun b m=>?_) hk c;obtain ⟨q1,q2,q3,q4⟩:=o b l;exact ⟨q1,q2,q3,a b q4⟩
 ·obtain ⟨q1,q⟩:=j b m;rcases q with q | q;exact ⟨q1,h.s0 b q,fun i ob _ h1 e=>((h.obj i ob h1).2.2 b e).1 q⟩
  ·exact ⟨q1,a b q⟩
theorem kahf [Rd] {σ α:Type} {enc:α->FV} {step:σ->α->Option σ} {J:σ->(Nat->Prop)->List Nat->World->Prop} {l:Nat} {s s':σ} {z:α} {ops:Array Oper} {os:List Oper} {Q:Exit->St->Prop} {x y:Operand} {ts:Array TypeId} {id:Nat}
  (H:klx P l enc step J) (hst:step s z=some s') (G:o.op = .call { callee := .value x,args:=#[y],argTypes:=ts }) (hx:st.eval x = .fz (.atom (.func (.yield l) #[] #[]))) (c:C1) (hy:co1 c (st.eval y) = .fz (enc z)) (q:kaa st.heap id=some (.xo (.opq (J s))))
  (I:kb7 ops st o=some true) (hd:∀ t,o.dst=some t->t<st.n)
  (hn:awpL P ops os (({ st with heap:=(id, .xo (.opq (J s')))::st.heap }:St).put o.dst (.fz (.atom (.bool true)))) Q):awpL P ops (o::os) st Q:=by
 intro F S0 N0 ψ S a w hs;unfold kbt;rw [kfx hs I];have d:=hs.core;obtain ⟨K,⟨bs,hv,D,L⟩,r⟩:=d.obj id _ q;have j:=hs.eval x;rw [hx] at j;have j:=j.atom;have u:=kp9 c (hs.eval y);rw [hy] at u;obtain ⟨F',f⟩:∃ F':Nat->Prop,∀ b,F' b↔(F b\/∃ i ob,i≠id/\kaa st.heap i=some ob/\Blk (ψ.val i) b):=⟨_,fun _=>Iff.rfl⟩;obtain ⟨fn,tmps,assign,body,v,m⟩:=H s z s' hst F' S bs w (a.eval y) L (fun b g=>⟨D b g,(r b (by rw [hv];exact blk_ptrs.2 g)).1,fun p=>by
  rcases (f b).1 p with p | ⟨i,ob,h1,A,B⟩;exact (r b (by rw [hv];exact blk_ptrs.2 g)).2.1 p
  ·exact d.inj i id ob _ b A q h1 B (by rw [hv];exact blk_ptrs.2 g)⟩) d.lt (fun b p=>by
  rcases (f b).1 p with p | ⟨i,ob,h1,A,B⟩;exact d.fr b p
  ·exact (d.obj i ob A).2.1.lt B) u.inv
 have E:(execOp a.eval o).run P w = .ok (.round l fn tmps assign body) w:=by simp [execOp,G,resolve,j,Deferred.ofValue,invoke,v]
 refine kyq (fun c h=>by rw [G] at h;cases h) E ⟨fun h=>(by cases h),RoundIn.mono (F:=Fd) (show RoundIn Fd 0 P l fn tmps assign body w _ from m) ?_⟩;rintro e w' ⟨rfl,S',bs',q1,q2,q3,q4,q5,q6⟩;obtain ⟨c1,c2⟩:=kad1 d q hv q6.size q1 (fun b g=>⟨(q2 b g).1,(q2 b g).2.1,fun p=>(q2 b g).2.2.1 ((f b).2 (.inl p)),(q2 b g).2.2.2⟩) q3 q4 q5 fun i ob b h1 A B=>q6.block b ((f b).2 (.inr ⟨i,ob,h1,A,B⟩));have C:Fr F w w':=⟨q6.os,q6.tape,q6.output,q6.size,fun b g=>q6.block b ((f b).2 (.inl g)),q6.drawn⟩;exact ke4 (fun e a' w'' k=>k.pre C) _ _ _ (hn F S0 N0 _ S' _ w' (hs.put (st':={ st with heap:=(id, .xo (.opq (J s')))::st.heap }) rfl rfl rfl c1 (.fz (.atom rfl)) c2 (fun _ h=>h) q3 q5 hd))
def kes (Ds:List Nat):(Nat->Prop)->List Nat->World->Prop:=fun _ bs W=>Ds.Nodup/\∀ D∈Ds,D∈bs/\W.heap[D]?=some (.deferred (some []))
def kjr (D:Nat):Deferred:={ target := .collected D,args:=#[] }
def ydV (l:Nat):Value := .func (.yield l) #[] #[]
def blkL (v:Value):List Nat:=(kay v).toList++(kkf v).filterMap kay
theorem blkL_iff {v:Value} {b:Nat}:b∈blkL v↔Blk v b:=by unfold blkL Blk;rw [qa7,List.mem_filterMap,Option.mem_toList]
def k14 (ψ:Env) (h:List (Nat×AObj)):List Nat:=h.flatMap fun p=>blkL (ψ.val p.1)
theorem k3t:∀ {l:List (Nat×AObj)} {i:Nat} {ob:AObj},kaa l i=some ob->∃ ob',(i,ob')∈l
 | [],_,_,h=>by cases h
 | (k,v)::l,i,ob,h=>by
  rw [kac] at h;by_cases hk:k=i;subst hk;exact ⟨v,qx ..⟩
  ·rw [ql hk] at h;obtain ⟨o,a⟩:=k3t h;exact ⟨o,qk _ a⟩
theorem k7u:∀ {l:List (Nat×AObj)} {i:Nat} {ob:AObj},(i,ob)∈l->∃ ob',kaa l i=some ob'
 | (k,v)::l,i,ob,h=>by
  rw [kac];by_cases hk:k=i;exact ⟨v,by rw [qs hk]⟩
  ·rw [ql hk];rcases qab.1 h with h | h;injection h with h1 _;exact absurd h1.symm hk
   ·exact k7u h
theorem k57 {ψ:Env} {h:List (Nat×AObj)} {b:Nat} (hm:b∈k14 ψ h):∃ i ob,kaa h i=some ob/\Blk (ψ.val i) b:=by obtain ⟨⟨i,ob⟩,h1,a⟩:=qa6.1 hm;obtain ⟨ob',c⟩:=k7u h1;exact ⟨i,ob',c,blkL_iff.1 a⟩
theorem k38 {ψ:Env} {h:List (Nat×AObj)} {i:Nat} {ob:AObj} {b:Nat} (a:kaa h i=some ob) (c:Blk (ψ.val i) b):b∈k14 ψ h:=by obtain ⟨o,hm⟩:=k3t a;exact qa6.2 ⟨_,hm,blkL_iff.2 c⟩
theorem Core.look {h1 d:List (Nat×AObj)} {ids:List Nat} (h:Core F S0 N0 h1 ids ψ S w) (e:∀ id ob,kaa d id=some ob->kaa h1 id=some ob):Core F S0 N0 d ids ψ S w:=
 ⟨fun id o a=>h.obj id o (e id o a),fun id id' o o' b a c=>h.inj id id' o o' b (e id o a) (e id' o' c),h.lt,h.s0,h.n0,h.fr⟩
theorem Core.still {heap:List (Nat×AObj)} {ids:List Nat} (h:Core F S0 N0 heap ids ψ S w) (hk:Same S w w') (a:w'.heap.size=w.heap.size) (d:∀ i ob b,kaa heap i=some ob->Blk (ψ.val i) b->w'.heap[b]?=w.heap[b]?):Core F S0 N0 heap ids ψ S w':=
 ⟨fun i ob h1=>⟨(h.obj i ob h1).1,(h.obj i ob h1).2.1.keep Ext.refl (fun _ h=>h) (fun _ h=>h) hk ⟨rfl,rfl⟩ fun b c=>d i ob b h1 c,(h.obj i ob h1).2.2⟩,h.inj,fun b c=>by rw [a];exact h.lt b c,h.s0,by rw [a];exact h.n0,fun b c=>by rw [a];exact h.fr b c⟩
theorem Sim.still {st:St} (h:Sim F S0 N0 st ψ S a w) (hk:Same S w w') (c:w'.heap.size=w.heap.size) (d:∀ i ob b,kaa st.heap i=some ob->Blk (ψ.val i) b->w'.heap[b]?=w.heap[b]?):Sim F S0 N0 st ψ S a w':=
 ⟨h.defers,h.size,fun t=>(h.tmps t).keep Ext.refl (fun _ h=>h) (fun _ h=>h) hk,h.core.still hk c d⟩
def kyd {σ:Type} (st:St) (tm:Array Value) (gw l D:Nat) (rec:Loop) (Hc:σ->List (Nat×AObj)) (s:σ) (Sx:Nat->Prop) (bs:List Nat) (W:World):Prop:=
 ∃ (ψ ψ0:Env) (S1:Nat->Prop) (w1:World),Core (fun _=>False) (fun _=>True) 0 ((gw, .was ψ0 st.ids S1 w1)::Hc s) (gw::st.ids) ψ Sx W/\(∀ t,RV ψ (·∈st.ids) Sx W (tm.getD t undef) (look .any st.tmps t)) /\
  (∀ i ob b,kaa (Hc s) i=some ob->Blk (ψ.val i) b->b∈bs/\b≠D/\b≠l)/\D∈bs/\l∈bs/\W.heap[D]?=some (.deferred (some []))/\W.heap[l]?=some (.loop rec)
theorem k8x {σ:Type} {tm:Array Value} {gw l D:Nat} {rec:Loop} {Hc:σ->List (Nat×AObj)} {s:σ} {bs:List Nat} (m:∀ s,kaa (Hc s) gw=none) (h:kyd st tm gw l D rec Hc s S bs w):OpqC (kyd st tm gw l D rec Hc s) S bs w:=by
 obtain ⟨ψ,ψ0,S1,w1,h1,n,e,f,g,o,p⟩:=h;intro S2 w2 q1 q2 q3 q4 q5;refine ⟨ψ,ψ0,S1,w1,⟨fun i ob c=>?_,h1.inj,q2,fun _ _ => .inl trivial,qaj _,fun _ h=>h.elim⟩,fun t=>(n t).keep Ext.refl (fun _ h=>h) q1 q4,e,f,g,(q5 D f).trans o,(q5 l g).trans p⟩;obtain ⟨k1,k2,k3⟩:=h1.obj i ob c;have d:∀ b,Blk (ψ.val i) b->b∈bs:=fun b a=>by
  rw [kac] at c;by_cases j:gw=i
  ·subst j;rw [qs rfl] at c;injection c with c;subst c;obtain ⟨_,e1,e2,_⟩:=k2;rcases a with a | ⟨u,k,_⟩;rw [e1] at a;cases a
   ·rw [e2] at k;cases k
  ·rw [ql j] at c;exact (e i ob b c a).1
 exact ⟨k1,k2.keep Ext.refl (fun _ h=>h) q1 q4 ⟨rfl,rfl⟩ fun b a=>q5 b (d b a),fun b a=>⟨q3 b (d b a),fun h=>h, .inl trivial⟩⟩
abbrev awpR (l:Nat) (P:Program) (c:Code) (st:St) (Q:Exit->St->Prop):Prop:=@awp dr0 ⟨some l⟩ P c st Q
theorem set1 {tm:Array Value} {p:Nat} {v:Value} {t:Nat} (hp:p<tm.size):(tm.setIfInBounds p v).getD t undef=if p=t then v else tm.getD t undef:=by
 by_cases h:p=t;subst h;rw [qs rfl,qal,Array.getElem?_setIfInBounds_self_of_lt hp];rfl
 ·rw [ql h,qal,Array.getElem?_setIfInBounds_ne h,<- qal]
theorem kaal {σ α:Type} {enc:α->FV} {step:σ->α->Option σ} {st:St} {tm:Array Value} {gw l D p fn:Nat} {assign body:Code} {Hc:σ->List (Nat×AObj)} (S:∀ s,kaa (Hc s) gw=none) (hn:tm.size=st.n) (hp:p<st.n)
  (J:∀ (s:σ) (x:α) (s':σ),step s x=some s'->∀ (ψ1:Env) (S1:Nat->Prop) (w1:World),
   awpR l P assign { n:=st.n,tmps:=(p, .fz (enc x))::st.tmps,heap:=(gw, .was ψ1 st.ids S1 w1)::Hc s,ids:=gw::st.ids,dfr:=[] } fun e st1=>e = .normal /\
    awpR l P body st1 fun e st2=>e = .normal/\LeSt st2 { n:=st.n,tmps:=[],heap:=(gw, .was ψ1 st.ids S1 w1)::Hc s',ids:=gw::st.ids,dfr:=[] }):
  klx P l enc step (kyd st tm gw l D { state := .ready,pending:=none,fn:=fn,tmps:=tm,params:=#[p],assign:=assign,body:=body,defers:=D } Hc):=by
 obtain ⟨rec,m⟩:∃ rec:LoopState->Loop,rec=fun x=>{ state:=x,pending:=none,fn:=fn,tmps:=tm,params:=#[p],assign:=assign,body:=body,defers:=D }:=⟨_,rfl⟩;rw [show ({ state := .ready,pending:=none,fn:=fn,tmps:=tm,params:=#[p],assign:=assign,body:=body,defers:=D }:Loop)=rec .ready by rw [m]];intro s x s' hst F2 S2 bs2 W v hJ G T hF ak;obtain ⟨ψ,ψ0,S1,w1,r,U,V,hD,hl,K,L⟩:=hJ S2 W (fun _ h=>h) T (fun b c=>(G b c).2.1) (fun _ _ _=>rfl) (fun _ _=>rfl);have al:¬ S2 l:=(G l hl).2.1;have am:¬ S2 D:=(G D hD).2.1;have an:=(G l hl).1;have ao:=(G D hD).1;have X:D≠l:=fun e=>by rw [e,L] at K;cases K
 have hy:=run_yield (P:=P) (args:=#[v]) L (by rw [m];rfl);have Y:(Instr.yield l #[v]).run P W = .ok (.round l fn (tm.setIfInBounds p v) assign body) W:=by rw [hy,m];simp
 clear hy;refine ⟨fn,tm.setIfInBounds p v,assign,body,Y,roundIn_of_wpIn (F:=Fence.wide) trivial ?_⟩;clear Y;obtain ⟨Fb,j⟩:∃ Fb:Nat->Prop,∀ b,Fb b↔(F2 b\/b=l\/b=D):=⟨_,fun _=>Iff.rfl⟩;obtain ⟨S0b,z⟩:∃ S0b:Nat->Prop,∀ b,S0b b↔((S2 b\/b∈bs2)/\b≠l/\b≠D):=⟨_,fun _=>Iff.rfl⟩;obtain ⟨Z,⟨aq,aa,ab,_⟩,_⟩:=r.obj gw (.was ψ0 st.ids S1 w1) (by rw [kac,qs rfl]);have A:∀ i ob,kaa ((gw, .was ψ st.ids S2 W)::Hc s) i=some ob->(i=gw/\ob = .was ψ st.ids S2 W)\/(i≠gw/\kaa (Hc s) i=some ob):=fun i ob f=>by
  rw [kac] at f;by_cases he:gw=i;rw [qs he] at f;injection f with f;exact .inl ⟨he.symm,f.symm⟩
  ·rw [ql he] at f;exact .inr ⟨Ne.symm he,f⟩
 have H:∀ i ob,kaa ((gw, .was ψ st.ids S2 W)::Hc s) i=some ob->∃ ob',kaa ((gw, .was ψ0 st.ids S1 w1)::Hc s) i=some ob':=fun i ob f=>by
  rcases A i ob f with ⟨rfl,_⟩ | ⟨M,h⟩;exact ⟨_,by rw [kac,qs rfl]⟩
  ·exact ⟨ob,by rw [kac,ql (Ne.symm M)];exact h⟩
 have ar:Sim Fb S0b W.heap.size { n:=st.n,tmps:=(p, .fz (enc x))::st.tmps,heap:=(gw, .was ψ st.ids S2 W)::Hc s,ids:=gw::st.ids,dfr:=[] } ψ S2 { tmps:=tm.setIfInBounds p v,defers:=[] } W:=by
  refine ⟨rfl,by simpa using hn,fun t=>?_,⟨fun i ob f=>?_,fun i i' ob ob' b h1 h2=>?_,T,fun b c => .inl ((z b).2 ⟨.inl c,fun e=>al (e ▸ c),fun e=>am (e ▸ c)⟩),qw _,fun b c=>?_⟩⟩
  ·show RV ψ _ S2 W ((tm.setIfInBounds p v).getD t undef) (look .any ((p, .fz (enc x))::st.tmps) t);rw [set1 (by omega),kbd];by_cases h:p=t;rw [qs h,qs h];exact .fz ak
   ·rw [ql h,ql h];exact (U t).keep Ext.refl (fun _ h=>qk _ h) (fun _ h=>h) (fun _ _ _=>rfl)
  ·rcases A i ob f with ⟨rfl,rfl⟩ | ⟨M,h⟩
   ·refine ⟨Z,⟨aq,aa,ab,Ext.refl,fun _ h=>qk _ h,fun _ h=>h,fun _ _ _=>rfl⟩,fun b c=>?_⟩;rcases c with c | ⟨u,hu,_⟩;rw [aa] at c;cases c
    ·rw [ab] at hu;cases hu
   ·obtain ⟨k1,k2,k3⟩:=r.obj i ob (by rw [kac,ql (Ne.symm M)];exact h);refine ⟨k1,k2,fun b c=>?_⟩;obtain ⟨q1,q2,q3⟩:=V i ob b h c;refine ⟨(k3 b c).1,fun N=>?_, .inl ((z b).2 ⟨.inr q1,q3,q2⟩)⟩;rcases (j b).1 N with N | N | N;exact (G b q1).2.2 N;exact q3 N
    ·exact q2 N
  obtain ⟨o1,h1⟩:=H i ob h1;obtain ⟨o2,h2⟩:=H i' ob' h2;exact r.inj i i' o1 o2 b h1 h2
  ·rcases (j b).1 c with h | rfl | rfl;exact hF b h;exact an
   ·exact ao
 show assign.wpIn (Fence.wide.inRound l) 0 P _ { tmps:=tm.setIfInBounds p v,defers:=[] } W;refine wpIn_mono (J s x s' hst ψ S2 W Fb S0b _ ψ S2 _ W ar) ?_;rintro e a1 Wa ⟨st1,ψa,Sa,⟨rfl,au⟩,O,w⟩;have ac:Wa.heap[l]?=some (.loop (rec .ready)):=(w.block l ((j l).2 (.inr (.inl rfl)))).trans L;have ad:l<Wa.heap.size:=(qai.1 ac).1;have B:∀ {st':St} {ψ':Env} {S':Nat->Prop} {a':Act} {W':World},Sim Fb S0b W.heap.size st' ψ' S' a' W'->(∀ b,S' b->b≠l)/\∀ i ob b,kaa st'.heap i=some ob->Blk (ψ'.val i) b->b≠l:=fun h=>⟨fun b hS e=>by
  subst e;rcases h.core.s0 _ hS with h1 | h1;exact ((z _).1 h1).2.1 rfl
  ·omega,fun i ob b f av e=>by
  subst e;exact ((h.core.obj i ob f).2.2 _ av).2.1 ((j _).2 (.inr (.inl rfl)))⟩
 have g:∀ {W':World} {ob:Obj} (b:Nat),b≠l->(W'.putObj l ob).heap[b]?=W'.heap[b]?:=fun b h=>World.putObj_heap_other h;refine ⟨_,run_beginRound ac (by rw [m]),?_⟩;have aw:Sim Fb S0b W.heap.size st1 ψa Sa a1 (Wa.putObj l (.loop { rec .ready with state := .busy })):=O.still (fun b c _=>g b ((B O).1 b c)) World.putObj_size fun i ob b f c=>g b ((B O).2 i ob b f c);refine wpIn_mono (au Fb S0b _ ψa Sa a1 _ aw) ?_;rintro e a2 Wc ⟨st2,ψ2,Sc,⟨rfl,ax⟩,ay,y⟩;obtain ⟨ψ3,S3,Q⟩:=ax Fb S0b _ ψ2 Sc a2 Wc ay;have ae:Wc.heap[l]?=some (.loop { rec .ready with state := .busy }):=(y.block l ((j l).2 (.inr (.inl rfl)))).trans (World.putObj_heap_same ad);have af:l<Wc.heap.size:=(qai.1 ae).1;have C:=run_endRound (P:=P) none ae;have az:({ { rec .ready with state := .busy } with state:=if (none:Option Code).isNone then .ready else .done,pending:=none }:Loop)=rec .ready:=by rw [m];rfl
 rw [az] at C;have k:=Q.still (w':=Wc.putObj l (.loop (rec .ready))) (fun b c _=>g b ((B Q).1 b c)) World.putObj_size fun i ob b f c=>g b ((B Q).2 i ob b f c);obtain ⟨Wd,o⟩:∃ Wd,Wd=Wc.putObj l (.loop (rec .ready)):=⟨_,rfl⟩;rw [<- o] at C k;have ag:Wd.heap.size=Wc.heap.size:=by rw [o];exact World.putObj_size
 obtain ⟨_,⟨_,_,_,hE,_,R,E⟩,_⟩:=k.core.obj gw (.was ψ st.ids S2 W) (by show kaa ((gw, .was ψ st.ids S2 W)::Hc s') gw=_;rw [kac,qs rfl]);have a0:Wd.heap[l]?=some (.loop (rec .ready)):=by rw [o];exact World.putObj_heap_same af
 have a3:Wd.heap[D]?=some (.deferred (some [])):=by rw [o,g D X,y.block D ((j D).2 (.inr (.inr rfl))),g D X,w.block D ((j D).2 (.inr (.inr rfl)))];exact K
 have a4:W.heap.size<=Wd.heap.size:=by rw [ag];exact qa1 w.size (by have:=y.size;rw [World.putObj_size] at this;exact this)
 have a5:∀ i ob,kaa (Hc s') i=some ob->kaa ((gw, .was ψ st.ids S2 W)::Hc s') i=some ob:=fun i ob f=>by rw [kac,ql (fun e=>by subst e;rw [S] at f;cases f)];exact f
 have ah:∀ i ob b,kaa (Hc s') i=some ob->Blk (ψ3.val i) b->b<Wd.heap.size/\¬ S3 b/\¬ F2 b/\b≠D/\b≠l/\(b∈bs2\/W.heap.size<=b):=fun i ob b f c=>by
  obtain ⟨_,k2,k3⟩:=k.core.obj i ob (a5 i ob f);obtain ⟨q1,q2,q3⟩:=k3 b c;refine ⟨k2.lt c,q1,fun h=>q2 ((j b).2 (.inl h)),fun h=>q2 ((j b).2 (.inr (.inr h))),fun h=>q2 ((j b).2 (.inr (.inl h))),?_⟩;rcases q3 with q3 | q3
  ·rcases ((z b).1 q3).1 with q | q;exact absurd (R b q) q1
   ·exact .inl q
  ·exact .inr q3
 have a6:∀ b,S3 b->b<Wd.heap.size/\(S2 b\/b∈bs2\/W.heap.size<=b):=fun b c=>⟨k.core.lt b c,by
  rcases k.core.s0 b c with q | q
  ·rcases ((z b).1 q).1 with q | q;exact .inl q
   ·exact .inr (.inl q)
  ·exact .inr (.inr q)⟩
 have ai:¬ S3 l:=fun h=>(B k).1 l h rfl;have aj:¬ S3 D:=fun h=>by
  rcases k.core.s0 D h with q | q;exact ((z D).1 q).2.2 rfl
  ·omega
 have a7:kyd st tm gw l D (rec .ready) Hc s' S3 (k14 ψ3 (Hc s')++[D,l]) Wd:=by
  refine ⟨ψ3,ψ,S2,W,⟨fun i ob f=>?_,k.core.inj,k.core.lt,fun _ _ => .inl trivial,qaj _,fun _ h=>h.elim⟩,fun t=>(U t).keep hE (fun _ h=>h) R E,fun i ob b f c=>?_,by simp,by simp,a3,a0⟩;obtain ⟨k1,k2,k3⟩:=k.core.obj i ob f;exact ⟨k1,k2,fun b c=>⟨(k3 b c).1,fun h=>h, .inl trivial⟩⟩
  ·obtain ⟨_,_,_,q4,q5,_⟩:=ah i ob b f c;exact ⟨List.mem_append_left _ (k38 f c),q4,q5⟩
 refine ⟨_,_,C,rfl,S3,k14 ψ3 (Hc s')++[D,l],k8x S a7,fun b c=>?_,R,a6,E,?_⟩
 ·rcases qa7.1 c with c | c;obtain ⟨i,ob,h1,h2⟩:=k57 c;obtain ⟨q1,q2,q3,_,_,q6⟩:=ah i ob b h1 h2;exact ⟨q1,q2,q3,q6⟩
  ·simp only [qab,List.not_mem_nil,or_false] at c;rcases c with rfl | rfl;exact ⟨by omega,aj,(G _ hD).2.2, .inl hD⟩
   ·exact ⟨by omega,ai,(G _ hl).2.2, .inl hl⟩
 ·refine ⟨?_,?_,?_,a4,fun b c=>?_,fun d=>no0 d⟩;rw [o];exact y.os.trans w.os;rw [o];exact y.tape.trans w.tape;rw [o];exact y.output.trans w.output
  ·have I:b≠l:=fun e=>(G l hl).2.2 (e ▸ c);rw [o,g b I,y.block b ((j b).2 (.inl c)),g b I,w.block b ((j b).2 (.inl c))]
end Go.Proofs.YtgebfaidgikieaaGreatDoor
