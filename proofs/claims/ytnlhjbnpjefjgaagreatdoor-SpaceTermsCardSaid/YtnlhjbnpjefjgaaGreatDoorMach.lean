import Derived.Test.YtnlhjbnpjefjgaaGreatDoorDra
import Derived.Test.YtnlhjbnpjefjgaaGreatDoorOpr
set_option linter.all false
set_option linter.unusedSectionVars false
namespace Go.Proofs.YtnlhjbnpjefjgaaGreatDoor
open Go Go.RowKit
variable [Dr]
class Tab (P:Program) where
 T:List (TypeId×TD)
 ok:TOk P T
 mixed:P.follows .mixedOrders=true
abbrev FsT:=List (Nat×Option Nat×AV)
structure Zn where
 os:Array Oper
 n:Nat
 es:List Nat
 ch:List Nat
 ai:List Nat
inductive Foc where
 | code (c:Code)
 | ops (os:Array Oper) (l:List Oper)
 | drz (z:Zn) (k i:Nat) (l:List Oper) (fs:FsT) (hp:List (Nat×AObj)) (ids:List Nat) (pn:Option Nat)
 | dry (z:Zn) (k i:Nat) (l:List Oper) (fs:FsT) (hp:List (Nat×AObj)) (nid:List Nat) (es:List (Nat×Nat))
 | fin (e:Exit)
 | bad
inductive Frm where
 | seq (c:Code)
 | block (id:Nat)
structure Cfg where
 foc:Foc
 ks:List Frm
 st:St
def kpq (T:List (TypeId×TD)) (t:TypeId):Option TK:=match kad T t with
 | some d=>some d.kind
 | none=>none
def k64 (T:List (TypeId×TD)) (sr t:TypeId) (x:AV):Option AV:=match kpq T sr,kpq T t,x with
 | some _,some (.int k), .fz (.atom (.int _ n))=>some (.fz (.atom (.int k (k.wrap n))))
 | some .str,some .str, .fz (.atom (.string s))=>some (.fz (.atom (.string s)))
 | _,_,_=>none
def ktj (T:List (TypeId×TD)) (o:Oper) (st:St):Option AV:=match kto T o st with
 | some c=>some c
 | none=>match o.op with
  | .convert sr t x=>k64 T sr t (st.eval x)
  | .call c=>match c.callee,c.args.toList with
   | .builtin .min,[x,y]=>match st.eval x,st.eval y with
    | .fz (.atom (.int k m)), .fz (.atom (.int _ n))=>some (.fz (.atom (.int k (imin m n))))
    | _,_=>none
   | .builtin .max,[x,y]=>match st.eval x,st.eval y with
    | .fz (.atom (.int k m)), .fz (.atom (.int _ n))=>some (.fz (.atom (.int k (imax m n))))
    | _,_=>none
   | _,_=>none
  | .makeInterface t x=>match kpq T t with
   | some .ifc=>none
   | some _=>match toV (st.eval x) with
    | some v=>some (.fz (.atom (.iface t v)))
    | none=>none
   | none=>none
  | .typeAssert x _ t true=>match kpq T t,st.eval x with
   | some .ifc,_=>none
   | some _, .fz (.atom (.iface t' v))=>bif Nat.beq t' t then (match ofV v with
    | some y=>some (.fz (.tup [y, .atom (.bool true)]))
    | none=>none) else none
   | _,_=>none
  | .binOp op t x (.const .nilIface) _=>match kpq T t,st.eval x,op with
   | some .ifc, .fz (.atom (.iface _ _)), .eql=>some (.fz (.atom (.bool false)))
   | some .ifc, .fz (.atom (.iface _ _)), .neq=>some (.fz (.atom (.bool true)))
   | some .ifc, .fz (.atom .nilIface), .eql=>some (.fz (.atom (.bool true)))
   | some .ifc, .fz (.atom .nilIface), .neq=>some (.fz (.atom (.bool false)))
   | _,_,_=>none
  | _=>none
theorem kfp {T:List (TypeId×TD)} {t:TypeId} {k:TK} (h:kpq T t=some k):∃ d,kad T t=some d/\d.kind=k:=by
 unfold kpq at h;split at h;rename_i d a;injection h with h;exact ⟨d,a,h⟩
 ·cases h
theorem knz {α:Type} {xs:Array α} {x y:α} (h:xs.toList=[x,y]):xs=#[x,y]:=by apply qbr;simpa using h
theorem kvy {P:Program} {T:List (TypeId×TD)} (f:TOk P T) {o:Oper} {st:St} {c:AV} (h:ktj T o st=some c):NStep P o st c:=by
 unfold ktj at h;split at h;rename_i c' hc;injection h with h;subst h;exact kiq f _ (a:=hc)
 ·split at h
  ·rename_i sr t x ho;unfold k64 at h;split at h;rename_i ks k k' n h1 g j;injection h with h;subst h;obtain ⟨ds,hs,_⟩:=kfp h1;obtain ⟨d,b,hk⟩:=kfp g;exact k26 f ho hs b hk j;rename_i s h1 g j;injection h with h;subst h;obtain ⟨ds,hs,l⟩:=kfp h1;obtain ⟨d,b,hk⟩:=kfp g;exact kz3 f ho hs l b hk j
   ·cases h
  ·rename_i c' ho;obtain ⟨cc,as_,ts⟩:=c';split at h
   ·rename_i x y h1 g;simp only at h1 g;rw [h1,knz g] at ho;split at h;rename_i k m k' n e hy;injection h with h;subst h;exact k61 ho e hy
    ·cases h
   ·rename_i x y h1 g;simp only at h1 g;rw [h1,knz g] at ho;split at h;rename_i k m k' n e hy;injection h with h;subst h;exact k65 ho e hy
    ·cases h
   ·cases h
  ·rename_i tt x ho;split at h;cases h
   ·rename_i kk i hk;obtain ⟨d,b,a⟩:=kfp hk;split at h;rename_i v hv;injection h with h;subst h;exact kaab ho (f.get b) (fun hi=>i (by rw [hi] at a;exact a.symm)) hv
    ·cases h
   ·cases h
  ·rename_i x xt tt ho;split at h;cases h
   ·rename_i kk t' v i hk e;obtain ⟨d,b,a⟩:=kfp hk;cases p:Nat.beq t' tt with
    | false=>rw [p] at h;cases h
    | true=>
     rw [p] at h;obtain rfl:=qi p;(try simp only [qe] at h);split at h;rename_i y hy;injection h with h;subst h;exact k2y ho (f.get b) (fun hi=>i (by rw [hi] at a;exact a.symm)) e hy
     ·cases h
   ·cases h
  ·rename_i op tt x yt ho;split at h;rename_i s z hk e;obtain ⟨d,b,a⟩:=kfp hk;injection h with h;subst h;exact kmt false false ho (f.get b) a e (.inl ⟨rfl,_,_,rfl⟩);rename_i s z hk e;obtain ⟨d,b,a⟩:=kfp hk;injection h with h;subst h;exact kmt true false ho (f.get b) a e (.inl ⟨rfl,_,_,rfl⟩);rename_i hk e;obtain ⟨d,b,a⟩:=kfp hk;injection h with h;subst h;exact kmt false true ho (f.get b) a e (.inr ⟨rfl,rfl⟩);rename_i hk e;obtain ⟨d,b,a⟩:=kfp hk;injection h with h;subst h;exact kmt true true ho (f.get b) a e (.inr ⟨rfl,rfl⟩)
   ·cases h
  ·cases h
def unwN:List Frm->St->Cfg
 | [],st=>⟨.fin .normal,[],st⟩
 | .seq y::ks,st=>⟨.code y,ks,st⟩
 | .block _::ks,st=>unwN ks st
def unwX (id:Nat):List Frm->St->Cfg
 | [],st=>⟨.fin (.exit id),[],st⟩
 | .seq _::ks,st=>unwX id ks st
 | .block i::ks,st=>bif Nat.beq id i then unwN ks st else unwX id ks st
def unw:Exit->List Frm->St->Cfg
 | .normal,ks,st=>unwN ks st
 | .exit i,ks,st=>unwX i ks st
 | .ret,_,st=>⟨.fin .ret,[],st⟩
 | .panic cs,_,st=>⟨.fin (.panic cs),[],st⟩
 | _,_,st=>⟨.bad,[],st⟩
def k1l (T:List (TypeId×TD)) (os:Array Oper) (o:Oper) (l:List Oper) (ks:List Frm) (st:St):Cfg:=match kbk os st o,kq6 st o with
 | some true,true=>match krd T o st with
  | some (c,h,i)=>⟨.ops os l,ks,({ st with heap:=h,ids:=i }:St).put o.dst c⟩
  | none=>match ktj T o st with
   | some c=>⟨.ops os l,ks,st.put o.dst c⟩
   | none=>⟨.bad,ks,st⟩
 | some false,true=>⟨.ops os l,ks,st.put o.dst (.fz (.tup []))⟩
 | _,_=>⟨.bad,ks,st⟩
def kwe (T:List (TypeId×TD)) (os:Array Oper) (st:St) (o:Oper):Option AV:=match kbk os st o with
 | some true=>ktj T o st
 | some false=>some (.fz (.tup []))
 | none=>none
def k1h:Code->List Frm->St->Cfg
 | .skip,ks,st=>unwN ks st
 | .label _,ks,st=>unwN ks st
 | .exit i,ks,st=>unwX i ks st
 | .ret,_,st=>⟨.fin .ret,[],st⟩
 | .seq x y,ks,st=>⟨.code x, .seq y::ks,st⟩
 | .block id c,ks,st=>⟨.code c, .block id::ks,st⟩
 | .cond c x y,ks,st=>match st.eval c with
  | .fz (.atom (.bool b))=>⟨.code (bif b then x else y),ks,st⟩
  | _=>⟨.bad,ks,st⟩
 | .region _ os false,ks,st=>⟨.ops os os.toList,ks,st⟩
 | _,ks,st=>⟨.bad,ks,st⟩
def kk6 (z:Zn) (st:St) (i:Nat) (o:Oper) (fs:FsT) (hp:List (Nat×AObj)) (ids:List Nat):St:=kdj z.os.toList z.n z.es z.ch z.ai st i o fs hp ids
def k1m (ch:List Nat):List (Nat×AObj)->Bool
 | (k,_)::_=>ch.contains k
 | []=>true
def kpi (ai ids ids':List Nat):Bool:=ids'.all ai.contains && ids.all ids'.contains
def kws (z:Zn) (i:Nat):Option Nat->Bool
 | some e=>anc z.os.toList i e
 | none=>false
def k1r (T:List (TypeId×TD)) (z:Zn) (k i:Nat) (o:Oper) (l:List Oper) (fs:FsT) (hp:List (Nat×AObj)) (ids:List Nat) (pn:Option Nat) (ks:List Frm) (st:St):Cfg:=
 bif kws z i pn then ⟨.drz z k (i+1) l ((i,o.dst, .any)::fs) hp ids pn,ks,st⟩ else
 bif z.es.contains i then (match kbk z.os (kk6 z st i o fs hp ids) o,krd T o (kk6 z st i o fs hp ids),pn with
  | some false,_,none=>bif kpi z.ai ids ids then ⟨.drz z k (i+1) l ((i,o.dst, .fz (.tup []))::fs) hp ids none,ks,st⟩ else ⟨.bad,ks,st⟩
  | some true,some (c,a,i'),none=>bif Nat.beq (kk6 z st i o fs hp ids).heap.length hp.length && (phB z.os.toList z.es i && (k1m z.ch a && kpi z.ai ids i')) then ⟨.drz z k (i+1) l ((i,o.dst,c)::fs) a i' none,ks,st⟩ else ⟨.bad,ks,st⟩
  | _,_,_=>⟨.bad,ks,st⟩)
 else (match kwe T z.os (kk6 z st i o fs hp ids) o with
  | some c=>bif phB z.os.toList z.es i || okA st.ids c then ⟨.drz z k (i+1) l ((i,o.dst,c)::fs) hp ids pn,ks,st⟩ else ⟨.bad,ks,st⟩
  | none=>⟨.bad,ks,st⟩)
def kt5 (z:Zn) (st:St) (i:Nat) (o:Oper) (fs:FsT):St:=kfd z.os.toList z.n z.ai st i o fs
def kw3 (T:List (TypeId×TD)) (o:Oper):Option (TypeId×List AV):=match o.op with
 | .alloc e=>match kad T e with
  | some d=>match knm d with
   | some cells=>some (e,cells)
   | none=>none
  | none=>none
 | _=>none
def kyi (T:List (TypeId×TD)) (v:St) (o:Oper):Option (Nat×AObj):=match o.op with
 | .store t x y=>match kqu T v t x y with
  | some (_,q::_,_)=>some q
  | _=>none
 | _=>none
def kym (z:Zn) (st:St) (es:List (Nat×Nat)) (id:Nat):Bool:=!(st.ids.contains id || (st.heap.any fun q=>q.1 == id) || (es.any fun q=>q.2 == id) || !z.ai.contains id)
def k1z (T:List (TypeId×TD)) (z:Zn) (k i:Nat) (o:Oper) (l:List Oper) (fs:FsT) (hp:List (Nat×AObj)) (nid:List Nat) (es:List (Nat×Nat)) (ks:List Frm) (st:St):Cfg:=
 match kwe T z.os (kt5 z st i o fs) o with
 | some c=>bif okA (idsB z.os.toList i nid es st.ids) c then ⟨.dry z k (i+1) l ((i,o.dst,c)::fs) hp nid es,ks,st⟩ else ⟨.bad,ks,st⟩
 | none=>match kbk z.os (kt5 z st i o fs) o,kw3 T o with
  | some true,some (e,cells)=>bif kym z st es (fresh (nid++st.ids)) then ⟨.dry z k (i+1) l ((i,o.dst, .ref (fresh (nid++st.ids)) 0 0)::fs) ((fresh (nid++st.ids), .box e cells)::hp) (fresh (nid++st.ids)::nid) ((i,fresh (nid++st.ids))::es),ks,st⟩ else ⟨.bad,ks,st⟩
  | some true,none=>match kyi T { kt5 z st i o fs with heap:=hp++st.heap } o with
   | some q=>bif !(st.heap.any fun r=>r.1 == q.1) && befB z.os.toList i q.1 es then ⟨.dry z k (i+1) l ((i,o.dst, .any)::fs) (q::hp) nid ((i,q.1)::es),ks,st⟩ else ⟨.bad,ks,st⟩
   | none=>⟨.bad,ks,st⟩
  | _,_=>⟨.bad,ks,st⟩
def k0v (T:List (TypeId×TD)) (g:Cfg):Cfg:=match g with
 | ⟨.code c,ks,st⟩=>k1h c ks st
 | ⟨.ops _ [],ks,st⟩=>unwN ks st
 | ⟨.ops os (o::l),ks,st⟩=>k1l T os o l ks st
 | ⟨.drz z 0 _ l fs hp ids none,ks,st⟩=>⟨.ops z.os l,ks,{ st with tmps:=hadd fs (fun _=>true) st.tmps,heap:=hp,ids:=ids }⟩
 | ⟨.drz z (k+1) i (o::l) fs hp ids pn,ks,st⟩=>k1r T z k i o l fs hp ids pn ks st
 | ⟨.dry z 0 _ l fs hp nid _,ks,st⟩=>⟨.ops z.os l,ks,{ st with tmps:=hadd fs (fun _=>true) st.tmps,heap:=hp++st.heap,ids:=nid++st.ids }⟩
 | ⟨.dry z (k+1) i (o::l) fs hp nid es,ks,st⟩=>k1z T z k i o l fs hp nid es ks st
 | ⟨_,ks,st⟩=>⟨.bad,ks,st⟩
def crunT (T:List (TypeId×TD)) (k:Nat) (g:Cfg):Cfg:=Nat.rec g (fun _ r=>k0v T r) k
def crun (P:Program) [t:Tab P] (k:Nat) (g:Cfg):Cfg:=crunT t.T k g
def ke9 (P:Program):List Frm->(Exit->St->Prop)->Exit->St->Prop
 | [],Q=>Q
 | .seq y::ks,Q=>k62 (fun st=>awp P y st (ke9 P ks Q)) (ke9 P ks Q)
 | .block id::ks,Q=>kub id (ke9 P ks Q)
def FW (P:Program) (foc:Foc) (st:St) (Q:Exit->St->Prop):Prop:=match foc with
 | .code c=>awp P c st Q
 | .ops os l=>awpL P os l st Q
 | .drz z k i l fs hp ids pn=>kn6 P z.os z.n z.es z.ch z.ai Q st k i l fs hp ids pn
 | .dry z k i l fs hp nid es=>ko3 P z.os z.n z.ai Q st k i l fs hp nid es
 | .fin e=>Q e st
 | .bad=>False
def W (P:Program) (g:Cfg) (Q:Exit->St->Prop):Prop:=FW P g.foc g.st (ke9 P g.ks Q)
section
variable {P:Program} {T:List (TypeId×TD)} {Q:Exit->St->Prop} {st:St} {ks:List Frm}
theorem kml:∀ {ks:List Frm},W P (unwN ks st) Q->ke9 P ks Q .normal st
 | [],h=>h
 | .seq _::_,h=>h
 | .block id::ks,h=>show kub id (ke9 P ks Q) .normal st from kml (ks:=ks) h
theorem kra {i:Nat}:∀ {ks:List Frm},W P (unwX i ks st) Q->ke9 P ks Q (.exit i) st
 | [],h=>h
 | .seq _::ks,h=>kra (ks:=ks) h
 | .block id::ks,h=>by
  show (if i=id then ke9 P ks Q .normal st else ke9 P ks Q (.exit i) st);simp only [unwX] at h;by_cases hi:i=id;subst hi;rw [qn rfl];simp only [Nat.beq_refl,qe] at h;exact kml h
  ·rw [qj hi];rw [Nat.beq_eq_false hi] at h;exact kra h
theorem krj {ks:List Frm}:Q .ret st->ke9 P ks Q .ret st:=by
 induction ks with
 | nil=>exact id
 | cons k ks ih=>cases k <;> exact ih
theorem k88 {cs} {ks:List Frm}:Q (.panic cs) st->ke9 P ks Q (.panic cs) st:=by
 induction ks with
 | nil=>exact id
 | cons k ks ih=>cases k <;> exact ih
theorem kyd {e:Exit} {ks:List Frm} (h:W P (unw e ks st) Q):ke9 P ks Q e st:=by
 cases e with
 | normal=>exact kml h
 | exit i=>exact kra h
 | ret=>exact krj h
 | panic cs=>exact k88 h
 | _=>exact h.elim
theorem kyy (b:TOk P T) {os:Array Oper} {o:Oper} {c:AV} (h:kwe T os st o=some c):(kbk os st o=some true/\NStep P o st c)\/(kbk os st o=some false/\c = .fz (.tup [])):=by
 unfold kwe at h;split at h;rename_i a;exact .inl ⟨a,kvy b h⟩;rename_i a;injection h with h;exact .inr ⟨a,h.symm⟩
 ·cases h
theorem k4k (e:TOk P T) {os:Array Oper} {o:Oper} {l:List Oper} (h:W P (k1l T os o l ks st) Q):awpL P os (o::l) st (ke9 P ks Q):=by
 unfold k1l at h;split at h
 ·rename_i a b;split at h;rename_i c f i d;exact kt1 (kxy e d) a (kkf b) h
  ·split at h;rename_i c d;exact kt1 (kvy e d).step a (kkf b) h
   ·exact h.elim
 rename_i a b;exact kabi a (kkf b) h
 ·exact h.elim
theorem k54 {c:Code} (h:W P (k1h c ks st) Q):awp P c st (ke9 P ks Q):=by
 unfold k1h at h;split at h;exact k5g (kml h);exact fun F S0 N0 ψ S a w hs=>wp_label ⟨st,ψ,S,kml h,hs,Fr.refl⟩;exact k5r (kra h);exact k7s (krj h);exact k73 h;exact k32 h
 ·split at h;rename_i b;exact kxt b h
  ·exact h.elim
 exact k1p h
 ·exact h.elim
theorem k0r {o:Oper} {c:AV} {h:List (Nat×AObj)} {i:List Nat} (a:krd T o st=some (c,h,i)):h=st.heap\/∃ id ob,h=(id,ob)::st.heap:=by
 unfold krd at a;have d:∀ {e:TypeId} {cells:List AV},boxX e st cells=some (c,h,i)->h=st.heap\/∃ id ob,h=(id,ob)::st.heap:=fun {e cells} a=>by
  unfold boxX at a;cases f:(cells.all AV.single && !st.ids.contains (Go.Proofs.YtnlhjbnpjefjgaaGreatDoor.fresh st.ids)) with
  | false=>rw [f] at a;cases a
  | true=>rw [f] at a;simp only [qe,qc,qt] at a;exact .inr ⟨_,_,a.2.1.symm⟩
 split at a;exact d a
 ·split at a
  ·split at a;exact d a
   ·cases a
  ·cases a
 ·unfold kqu at a;split at a
  ·split at a
   ·rename_i e cells g;generalize (Nat.beq _ 0 && _)=b at a;cases b with
    | false=>cases a
    | true=>simp only [qe,qc,qt] at a;exact .inr ⟨_,_,a.2.1.symm⟩
   ·cases a
  ·cases a
 ·refine .inl ?_;generalize kto T o st=c0 at a;cases c0 with
  | none=>cases a
  | some x=>simp only [nres,qc,qt] at a;exact a.2.1.symm
theorem ksw {ai ids ids':List Nat} (h:kpi ai ids ids'=true):(∀ id,id∈ids'->id∈ai)/\∀ id,id∈ids->id∈ids':=by unfold kpi at h;simp only [qv] at h;exact ⟨fun id hi=>by simpa using qu.1 h.1 id hi,fun id hi=>by simpa using qu.1 h.2 id hi⟩
theorem k5h (m:TOk P T) {z:Zn} {k i:Nat} {o:Oper} {l:List Oper} {fs:FsT} {hp:List (Nat×AObj)} {ids:List Nat} {pn:Option Nat} (h:W P (k1r T z k i o l fs hp ids pn ks st) Q):kn6 P z.os z.n z.es z.ch z.ai (ke9 P ks Q) st (k+1) i (o::l) fs hp ids pn:=by
 unfold k1r at h;cases f:kws z i pn with
 | true=>
  rw [f] at h;cases pn with
  | none=>cases f
  | some e=>exact .inl ⟨e,rfl,f,h⟩
 | false=>
  rw [f] at h;simp only [qf] at h;cases d:z.es.contains i with
  | true=>
   rw [d] at h;simp only [qe] at h;split at h
   ·rename_i g;cases a:kpi z.ai ids ids with
    | false=>rw [a] at h;exact h.elim
    | true=>
     rw [a] at h;exact .inr (.inr (.inl ⟨d,rfl,_,hp,ids,⟨.inr ⟨g,rfl,rfl,rfl⟩, .inr ⟨fun _ _ _ h=>h,ksw a⟩⟩,h⟩))
   ·rename_i c p i' g q;generalize a:(Nat.beq (kk6 z st i o fs hp ids).heap.length hp.length && (phB z.os.toList z.es i && (k1m z.ch p && kpi z.ai ids i')))=b at h;cases b with
    | false=>exact h.elim
    | true=>
     simp only [qv] at a;obtain ⟨_,b2,b3,b4⟩:=a;refine .inr (.inr (.inl ⟨d,rfl,c,p,i',⟨.inl ⟨g,kxy m q⟩, .inr ⟨?_,ksw b4⟩⟩,h⟩));have hv:(kk6 z st i o fs hp ids).heap=hp:=(by show (bif phB z.os.toList z.es i then hp else _)=hp;rw [b2];rfl);rcases k0r q with hf | ⟨id,ob,hf⟩;rw [hf,hv];exact fun _ _ _ h=>h
     ·rw [hf,hv];rw [hf] at b3;intro id' j ob' ho;rw [kah,qj];exact ho
      ·rintro rfl;exact j (by simpa [k1m] using b3)
   ·exact h.elim
  | false=>
   rw [d] at h;simp only [qf] at h;split at h
   ·rename_i c hc;cases hk:(phB z.os.toList z.es i || okA st.ids c) with
    | false=>rw [hk] at h;exact h.elim
    | true=>rw [hk] at h;exact .inr (.inl ⟨d,c,kyy m hc,hk,h⟩)
   ·exact h.elim
theorem k3c (c:TOk P T) {o:Oper} {e:TypeId} {cells:List AV} (h:kw3 T o=some (e,cells)) {v:St} (id:Nat):k1x P v o (.ref id 0 0) id (.box e cells):=by
 unfold kw3 at h;split at h
 ·rename_i e' ho;split at h
  ·rename_i d f;split at h;rename_i cells' g;simp only [qc,qt] at h;obtain ⟨rfl,rfl⟩:=h;exact fun a ids' b=>kuk (st:={ v with heap:=a,ids:=ids' }) ho (c.get f) g b
   ·cases h
  ·cases h
 ·cases h
theorem k2a (g:TOk P T) {v:St} {o:Oper} {q:Nat×AObj} (h:kyi T v o=some q):k1w P v o .any q.1 q.2:=by
 unfold kyi at h;split at h
 ·rename_i t x y ho;unfold kqu at h;cases c:kad T t with
  | none=>rw [c] at h;cases h
  | some d=>
   rw [c] at h;generalize i:v.eval x=ex at h;cases ex with
   | ref id n off=>
    simp only at h;cases a:kaa v.heap id with
    | none=>rw [a] at h;cases h
    | some ob=>
     rw [a] at h;cases ob with
     | box e cells=>
      simp only at h;cases b:(Nat.beq n 0 && (Nat.beq (v.eval y).cells.length d.size && ((v.eval y).cells.all AV.single && Nat.ble (off+(v.eval y).cells.length) cells.length))) with
      | false=>rw [b] at h;cases h
      | true=>
       rw [b] at h;simp only [qe,qc] at h;subst h;simp only [qv] at b;obtain ⟨b1,b2,b3,b4⟩:=b;obtain rfl:=qi b1;exact fun f ids' hl=>kzn (st:={ v with heap:=f,ids:=ids' }) ho (g.get c) i (by rw [<- a];exact hl) rfl (qi b2) b3 (qr b4)
     | _=>cases h
   | _=>cases h
 ·cases h
theorem k4r (b:TOk P T) {z:Zn} {k i:Nat} {o:Oper} {l:List Oper} {fs:FsT} {hp:List (Nat×AObj)} {nid:List Nat} {es:List (Nat×Nat)} (h:W P (k1z T z k i o l fs hp nid es ks st) Q):ko3 P z.os z.n z.ai (ke9 P ks Q) st (k+1) i (o::l) fs hp nid es:=by
 unfold k1z at h;split at h
 ·rename_i c hc;cases hk:okA (idsB z.os.toList i nid es st.ids) c with
  | false=>rw [hk] at h;exact h.elim
  | true=>rw [hk] at h;exact .inl ⟨c,kyy b hc,hk,h⟩
 ·split at h
  ·rename_i e cells d ha;cases hk:kym z st es (Go.Proofs.YtnlhjbnpjefjgaaGreatDoor.fresh (nid++st.ids)) with
   | false=>rw [hk] at h;exact h.elim
   | true=>
    rw [hk] at h;have a:=hk;unfold kym at a;rw [qb2] at a;exact .inr (.inl ⟨_,_,_,d,k3c b ha _,a,h⟩)
  ·rename_i d _;split at h
   ·rename_i q f;cases hk:(!(st.heap.any fun r=>r.1 == q.1) && befB z.os.toList i q.1 es) with
    | false=>rw [hk] at h;exact h.elim
    | true=>
     rw [hk] at h;rw [qv,qb2] at hk;exact .inr (.inr ⟨_,_,_,d,k2a b f,hk.1,hk.2,h⟩)
   ·exact h.elim
  ·exact h.elim
theorem k5v (a:TOk P T) {g:Cfg} (h:W P (k0v T g) Q):W P g Q:=by
 unfold k0v at h;split at h;exact k54 h;exact l_nil (kml h);exact k4k a h;exact h;exact k5h a h;exact h;exact k4r a h
 ·exact h.elim
theorem kb0 [t:Tab P] (k:Nat) {g:Cfg} (h:W P (crun P k g) Q):W P g Q:=by
 unfold crun at h
 induction k with
 | zero=>exact h
 | succ k ih=>exact ih (k5v t.ok h)
variable [t:Tab P] {g:Cfg} {β:Type} {r:β}
def kqt (g:Cfg):Bool:=match g.foc with
 | .code _=>true
 | .ops _ _=>true
 | _=>false
def isCode0 (g:Cfg):Bool:=match g.foc with
 | .code _=>true
 | _=>false
def stOf (g:Cfg):St:=g.st
def knt (g:Cfg) (st:St):Cfg:=⟨g.foc,g.ks,st⟩
theorem wle (k:Nat) {st':St} (hl:LeSt (stOf (crun P k g)) st') (h:W P (knt (crun P k g) st') Q) (hc:kqt (crun P k g)=true:=by kernel_rfl):W P g Q:=by
 refine kb0 k ?_;generalize crun P k g=g' at *
 obtain ⟨foc,ks,st⟩:=g';cases foc with
 | code c=>exact kabx hl h
 | ops os l=>exact l_le hl h
 | _=>cases hc
def k67 (g:Cfg):Option Bool:=match g.foc with
 | .code (.cond c _ _)=>match g.st.eval c with
  | .fz (.atom (.bool b))=>some b
  | _=>none
 | _=>none
def brc (b:Bool) (g:Cfg):Cfg:=match g.foc with
 | .code (.cond _ x y)=>⟨.code (bif b then x else y),g.ks,g.st⟩
 | _=>⟨.bad,g.ks,g.st⟩
theorem cd (k:Nat) {b:Bool} {X Y:Option β} (h:(bif b then X else Y)=some r) (h1:X=some r->W P (brc true (crun P k g)) Q) (a:Y=some r->W P (brc false (crun P k g)) Q) (hc:k67 (crun P k g)=some b:=by kernel_rfl):W P g Q:=by
 refine kb0 k ?_;generalize crun P k g=g' at *
 obtain ⟨foc,ks,st⟩:=g';have key:W P (brc b ⟨foc,ks,st⟩) Q:=by
  cases b with
  | true=>exact h1 h
  | false=>exact a h
 unfold k67 at hc;simp only at hc;split at hc
 ·rename_i c x y;split at hc;rename_i b' d;injection hc with hc;subst hc;exact kxt d key
  ·cases hc
 ·cases hc
def setT (t:Nat) (v:AV):List (Nat×AV)->List (Nat×AV)
 | []=>[]
 | (k,x)::l=>bif Nat.beq k t then (k,v)::l else (k,x)::setT t v l
def setF (j:Nat) (v:AV):FsT->FsT
 | []=>[]
 | (k,d,x)::l=>bif Nat.beq k j then (k,d,v)::l else (k,d,x)::setF j v l
def getF (j:Nat):FsT->Option AV
 | []=>none
 | (k,d,x)::l=>bif Nat.beq k j then some x else getF j l
def krm:AV->Option Bool
 | .fz (.atom (.bool b))=>some b
 | _=>none
def kw6 (g:Cfg):Option Bool:=match g.foc with
 | .ops os (o::_)=>match o.guard with
  | some (j,_)=>match (os[j]?).bind (·.dst) with
   | some t=>krm (g.st.get t)
   | none=>none
  | none=>none
 | .drz _ _ _ (o::_) fs _ _ _=>match o.guard with
  | some (j,_)=>match getF j fs with
   | some v=>krm v
   | none=>none
  | none=>none
 | _=>none
def setG (b:Bool) (g:Cfg):Cfg:=match g.foc with
 | .ops os (o::l)=>match o.guard with
  | some (j,_)=>match (os[j]?).bind (·.dst) with
   | some t=>⟨.ops os (o::l),g.ks,{ g.st with tmps:=setT t (.fz (.atom (.bool b))) g.st.tmps }⟩
   | none=>g
  | none=>g
 | .drz z k i (o::l) fs hp ids pn=>match o.guard with
  | some (j,_)=>⟨.drz z k i (o::l) (setF j (.fz (.atom (.bool b))) fs) hp ids pn,g.ks,g.st⟩
  | none=>g
 | _=>g
theorem kzq {t:Nat} {b:Bool}:∀ {l:List (Nat×AV)},krm (look .any l t)=some b->setT t (.fz (.atom (.bool b))) l=l
 | [],_=>rfl
 | (k,x)::l,h=>by
  simp only [setT,look] at h ⊢;cases hk:Nat.beq k t with
  | true=>
   rw [hk] at h;simp only [qe] at h ⊢;unfold krm at h;split at h;injection h with h;rw [h]
   ·cases h
  | false=>rw [hk] at h;simp only [qf] at h ⊢; rw [kzq h]
theorem k0j {j:Nat} {b:Bool}:∀ {l:FsT} {v:AV},getF j l=some v->krm v=some b->setF j (.fz (.atom (.bool b))) l=l
 | [],_,h,_=>rfl
 | (k,d,x)::l,v,h,a=>by
  simp only [setF,getF] at h ⊢;cases hk:Nat.beq k j with
  | true=>
   rw [hk] at h;simp only [qe,qc] at h ⊢;subst h;unfold krm at a;split at a;injection a with a;rw [a]
   ·cases a
  | false=>rw [hk] at h;simp only [qf] at h ⊢; rw [k0j h a]
theorem k8n {b:Bool} (h:kw6 g=some b):setG b g=g:=by
 obtain ⟨foc,ks,st⟩:=g;unfold kw6 at h;unfold setG;cases foc with
 | ops os l=>
  cases l with
  | nil=>rfl
  | cons o l=>
   (try dsimp only at h ⊢);split at h
   ·rename_i j w a;split at h;rename_i t ht;(try simp only [ht]);rw [kzq h]
    ·cases h
   ·cases h
 | drz z k i l fs hp ids pn=>
  cases l with
  | nil=>rfl
  | cons o l=>
   (try dsimp only at h ⊢);split at h
   ·rename_i j w a;split at h;rename_i v hv;(try dsimp only);rw [k0j hv h]
    ·cases h
   ·cases h
 | _=>rfl
theorem gd (k:Nat) {b:Bool} {X Y:Option β} (h:(bif b then X else Y)=some r) (h1:X=some r->W P (setG true (crun P k g)) Q) (a:Y=some r->W P (setG false (crun P k g)) Q) (hc:kw6 (crun P k g)=some b:=by kernel_rfl):W P g Q:=by
 refine kb0 k ?_;rw [<- k8n hc];cases b with
 | true=>exact h1 h
 | false=>exact a h
theorem gdb (k:Nat) {b:Bool} {X Y:Option β} (h:(bif b then X else Y)=some r) (h1:b=true->X=some r->W P (crun P k g) Q) (a:b=false->Y=some r->W P (crun P k g) Q):W P g Q:=by
 refine kb0 k ?_;cases b with
 | true=>exact h1 rfl h
 | false=>exact a rfl h
def km5 (g:Cfg):Option (Oper×St):=match g.foc with
 | .ops os (o::_)=>match kbk os g.st o,kq6 g.st o with
  | some true,true=>some (o,g.st)
  | _,_=>none
 | .drz z (_+1) i (o::_) fs hp ids pn=>match kbk z.os (kk6 z g.st i o fs hp ids) o with
  | some true=>bif z.es.contains i || kws z i pn then none else some (o,kk6 z g.st i o fs hp ids)
  | _=>none
 | .dry z (_+1) i (o::_) fs _ _ _=>match kbk z.os (kt5 z g.st i o fs) o with
  | some true=>some (o,kt5 z g.st i o fs)
  | _=>none
 | _=>none
def kjw (g:Cfg):Oper:=match g.foc with
 | .ops _ (o::_)=>o
 | .drz _ _ _ (o::_) _ _ _ _=>o
 | .dry _ _ _ (o::_) _ _ _ _=>o
 | _=>default
def kwk (g:Cfg):St:=match km5 g with
 | some p=>p.2
 | none=>g.st
def rsm (c:AV) (g:Cfg):Cfg:=match g.foc with
 | .ops os (o::l)=>⟨.ops os l,g.ks,g.st.put o.dst c⟩
 | .drz z (k+1) i (o::l) fs hp ids pn=>bif phB z.os.toList z.es i || okA g.st.ids c then ⟨.drz z k (i+1) l ((i,o.dst,c)::fs) hp ids pn,g.ks,g.st⟩ else ⟨.bad,g.ks,g.st⟩
 | .dry z (k+1) i (o::l) fs hp nid es=>bif okA (idsB z.os.toList i nid es g.st.ids) c then ⟨.dry z k (i+1) l ((i,o.dst,c)::fs) hp nid es,g.ks,g.st⟩ else ⟨.bad,g.ks,g.st⟩
 | _=>⟨.bad,g.ks,g.st⟩
end
variable {P:Program} {T:List (TypeId×TD)} {Q:Exit->St->Prop} {st:St} {ks:List Frm} {g:Cfg} {β:Type} {r:β}
theorem kxq {o:Oper} {v:St} {c:AV} (hv:km5 g=some (o,v)) (hn:NStep P o v c) (h:W P (rsm c g) Q):W P g Q:=by
 obtain ⟨foc,ks,st⟩:=g;unfold km5 at hv;simp only at hv;split at hv
 ·split at hv;rename_i a e;simp only [qc,qt] at hv;obtain ⟨rfl,rfl⟩:=hv;exact kt1 hn.step a (kkf e) h
  ·cases hv
 ·rename_i z k i o' l fs hp ids pn;split at hv
  ·rename_i a;generalize d:(z.es.contains i || kws z i pn)=b at hv;cases b with
   | true=>cases hv
   | false=>
    rw [Bool.or_eq_false_iff] at d;simp only [qf,qc,qt] at hv;obtain ⟨rfl,rfl⟩:=hv;simp only [rsm] at h;cases hk:(phB z.os.toList z.es i || okA st.ids c) with
    | false=>rw [hk] at h;exact h.elim
    | true=>rw [hk] at h;exact .inr (.inl ⟨d.1,c, .inl ⟨a,hn⟩,hk,h⟩)
  ·cases hv
 ·rename_i z k i o' l fs hp nid es;split at hv
  ·rename_i a;simp only [qc,qt] at hv;obtain ⟨rfl,rfl⟩:=hv;simp only [rsm] at h;cases hk:okA (idsB z.os.toList i nid es st.ids) c with
   | false=>rw [hk] at h;exact h.elim
   | true=>rw [hk] at h;exact .inl ⟨c, .inl ⟨a,hn⟩,hk,h⟩
  ·cases hv
 ·cases hv
section
variable {P:Program} {T:List (TypeId×TD)} {Q:Exit->St->Prop} {st:St} {ks:List Frm} [t:Tab P] {g:Cfg} {β:Type} {r:β}
def mokV (g:Cfg):Bool:=(km5 g).isSome
theorem kxd {o:Oper} {v:St} (h:km5 g=some (o,v)):kjw g=o/\kwk g=v:=by
 refine ⟨?_,by unfold kwk;rw [h]⟩;obtain ⟨foc,ks,st⟩:=g;unfold km5 at h;unfold kjw;simp only at h ⊢;split at h
 ·split at h;simp only [qc,qt] at h;exact h.1
  ·cases h
 ·rename_i z k i o' l fs hp ids pn;split at h
  ·generalize (z.es.contains i || _)=b at h;cases b with
   | true=>cases h
   | false=>simp only [qf,qc,qt] at h;exact h.1
  ·cases h
 ·split at h;simp only [qc,qt] at h;exact h.1
  ·cases h
 ·cases h
theorem nst (k:Nat) {c:AV} (hn:NStep P (kjw (crun P k g)) (kwk (crun P k g)) c) (h:W P (rsm c (crun P k g)) Q) (hv:mokV (crun P k g)=true:=by kernel_rfl):W P g Q:=by refine kb0 k ?_;unfold mokV at hv;obtain ⟨⟨o,v⟩,hv⟩:=Option.isSome_iff_exists.1 hv;obtain ⟨e1,e2⟩:=kxd hv;rw [e1,e2] at hn;exact kxq hv hn h
def okP (g:Cfg):Bool:=match g.foc with
 | .ops os (o::_)=>match kbk os g.st o,kq6 g.st o with
  | some true,true=>true
  | _,_=>false
 | _=>false
def rsmA (c:AV) (h:List (Nat×AObj)) (i:List Nat) (g:Cfg):Cfg:=match g.foc with
 | .ops os (o::l)=>⟨.ops os l,g.ks,({ g.st with heap:=h,ids:=i }:St).put o.dst c⟩
 | _=>⟨.bad,g.ks,g.st⟩
theorem sst (k:Nat) {c:AV} {h:List (Nat×AObj)} {i:List Nat} (hn:StepA P (kjw (crun P k g)) (stOf (crun P k g)) c h i) (a:W P (rsmA c h i (crun P k g)) Q) (hv:okP (crun P k g)=true:=by kernel_rfl):W P g Q:=by
 refine kb0 k ?_;generalize crun P k g=g' at *
 obtain ⟨foc,ks,st⟩:=g';unfold okP at hv;simp only at hv;split at hv
 ·split at hv;rename_i b d;exact kt1 hn b (kkf d) a
  ·cases hv
 ·cases hv
theorem sstD (k:Nat) {R:AV->List (Nat×AObj)->List Nat->Prop} (hn:kjd P (kjw (crun P k g)) (stOf (crun P k g)) R) (hv:okP (crun P k g)=true) (a:∀ c h i,R c h i->W P (rsmA c h i (crun P k g)) Q):W P g Q:=by
 refine kb0 k ?_;generalize crun P k g=g' at *
 obtain ⟨foc,ks,st⟩:=g';unfold okP at hv;simp only at hv;split at hv
 ·split at hv;rename_i b d;exact k9v hn b (kkf d) a
  ·cases hv
 ·cases hv
def dzOk (n:Nat) (es ai:List Nat) (g:Cfg):Bool:=match g.foc with
 | .code (.region _ os true)=>relB os.toList n g.st.n && (ktx os.toList n es && g.st.ids.all ai.contains)
 | _=>false
def dzOf (n:Nat) (es ch ai:List Nat) (g:Cfg):Cfg:=match g.foc with
 | .code (.region _ os true)=>⟨.drz ⟨os,n,es,ch,ai⟩ n 0 os.toList [] g.st.heap g.st.ids none,g.ks,g.st⟩
 | _=>⟨.bad,g.ks,g.st⟩
theorem dz (k n:Nat) (es ch ai:List Nat) (a:W P (dzOf n es ch ai (crun P k g)) Q) (hc:dzOk n es ai (crun P k g)=true:=by kernel_rfl):W P g Q:=by
 refine kb0 k ?_;generalize crun P k g=g' at *
 obtain ⟨foc,ks,st⟩:=g';unfold dzOk at hc;simp only at hc;split at hc;rename_i id os;simp only [qv] at hc;obtain ⟨l⟩:=os;exact k7z t.mixed hc.1 hc.2.1 hc.2.2 a
 ·cases hc
def dyOk (n:Nat) (ai:List Nat) (g:Cfg):Bool:=match g.foc with
 | .code (.region _ os true)=>relB os.toList n g.st.n && g.st.ids.all ai.contains
 | _=>false
def dyOf (n:Nat) (ai:List Nat) (g:Cfg):Cfg:=match g.foc with
 | .code (.region _ os true)=>⟨.dry ⟨os,n,[],[],ai⟩ n 0 os.toList [] [] [] [],g.ks,g.st⟩
 | _=>⟨.bad,g.ks,g.st⟩
theorem dy (k n:Nat) (ai:List Nat) (a:W P (dyOf n ai (crun P k g)) Q) (hc:dyOk n ai (crun P k g)=true:=by kernel_rfl):W P g Q:=by
 refine kb0 k ?_;generalize crun P k g=g' at *
 obtain ⟨foc,ks,st⟩:=g';unfold dyOk at hc;simp only at hc;split at hc;rename_i id os;simp only [qv] at hc;obtain ⟨l⟩:=os;exact k82 t.mixed hc.1 hc.2 a
 ·cases hc
def k6x (g:Cfg):List Nat:=g.st.ids
theorem dw (k n:Nat) (a:W P (dzOf n [] [] (k6x (crun P k g)) (crun P k g)) Q) (hc:dzOk n [] (k6x (crun P k g)) (crun P k g)=true:=by kernel_rfl):W P g Q:=dz k n [] [] _ a (hc:=hc)
def okZ (g:Cfg):Bool:=match g.foc with
 | .drz z (_+1) i (o::_) fs hp ids none=>z.es.contains i && (match kbk z.os (kk6 z g.st i o fs hp ids) o with | some true=>true | _=>false)
 | _=>false
def kgq (g:Cfg):St:=match g.foc with
 | .drz z _ i (o::_) fs hp ids _=>kk6 z g.st i o fs hp ids
 | _=>g.st
def offZ (g:Cfg) (h:List (Nat×AObj)):List (Option AObj):=match g.foc with
 | .drz z _ _ _ _ hp _ _=>(kpx z.ch hp).map (kaa h)
 | _=>[]
def hpZ (g:Cfg):List (Nat×AObj):=match g.foc with
 | .drz _ _ _ _ _ hp _ _=>hp
 | _=>[]
def idsZ (i':List Nat) (g:Cfg):Bool:=match g.foc with
 | .drz z _ _ _ _ _ ids _=>kpi z.ai ids i'
 | _=>false
def rsmZ (c:AV) (a:List (Nat×AObj)) (i':List Nat) (g:Cfg):Cfg:=match g.foc with
 | .drz z (k+1) i (o::l) fs _ _ _=>⟨.drz z k (i+1) l ((i,o.dst,c)::fs) a i' none,g.ks,g.st⟩
 | _=>⟨.bad,g.ks,g.st⟩
theorem zst (k:Nat) {c:AV} {a:List (Nat×AObj)} {i':List Nat} (hn:StepA P (kjw (crun P k g)) (kgq (crun P k g)) c a i') (d:W P (rsmZ c a i' (crun P k g)) Q) (hv:okZ (crun P k g)=true:=by kernel_rfl) (hi:idsZ i' (crun P k g)=true:=by kernel_rfl) (hk:offZ (crun P k g) a=offZ (crun P k g) (hpZ (crun P k g)):=by kernel_rfl):W P g Q:=by
 refine kb0 k ?_;generalize crun P k g=g' at *
 obtain ⟨foc,ks,st⟩:=g';unfold okZ at hv;simp only at hv;split at hv
 ·rename_i z k i o l fs hp ids;simp only [qv] at hv;obtain ⟨h1,b⟩:=hv;split at b;rename_i e;exact .inr (.inr (.inl ⟨h1,rfl,c,a,i',⟨.inl ⟨e,hn⟩, .inr ⟨kabp hk,ksw hi⟩⟩,d⟩))
  ·cases b
 ·cases hv
def mpre (g:Cfg):Cfg:=⟨g.foc,[],g.st⟩
def ksOf (g:Cfg):List Frm:=g.ks
end
theorem k6g {os:Array Oper} {l:List Oper} (h:awpL P os l st fun e st'=>∃ st2,LeSt st' st2/\Q e st2):awpL P os l st Q:=fun F S0 N0 ψ S a w hs=>
 kbm (fun e a' w' ⟨st',ψ',S',⟨st2,h0,h1⟩,b,c⟩=>by obtain ⟨ψ2,S2,d⟩:=h0 F S0 N0 ψ' S' a' w' b;exact ⟨st2,ψ2,S2,h1,d,c⟩) _ _ _ (h F S0 N0 ψ S a w hs)
theorem k2v {os:Array Oper} {l:List Oper} {Q':Exit->St->Prop} (h:awpL P os l st Q) (b:∀ e st,Q e st->Q' e st):awpL P os l st Q':=fun F S0 N0 ψ S a w hs=>
 kbm (fun e a' w' ⟨st',ψ',S',h1,c⟩=>⟨st',ψ',S',b _ _ h1,c⟩) _ _ _ (h F S0 N0 ψ S a w hs)
section
variable {P:Program} {T:List (TypeId×TD)} {Q:Exit->St->Prop} {st:St} {ks:List Frm} [t:Tab P] {g:Cfg} {β:Type} {r:β}
def WeakQ (Q:Exit->St->Prop):Exit->St->Prop:=fun e st'=>∃ st2,LeSt st' st2/\Q e st2
end
section
variable {P:Program} {T:List (TypeId×TD)} {Q:Exit->St->Prop} {st:St} {ks:List Frm} [t:Tab P] {g:Cfg} {β:Type} {r:β}
theorem jn (k:Nat) (Qa:Exit->St->Prop) (hc:kqt (crun P k g)=true) (ha:W P (mpre (crun P k g)) Qa) (b:∀ e st',Qa e st'->∃ st2,LeSt st' st2/\W P (unw e (ksOf (crun P k g)) st2) Q):W P g Q:=by
 refine kb0 k ?_;generalize crun P k g=g' at *
 obtain ⟨foc,ks,st⟩:=g';have a:∀ e st',Qa e st'->WeakQ (ke9 P ks Q) e st':=fun e st' h=>let ⟨st2,h1,d⟩:=b e st' h;⟨st2,h1,kyd d⟩;cases foc with
 | code c=>exact kpr (kpy (show awp P c st Qa from ha) a)
 | ops os l=>exact k6g (k2v (show awpL P os l st Qa from ha) a)
 | _=>cases hc
theorem jn1 {α:Type} {E:Option α} {K:α->Option β} (k:Nat) (e:Exit) (J:α->St) (h:Option.bind E K=some r) (ha:∀ v,E=some v->W P (mpre (crun P k g)) fun e' st=>e'=e/\LeSt st (J v)) (a:∀ v,K v=some r->W P (unw e (ksOf (crun P k g)) (J v)) Q) (hc:kqt (crun P k g)=true:=by kernel_rfl):W P g Q:=by obtain ⟨v,h1,b⟩:=qg.1 h;refine jn k _ hc (ha v h1) ?_;rintro _ st' ⟨rfl,hl⟩;exact ⟨_,hl,a v b⟩
theorem jnQ {α:Type} {E:Option α} {K:α->Option β} (k:Nat) (Qa:α->Exit->St->Prop) (h:Option.bind E K=some r) (ha:∀ v,E=some v->W P (mpre (crun P k g)) (Qa v)) (a:∀ v,K v=some r->∀ e st',Qa v e st'->∃ st2,LeSt st' st2/\W P (unw e (ksOf (crun P k g)) st2) Q) (hc:kqt (crun P k g)=true:=by kernel_rfl):W P g Q:=by obtain ⟨v,h1,b⟩:=qg.1 h;exact jn k _ hc (ha v h1) (a v b)
def k63:FV->C0
 | .lst s _ _ => .sl s
 | .bx _ => .px
 | _ => .keep
def k0p:AV->C0
 | .fz x=>k63 x
 | _ => .keep
def auto1:AV->C1
 | .fz (.agg xs) => .ag (xs.map k63)
 | .agg xs => .ag (xs.map k0p)
 | x => .one (k0p x)
def autoT (st:St):List (Nat×C1):=st.tmps.map fun p=>(p.1,auto1 p.2)
def autoO:AObj->List C0
 | .box _ cs=>cs.map k0p
 | _=>[]
def autoH (st:St):List (Nat×List C0):=st.heap.map fun p=>(p.1,autoO p.2)
def coA (st J:St):Option St:=coSt st J.ids (autoT J) (autoH J)
theorem le_a {st J:St} (h:coA st J=some J):LeSt st J:=le_co h
def kmd:Foc->Exit->Bool
 | .fin .normal, .normal=>true
 | .fin .ret, .ret=>true
 | .fin (.exit i), .exit j=>Nat.beq i j
 | _,_=>false
theorem ksy {foc:Foc} {e:Exit} (h:kmd foc e=true):foc = .fin e/\(e = .normal\/e = .ret\/∃ i,e = .exit i):=by
 unfold kmd at h;split at h;exact ⟨rfl, .inl rfl⟩;exact ⟨rfl, .inr (.inl rfl)⟩;rename_i i j;rw [qi h];exact ⟨rfl, .inr (.inr ⟨_,rfl⟩)⟩
 ·cases h
def jok (g:Cfg) (e:Exit) (J:St):Option St:=bif kmd g.foc e then coA g.st J else none
end
section
variable {P:Program} {T:List (TypeId×TD)} {Q:Exit->St->Prop} {st:St} {ks:List Frm} [t:Tab P] {g:Cfg} {β:Type} {r:β}
def nilK (g:Cfg):Bool:=match g.ks with
 | []=>true
 | _=>false
theorem lj (k:Nat) {e:Exit} {J:St} (hc:(bif nilK (crun P k g) then jok (crun P k g) e J else none)=some J:=by kernel_rfl):W P g fun e' st=>e'=e/\LeSt st J:=by
 refine kb0 k ?_;generalize crun P k g=g' at *
 obtain ⟨foc,ks,st⟩:=g';cases ks with
 | cons=>cases hc
 | nil=>
  simp only [nilK,jok,qe] at hc;cases hf:kmd foc e with
  | false=>rw [hf] at hc;cases hc
  | true=>
   rw [hf] at hc;obtain ⟨rfl,_⟩:=ksy hf;exact ⟨rfl,le_a hc⟩
theorem lo (k:Nat) {e:Exit} {J:St} (hc:(bif nilK (crun P k g) && !kmd (crun P k g).foc .normal then jok (crun P k g) e J else none)=some J):W P g fun e' st=>(e' ≠ .normal/\e' ≠ .outgrown)/\(e'=e/\LeSt st J):=by
 refine kb0 k ?_;generalize crun P k g=g' at *
 obtain ⟨foc,ks,st⟩:=g';cases ks with
 | cons=>cases hc
 | nil=>
  simp only [nilK,jok,Bool.true_and] at hc;cases hn:kmd foc .normal with
  | true=>rw [hn] at hc;cases hc
  | false=>
   rw [hn] at hc;cases hf:kmd foc e with
   | false=>rw [hf] at hc;cases hc
   | true=>
    rw [hf] at hc;obtain ⟨rfl,a⟩:=ksy hf;refine ⟨⟨fun h=>?_,fun h=>?_⟩,rfl,le_a hc⟩;subst h;cases hn
    ·rcases a with rfl | rfl | ⟨i,rfl⟩ <;> cases h
def kla:Foc->Bool
 | .fin .normal=>true
 | .fin .ret=>true
 | _=>false
def kqo:Foc->Bool
 | .fin .ret=>true
 | _=>false
def rokq (T:List (TypeId×TD)) (g:Cfg) (rs:List ResultVar) (cs:List C1):Option FV:=bif nilK g && kla g.foc then retX T g.st rs cs else none
def rokr (T:List (TypeId×TD)) (g:Cfg) (rs:List ResultVar) (cs:List C1):Option FV:=bif kqo g.foc then retX T g.st rs cs else none
theorem lq (k:Nat) {rs:List ResultVar} {cs:List C1} {y:FV} (hc:rokq t.T (crun P k g) rs cs=some y:=by kernel_rfl):W P g (retQ t.T rs cs y):=by
 refine kb0 k ?_;generalize crun P k g=g' at *
 obtain ⟨foc,ks,st⟩:=g';unfold rokq at hc;cases ks with
 | cons=>cases hc
 | nil=>
  simp only [nilK,Bool.true_and] at hc;cases hf:kla foc with
  | false=>rw [hf] at hc;cases hc
  | true=>
   rw [hf] at hc;unfold kla at hf;split at hf;exact hc;exact hc
   ·cases hf
theorem lr (k:Nat) {rs:List ResultVar} {cs:List C1} {y:FV} (hc:rokr t.T (crun P k g) rs cs=some y):W P g fun e st=>e = .ret/\retX t.T st rs cs=some y:=by
 refine kb0 k ?_;generalize crun P k g=g' at *
 obtain ⟨foc,ks,st⟩:=g';unfold rokr at hc;cases hf:kqo foc with
 | false=>simp only [hf] at hc;cases hc
 | true=>
  simp only [hf] at hc;unfold kqo at hf;split at hf;exact krj (Q:=fun e st=>e = .ret/\retX t.T st rs cs=some y) ⟨rfl,hc⟩
  ·cases hf
theorem lor (k:Nat) {rs:List ResultVar} {cs:List C1} {y:FV} (hc:rokr t.T (crun P k g) rs cs=some y:=by kernel_rfl):W P g fun e st=>(e ≠ .normal/\e ≠ .outgrown)/\(e = .ret/\retX t.T st rs cs=some y):=by
 refine kb0 k ?_;generalize crun P k g=g' at *
 obtain ⟨foc,ks,st⟩:=g';unfold rokr at hc;cases hf:kqo foc with
 | false=>simp only [hf] at hc;cases hc
 | true=>
  simp only [hf] at hc;unfold kqo at hf;split at hf;exact krj (Q:=fun e st=>(e ≠ .normal/\e ≠ .outgrown)/\(e = .ret/\retX t.T st rs cs=some y)) ⟨⟨(fun h=>nomatch h),(fun h=>nomatch h)⟩,rfl,hc⟩
  ·cases hf
theorem lv {rs:List ResultVar} {cs:List C1} {y:FV} {st:St} {ks:List Frm} (h:retX t.T st rs cs=some y):W P (unw .ret ks st) (retQ t.T rs cs y):=h
theorem lvr {rs:List ResultVar} {cs:List C1} {y:FV} {st:St} {ks:List Frm} (h:retX t.T st rs cs=some y):W P (unw .ret ks st) fun e st=>e = .ret/\retX t.T st rs cs=some y:=⟨rfl,h⟩
theorem lvo {rs:List ResultVar} {cs:List C1} {y:FV} {st:St} {ks:List Frm} (h:retX t.T st rs cs=some y):W P (unw .ret ks st) fun e st=>(e ≠ .normal/\e ≠ .outgrown)/\(e = .ret/\retX t.T st rs cs=some y):=⟨⟨fun h=>(nomatch h),fun h=>(nomatch h)⟩,rfl,h⟩
end
theorem ob {α:Type} {E:Option α} {K:α->Option β} (h:Option.bind E K=some r) (f:∀ v,E=some v->K v=some r->W P g Q):W P g Q:=by obtain ⟨v,h1,a⟩:=qg.1 h;exact f v h1 a
def HidG (_:Nat) (p:Prop):Prop:=p
theorem ls {α:Type} {X v:α} {Qf:α->Exit->St->Prop} (h:some X=some v) (a:W P g (Qf X)):W P g (Qf v):=by obtain rfl:=qag h;exact a
theorem lJ {p q:Prop} (k:Nat) (a:p->HidG k q:=by intro h;cases h;exact ljh _):p->q:=a
theorem lO {p q:Prop} (k:Nat) (a:p->HidG k q:=by intro h;cases h;exact loh _):p->q:=a
theorem lQ {p q:Prop} (k:Nat) (a:p->HidG k q:=by intro h;cases h;exact lqh _):p->q:=a
theorem lR {p q:Prop} (k:Nat) (a:p->HidG k q:=by intro h;cases h;exact lorh _):p->q:=a
section
variable {P:Program} {T:List (TypeId×TD)} {Q:Exit->St->Prop} {st:St} {ks:List Frm} [t:Tab P] {g:Cfg} {β:Type} {r:β}
theorem ljh (k:Nat) {e:Exit} {J:St} (hc:(bif nilK (crun P k g) then jok (crun P k g) e J else none)=some J:=by kernel_rfl):HidG k (W P g fun e' st=>e'=e/\LeSt st J):=lj k hc
theorem loh (k:Nat) {e:Exit} {J:St} (hc:(bif nilK (crun P k g) && !kmd (crun P k g).foc .normal then jok (crun P k g) e J else none)=some J:=by kernel_rfl):HidG k (W P g fun e' st=>(e' ≠ .normal/\e' ≠ .outgrown)/\(e'=e/\LeSt st J)):=lo k hc
theorem lqh (k:Nat) {rs:List ResultVar} {cs:List C1} {y:FV} (hc:rokq t.T (crun P k g) rs cs=some y:=by kernel_rfl):HidG k (W P g (retQ t.T rs cs y)):=lq k hc
theorem lorh (k:Nat) {rs:List ResultVar} {cs:List C1} {y:FV} (hc:rokr t.T (crun P k g) rs cs=some y:=by kernel_rfl):HidG k (W P g fun e st=>(e ≠ .normal/\e ≠ .outgrown)/\(e = .ret/\retX t.T st rs cs=some y)):=lor k hc
def klg (g:Cfg):Cfg:=match g.foc with
 | .code (.loop c)=>⟨.code c,[],g.st⟩
 | _=>⟨.bad,[],g.st⟩
def kke (g:Cfg):Bool:=match g.foc with
 | .code (.loop _)=>true
 | _=>false
theorem lpx {σ α:Type} {step:σ->Option (σ ⊕ α)} {n:Nat} {s0:σ} {K:α->Option β} (k:Nat) (H:σ->St) (Qb:α->Exit->St->Prop) (h:Option.bind (kac step n s0) K=some r) (h0:LeSt (stOf (crun P k g)) (H s0)) (a:∀ s r',step s=some r'->W P (knt (klg (crun P k g)) (H s)) (Sum.elim (fun s' e st=>e = .normal/\LeSt st (H s')) (fun v e st=>(e ≠ .normal/\e ≠ .outgrown)/\Qb v e st) r')) (ha:∀ v,K v=some r->∀ e st',Qb v e st'->∃ st2,LeSt st' st2/\W P (unw e (ksOf (crun P k g)) st2) Q) (hc:kke (crun P k g)=true:=by kernel_rfl):W P g Q:=by
 refine kb0 k ?_;generalize crun P k g=g' at *
 obtain ⟨foc,ks,st⟩:=g';obtain ⟨v,h1,d⟩:=qg.1 h;unfold kke at hc;simp only at hc;split at hc
 ·rename_i c;refine kw2 (k16 (st:=st) (P:=P) c H Qb h1 h0 fun s r' hs=>?_) fun e st' f=>?_
  ·have:=a s r' hs;cases r' with
   | inl s'=>exact this
   | inr b=>exact this
  ·obtain ⟨st2,e1,e2⟩:=ha v d e st' f;exact ⟨st2,e1,kyd e2⟩
 ·cases hc
theorem lpI {σ:Type} (k:Nat) (H:σ->St) (I:σ->Prop) (μ:σ->Nat) (Qb:Exit->St->Prop) (s0:σ) (a:I s0) (hc:kke (crun P k g)=true) (h0:LeSt (stOf (crun P k g)) (H s0))
  (b:∀ s,I s->W P (knt (klg (crun P k g)) (H s)) (fun e st=>(e = .normal/\∃ s',(I s'/\μ s'<μ s)/\LeSt st (H s'))\/((e ≠ .normal/\e ≠ .outgrown)/\Qb e st)))
  (ha:∀ e st',Qb e st'->∃ st2,LeSt st' st2/\W P (unw e (ksOf (crun P k g)) st2) Q):W P g Q:=by
 refine kb0 k ?_;generalize crun P k g=g' at *
 obtain ⟨foc,ks,st⟩:=g';unfold kke at hc;simp only at hc;split at hc;rename_i c;refine kw2 (k4c (st:=st) (P:=P) c Qb H I μ a h0 fun s hs=>b s hs) fun e st' d=>?_;obtain ⟨st2,e1,e2⟩:=ha e st' d;exact ⟨st2,e1,kyd e2⟩
 ·cases hc
theorem lpr {σ α ρ:Type} {step:σ->Option (σ ⊕ (α ⊕ ρ))} {n:Nat} {s0:σ} {f:α->Option β} {q:ρ->Option β} (k:Nat) (h:Option.bind (kac step n s0) (fun v=>Sum.elim f q v)=some r) (H:σ->St) (e:Exit) (J:α->St) (rs:List ResultVar) (cs:List C1) (y:ρ->FV)
  (c:∀ s r',step s=some r'->W P (knt (klg (crun P k g)) (H s)) (Sum.elim (fun s' e' st=>e' = .normal/\LeSt st (H s')) (fun v e' st=>(e' ≠ .normal/\e' ≠ .outgrown)/\Sum.elim (fun p=>e'=e/\LeSt st (J p)) (fun p=>e' = .ret/\retX t.T st rs cs=some (y p)) v) r'))
  (h1:∀ p,f p=some r->W P (unw e (ksOf (crun P k g)) (J p)) Q)
  (d:∀ p st,q p=some r->retX t.T st rs cs=some (y p)->W P (unw .ret (ksOf (crun P k g)) st) Q:=by intro _ _ h a;cases h;first | exact lv a | exact lvo a | exact lvr a)
  (hc:kke (crun P k g)=true:=by kernel_rfl) (h0:coA (stOf (crun P k g)) (H s0)=some (H s0):=by kernel_rfl):W P g Q:=by
 refine lpx k H (fun v e' st=>Sum.elim (fun p=>e'=e/\LeSt st (J p)) (fun p=>e' = .ret/\retX t.T st rs cs=some (y p)) v) h (le_a h0) c (fun v hv e' st' b=>?_) (hc:=hc);cases v with
 | inl p=>obtain ⟨rfl,hl⟩:=b;exact ⟨_,hl,h1 p hv⟩
 | inr p=>obtain ⟨rfl,hr⟩:=b;exact ⟨_,LeSt.refl,d p _ hv hr⟩
theorem lpq {σ α:Type} {step:σ->Option (σ ⊕ (α ⊕ β))} {n:Nat} {s0:σ} {f:α->Option β} {rs:List ResultVar} {cs:List C1} (k:Nat) (h:Option.bind (kac step n s0) (fun v=>Sum.elim f (fun w=>some w) v)=some r) (H:σ->St) (e:Exit) (J:α->St) (y:β->FV)
  (b:∀ s r',step s=some r'->W P (knt (klg (crun P k g)) (H s)) (Sum.elim (fun s' e' st=>e' = .normal/\LeSt st (H s')) (fun v e' st=>(e' ≠ .normal/\e' ≠ .outgrown)/\Sum.elim (fun p=>e'=e/\LeSt st (J p)) (fun p=>e' = .ret/\retX t.T st rs cs=some (y p)) v) r'))
  (h1:∀ p,f p=some r->W P (unw e (ksOf (crun P k g)) (J p)) (retQ t.T rs cs (y r)))
  (hc:kke (crun P k g)=true:=by kernel_rfl) (h0:coA (stOf (crun P k g)) (H s0)=some (H s0):=by kernel_rfl):W P g (retQ t.T rs cs (y r)):=
 lpr k h H e J rs cs y b h1 (fun p st hp a=>by cases hp;exact lv a) hc h0
theorem lp1 {σ α:Type} {step:σ->Option (σ ⊕ α)} {n:Nat} {s0:σ} {K:α->Option β} (k:Nat) (H:σ->St) (e:Exit) (J:α->St) (h:Option.bind (kac step n s0) K=some r) (a:∀ s r',step s=some r'->W P (knt (klg (crun P k g)) (H s)) (Sum.elim (fun s' e st=>e = .normal/\LeSt st (H s')) (fun v e' st=>(e' ≠ .normal/\e' ≠ .outgrown)/\(e'=e/\LeSt st (J v))) r')) (ha:∀ v,K v=some r->W P (unw e (ksOf (crun P k g)) (J v)) Q) (hc:kke (crun P k g)=true:=by kernel_rfl) (h0:coA (stOf (crun P k g)) (H s0)=some (H s0):=by kernel_rfl):W P g Q:=by refine lpx k H _ h (le_a h0) a (fun v hv e' st' b=>?_) (hc:=hc);obtain ⟨rfl,hl⟩:=b;exact ⟨_,hl,ha v hv⟩
def kop (fn:Func):Code:=fn.body.getD .skip
theorem kqc {fn:Func} (h:fn.body.isSome=true):fn.body=some (kop fn):=by
 unfold kop;cases a:fn.body with
 | none=>rw [a] at h;cases h
 | some c=>rfl
def inlW (P:Program) (os:Array Oper) (l:List Oper) (ks:List Frm) (dst:Option Nat) (n:Nat) (D:List Deferred) (gi:Nat) (cs:List Value) (keep:List (Nat×AV)) (rs:List ResultVar) (Q:Exit->St->Prop):Exit->St->Prop:=inlQ P os l dst n D gi cs keep rs (ke9 P ks Q)
def inlF (g:Cfg):Option (FuncId×List AV):=match g.foc with
 | .ops os (o::_)=>match kbk os g.st o,kq6 g.st o with
  | some true,true=>match o.op with
   | .call c=>match c.callee with
    | .value x=>match g.st.eval x with
     | .fn f cap=>some (f,c.args.toList.map g.st.eval++cap)
     | _=>none
    | _=>none
   | _=>none
  | _,_=>none
 | _=>none
def opsOf (g:Cfg):Array Oper:=match g.foc with
 | .ops os _=>os
 | _=>#[]
def k98 (g:Cfg):List Oper:=match g.foc with
 | .ops _ (_::l)=>l
 | _=>[]
def dstOf (g:Cfg):Option Nat:=match g.foc with
 | .ops _ (o::_)=>o.dst
 | _=>none
theorem inl (k: Nat) (f: FuncId) (fn: Func) (n gi: Nat) (ys: List AV) (hf: P.funcs[f]? = some fn) (h:∀ cs,W P ⟨.code (kop fn),[],{ n:=n,tmps:=argT 0 ys,heap:=(gi, .gho cs ((stOf (crun P k g)).tmps.map fun p=>(stOf (crun P k g)).get p.1))::(stOf (crun P k g)).heap,ids:=gi::(stOf (crun P k g)).ids }⟩
   (inlW P (opsOf (crun P k g)) (k98 (crun P k g)) (ksOf (crun P k g)) (dstOf (crun P k g)) (stOf (crun P k g)).n (stOf (crun P k g)).dfr gi cs (stOf (crun P k g)).tmps fn.results.toList Q)) (e: fn.body.isSome = true:=by kernel_rfl) (hn: (fn.name == "runtime.NumGoroutine") = false:=by kernel_rfl) (a: fn.ntmps = n:=by kernel_rfl) (b: Nat.ble ys.length n = true:=by kernel_rfl) (c: (stOf (crun P k g)).ids.contains gi = false:=by kernel_rfl) (hc:inlF (crun P k g)=some (f,ys):=by kernel_rfl):W P g Q:=by
 refine kb0 k ?_;generalize crun P k g=g' at *
 obtain ⟨foc,ks,st⟩:=g';unfold inlF at hc;simp only at hc;split at hc
 ·split at hc
  ·rename_i i j;split at hc
   ·rename_i c' ho;split at hc
    ·rename_i x d;split at hc;rename_i f' cap hv;simp only [qc,qt] at hc;obtain ⟨rfl,rfl⟩:=hc;obtain ⟨cc,as1,ts⟩:=c';simp only at d;subst d;exact k5u ho hv i (kkf j) hf (kqc e) hn a rfl b c h
     ·cases hc
    ·cases hc
   ·cases hc
  ·cases hc
 ·cases hc
theorem li (k:Nat) {os:Array Oper} {l:List Oper} {ks:List Frm} {dst:Option Nat} {n gi:Nat} {D:List Deferred} {cs:List Value} {keep:List (Nat×AV)} {rs:List ResultVar} (vs:List AV) (rv:AV) (hr:(rs=[]/\rv = .any)\/∃ z,rs=[.tmp z]/\(stOf (crun P k g)).get z=rv) (h:W P ⟨.ops os l,ks,({ n:=n,tmps:=zipS keep vs,heap:=kcv gi (stOf (crun P k g)).heap,ids:=(stOf (crun P k g)).ids,dfr:=D }:St).put dst rv⟩ Q) (hc:(bif nilK (crun P k g) && kla (crun P k g).foc then kaa (stOf (crun P k g)).heap gi else none)=some (.gho cs vs):=by kernel_rfl) (a:(stOf (crun P k g)).dfr=[]:=by kernel_rfl):W P g (inlW P os l ks dst n D gi cs keep rs Q):=by
 refine kb0 k ?_;generalize crun P k g=g' at *
 obtain ⟨foc,ks',st⟩:=g';cases ks' with
 | cons=>cases hc
 | nil=>
  simp only [nilK,Bool.true_and] at hc;cases hf:kla foc with
  | false=>rw [hf] at hc;cases hc
  | true=>
   rw [hf] at hc;unfold kla at hf;split at hf;exact ⟨.inl rfl,a,vs,rv,hc,hr,h⟩;exact ⟨.inr rfl,a,vs,rv,hc,hr,h⟩
   ·cases hf
theorem hcx0 {f : FuncId} {fn : Func} {args : List AV} {pre : List (Nat × AObj)} {ids : List Nat} {E : HEnd} {post : List (Nat × AObj)} {ids' : List Nat} {gi : Nat} (hf : P.funcs[f]? = some fn) (d : fn.body.isSome = true) (hn : (fn.name == "runtime.NumGoroutine") = false)
  (a:Nat.ble args.length fn.ntmps=true) (e:ids.contains gi=false) (b:ids'.contains gi=false) (c:(post.all fun p=>okO ids' p.2)=true) (g:E.ok ids'=true) (hk:(post.all fun p=>ids'.contains p.1)=true)
  (h:∀ ψ0 S1 w0,W P ⟨.code (kop fn),[],{ n:=fn.ntmps,tmps:=argT 0 args,heap:=(gi, .was ψ0 ids S1 w0)::pre,ids:=gi::ids }⟩ (hQ t.T fn.results.toList gi ids E post ids' ψ0 S1 w0)):ka3 P f args pre ids E post ids':=
 kxn t.ok hf (kqc d) hn a e b c g hk h
theorem hcx {f: FuncId} {fn: Func} {args: List AV} {pre: List (Nat × AObj)} {ids: List Nat} {E: HEnd} {post: List (Nat × AObj)} {ids': List Nat} (gi: Nat) (hf: P.funcs[f]? = some fn) (h: ∀ ψ0 S1 w0, W P ⟨.code (kop fn), [], { n := fn.ntmps, tmps := argT 0 args, heap := (gi, .was ψ0 ids S1 w0) :: pre, ids := gi :: ids }⟩ (hQ t.T fn.results.toList gi ids E post ids' ψ0 S1 w0)) (d: fn.body.isSome = true := by kernel_rfl) (hn: (fn.name == "runtime.NumGoroutine") = false := by kernel_rfl) (a: Nat.ble args.length fn.ntmps = true := by kernel_rfl) (e: ids.contains gi = false := by kernel_rfl) (b: ids'.contains gi = false := by kernel_rfl) (c: (post.all fun p => okO ids' p.2) = true := by kernel_rfl) (g: E.ok ids' = true := by kernel_rfl) (hk: (post.all fun p => ids'.contains p.1) = true := by kernel_rfl): ka3 P f args pre ids E post ids' :=
 hcx0 hf d hn a e b c g hk h
theorem lh (k:Nat) {rs:List ResultVar} {gi:Nat} {ids ids':List Nat} {res:AV} {post:List (Nat×AObj)} {ψ0:Env} {S1:Nat->Prop} {w0:World} (st2:St) (hl:LeSt (stOf (crun P k g)) st2) (a:st2.heap=(gi, .was ψ0 ids S1 w0)::post) (hi:st2.ids=gi::ids')
  (hc:(nilK (crun P k g) && kla (crun P k g).foc)=true) (hr:retA t.T st2 rs=some res):W P g (hQ t.T rs gi ids (.ret res) post ids' ψ0 S1 w0):=by
 refine kb0 k ?_;generalize crun P k g=g' at *
 obtain ⟨foc,ks,st⟩:=g';simp only [qv] at hc;cases ks with
 | cons=>cases hc.1
 | nil=>
  have hf:kla foc=true:=hc.2;unfold kla at hf;split at hf;exact k2m hl a hi (.inl rfl) hr;exact k2m hl a hi (.inr rfl) hr
  ·cases hf
def zipR (st:St):List ResultVar->List AV->List (Nat×AV)
 | .tmp t::rs,x::xs=>(t,x)::zipR st rs xs
 | .cell t _::rs,_::xs=>(t,st.get t)::zipR st rs xs
 | _,_=>[]
def retT (st:St):List ResultVar->AV->List (Nat×AV)
 | [.tmp t],a=>[(t,a)]
 | [.cell t _],_=>[(t,st.get t)]
 | rs, .fz (.tup xs)=>zipR st rs (xs.map .fz)
 | rs, .tup xs=>zipR st rs xs
 | _,_=>[]
def retJ (st:St) (rs:List ResultVar) (res:AV) (gi:Nat) (o:AObj) (post:List (Nat×AObj)) (ids':List Nat):St:={ n:=st.n,tmps:=retT st rs res,heap:=(gi,o)::post,ids:=gi::ids' }
theorem lhy (k:Nat) {rs:List ResultVar} {gi:Nat} {ids ids':List Nat} {res:AV} {post:List (Nat×AObj)} {ψ0:Env} {S1:Nat->Prop} {w0:World} (hl:coA (stOf (crun P k g)) (retJ (stOf (crun P k g)) rs res gi (.was ψ0 ids S1 w0) post ids')=some (retJ (stOf (crun P k g)) rs res gi (.was ψ0 ids S1 w0) post ids'):=by kernel_rfl)
  (hc:(nilK (crun P k g) && kla (crun P k g).foc)=true:=by kernel_rfl) (hr:retA t.T (retJ (stOf (crun P k g)) rs res gi (.was ψ0 ids S1 w0) post ids') rs=some res:=by kernel_rfl):W P g (hQ t.T rs gi ids (.ret res) post ids' ψ0 S1 w0):=
 lh k _ (le_a hl) rfl rfl hc hr
theorem pcl {f : FuncId} {fn : Func} {args : List FV} {y : FV} (cs : List C1) (hf : P.funcs[f]? = some fn) (h : W P ⟨.code (kop fn), [], { n := fn.ntmps, tmps := kls 0 args, heap := [], ids := [] }⟩ (retQ t.T fn.results.toList cs y)) (b : fn.body.isSome = true := by kernel_rfl) (hn : (fn.name == "runtime.NumGoroutine") = false := by kernel_rfl) (a : Nat.ble args.length fn.ntmps = true := by kernel_rfl) : PCall P f args y := ky6 t.ok cs hf (kqc b) hn a h
def krp {γ:Type} (f:Oper->St->Option γ) (g:Cfg):Option γ:=bif okP g then f (kjw g) (stOf g) else none
theorem ksx {γ:Type} {f:Oper->St->Option γ} {z:γ} {g:Cfg} (h:krp f g=some z):okP g=true/\f (kjw g) (stOf g)=some z:=by
 unfold krp at h;cases hk:okP g with
 | false=>rw [hk] at h;cases h
 | true=>rw [hk] at h;exact ⟨rfl,h⟩
def tabX (T:List (TypeId×TD)) (o:Oper) (st:St):Option (TypeId×Int×Int×Nat):=match o.op with
 | .makeSlice t X Y=>match kad T t with
  | some d=>match d.kind,st.eval X,st.eval Y with
   | .slice e, .fz (.atom (.int _ n)), .fz (.atom (.int _ m))=>match kad T e with
    | some de=>match de.zero with
     | [.slice none 0 0]=>bif Nat.beq de.size 1 then some (e,n,m,de.bytes) else none
     | _=>none
    | none=>none
   | _,_,_=>none
  | none=>none
 | _=>none
theorem tabm {α:Type} (f:α->Value) {bytes:Nat} {n:Int} (eo:TypeId) {K:List (List α)->Option β} (k id:Nat) (ei:TypeId) (h:Option.bind (mkL bytes ([]:List α) n) K=some r) (c:∀ v,K v=some r->∀ ov,W P (rsmA (.fz (.atom ov)) ((id, .tab 0 ov eo ei (v.map (List.map f)))::(stOf (crun P k g)).heap) (id::(stOf (crun P k g)).ids) (crun P k g)) Q) (hc:krp (tabX t.T) (crun P k g)=some (eo,n,n,bytes):=by kernel_rfl) (i:(stOf (crun P k g)).ids.contains id=false:=by kernel_rfl):W P g Q:=by
 obtain ⟨v,h1,u⟩:=qg.1 h;obtain ⟨rfl,h0,w,j⟩:=kxm h1;have c:=c _ u;refine kb0 k ?_;generalize crun P k g=g' at *
 obtain ⟨hk,a⟩:=ksx hc;obtain ⟨foc,ks,st⟩:=g';cases foc with
 | ops os l=>
  cases l with
  | nil=>cases hk
  | cons o l=>
   have a:tabX t.T o st=some (eo,n,n,bytes):=a;unfold okP at hk;simp only at hk;split at hk
   ·rename_i x y;unfold tabX at a;split at a
    ·rename_i tt X Y ho;split at a
     ·rename_i d m;split at a
      ·rename_i e k1 n' k2 m' p hX z;split at a
       ·rename_i de q;split at a
        ·rename_i s;cases b:Nat.beq de.size 1 with
         | false=>rw [b] at a;cases a
         | true=>
          rw [b] at a;simp only [qe,qc,qt] at a;obtain ⟨rfl,rfl,rfl,rfl⟩:=a;refine l_tab (id:=id) ei ho t.ok m p q (qi b) s hX z h0 w j i x (kkf y) fun ov=>?_;have:=c ov;rw [List.map_replicate] at this;exact this
        ·cases a
       ·cases a
      ·cases a
     ·cases a
    ·cases a
   ·cases hk
 | _=>cases hk
end
theorem W_ops {os:Array Oper} {l:List Oper} (h:awpL P os l st (ke9 P ks Q)):W P ⟨.ops os l,ks,st⟩ Q:=h
theorem ops_W {os:Array Oper} {l:List Oper} (h:W P ⟨.ops os l,ks,st⟩ Q):awpL P os l st (ke9 P ks Q):=h
theorem kaae {c:Code} (h:awp P c st Q):W P ⟨.code c,[],st⟩ Q:=h
theorem kaad {c:Code} (h:W P ⟨.code c,[],st⟩ Q):awp P c st Q:=h
theorem W_fin {e:Exit} (h:Q e st):W P ⟨.fin e,[],st⟩ Q:=h
attribute [irreducible] W
end Go.Proofs.YtnlhjbnpjefjgaaGreatDoor
