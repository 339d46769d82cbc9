import Derived.Test.YtpnnpkmjohkgiaaGreatDoorDra
import Derived.Test.YtpnnpkmjohkgiaaGreatDoorOpr
set_option linter.all false
namespace Go.Proofs.YtpnnpkmjohkgiaaGreatDoor
open Go Go.RowKit
class Tab (P:Program) where
 T:List (TypeId×TD)
 ok:TOk P T
 mixed:P.follows .mixedOrders=true
abbrev FsT:=List (Nat×Option Nat×AV)
structure Zn where
 os:Array Oper
 n:Nat
 es:List Nat
 ch:List Nat
 ai:List Nat
inductive Foc where
 | code (c:Code)
 | ops (os:Array Oper) (l:List Oper)
 | drz (z:Zn) (k i:Nat) (l:List Oper) (fs:FsT) (hp:List (Nat×AObj)) (ids:List Nat) (pn:Option Nat)
 | dry (z:Zn) (k i:Nat) (l:List Oper) (fs:FsT) (hp:List (Nat×AObj)) (nid:List Nat) (es:List (Nat×Nat))
 | fin (e:Exit)
 | bad
inductive Frm where
 | seq (c:Code)
 | block (id:Nat)
structure Cfg where
 foc:Foc
 ks:List Frm
 st:St
def kmx (T:List (TypeId×TD)) (t:TypeId):Option TK:=match kab T t with
 | some d=>some d.kind
 | none=>none
def k3s (T:List (TypeId×TD)) (sr t:TypeId) (x:AV):Option AV:=match kmx T sr,kmx T t,x with
 | some _,some (.int k), .fz (.atom (.int _ n))=>some (.fz (.atom (.int k (k.wrap n))))
 | some .str,some .str, .fz (.atom (.string s))=>some (.fz (.atom (.string s)))
 | _,_,_=>none
def kp0 (T:List (TypeId×TD)) (o:Oper) (st:St):Option AV:=match kp3 T o st with
 | some c=>some c
 | none=>match o.op with
  | .convert sr t x=>k3s T sr t (st.eval x)
  | .call c=>match c.callee,c.args.toList with
   | .builtin .min,[x,y]=>match st.eval x,st.eval y with
    | .fz (.atom (.int k m)), .fz (.atom (.int _ n))=>some (.fz (.atom (.int k (imin m n))))
    | _,_=>none
   | .builtin .max,[x,y]=>match st.eval x,st.eval y with
    | .fz (.atom (.int k m)), .fz (.atom (.int _ n))=>some (.fz (.atom (.int k (imax m n))))
    | _,_=>none
   | _,_=>none
  | .makeInterface t x=>match kmx T t with
   | some .ifc=>none
   | some _=>match toV (st.eval x) with
    | some v=>some (.fz (.atom (.iface t v)))
    | none=>none
   | none=>none
  | .typeAssert x _ t true=>match kmx T t,st.eval x with
   | some .ifc,_=>none
   | some _, .fz (.atom (.iface t' v))=>bif Nat.beq t' t then (match ofV v with
    | some y=>some (.fz (.tup [y, .atom (.bool true)]))
    | none=>none) else none
   | _,_=>none
  | .binOp op t x (.const .nilIface) _=>match kmx T t,st.eval x,op with
   | some .ifc, .fz (.atom (.iface _ _)), .eql=>some (.fz (.atom (.bool false)))
   | some .ifc, .fz (.atom (.iface _ _)), .neq=>some (.fz (.atom (.bool true)))
   | some .ifc, .fz (.atom .nilIface), .eql=>some (.fz (.atom (.bool true)))
   | some .ifc, .fz (.atom .nilIface), .neq=>some (.fz (.atom (.bool false)))
   | _,_,_=>none
  | _=>none
theorem kep {T:List (TypeId×TD)} {t:TypeId} {k:TK} (h:kmx T t=some k):∃ d,kab T t=some d/\d.kind=k:=by
 unfold kmx at h;split at h;rename_i d a;injection h with h;exact ⟨d,a,h⟩
 ·cases h
theorem kla {α:Type} {xs:Array α} {x y:α} (h:xs.toList=[x,y]):xs=#[x,y]:=by apply qbd;simpa using h
theorem kse {P:Program} {T:List (TypeId×TD)} (g:TOk P T) {o:Oper} {st:St} {c:AV} (h:kp0 T o st=some c):NStep P o st c:=by
 unfold kp0 at h;split at h;rename_i c' hc;injection h with h;subst h;exact ko9 g hc
 ·split at h
  ·rename_i sr t x b;unfold k3s at h;split at h;rename_i ks k k' n h1 i l;injection h with h;subst h;obtain ⟨ds,hs,_⟩:=kep h1;obtain ⟨d,e,hk⟩:=kep i;exact kzc g b hs e hk l;rename_i s h1 i l;injection h with h;subst h;obtain ⟨ds,hs,p⟩:=kep h1;obtain ⟨d,e,hk⟩:=kep i;exact kvq g b hs p e hk l
   ·cases h
  ·rename_i c' b;obtain ⟨cc,as_,ts⟩:=c';split at h
   ·rename_i x y h1 i;simp only at h1 i;rw [h1,kla i] at b;split at h;rename_i k m k' n f hy;injection h with h;subst h;exact k3n b f hy
    ·cases h
   ·rename_i x y h1 i;simp only at h1 i;rw [h1,kla i] at b;split at h;rename_i k m k' n f hy;injection h with h;subst h;exact k3t b f hy
    ·cases h
   ·cases h
  ·rename_i tt x b;split at h;cases h
   ·rename_i kk j hk;obtain ⟨d,e,a⟩:=kep hk;split at h;rename_i v hv;injection h with h;subst h;exact k6v b (g.get e) (fun hi=>j (by rw [hi] at a;exact a.symm)) hv
    ·cases h
   ·cases h
  ·rename_i x xt tt b;split at h;cases h
   ·rename_i kk t' v j hk f;obtain ⟨d,e,a⟩:=kep hk;cases q:Nat.beq t' tt with
    | false=>rw [q] at h;cases h
    | true=>
     rw [q] at h;obtain rfl:=qh q;(try simp only [qd] at h);split at h;rename_i y hy;injection h with h;subst h;exact ky3 b (g.get e) (fun hi=>j (by rw [hi] at a;exact a.symm)) f hy
     ·cases h
   ·cases h
  ·rename_i op tt x yt b;split at h;rename_i s z hk f;obtain ⟨d,e,a⟩:=kep hk;injection h with h;subst h;exact kj4 false false b (g.get e) a f (.inl ⟨rfl,_,_,rfl⟩);rename_i s z hk f;obtain ⟨d,e,a⟩:=kep hk;injection h with h;subst h;exact kj4 true false b (g.get e) a f (.inl ⟨rfl,_,_,rfl⟩);rename_i hk f;obtain ⟨d,e,a⟩:=kep hk;injection h with h;subst h;exact kj4 false true b (g.get e) a f (.inr ⟨rfl,rfl⟩);rename_i hk f;obtain ⟨d,e,a⟩:=kep hk;injection h with h;subst h;exact kj4 true true b (g.get e) a f (.inr ⟨rfl,rfl⟩)
   ·cases h
  ·cases h
def unwN:List Frm->St->Cfg
 | [],st=>⟨.fin .normal,[],st⟩
 | .seq y::ks,st=>⟨.code y,ks,st⟩
 | .block _::ks,st=>unwN ks st
def unwX (id:Nat):List Frm->St->Cfg
 | [],st=>⟨.fin (.exit id),[],st⟩
 | .seq _::ks,st=>unwX id ks st
 | .block i::ks,st=>bif Nat.beq id i then unwN ks st else unwX id ks st
def unw:Exit->List Frm->St->Cfg
 | .normal,ks,st=>unwN ks st
 | .exit i,ks,st=>unwX i ks st
 | .ret,_,st=>⟨.fin .ret,[],st⟩
 | .panic cs,_,st=>⟨.fin (.panic cs),[],st⟩
 | _,_,st=>⟨.bad,[],st⟩
def kxm (T:List (TypeId×TD)) (os:Array Oper) (o:Oper) (l:List Oper) (ks:List Frm) (st:St):Cfg:=match kbm os st o,kny st o with
 | some true,true=>match kn1 T o st with
  | some (c,h,i)=>⟨.ops os l,ks,({ st with heap:=h,ids:=i }:St).put o.dst c⟩
  | none=>match kp0 T o st with
   | some c=>⟨.ops os l,ks,st.put o.dst c⟩
   | none=>⟨.bad,ks,st⟩
 | some false,true=>⟨.ops os l,ks,st.put o.dst (.fz (.tup []))⟩
 | _,_=>⟨.bad,ks,st⟩
def ksr (T:List (TypeId×TD)) (os:Array Oper) (st:St) (o:Oper):Option AV:=match kbm os st o with
 | some true=>kp0 T o st
 | some false=>some (.fz (.tup []))
 | none=>none
def kxh:Code->List Frm->St->Cfg
 | .skip,ks,st=>unwN ks st
 | .label _,ks,st=>unwN ks st
 | .exit i,ks,st=>unwX i ks st
 | .ret,_,st=>⟨.fin .ret,[],st⟩
 | .seq x y,ks,st=>⟨.code x, .seq y::ks,st⟩
 | .block id c,ks,st=>⟨.code c, .block id::ks,st⟩
 | .cond c x y,ks,st=>match st.eval c with
  | .fz (.atom (.bool b))=>⟨.code (bif b then x else y),ks,st⟩
  | _=>⟨.bad,ks,st⟩
 | .region _ os false,ks,st=>⟨.ops os os.toList,ks,st⟩
 | _,ks,st=>⟨.bad,ks,st⟩
def kkz (z:Zn) (st:St) (i:Nat) (o:Oper) (fs:FsT) (hp:List (Nat×AObj)) (ids:List Nat):St:=kbl z.os.toList z.n z.es z.ch z.ai st i o fs hp ids
def kxn (ch:List Nat):List (Nat×AObj)->Bool
 | (k,_)::_=>ch.contains k
 | []=>true
def kof (ai ids ids':List Nat):Bool:=ids'.all ai.contains && ids.all ids'.contains
def ks5 (z:Zn) (i:Nat):Option Nat->Bool
 | some e=>anc z.os.toList i e
 | none=>false
def kx0 (T:List (TypeId×TD)) (z:Zn) (k i:Nat) (o:Oper) (l:List Oper) (fs:FsT) (hp:List (Nat×AObj)) (ids:List Nat) (pn:Option Nat) (ks:List Frm) (st:St):Cfg:=
 bif ks5 z i pn then ⟨.drz z k (i+1) l ((i,o.dst, .any)::fs) hp ids pn,ks,st⟩ else
 bif z.es.contains i then (match kbm z.os (kkz z st i o fs hp ids) o,kn1 T o (kkz z st i o fs hp ids),pn with
  | some false,_,none=>bif kof z.ai ids ids then ⟨.drz z k (i+1) l ((i,o.dst, .fz (.tup []))::fs) hp ids none,ks,st⟩ else ⟨.bad,ks,st⟩
  | some true,some (c,a,i'),none=>bif Nat.beq (kkz z st i o fs hp ids).heap.length hp.length && (phB z.os.toList z.es i && (kxn z.ch a && kof z.ai ids i')) then ⟨.drz z k (i+1) l ((i,o.dst,c)::fs) a i' none,ks,st⟩ else ⟨.bad,ks,st⟩
  | _,_,_=>⟨.bad,ks,st⟩)
 else (match ksr T z.os (kkz z st i o fs hp ids) o with
  | some c=>bif phB z.os.toList z.es i || okA st.ids c then ⟨.drz z k (i+1) l ((i,o.dst,c)::fs) hp ids pn,ks,st⟩ else ⟨.bad,ks,st⟩
  | none=>⟨.bad,ks,st⟩)
def kqo (z:Zn) (st:St) (i:Nat) (o:Oper) (fs:FsT):St:=kee z.os.toList z.n z.ai st i o fs
def ktf (T:List (TypeId×TD)) (o:Oper):Option (TypeId×List AV):=match o.op with
 | .alloc e=>match kab T e with
  | some d=>match kk0 d with
   | some cells=>some (e,cells)
   | none=>none
  | none=>none
 | _=>none
def kui (T:List (TypeId×TD)) (v:St) (o:Oper):Option (Nat×AObj):=match o.op with
 | .store t x y=>match knq T v t x y with
  | some (_,q::_,_)=>some q
  | _=>none
 | _=>none
def kul (z:Zn) (st:St) (es:List (Nat×Nat)) (id:Nat):Bool:=!(st.ids.contains id || (st.heap.any fun q=>q.1 == id) || (es.any fun q=>q.2 == id) || !z.ai.contains id)
def kyb (T:List (TypeId×TD)) (z:Zn) (k i:Nat) (o:Oper) (l:List Oper) (fs:FsT) (hp:List (Nat×AObj)) (nid:List Nat) (es:List (Nat×Nat)) (ks:List Frm) (st:St):Cfg:=
 match ksr T z.os (kqo z st i o fs) o with
 | some c=>bif okA (idsB z.os.toList i nid es st.ids) c then ⟨.dry z k (i+1) l ((i,o.dst,c)::fs) hp nid es,ks,st⟩ else ⟨.bad,ks,st⟩
 | none=>match kbm z.os (kqo z st i o fs) o,ktf T o with
  | some true,some (e,cells)=>bif kul z st es (fresh (nid++st.ids)) then ⟨.dry z k (i+1) l ((i,o.dst, .ref (fresh (nid++st.ids)) 0 0)::fs) ((fresh (nid++st.ids), .box e cells)::hp) (fresh (nid++st.ids)::nid) ((i,fresh (nid++st.ids))::es),ks,st⟩ else ⟨.bad,ks,st⟩
  | some true,none=>match kui T { kqo z st i o fs with heap:=hp++st.heap } o with
   | some q=>bif !(st.heap.any fun r=>r.1 == q.1) && befB z.os.toList i q.1 es then ⟨.dry z k (i+1) l ((i,o.dst, .any)::fs) (q::hp) nid ((i,q.1)::es),ks,st⟩ else ⟨.bad,ks,st⟩
   | none=>⟨.bad,ks,st⟩
  | _,_=>⟨.bad,ks,st⟩
def kwg (T:List (TypeId×TD)) (g:Cfg):Cfg:=match g with
 | ⟨.code c,ks,st⟩=>kxh c ks st
 | ⟨.ops _ [],ks,st⟩=>unwN ks st
 | ⟨.ops os (o::l),ks,st⟩=>kxm T os o l ks st
 | ⟨.drz z 0 _ l fs hp ids none,ks,st⟩=>⟨.ops z.os l,ks,{ st with tmps:=hadd fs (fun _=>true) st.tmps,heap:=hp,ids:=ids }⟩
 | ⟨.drz z (k+1) i (o::l) fs hp ids pn,ks,st⟩=>kx0 T z k i o l fs hp ids pn ks st
 | ⟨.dry z 0 _ l fs hp nid _,ks,st⟩=>⟨.ops z.os l,ks,{ st with tmps:=hadd fs (fun _=>true) st.tmps,heap:=hp++st.heap,ids:=nid++st.ids }⟩
 | ⟨.dry z (k+1) i (o::l) fs hp nid es,ks,st⟩=>kyb T z k i o l fs hp nid es ks st
 | ⟨_,ks,st⟩=>⟨.bad,ks,st⟩
def crunT (T:List (TypeId×TD)) (k:Nat) (g:Cfg):Cfg:=Nat.rec g (fun _ r=>kwg T r) k
def crun (P:Program) [t:Tab P] (k:Nat) (g:Cfg):Cfg:=crunT t.T k g
def kfi (P:Program):List Frm->(Exit->St->Prop)->Exit->St->Prop
 | [],Q=>Q
 | .seq y::ks,Q=>k3q (fun st=>awp P y st (kfi P ks Q)) (kfi P ks Q)
 | .block id::ks,Q=>kqv id (kfi P ks Q)
def FW (P:Program) (foc:Foc) (st:St) (Q:Exit->St->Prop):Prop:=match foc with
 | .code c=>awp P c st Q
 | .ops os l=>awpL P os l st Q
 | .drz z k i l fs hp ids pn=>klg P z.os z.n z.es z.ch z.ai Q st k i l fs hp ids pn
 | .dry z k i l fs hp nid es=>kme P z.os z.n z.ai Q st k i l fs hp nid es
 | .fin e=>Q e st
 | .bad=>False
def W (P:Program) (g:Cfg) (Q:Exit->St->Prop):Prop:=FW P g.foc g.st (kfi P g.ks Q)
section
variable {P:Program} {T:List (TypeId×TD)} {Q:Exit->St->Prop} {st:St} {ks:List Frm}
theorem kjy:∀ {ks:List Frm},W P (unwN ks st) Q->kfi P ks Q .normal st
 | [],h=>h
 | .seq _::_,h=>h
 | .block id::ks,h=>show kqv id (kfi P ks Q) .normal st from kjy (ks:=ks) h
theorem kn0 {i:Nat}:∀ {ks:List Frm},W P (unwX i ks st) Q->kfi P ks Q (.exit i) st
 | [],h=>h
 | .seq _::ks,h=>kn0 (ks:=ks) h
 | .block id::ks,h=>by
  show (if i=id then kfi P ks Q .normal st else kfi P ks Q (.exit i) st);simp only [unwX] at h;by_cases hi:i=id;subst hi;rw [qq rfl];simp only [Nat.beq_refl,qd] at h;exact kjy h
  ·rw [ql hi];rw [Nat.beq_eq_false hi] at h;exact kn0 h
theorem kob {ks:List Frm}:Q .ret st->kfi P ks Q .ret st:=by
 induction ks with
 | nil=>exact id
 | cons k ks ih=>cases k <;> exact ih
theorem k5w {cs} {ks:List Frm}:Q (.panic cs) st->kfi P ks Q (.panic cs) st:=by
 induction ks with
 | nil=>exact id
 | cons k ks ih=>cases k <;> exact ih
theorem kzs {e:Exit} {ks:List Frm} (h:W P (unw e ks st) Q):kfi P ks Q e st:=by
 cases e with
 | normal=>exact kjy h
 | exit i=>exact kn0 h
 | ret=>exact kob h
 | panic cs=>exact k5w h
 | _=>exact h.elim
theorem kuw (b:TOk P T) {os:Array Oper} {o:Oper} {c:AV} (h:ksr T os st o=some c):(kbm os st o=some true/\NStep P o st c)\/(kbm os st o=some false/\c = .fz (.tup [])):=by
 unfold ksr at h;split at h;rename_i a;exact .inl ⟨a,kse b h⟩;rename_i a;injection h with h;exact .inr ⟨a,h.symm⟩
 ·cases h
theorem k0q (e:TOk P T) {os:Array Oper} {o:Oper} {l:List Oper} (h:W P (kxm T os o l ks st) Q):awpL P os (o::l) st (kfi P ks Q):=by
 unfold kxm at h;split at h
 ·rename_i a b;split at h;rename_i c f i d;exact kql (kt7 e d) a (klv b) h
  ·split at h;rename_i c d;exact kql (kse e d).step a (klv b) h
   ·exact h.elim
 rename_i a b;exact k70 a (klv b) h
 ·exact h.elim
theorem k2n {c:Code} (h:W P (kxh c ks st) Q):awp P c st (kfi P ks Q):=by
 unfold kxh at h;split at h;exact k1q (kjy h);exact fun F S0 N0 ψ S a w hs=>wp_label ⟨st,ψ,S,kjy h,hs,Fr.refl⟩;exact k13 (kn0 h);exact k4f (kob h);exact k4q h;exact kz0 h
 ·split at h;rename_i b;exact kt3 b h
  ·exact h.elim
 exact kxs h
 ·exact h.elim
theorem kv8 {o:Oper} {c:AV} {h:List (Nat×AObj)} {i:List Nat} (a:kn1 T o st=some (c,h,i)):h=st.heap\/∃ id ob,h=(id,ob)::st.heap:=by
 unfold kn1 at a;have d:∀ {e:TypeId} {cells:List AV},boxX e st cells=some (c,h,i)->h=st.heap\/∃ id ob,h=(id,ob)::st.heap:=fun {e cells} a=>by
  unfold boxX at a;cases f:(cells.all AV.single && !st.ids.contains (Go.Proofs.YtpnnpkmjohkgiaaGreatDoor.fresh st.ids)) with
  | false=>rw [f] at a;cases a
  | true=>rw [f] at a;simp only [qd,qc,qm] at a;exact .inr ⟨_,_,a.2.1.symm⟩
 split at a;exact d a
 ·split at a
  ·split at a;exact d a
   ·cases a
  ·cases a
 ·unfold knq at a;split at a
  ·split at a
   ·rename_i e cells g;generalize (Nat.beq _ 0 && _)=b at a;cases b with
    | false=>cases a
    | true=>simp only [qd,qc,qm] at a;exact .inr ⟨_,_,a.2.1.symm⟩
   ·cases a
  ·cases a
 ·refine .inl ?_;generalize kp3 T o st=c0 at a;cases c0 with
  | none=>cases a
  | some x=>simp only [nres,qc,qm] at a;exact a.2.1.symm
theorem ktl {ai ids ids':List Nat} (h:kof ai ids ids'=true):(∀ id,id∈ids'->id∈ai)/\∀ id,id∈ids->id∈ids':=by unfold kof at h;simp only [qp] at h;exact ⟨fun id hi=>by simpa using qo.1 h.1 id hi,fun id hi=>by simpa using qo.1 h.2 id hi⟩
theorem k1s (p:TOk P T) {z:Zn} {k i:Nat} {o:Oper} {l:List Oper} {fs:FsT} {hp:List (Nat×AObj)} {ids:List Nat} {pn:Option Nat} (h:W P (kx0 T z k i o l fs hp ids pn ks st) Q):klg P z.os z.n z.es z.ch z.ai (kfi P ks Q) st (k+1) i (o::l) fs hp ids pn:=by
 unfold kx0 at h;cases f:ks5 z i pn with
 | true=>
  rw [f] at h;cases pn with
  | none=>cases f
  | some e=>exact .inl ⟨e,rfl,f,h⟩
 | false=>
  rw [f] at h;simp only [qe] at h;cases d:z.es.contains i with
  | true=>
   rw [d] at h;simp only [qd] at h;split at h
   ·rename_i j;cases a:kof z.ai ids ids with
    | false=>rw [a] at h;exact h.elim
    | true=>
     rw [a] at h;exact .inr (.inr (.inl ⟨d,rfl,_,hp,ids,⟨.inr ⟨j,rfl,rfl,rfl⟩, .inr ⟨fun _ _ _ h=>h,ktl a⟩⟩,h⟩))
   ·rename_i c q i' j r;generalize a:(Nat.beq (kkz z st i o fs hp ids).heap.length hp.length && (phB z.os.toList z.es i && (kxn z.ch q && kof z.ai ids i')))=b at h;cases b with
    | false=>exact h.elim
    | true=>
     simp only [qp] at a;obtain ⟨_,b2,b3,b4⟩:=a;refine .inr (.inr (.inl ⟨d,rfl,c,q,i',⟨.inl ⟨j,kt7 p r⟩, .inr ⟨?_,ktl b4⟩⟩,h⟩));have hv:(kkz z st i o fs hp ids).heap=hp:=(by show (bif phB z.os.toList z.es i then hp else _)=hp;rw [b2];rfl);rcases kv8 r with g | ⟨id,ob,g⟩;rw [g,hv];exact fun _ _ _ h=>h
     ·rw [g,hv];rw [g] at b3;intro id' m ob' s;rw [kaf,ql];exact s
      ·rintro rfl;exact m (by simpa [kxn] using b3)
   ·exact h.elim
  | false=>
   rw [d] at h;simp only [qe] at h;split at h
   ·rename_i c hc;cases hk:(phB z.os.toList z.es i || okA st.ids c) with
    | false=>rw [hk] at h;exact h.elim
    | true=>rw [hk] at h;exact .inr (.inl ⟨d,c,kuw p hc,hk,h⟩)
   ·exact h.elim
theorem kzg (c:TOk P T) {o:Oper} {e:TypeId} {cells:List AV} (h:ktf T o=some (e,cells)) {v:St} (id:Nat):kx5 P v o (.ref id 0 0) id (.box e cells):=by
 unfold ktf at h;split at h
 ·rename_i e' f;split at h
  ·rename_i d g;split at h;rename_i cells' i;simp only [qc,qm] at h;obtain ⟨rfl,rfl⟩:=h;exact fun a ids' b=>kq6 (st:={ v with heap:=a,ids:=ids' }) f (c.get g) i b
   ·cases h
  ·cases h
 ·cases h
theorem kyk (g:TOk P T) {v:St} {o:Oper} {q:Nat×AObj} (h:kui T v o=some q):kx4 P v o .any q.1 q.2:=by
 unfold kui at h;split at h
 ·rename_i t x y i;unfold knq at h;cases c:kab T t with
  | none=>rw [c] at h;cases h
  | some d=>
   rw [c] at h;generalize j:v.eval x=ex at h;cases ex with
   | ref id n off=>
    simp only at h;cases a:kaa v.heap id with
    | none=>rw [a] at h;cases h
    | some ob=>
     rw [a] at h;cases ob with
     | box e cells=>
      simp only at h;cases b:(Nat.beq n 0 && (Nat.beq (v.eval y).cells.length d.size && ((v.eval y).cells.all AV.single && Nat.ble (off+(v.eval y).cells.length) cells.length))) with
      | false=>rw [b] at h;cases h
      | true=>
       rw [b] at h;simp only [qd,qc] at h;subst h;simp only [qp] at b;obtain ⟨b1,b2,b3,b4⟩:=b;obtain rfl:=qh b1;exact fun f ids' hl=>kve (st:={ v with heap:=f,ids:=ids' }) i (g.get c) j (by rw [<- a];exact hl) rfl (qh b2) b3 (qn b4)
     | _=>cases h
   | _=>cases h
 ·cases h
theorem k02 (b:TOk P T) {z:Zn} {k i:Nat} {o:Oper} {l:List Oper} {fs:FsT} {hp:List (Nat×AObj)} {nid:List Nat} {es:List (Nat×Nat)} (h:W P (kyb T z k i o l fs hp nid es ks st) Q):kme P z.os z.n z.ai (kfi P ks Q) st (k+1) i (o::l) fs hp nid es:=by
 unfold kyb at h;split at h
 ·rename_i c hc;cases hk:okA (idsB z.os.toList i nid es st.ids) c with
  | false=>rw [hk] at h;exact h.elim
  | true=>rw [hk] at h;exact .inl ⟨c,kuw b hc,hk,h⟩
 ·split at h
  ·rename_i e cells d ha;cases hk:kul z st es (Go.Proofs.YtpnnpkmjohkgiaaGreatDoor.fresh (nid++st.ids)) with
   | false=>rw [hk] at h;exact h.elim
   | true=>
    rw [hk] at h;have a:=hk;unfold kul at a;rw [Bool.not_eq_true'] at a;exact .inr (.inl ⟨_,_,_,d,kzg b ha _,a,h⟩)
  ·rename_i d _;split at h
   ·rename_i q f;cases hk:(!(st.heap.any fun r=>r.1 == q.1) && befB z.os.toList i q.1 es) with
    | false=>rw [hk] at h;exact h.elim
    | true=>
     rw [hk] at h;rw [qp,Bool.not_eq_true'] at hk;exact .inr (.inr ⟨_,_,_,d,kyk b f,hk.1,hk.2,h⟩)
   ·exact h.elim
  ·exact h.elim
theorem k17 (a:TOk P T) {g:Cfg} (h:W P (kwg T g) Q):W P g Q:=by
 unfold kwg at h;split at h;exact k2n h;exact l_nil (kjy h);exact k0q a h;exact h;exact k1s a h;exact h;exact k02 a h
 ·exact h.elim
theorem kc5 [t:Tab P] {k:Nat} {g:Cfg} (h:W P (crun P k g) Q):W P g Q:=by
 unfold crun at h
 induction k with
 | zero=>exact h
 | succ k ih=>exact ih (k17 t.ok h)
variable [t:Tab P] {g:Cfg} {β:Type} {r:β}
def kqh (g:Cfg):Bool:=match g.foc with
 | .code _=>true
 | .ops _ _=>true
 | _=>false
def isCode0 (g:Cfg):Bool:=match g.foc with
 | .code _=>true
 | _=>false
def stOf (g:Cfg):St:=g.st
def kw9 (g:Cfg) (st:St):Cfg:=⟨g.foc,g.ks,st⟩
theorem wle (k:Nat) {st':St} (hl:LeSt (stOf (crun P k g)) st') (h:W P (kw9 (crun P k g) st') Q) (hc:kqh (crun P k g)=true:=by kernel_rfl):W P g Q:=by
 refine kc5 (k:=k) ?_;generalize crun P k g=g' at *
 obtain ⟨foc,ks,st⟩:=g';cases foc with
 | code c=>exact k8b hl h
 | ops os l=>exact l_le hl h
 | _=>cases hc
def k3w (g:Cfg):Option Bool:=match g.foc with
 | .code (.cond c _ _)=>match g.st.eval c with
  | .fz (.atom (.bool b))=>some b
  | _=>none
 | _=>none
def brc (b:Bool) (g:Cfg):Cfg:=match g.foc with
 | .code (.cond _ x y)=>⟨.code (bif b then x else y),g.ks,g.st⟩
 | _=>⟨.bad,g.ks,g.st⟩
theorem cd (k:Nat) {b:Bool} {X Y:Option β} (h:(bif b then X else Y)=some r) (hc:k3w (crun P k g)=some b) (h1:X=some r->W P (brc true (crun P k g)) Q) (a:Y=some r->W P (brc false (crun P k g)) Q):W P g Q:=by
 refine kc5 (k:=k) ?_;generalize crun P k g=g' at *
 obtain ⟨foc,ks,st⟩:=g';have key:W P (brc b ⟨foc,ks,st⟩) Q:=by
  cases b with
  | true=>exact h1 h
  | false=>exact a h
 unfold k3w at hc;simp only at hc;split at hc
 ·rename_i c x y;split at hc;rename_i b' d;injection hc with hc;subst hc;exact kt3 d key
  ·cases hc
 ·cases hc
def setT (t:Nat) (v:AV):List (Nat×AV)->List (Nat×AV)
 | []=>[]
 | (k,x)::l=>bif Nat.beq k t then (k,v)::l else (k,x)::setT t v l
def setF (j:Nat) (v:AV):FsT->FsT
 | []=>[]
 | (k,d,x)::l=>bif Nat.beq k j then (k,d,v)::l else (k,d,x)::setF j v l
def getF (j:Nat):FsT->Option AV
 | []=>none
 | (k,d,x)::l=>bif Nat.beq k j then some x else getF j l
def kod:AV->Option Bool
 | .fz (.atom (.bool b))=>some b
 | _=>none
def kth (g:Cfg):Option Bool:=match g.foc with
 | .ops os (o::_)=>match o.guard with
  | some (j,_)=>match (os[j]?).bind (·.dst) with
   | some t=>kod (g.st.get t)
   | none=>none
  | none=>none
 | .drz _ _ _ (o::_) fs _ _ _=>match o.guard with
  | some (j,_)=>match getF j fs with
   | some v=>kod v
   | none=>none
  | none=>none
 | _=>none
def setG (b:Bool) (g:Cfg):Cfg:=match g.foc with
 | .ops os (o::l)=>match o.guard with
  | some (j,_)=>match (os[j]?).bind (·.dst) with
   | some t=>⟨.ops os (o::l),g.ks,{ g.st with tmps:=setT t (.fz (.atom (.bool b))) g.st.tmps }⟩
   | none=>g
  | none=>g
 | .drz z k i (o::l) fs hp ids pn=>match o.guard with
  | some (j,_)=>⟨.drz z k i (o::l) (setF j (.fz (.atom (.bool b))) fs) hp ids pn,g.ks,g.st⟩
  | none=>g
 | _=>g
theorem kvg {t:Nat} {b:Bool}:∀ {l:List (Nat×AV)},kod (look .any l t)=some b->setT t (.fz (.atom (.bool b))) l=l
 | [],_=>rfl
 | (k,x)::l,h=>by
  simp only [setT,look] at h ⊢;cases hk:Nat.beq k t with
  | true=>
   rw [hk] at h;simp only [qd] at h ⊢;unfold kod at h;split at h;injection h with h;rw [h]
   ·cases h
  | false=>rw [hk] at h;simp only [qe] at h ⊢; rw [kvg h]
theorem kv2 {j:Nat} {b:Bool}:∀ {l:FsT} {v:AV},getF j l=some v->kod v=some b->setF j (.fz (.atom (.bool b))) l=l
 | [],_,h,_=>rfl
 | (k,d,x)::l,v,h,a=>by
  simp only [setF,getF] at h ⊢;cases hk:Nat.beq k j with
  | true=>
   rw [hk] at h;simp only [qd,qc] at h ⊢;subst h;unfold kod at a;split at a;injection a with a;rw [a]
   ·cases a
  | false=>rw [hk] at h;simp only [qe] at h ⊢; rw [kv2 h a]
theorem k5a {b:Bool} (h:kth g=some b):setG b g=g:=by
 obtain ⟨foc,ks,st⟩:=g;unfold kth at h;unfold setG;cases foc with
 | ops os l=>
  cases l with
  | nil=>rfl
  | cons o l=>
   (try dsimp only at h ⊢);split at h
   ·rename_i j w a;split at h;rename_i t ht;(try simp only [ht]);rw [kvg h]
    ·cases h
   ·cases h
 | drz z k i l fs hp ids pn=>
  cases l with
  | nil=>rfl
  | cons o l=>
   (try dsimp only at h ⊢);split at h
   ·rename_i j w a;split at h;rename_i v hv;(try dsimp only);rw [kv2 hv h]
    ·cases h
   ·cases h
 | _=>rfl
theorem gd (k:Nat) {b:Bool} {X Y:Option β} (h:(bif b then X else Y)=some r) (hc:kth (crun P k g)=some b) (h1:X=some r->W P (setG true (crun P k g)) Q) (a:Y=some r->W P (setG false (crun P k g)) Q):W P g Q:=by
 refine kc5 (k:=k) ?_;rw [<- k5a hc];cases b with
 | true=>exact h1 h
 | false=>exact a h
theorem gdb (k:Nat) {b:Bool} {X Y:Option β} (h:(bif b then X else Y)=some r) (h1:b=true->X=some r->W P (crun P k g) Q) (a:b=false->Y=some r->W P (crun P k g) Q):W P g Q:=by
 refine kc5 (k:=k) ?_;cases b with
 | true=>exact h1 rfl h
 | false=>exact a rfl h
def kkj (g:Cfg):Option (Oper×St):=match g.foc with
 | .ops os (o::_)=>match kbm os g.st o,kny g.st o with
  | some true,true=>some (o,g.st)
  | _,_=>none
 | .drz z (_+1) i (o::_) fs hp ids pn=>match kbm z.os (kkz z g.st i o fs hp ids) o with
  | some true=>bif z.es.contains i || ks5 z i pn then none else some (o,kkz z g.st i o fs hp ids)
  | _=>none
 | .dry z (_+1) i (o::_) fs _ _ _=>match kbm z.os (kqo z g.st i o fs) o with
  | some true=>some (o,kqo z g.st i o fs)
  | _=>none
 | _=>none
def koj (g:Cfg):Oper:=match g.foc with
 | .ops _ (o::_)=>o
 | .drz _ _ _ (o::_) _ _ _ _=>o
 | .dry _ _ _ (o::_) _ _ _ _=>o
 | _=>default
def ks0 (g:Cfg):St:=match kkj g with
 | some p=>p.2
 | none=>g.st
def rsm (c:AV) (g:Cfg):Cfg:=match g.foc with
 | .ops os (o::l)=>⟨.ops os l,g.ks,g.st.put o.dst c⟩
 | .drz z (k+1) i (o::l) fs hp ids pn=>bif phB z.os.toList z.es i || okA g.st.ids c then ⟨.drz z k (i+1) l ((i,o.dst,c)::fs) hp ids pn,g.ks,g.st⟩ else ⟨.bad,g.ks,g.st⟩
 | .dry z (k+1) i (o::l) fs hp nid es=>bif okA (idsB z.os.toList i nid es g.st.ids) c then ⟨.dry z k (i+1) l ((i,o.dst,c)::fs) hp nid es,g.ks,g.st⟩ else ⟨.bad,g.ks,g.st⟩
 | _=>⟨.bad,g.ks,g.st⟩
end
section
variable {P:Program} {T:List (TypeId×TD)} {Q:Exit->St->Prop} {st:St} {ks:List Frm} {g:Cfg} {β:Type} {r:β}
theorem kt0 {o:Oper} {v:St} {c:AV} (hv:kkj g=some (o,v)) (hn:NStep P o v c) (h:W P (rsm c g) Q):W P g Q:=by
 obtain ⟨foc,ks,st⟩:=g;unfold kkj at hv;simp only at hv;split at hv
 ·split at hv;rename_i a e;simp only [qc,qm] at hv;obtain ⟨rfl,rfl⟩:=hv;exact kql hn.step a (klv e) h
  ·cases hv
 ·rename_i z k i o' l fs hp ids pn;split at hv
  ·rename_i a;generalize d:(z.es.contains i || ks5 z i pn)=b at hv;cases b with
   | true=>cases hv
   | false=>
    rw [Bool.or_eq_false_iff] at d;simp only [qe,qc,qm] at hv;obtain ⟨rfl,rfl⟩:=hv;simp only [rsm] at h;cases hk:(phB z.os.toList z.es i || okA st.ids c) with
    | false=>rw [hk] at h;exact h.elim
    | true=>rw [hk] at h;exact .inr (.inl ⟨d.1,c, .inl ⟨a,hn⟩,hk,h⟩)
  ·cases hv
 ·rename_i z k i o' l fs hp nid es;split at hv
  ·rename_i a;simp only [qc,qm] at hv;obtain ⟨rfl,rfl⟩:=hv;simp only [rsm] at h;cases hk:okA (idsB z.os.toList i nid es st.ids) c with
   | false=>rw [hk] at h;exact h.elim
   | true=>rw [hk] at h;exact .inl ⟨c, .inl ⟨a,hn⟩,hk,h⟩
  ·cases hv
 ·cases hv
end
section
variable {P:Program} {T:List (TypeId×TD)} {Q:Exit->St->Prop} {st:St} {ks:List Frm} [t:Tab P] {g:Cfg} {β:Type} {r:β}
def mokV (g:Cfg):Bool:=(kkj g).isSome
theorem ktm {o:Oper} {v:St} (h:kkj g=some (o,v)):koj g=o/\ks0 g=v:=by
 refine ⟨?_,by unfold ks0;rw [h]⟩;obtain ⟨foc,ks,st⟩:=g;unfold kkj at h;unfold koj;simp only at h ⊢;split at h
 ·split at h;simp only [qc,qm] at h;exact h.1
  ·cases h
 ·rename_i z k i o' l fs hp ids pn;split at h
  ·generalize (z.es.contains i || _)=b at h;cases b with
   | true=>cases h
   | false=>simp only [qe,qc,qm] at h;exact h.1
  ·cases h
 ·split at h;simp only [qc,qm] at h;exact h.1
  ·cases h
 ·cases h
theorem nst (k:Nat) {c:AV} (hn:NStep P (koj (crun P k g)) (ks0 (crun P k g)) c) (h:W P (rsm c (crun P k g)) Q) (hv:mokV (crun P k g)=true:=by kernel_rfl):W P g Q:=by refine kc5 (k:=k) ?_;unfold mokV at hv;obtain ⟨⟨o,v⟩,hv⟩:=Option.isSome_iff_exists.1 hv;obtain ⟨e1,e2⟩:=ktm hv;rw [e1,e2] at hn;exact kt0 hv hn h
def okP (g:Cfg):Bool:=match g.foc with
 | .ops os (o::_)=>match kbm os g.st o,kny g.st o with
  | some true,true=>true
  | _,_=>false
 | _=>false
def rsmA (c:AV) (h:List (Nat×AObj)) (i:List Nat) (g:Cfg):Cfg:=match g.foc with
 | .ops os (o::l)=>⟨.ops os l,g.ks,({ g.st with heap:=h,ids:=i }:St).put o.dst c⟩
 | _=>⟨.bad,g.ks,g.st⟩
theorem sst (k:Nat) {c:AV} {h:List (Nat×AObj)} {i:List Nat} (hn:kaq P (koj (crun P k g)) (stOf (crun P k g)) c h i) (hv:okP (crun P k g)=true) (a:W P (rsmA c h i (crun P k g)) Q):W P g Q:=by
 refine kc5 (k:=k) ?_;generalize crun P k g=g' at *
 obtain ⟨foc,ks,st⟩:=g';unfold okP at hv;simp only at hv;split at hv
 ·split at hv;rename_i b d;exact kql hn b (klv d) a
  ·cases hv
 ·cases hv
def dzOk (n:Nat) (es ai:List Nat) (g:Cfg):Bool:=match g.foc with
 | .code (.region _ os true)=>relB os.toList n g.st.n && (kqd os.toList n es && g.st.ids.all ai.contains)
 | _=>false
def dzOf (n:Nat) (es ch ai:List Nat) (g:Cfg):Cfg:=match g.foc with
 | .code (.region _ os true)=>⟨.drz ⟨os,n,es,ch,ai⟩ n 0 os.toList [] g.st.heap g.st.ids none,g.ks,g.st⟩
 | _=>⟨.bad,g.ks,g.st⟩
theorem dz (k n:Nat) (es ch ai:List Nat) (hc:dzOk n es ai (crun P k g)=true) (a:W P (dzOf n es ch ai (crun P k g)) Q):W P g Q:=by
 refine kc5 (k:=k) ?_;generalize crun P k g=g' at *
 obtain ⟨foc,ks,st⟩:=g';unfold dzOk at hc;simp only at hc;split at hc;rename_i id os;simp only [qp] at hc;obtain ⟨l⟩:=os;exact k4k t.mixed hc.1 hc.2.1 hc.2.2 a
 ·cases hc
def dyOk (n:Nat) (ai:List Nat) (g:Cfg):Bool:=match g.foc with
 | .code (.region _ os true)=>relB os.toList n g.st.n && g.st.ids.all ai.contains
 | _=>false
def dyOf (n:Nat) (ai:List Nat) (g:Cfg):Cfg:=match g.foc with
 | .code (.region _ os true)=>⟨.dry ⟨os,n,[],[],ai⟩ n 0 os.toList [] [] [] [],g.ks,g.st⟩
 | _=>⟨.bad,g.ks,g.st⟩
theorem dy (k n:Nat) (ai:List Nat) (hc:dyOk n ai (crun P k g)=true) (a:W P (dyOf n ai (crun P k g)) Q):W P g Q:=by
 refine kc5 (k:=k) ?_;generalize crun P k g=g' at *
 obtain ⟨foc,ks,st⟩:=g';unfold dyOk at hc;simp only at hc;split at hc;rename_i id os;simp only [qp] at hc;obtain ⟨l⟩:=os;exact k5s t.mixed hc.1 hc.2 a
 ·cases hc
def k3i (g:Cfg):List Nat:=g.st.ids
theorem dw (k n:Nat) (hc:dzOk n [] (k3i (crun P k g)) (crun P k g)=true) (a:W P (dzOf n [] [] (k3i (crun P k g)) (crun P k g)) Q):W P g Q:=dz k n [] [] _ hc a
def mpre (g:Cfg):Cfg:=⟨g.foc,[],g.st⟩
def ksOf (g:Cfg):List Frm:=g.ks
end
section
variable {P:Program} {T:List (TypeId×TD)} {Q:Exit->St->Prop} {st:St} {ks:List Frm} {g:Cfg} {β:Type} {r:β}
theorem k20 {os:Array Oper} {l:List Oper} (h:awpL P os l st fun e st'=>∃ st2,LeSt st' st2/\Q e st2):awpL P os l st Q:=fun F S0 N0 ψ S a w hs=>
 kco (fun e a' w' ⟨st',ψ',S',⟨st2,h0,h1⟩,b,c⟩=>by obtain ⟨ψ2,S2,d⟩:=h0 F S0 N0 ψ' S' a' w' b;exact ⟨st2,ψ2,S2,h1,d,c⟩) _ _ _ (h F S0 N0 ψ S a w hs)
theorem ky0 {os:Array Oper} {l:List Oper} {Q':Exit->St->Prop} (h:awpL P os l st Q) (b:∀ e st,Q e st->Q' e st):awpL P os l st Q':=fun F S0 N0 ψ S a w hs=>
 kco (fun e a' w' ⟨st',ψ',S',h1,c⟩=>⟨st',ψ',S',b _ _ h1,c⟩) _ _ _ (h F S0 N0 ψ S a w hs)
end
section
variable {P:Program} {T:List (TypeId×TD)} {Q:Exit->St->Prop} {st:St} {ks:List Frm} [t:Tab P] {g:Cfg} {β:Type} {r:β}
def WeakQ (Q:Exit->St->Prop):Exit->St->Prop:=fun e st'=>∃ st2,LeSt st' st2/\Q e st2
end
section
variable {P:Program} {T:List (TypeId×TD)} {Q:Exit->St->Prop} {st:St} {ks:List Frm} {g:Cfg} {β:Type} {r:β}
end
section
variable {P:Program} {T:List (TypeId×TD)} {Q:Exit->St->Prop} {st:St} {ks:List Frm} [t:Tab P] {g:Cfg} {β:Type} {r:β}
theorem jn (k:Nat) (Qa:Exit->St->Prop) (hc:kqh (crun P k g)=true) (ha:W P (mpre (crun P k g)) Qa) (b:∀ e st',Qa e st'->∃ st2,LeSt st' st2/\W P (unw e (ksOf (crun P k g)) st2) Q):W P g Q:=by
 refine kc5 (k:=k) ?_;generalize crun P k g=g' at *
 obtain ⟨foc,ks,st⟩:=g';have a:∀ e st',Qa e st'->WeakQ (kfi P ks Q) e st':=fun e st' h=>let ⟨st2,h1,d⟩:=b e st' h;⟨st2,h1,kzs d⟩;cases foc with
 | code c=>exact kmz (kpr (show awp P c st Qa from ha) a)
 | ops os l=>exact k20 (ky0 (show awpL P os l st Qa from ha) a)
 | _=>cases hc
theorem jn1 {α:Type} {E:Option α} {K:α->Option β} (k:Nat) (e:Exit) (J:α->St) (h:Option.bind E K=some r) (hc:kqh (crun P k g)=true) (ha:∀ v,E=some v->W P (mpre (crun P k g)) fun e' st=>e'=e/\LeSt st (J v))
  (a:∀ v,K v=some r->W P (unw e (ksOf (crun P k g)) (J v)) Q):W P g Q:=by
 obtain ⟨v,h1,b⟩:=qx.1 h;refine jn k _ hc (ha v h1) ?_;rintro _ st' ⟨rfl,hl⟩;exact ⟨_,hl,a v b⟩
theorem jnQ {α:Type} {E:Option α} {K:α->Option β} (k:Nat) (Qa:α->Exit->St->Prop) (h:Option.bind E K=some r) (ha:∀ v,E=some v->W P (mpre (crun P k g)) (Qa v)) (a:∀ v,K v=some r->∀ e st',Qa v e st'->∃ st2,LeSt st' st2/\W P (unw e (ksOf (crun P k g)) st2) Q) (hc:kqh (crun P k g)=true:=by kernel_rfl):W P g Q:=by obtain ⟨v,h1,b⟩:=qx.1 h;exact jn k _ hc (ha v h1) (a v b)
def k3r:FV->C0
 | .lst s _ _ => .sl s
 | .bx _ => .px
 | _ => .keep
def kv6:AV->C0
 | .fz x=>k3r x
 | _ => .keep
def auto1:AV->C1
 | .fz (.agg xs) => .ag (xs.map k3r)
 | .agg xs => .ag (xs.map kv6)
 | x => .one (kv6 x)
def autoT (st:St):List (Nat×C1):=st.tmps.map fun p=>(p.1,auto1 p.2)
def autoO:AObj->List C0
 | .box _ cs=>cs.map kv6
 | _=>[]
def autoH (st:St):List (Nat×List C0):=st.heap.map fun p=>(p.1,autoO p.2)
def coA (st J:St):Option St:=coSt st J.ids (autoT J) (autoH J)
theorem le_a {st J:St} (h:coA st J=some J:=by kernel_rfl):LeSt st J:=le_co h
def kmo:Foc->Exit->Bool
 | .fin .normal, .normal=>true
 | .fin .ret, .ret=>true
 | .fin (.exit i), .exit j=>Nat.beq i j
 | _,_=>false
theorem ktt {foc:Foc} {e:Exit} (h:kmo foc e=true):foc = .fin e/\(e = .normal\/e = .ret\/∃ i,e = .exit i):=by
 unfold kmo at h;split at h;exact ⟨rfl, .inl rfl⟩;exact ⟨rfl, .inr (.inl rfl)⟩;rename_i i j;rw [qh h];exact ⟨rfl, .inr (.inr ⟨_,rfl⟩)⟩
 ·cases h
def jok (g:Cfg) (e:Exit) (J:St):Option St:=bif kmo g.foc e then coA g.st J else none
end
section
variable {P:Program} {T:List (TypeId×TD)} {Q:Exit->St->Prop} {st:St} {ks:List Frm} {g:Cfg} {β:Type} {r:β}
end
section
variable {P:Program} {T:List (TypeId×TD)} {Q:Exit->St->Prop} {st:St} {ks:List Frm} [t:Tab P] {g:Cfg} {β:Type} {r:β}
def nilK (g:Cfg):Bool:=match g.ks with
 | []=>true
 | _=>false
theorem lj (k:Nat) {e:Exit} {J:St} (hc:(bif nilK (crun P k g) then jok (crun P k g) e J else none)=some J:=by kernel_rfl):W P g fun e' st=>e'=e/\LeSt st J:=by
 refine kc5 (k:=k) ?_;generalize crun P k g=g' at *
 obtain ⟨foc,ks,st⟩:=g';cases ks with
 | cons=>cases hc
 | nil=>
  simp only [nilK,jok,qd] at hc;cases a:kmo foc e with
  | false=>rw [a] at hc;cases hc
  | true=>
   rw [a] at hc;obtain ⟨rfl,_⟩:=ktt a;exact ⟨rfl,le_a hc⟩
theorem lo (k:Nat) {e:Exit} {J:St} (hc:(bif nilK (crun P k g) && !kmo (crun P k g).foc .normal then jok (crun P k g) e J else none)=some J):W P g fun e' st=>(e' ≠ .normal/\e' ≠ .outgrown)/\(e'=e/\LeSt st J):=by
 refine kc5 (k:=k) ?_;generalize crun P k g=g' at *
 obtain ⟨foc,ks,st⟩:=g';cases ks with
 | cons=>cases hc
 | nil=>
  simp only [nilK,jok,Bool.true_and] at hc;cases hn:kmo foc .normal with
  | true=>rw [hn] at hc;cases hc
  | false=>
   rw [hn] at hc;cases a:kmo foc e with
   | false=>rw [a] at hc;cases hc
   | true=>
    rw [a] at hc;obtain ⟨rfl,b⟩:=ktt a;refine ⟨⟨fun h=>?_,fun h=>?_⟩,rfl,le_a hc⟩;subst h;cases hn
    ·rcases b with rfl | rfl | ⟨i,rfl⟩ <;> cases h
def ki1:Foc->Bool
 | .fin .normal=>true
 | .fin .ret=>true
 | _=>false
def knn:Foc->Bool
 | .fin .ret=>true
 | _=>false
def rokq (T:List (TypeId×TD)) (g:Cfg) (rs:List ResultVar) (cs:List C1):Option FV:=bif nilK g && ki1 g.foc then retX T g.st rs cs else none
def rokr (T:List (TypeId×TD)) (g:Cfg) (rs:List ResultVar) (cs:List C1):Option FV:=bif knn g.foc then retX T g.st rs cs else none
theorem lq (k:Nat) {rs:List ResultVar} {cs:List C1} {y:FV} (hc:rokq t.T (crun P k g) rs cs=some y:=by kernel_rfl):W P g (retQ t.T rs cs y):=by
 refine kc5 (k:=k) ?_;generalize crun P k g=g' at *
 obtain ⟨foc,ks,st⟩:=g';unfold rokq at hc;cases ks with
 | cons=>cases hc
 | nil=>
  simp only [nilK,Bool.true_and] at hc;cases a:ki1 foc with
  | false=>rw [a] at hc;cases hc
  | true=>
   rw [a] at hc;unfold ki1 at a;split at a;exact hc;exact hc
   ·cases a
theorem lr (k:Nat) {rs:List ResultVar} {cs:List C1} {y:FV} (hc:rokr t.T (crun P k g) rs cs=some y:=by kernel_rfl):W P g fun e st=>e = .ret/\retX t.T st rs cs=some y:=by
 refine kc5 (k:=k) ?_;generalize crun P k g=g' at *
 obtain ⟨foc,ks,st⟩:=g';unfold rokr at hc;cases a:knn foc with
 | false=>simp only [a] at hc;cases hc
 | true=>
  simp only [a] at hc;unfold knn at a;split at a;exact kob (Q:=fun e st=>e = .ret/\retX t.T st rs cs=some y) ⟨rfl,hc⟩
  ·cases a
theorem lor (k:Nat) {rs:List ResultVar} {cs:List C1} {y:FV} (hc:rokr t.T (crun P k g) rs cs=some y:=by kernel_rfl):W P g fun e st=>(e ≠ .normal/\e ≠ .outgrown)/\(e = .ret/\retX t.T st rs cs=some y):=by
 refine kc5 (k:=k) ?_;generalize crun P k g=g' at *
 obtain ⟨foc,ks,st⟩:=g';unfold rokr at hc;cases a:knn foc with
 | false=>simp only [a] at hc;cases hc
 | true=>
  simp only [a] at hc;unfold knn at a;split at a;exact kob (Q:=fun e st=>(e ≠ .normal/\e ≠ .outgrown)/\(e = .ret/\retX t.T st rs cs=some y)) ⟨⟨(fun h=>nomatch h),(fun h=>nomatch h)⟩,rfl,hc⟩
  ·cases a
theorem lv {rs:List ResultVar} {cs:List C1} {y:FV} {st:St} {ks:List Frm} (h:retX t.T st rs cs=some y):W P (unw .ret ks st) (retQ t.T rs cs y):=h
theorem lvr {rs:List ResultVar} {cs:List C1} {y:FV} {st:St} {ks:List Frm} (h:retX t.T st rs cs=some y):W P (unw .ret ks st) fun e st=>e = .ret/\retX t.T st rs cs=some y:=⟨rfl,h⟩
theorem lvo {rs:List ResultVar} {cs:List C1} {y:FV} {st:St} {ks:List Frm} (h:retX t.T st rs cs=some y):W P (unw .ret ks st) fun e st=>(e ≠ .normal/\e ≠ .outgrown)/\(e = .ret/\retX t.T st rs cs=some y):=⟨⟨fun h=>(nomatch h),fun h=>(nomatch h)⟩,rfl,h⟩
end
section
variable {P:Program} {T:List (TypeId×TD)} {Q:Exit->St->Prop} {st:St} {ks:List Frm} {g:Cfg} {β:Type} {r:β}
theorem ls {α:Type} {X v:α} {Qf:α->Exit->St->Prop} (h:some X=some v) (a:W P g (Qf X)):W P g (Qf v):=by obtain rfl:=qab h;exact a
end
section
variable {P:Program} {T:List (TypeId×TD)} {Q:Exit->St->Prop} {st:St} {ks:List Frm} [t:Tab P] {g:Cfg} {β:Type} {r:β}
def kyo (g:Cfg):Cfg:=match g.foc with
 | .code (.loop c)=>⟨.code c,[],g.st⟩
 | _=>⟨.bad,[],g.st⟩
def ktd (g:Cfg):Bool:=match g.foc with
 | .code (.loop _)=>true
 | _=>false
theorem lpx {σ α:Type} {step:σ->Option (σ ⊕ α)} {n:Nat} {s0:σ} {K:α->Option β} (k:Nat) (H:σ->St) (Qb:α->Exit->St->Prop) (h:Option.bind (kac step n s0) K=some r) (hc:ktd (crun P k g)=true) (h0:LeSt (stOf (crun P k g)) (H s0))
  (a:∀ s r',step s=some r'->W P (kw9 (kyo (crun P k g)) (H s)) (Sum.elim (fun s' e st=>e = .normal/\LeSt st (H s')) (fun v e st=>(e ≠ .normal/\e ≠ .outgrown)/\Qb v e st) r'))
  (ha:∀ v,K v=some r->∀ e st',Qb v e st'->∃ st2,LeSt st' st2/\W P (unw e (ksOf (crun P k g)) st2) Q):W P g Q:=by
 refine kc5 (k:=k) ?_;generalize crun P k g=g' at *
 obtain ⟨foc,ks,st⟩:=g';obtain ⟨v,h1,d⟩:=qx.1 h;unfold ktd at hc;simp only at hc;split at hc
 ·rename_i c;refine k0y (kyg (P:=P) (body:=c) (st:=st) H (Qb:=Qb) h1 h0 fun s r' hs=>?_) fun e st' f=>?_
  ·have:=a s r' hs;cases r' with
   | inl s'=>exact this
   | inr b=>exact this
  ·obtain ⟨st2,e1,e2⟩:=ha v d e st' f;exact ⟨st2,e1,kzs e2⟩
 ·cases hc
theorem lp1 {σ α:Type} {step:σ->Option (σ ⊕ α)} {n:Nat} {s0:σ} {K:α->Option β} (k:Nat) (H:σ->St) (e:Exit) (J:α->St) (h:Option.bind (kac step n s0) K=some r) (a:∀ s r',step s=some r'->W P (kw9 (kyo (crun P k g)) (H s)) (Sum.elim (fun s' e st=>e = .normal/\LeSt st (H s')) (fun v e' st=>(e' ≠ .normal/\e' ≠ .outgrown)/\(e'=e/\LeSt st (J v))) r')) (ha:∀ v,K v=some r->W P (unw e (ksOf (crun P k g)) (J v)) Q) (hc:ktd (crun P k g)=true:=by kernel_rfl) (h0:coA (stOf (crun P k g)) (H s0)=some (H s0):=by kernel_rfl):W P g Q:=by refine lpx k H _ h hc (le_a h0) a fun v hv e' st' b=>?_;obtain ⟨rfl,hl⟩:=b;exact ⟨_,hl,ha v hv⟩
def kl1 (fn:Func):Code:=fn.body.getD .skip
theorem knf {fn:Func} (h:fn.body.isSome=true):fn.body=some (kl1 fn):=by
 unfold kl1;cases a:fn.body with
 | none=>rw [a] at h;cases h
 | some c=>rfl
def inlW (P:Program) (os:Array Oper) (l:List Oper) (ks:List Frm) (dst:Option Nat) (n:Nat) (D:List Deferred) (gi:Nat) (cs:List Value) (keep:List (Nat×AV)) (rs:List ResultVar) (Q:Exit->St->Prop):Exit->St->Prop:=inlQ P os l dst n D gi cs keep rs (kfi P ks Q)
def inlF (g:Cfg):Option (FuncId×List AV):=match g.foc with
 | .ops os (o::_)=>match kbm os g.st o,kny g.st o with
  | some true,true=>match o.op with
   | .call c=>match c.callee with
    | .value x=>match g.st.eval x with
     | .fn f cap=>some (f,c.args.toList.map g.st.eval++cap)
     | _=>none
    | _=>none
   | _=>none
  | _,_=>none
 | _=>none
def opsOf (g:Cfg):Array Oper:=match g.foc with
 | .ops os _=>os
 | _=>#[]
def k6t (g:Cfg):List Oper:=match g.foc with
 | .ops _ (_::l)=>l
 | _=>[]
def dstOf (g:Cfg):Option Nat:=match g.foc with
 | .ops _ (o::_)=>o.dst
 | _=>none
theorem inl (k : Nat) {f : FuncId} {fn : Func} {n gi : Nat} {ys : List AV} (e : P.funcs[f]? = some fn) (i : fn.body.isSome = true) (hn : (fn.name == "runtime.NumGoroutine") = false) (a : fn.ntmps = n) (b : Nat.ble ys.length n = true) (c : (stOf (crun P k g)).ids.contains gi = false)
  (hc:inlF (crun P k g)=some (f,ys))
  (h:∀ cs,W P ⟨.code (kl1 fn),[],{ n:=n,tmps:=argT 0 ys,heap:=(gi, .gho cs ((stOf (crun P k g)).tmps.map fun p=>(stOf (crun P k g)).get p.1))::(stOf (crun P k g)).heap,ids:=gi::(stOf (crun P k g)).ids }⟩
   (inlW P (opsOf (crun P k g)) (k6t (crun P k g)) (ksOf (crun P k g)) (dstOf (crun P k g)) (stOf (crun P k g)).n (stOf (crun P k g)).dfr gi cs (stOf (crun P k g)).tmps fn.results.toList Q)):W P g Q:=by
 refine kc5 (k:=k) ?_;generalize crun P k g=g' at *
 obtain ⟨foc,ks,st⟩:=g';unfold inlF at hc;simp only at hc;split at hc
 ·split at hc
  ·rename_i j l;split at hc
   ·rename_i c' m;split at hc
    ·rename_i x d;split at hc;rename_i f' cap hv;simp only [qc,qm] at hc;obtain ⟨rfl,rfl⟩:=hc;obtain ⟨cc,as1,ts⟩:=c';simp only at d;subst d;exact k16 m hv j (klv l) e (knf i) hn a rfl b c h
     ·cases hc
    ·cases hc
   ·cases hc
  ·cases hc
 ·cases hc
theorem li (k:Nat) {os:Array Oper} {l:List Oper} {ks:List Frm} {dst:Option Nat} {n gi:Nat} {D:List Deferred} {cs:List Value} {keep:List (Nat×AV)} {rs:List ResultVar} {vs:List AV} {rv:AV} (hc:(bif nilK (crun P k g) && ki1 (crun P k g).foc then kaa (stOf (crun P k g)).heap gi else none)=some (.gho cs vs))
  (a:(stOf (crun P k g)).dfr=[]) (hr:(rs=[]/\rv = .any)\/∃ z,rs=[.tmp z]/\(stOf (crun P k g)).get z=rv)
  (h:W P ⟨.ops os l,ks,({ n:=n,tmps:=zipS keep vs,heap:=kdn gi (stOf (crun P k g)).heap,ids:=(stOf (crun P k g)).ids,dfr:=D }:St).put dst rv⟩ Q):W P g (inlW P os l ks dst n D gi cs keep rs Q):=by
 refine kc5 (k:=k) ?_;generalize crun P k g=g' at *
 obtain ⟨foc,ks',st⟩:=g';cases ks' with
 | cons=>cases hc
 | nil=>
  simp only [nilK,Bool.true_and] at hc;cases b:ki1 foc with
  | false=>rw [b] at hc;cases hc
  | true=>
   rw [b] at hc;unfold ki1 at b;split at b;exact ⟨.inl rfl,a,vs,rv,hc,hr,h⟩;exact ⟨.inr rfl,a,vs,rv,hc,hr,h⟩
   ·cases b
theorem hcx0 {f : FuncId} {fn : Func} {args : List AV} {pre : List (Nat × AObj)} {ids : List Nat} {E : HEnd} {post : List (Nat × AObj)} {ids' : List Nat} {gi : Nat} (d : P.funcs[f]? = some fn) (e : fn.body.isSome = true) (hn : (fn.name == "runtime.NumGoroutine") = false)
  (a:Nat.ble args.length fn.ntmps=true) (g:ids.contains gi=false) (b:ids'.contains gi=false) (c:(post.all fun p=>okO ids' p.2)=true) (i:E.ok ids'=true) (hk:(post.all fun p=>ids'.contains p.1)=true)
  (h:∀ ψ0 S1 w0,W P ⟨.code (kl1 fn),[],{ n:=fn.ntmps,tmps:=argT 0 args,heap:=(gi, .was ψ0 ids S1 w0)::pre,ids:=gi::ids }⟩ (hQ t.T fn.results.toList gi ids E post ids' ψ0 S1 w0)):kfs P f args pre ids E post ids':=
 ktx t.ok d (knf e) hn a g b c i hk h
theorem hcx {f : FuncId} {fn : Func} {args : List AV} {pre : List (Nat × AObj)} {ids : List Nat} {E : HEnd} {post : List (Nat × AObj)} {ids' : List Nat} {gi : Nat} (d : P.funcs[f]? = some fn) (h : ∀ ψ0 S1 w0, W P ⟨.code (kl1 fn), [], { n := fn.ntmps, tmps := argT 0 args, heap := (gi, .was ψ0 ids S1 w0) :: pre, ids := gi :: ids }⟩ (hQ t.T fn.results.toList gi ids E post ids' ψ0 S1 w0)) (e : fn.body.isSome = true := by kernel_rfl) (hn : (fn.name == "runtime.NumGoroutine") = false := by kernel_rfl) (a : Nat.ble args.length fn.ntmps = true := by kernel_rfl) (g : ids.contains gi = false := by kernel_rfl) (b : ids'.contains gi = false := by kernel_rfl) (c : (post.all fun p => okO ids' p.2) = true := by kernel_rfl) (i : E.ok ids' = true := by kernel_rfl) (hk : (post.all fun p => ids'.contains p.1) = true := by kernel_rfl) : kfs P f args pre ids E post ids' :=
 hcx0 d e hn a g b c i hk h
theorem lh (k:Nat) {rs:List ResultVar} {gi:Nat} {ids ids':List Nat} {res:AV} {post:List (Nat×AObj)} {ψ0:Env} {S1:Nat->Prop} {w0:World} (st2:St) (hl:LeSt (stOf (crun P k g)) st2) (b:st2.heap=(gi, .was ψ0 ids S1 w0)::post) (hi:st2.ids=gi::ids')
  (hc:(nilK (crun P k g) && ki1 (crun P k g).foc)=true) (hr:retA t.T st2 rs=some res):W P g (hQ t.T rs gi ids (.ret res) post ids' ψ0 S1 w0):=by
 refine kc5 (k:=k) ?_;generalize crun P k g=g' at *
 obtain ⟨foc,ks,st⟩:=g';simp only [qp] at hc;cases ks with
 | cons=>cases hc.1
 | nil=>
  have a:ki1 foc=true:=hc.2;unfold ki1 at a;split at a;exact kys hl b hi (.inl rfl) hr;exact kys hl b hi (.inr rfl) hr
  ·cases a
def zipR (st:St):List ResultVar->List AV->List (Nat×AV)
 | .tmp t::rs,x::xs=>(t,x)::zipR st rs xs
 | .cell t _::rs,_::xs=>(t,st.get t)::zipR st rs xs
 | _,_=>[]
def retT (st:St):List ResultVar->AV->List (Nat×AV)
 | [.tmp t],a=>[(t,a)]
 | [.cell t _],_=>[(t,st.get t)]
 | rs, .fz (.tup xs)=>zipR st rs (xs.map .fz)
 | rs, .tup xs=>zipR st rs xs
 | _,_=>[]
def retJ (st:St) (rs:List ResultVar) (res:AV) (gi:Nat) (o:AObj) (post:List (Nat×AObj)) (ids':List Nat):St:={ n:=st.n,tmps:=retT st rs res,heap:=(gi,o)::post,ids:=gi::ids' }
theorem lhy (k:Nat) {rs:List ResultVar} {gi:Nat} {ids ids':List Nat} {res:AV} {post:List (Nat×AObj)} {ψ0:Env} {S1:Nat->Prop} {w0:World} (hl:coA (stOf (crun P k g)) (retJ (stOf (crun P k g)) rs res gi (.was ψ0 ids S1 w0) post ids')=some (retJ (stOf (crun P k g)) rs res gi (.was ψ0 ids S1 w0) post ids'):=by kernel_rfl)
  (hc:(nilK (crun P k g) && ki1 (crun P k g).foc)=true:=by kernel_rfl) (hr:retA t.T (retJ (stOf (crun P k g)) rs res gi (.was ψ0 ids S1 w0) post ids') rs=some res:=by kernel_rfl):W P g (hQ t.T rs gi ids (.ret res) post ids' ψ0 S1 w0):=
 lh k _ (le_a hl) rfl rfl hc hr
theorem pcl {f : FuncId} {fn : Func} {args : List FV} {y : FV} (cs : List C1) (b : P.funcs[f]? = some fn) (c : fn.body.isSome = true) (hn : (fn.name == "runtime.NumGoroutine") = false) (a : Nat.ble args.length fn.ntmps = true)
  (h:W P ⟨.code (kl1 fn),[],{ n:=fn.ntmps,tmps:=kjf 0 args,heap:=[],ids:=[] }⟩ (retQ t.T fn.results.toList cs y)):PCall P f args y:=ku1 t.ok cs b (knf c) hn a h
def kqc {γ:Type} (f:Oper->St->Option γ) (g:Cfg):Option γ:=bif okP g then f (koj g) (stOf g) else none
theorem ktr {γ:Type} {f:Oper->St->Option γ} {z:γ} {g:Cfg} (h:kqc f g=some z):okP g=true/\f (koj g) (stOf g)=some z:=by
 unfold kqc at h;cases hk:okP g with
 | false=>rw [hk] at h;cases h
 | true=>rw [hk] at h;exact ⟨rfl,h⟩
end
attribute [irreducible] W
end Go.Proofs.YtpnnpkmjohkgiaaGreatDoor
