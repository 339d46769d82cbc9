import Derived.Test.YtnlhjbnpjefjgaaGreatDoorOpr
import Derived.Test.YtnlhjbnpjefjgaaGreatDoorMach
import Derived.Test.YtnlhjbnpjefjgaaGreatDoorAv
import Derived.Test.YtnlhjbnpjefjgaaGreatDoorDrawE
import Derived.Lib.AppendIntMem
import Derived.Lib.ItoaLen
import Derived.Lib.Slices
import Derived.Lib.Hide
import Derived.Laws.IdiomStrings
import Derived.OwnWalk
import Derived.WalkKit
import Derived.BigCall
import Derived.Lib.ItoaNum
import Derived.Sort.Grow
import Derived.Deep.Draws
import Derived.Lib.ConvBytes
import Derived.Lib.AtoiErrMem
import Derived.Lib.OwnBridge
import Derived.Sort.OwnSortedInts
set_option linter.all false
set_option linter.unusedSectionVars false
namespace Go.Proofs.YtnlhjbnpjefjgaaGreatDoor
open Go Go.RowKit
variable [Dr]
structure En (α:Type) where
 f:α->FV
 n:Nat
 cl:α->List FV
 hcl:∀ x,(f x).cells=cl x
 hn:∀ x,(f x).cells.length=n
def nB:En Bool:=⟨eB,1,fun x=>[eB x],fun _=>rfl,fun _=>rfl⟩
def nI:En Int:=⟨eI,1,fun x=>[eI x],fun _=>rfl,fun _=>rfl⟩
def nL {α:Type} (s:Nat) (E:En α):En (List α):=⟨eL s E.f,1,fun x=>[eL s E.f x],fun _=>rfl,fun _=>rfl⟩
def nTmR:En Tm:=⟨eTmR,2,fun x=>(eTm x).cells,kl4,k5e⟩
def krb {γ:Type} (f:Oper->St->Option γ) (g:Cfg):Option γ:=match km5 g with
 | some p=>f p.1 p.2
 | none=>none
section
variable {P:Program} [t:Tab P] {Q:Exit->St->Prop} {g:Cfg} {β:Type} {r:β}
theorem vst {γ:Type} {f:Oper->St->Option γ} {z:γ} {c:AV} (k:Nat) (hc:krb f (crun P k g)=some z) (hn:∀ o v,f o v=some z->NStep P o v c) (h:W P (rsm c (crun P k g)) Q):W P g Q:=by
 refine kb0 k ?_;unfold krb at hc;split at hc;rename_i p hp;exact kxq hp (hn _ _ hc) h
 ·cases hc
def ixOf (T:List (TypeId×TD)) (o:Oper) (st:St):Option (Nat×List FV×Int):=match o.op with
 | .indexAddr t x y=>match kad T t with
  | some d=>match d.kind,km1 (st.eval x),st.eval y with
   | .slice e,some xs, .fz (.atom (.int _ i))=>match kad T e with
    | some de=>some (de.size,xs,i)
    | none=>none
   | _,_,_=>none
  | none=>none
 | _=>none
theorem ix {α:Type} {ys:List α} {i:Int} {K:α->Option β} (E:En α) (k:Nat) (h:Option.bind (idx ys i) K=some r) (c:∀ v,K v=some r->W P (rsm (.fz (.fp (E.cl v))) (crun P k g)) Q) (hc:krb (ixOf t.T) (crun P k g)=some (E.n,ys.map E.f,i):=by kernel_rfl):W P g Q:=by
 obtain ⟨v,h1,j⟩:=qg.1 h;refine vst k hc (fun o st a=>?_) (c v j);unfold ixOf at a;split at a
 ·rename_i tt x y ho;split at a
  ·rename_i d l;split at a
   ·rename_i e xs k' i' hk m hy;split at a;rename_i de b;simp only [qc,qt] at a;obtain ⟨z1,z2,z3⟩:=a;subst z2 z3;exact k7m E.f h1 t.ok ho l hk b m (fun x=>by rw [E.hn,z1]) hy (E.hcl v)
    ·cases a
   ·cases a
  ·cases a
 ·cases a
def tyCs (T:List (TypeId×TD)):Nat->TypeId->List C0
 | 0,_=>[]
 | n+1,t=>match kad T t with
  | some d=>match d.kind with
   | .slice e=>match kad T e with
    | some de=>[.sl de.size]
    | none=>[.keep]
   | .st fs=>fs.flatMap fun p=>tyCs T n p.1
   | .arr m e=>(List.replicate m e).flatMap fun e=>tyCs T n e
   | _=>[.keep]
  | none=>[.keep]
def tyC (T:List (TypeId×TD)) (t:TypeId):C1:=match kad T t with
 | some d=>match d.kind with
  | .slice e=>match kad T e with
   | some de => .one (.sl de.size)
   | none => .one .keep
  | .st _ => .ag (tyCs T 9 t)
  | .arr _ _ => .ag (tyCs T 9 t)
  | _ => .one .keep
 | none => .one .keep
def clOf (T:List (TypeId×TD)) (o:Oper) (st:St):Option (FuncId×List FV):=match o.op with
 | .call c=>match c.callee with
  | .value (.func f)=>match koj st (c.argTypes.toList.map (tyC T)) c.args.toList with
   | some ys=>some (f,ys)
   | none=>none
  | _=>none
 | _=>none
theorem cl {α:Type} {E:Option α} {K:α->Option β} {f:FuncId} {ys:List FV} {y:α->FV} (k:Nat) (h:Option.bind E K=some r) (hp:∀ v,E=some v->PCall P f ys (y v)) (b:∀ v,K v=some r->W P (rsm (.fz (y v)) (crun P k g)) Q) (hc:krb (clOf t.T) (crun P k g)=some (f,ys):=by kernel_rfl):W P g Q:=by
 obtain ⟨v,h1,d⟩:=qg.1 h;refine vst k hc (fun o st a=>?_) (b v d);unfold clOf at a;split at a
 ·rename_i c ho;split at a
  ·rename_i f' hf;split at a;rename_i ys' hy;simp only [qc,qt] at a;obtain ⟨rfl,rfl⟩:=a;obtain ⟨cc,as_,ts⟩:=c;simp only at hf;subst hf;exact k39 ho hy (hp v h1)
   ·cases a
  ·cases a
 ·cases a
def hcOf (cs:List C1) (r1 r2:List (Nat×Nat)) (keys ids0 ids1:List Nat) (post:List (Nat×AObj)) (o:Oper) (st:St):Option (FuncId×List AV×List (Nat×AObj)):=match o.op with
 | .call c=>match c.callee with
  | .value x=>match fnOf c.args.size (st.eval x) with
   | some (f,cap)=>match kn5 st r1 (renI r2 ids0) cs c.args.toList,kn3 r1 (renI r2 ids0) cap,preX st r1 r2 (renI r2 ids0) keys with
    | some as1,some as2,some pre=>bif klx st r1 r2 keys ids0 ids1 post then some (f,as1++as2,pre) else none
    | _,_,_=>none
   | _=>none
  | _=>none
 | _=>none
theorem hcl {α:Type} {E:Option α} {K:α->Option β} {f:FuncId} {as_:List AV} {pre:List (Nat×AObj)} {ids0 ids1:List Nat} {res:α->AV} {post:α->List (Nat×AObj)} (k:Nat) (cs:List C1) (r1 r2:List (Nat×Nat)) (keys:List Nat) (h:Option.bind E K=some r)
  (hp:∀ v,E=some v->ka3 P f as_ pre ids0 (.ret (res v)) (post v) ids1) (hc:∀ v,krp (hcOf cs r1 r2 keys ids0 ids1 (post v)) (crun P k g)=some (f,as_,pre))
  (i:∀ v,K v=some r->W P (rsmA (renA r2 (res v)) (renH r2 (post v)++ki6 (renI r2 ids0) (stOf (crun P k g)).heap) (renI r2 ids1++(stOf (crun P k g)).ids) (crun P k g)) Q):W P g Q:=by
 obtain ⟨v,h1,j⟩:=qg.1 h;obtain ⟨hk,a⟩:=ksx (hc v);refine sst k ?_ (i v j) (hv:=hk);unfold hcOf at a;split at a
 ·rename_i c ho;split at a
  ·rename_i x e;split at a
   ·rename_i f' cap b;split at a
    ·rename_i as1 as2 pre' e1 e2 e3;cases d:klx (stOf (crun P k g)) r1 r2 keys ids0 ids1 (post v) with
     | false=>rw [d] at a;cases a
     | true=>
      rw [d] at a;simp only [qe,qc,qt] at a;obtain ⟨rfl,rfl,rfl⟩:=a;obtain ⟨cc,as_,ts⟩:=c;simp only at e;subst e;exact kx6 r1 r2 ho b (hp v h1) e1 e2 d e3
    ·cases a
   ·cases a
  ·cases a
 ·cases a
theorem k0n {cs:List C1} {r1 r2:List (Nat×Nat)} {keys ids0 ids1:List Nat} {post:List (Nat×AObj)} {o:Oper} {st:St} {f:FuncId} {as_:List AV} {pre:List (Nat×AObj)} (a:hcOf cs r1 r2 keys ids0 ids1 post o st=some (f,as_,pre)):
  ∃ x args ts cap as1 as2,o.op = .call { callee := .value x,args:=args,argTypes:=ts }/\fnOf args.size (st.eval x)=some (f,cap)/\kn5 st r1 (renI r2 ids0) cs args.toList=some as1/\kn3 r1 (renI r2 ids0) cap=some as2/\as_=as1++as2/\klx st r1 r2 keys ids0 ids1 post=true/\preX st r1 r2 (renI r2 ids0) keys=some pre:=by
 unfold hcOf at a;split at a
 ·rename_i c ho;split at a
  ·rename_i x d;split at a
   ·rename_i f' cap b;split at a
    ·rename_i as1 as2 pre' e1 e2 e3;cases e:klx st r1 r2 keys ids0 ids1 post with
     | false=>rw [e] at a;cases a
     | true=>
      rw [e] at a;simp only [qe,qc,qt] at a;obtain ⟨rfl,rfl,rfl⟩:=a;obtain ⟨cc,as_,ts⟩:=c;simp only at d;subst d;exact ⟨x,as_,ts,cap,as1,as2,ho,b,e1,e2,rfl,rfl,e3⟩
    ·cases a
   ·cases a
  ·cases a
 ·cases a
structure ApR where
 id:Nat
 e:TypeId
 size:Nat
 bytes:Nat
 n:Nat
 xs:List FV
 ys:List FV
def k1c (size:Nat):AV->Option (List FV)
 | .fz (.lst s _ ys)=>bif Nat.beq s size then some ys else none
 | .lim s _ ys=>bif Nat.beq s size then some ys else none
 | _=>none
theorem k4l {size:Nat} {x:AV} {ys:List FV} (h:k1c size x=some ys):∃ m,x = .fz (.lst size m ys)\/x = .lim size m ys:=by
 unfold k1c at h;split at h
 ·rename_i s m zs;cases a:Nat.beq s size with
  | false=>rw [a] at h;cases h
  | true=>
   rw [a] at h;obtain rfl:=qi a;obtain rfl:=qag h;exact ⟨m, .inl rfl⟩
 ·rename_i s m zs;cases a:Nat.beq s size with
  | false=>rw [a] at h;cases h
  | true=>
   rw [a] at h;obtain rfl:=qi a;obtain rfl:=qag h;exact ⟨m, .inr rfl⟩
 ·cases h
def apOf (T:List (TypeId×TD)) (o:Oper) (st:St):Option ApR:=match o.op with
 | .call c=>match c.callee,c.args.toList,c.argTypes.toList with
  | .builtin .append,[X,Y],[t,u]=>bif Nat.beq u t then (match kad T t with
   | some d=>match d.kind,st.eval X with
    | .slice e, .row id n=>match kad T e,kaa st.heap id with
     | some de,some (.frow e' s xs)=>match k1c de.size (st.eval Y) with
      | some ys=>bif Nat.beq e' e && (Nat.beq s de.size && (Nat.ble 1 de.size && Nat.beq de.zero.length de.size)) then some ⟨id,e,de.size,de.bytes,n,xs,ys⟩ else none
      | none=>none
     | _,_=>none
    | _,_=>none
   | none=>none) else none
  | _,_,_=>none
 | _=>none
theorem kzk {α:Type} {E:En α} {xs ys v:List α} {o:Oper} {st:St} {q:ApR} (a:apOf t.T o st=some q) (h:app q.bytes xs ys=some v) (hn:q.n=xs.length) (k:q.xs=xs.map E.f) (hy:q.ys=ys.map E.f):
  ∃ (X Y:Operand) (ty:TypeId) (d de:TD) (m:Nat),o.op = .call { callee := .builtin .append,args:=#[X,Y],argTypes:=#[ty,ty] }/\kad t.T ty=some d/\d.kind = .slice q.e/\kad t.T q.e=some de/\de.size=q.size/\Nat.ble 1 de.size=true/\de.zero.length=de.size/\de.bytes=q.bytes /\
   st.eval X = .row q.id xs.length/\kaa st.heap q.id=some (.frow q.e de.size (xs.map E.f))/\(st.eval Y = .fz (.lst de.size m (ys.map E.f))\/st.eval Y = .lim de.size m (ys.map E.f)):=by
 unfold apOf at a;split at a
 ·rename_i c ho;split at a
  ·rename_i X Y ty u h1 l p;cases g:Nat.beq u ty with
   | false=>rw [g] at a;cases a
   | true=>
    rw [g] at a;obtain rfl:=qi g;simp only [qe] at a;split at a
    ·rename_i d r;split at a
     ·rename_i e id n hk hX;split at a
      ·rename_i de e' s xs' i j;split at a
       ·rename_i ys' w;cases b:(Nat.beq e' e && (Nat.beq s de.size && (Nat.ble 1 de.size && Nat.beq de.zero.length de.size))) with
        | false=>rw [b] at a;cases a
        | true=>
         rw [b] at a;obtain rfl:=qag a;simp only [qv] at b;obtain ⟨b1,b2,b3,b4⟩:=b;obtain rfl:=qi b1;obtain rfl:=qi b2;simp only at hn k hy;subst hn k hy;obtain ⟨m,hm⟩:=k4l w;obtain ⟨cc,as_,ts⟩:=c;simp only at h1 l p;rw [h1,knz l,knz p] at ho;exact ⟨X,Y,_,d,de,m,ho,r,hk,i,rfl,b3,qi b4,rfl,hX,j,hm⟩
       ·cases a
      ·cases a
     ·cases a
    ·cases a
  ·cases a
 ·cases a
def apK (q:Option ApR):Option (Nat×Nat×List FV×List FV):=match q with
 | some q=>some (q.bytes,q.n,q.xs,q.ys)
 | none=>none
def apG {α:Type} (T:List (TypeId×TD)) (E:En α) (v:List α) (g:Cfg):Cfg:=match krp (apOf T) g with
 | some q=>rsmA (.row q.id v.length) ((q.id, .frow q.e q.size (v.map E.f))::(stOf g).heap) (stOf g).ids g
 | none=>⟨.bad,g.ks,g.st⟩
theorem ap {α:Type} {bytes:Nat} {xs ys:List α} {K:List α->Option β} (E:En α) (k:Nat) (h:Option.bind (app bytes xs ys) K=some r) (a:∀ v,K v=some r->W P (apG t.T E v (crun P k g)) Q) (hc:apK (krp (apOf t.T) (crun P k g))=some (bytes,xs.length,xs.map E.f,ys.map E.f):=by kernel_rfl):W P g Q:=by
 obtain ⟨v,h1,c⟩:=qg.1 h;have a:=a v c;unfold apK at hc;split at hc;rename_i q b;simp only [qc,qt] at hc;obtain ⟨rfl,e1,e2,e3⟩:=hc;unfold apG at a;rw [b] at a;obtain ⟨hk,e⟩:=ksx b;refine sst k ?_ a (hv:=hk);obtain ⟨X,Y,ty,d,de,m,k1,k2,k3,k4,k5,k6,k7,k8,k9,k10,k11⟩:=kzk e h1 e1 e2 e3;rw [<- k5];exact kw8 E.f h1 t.ok k1 k2 k3 k4 k6 k7 k8 k9 k10 rfl k11
 ·cases hc
def km8 {γ:Type} (f:Oper->St->Option γ) (g:Cfg):Option γ:=bif okZ g then f (kjw g) (kgq g) else none
theorem kqm {γ:Type} {f:Oper->St->Option γ} {z:γ} {g:Cfg} (h:km8 f g=some z):okZ g=true/\f (kjw g) (kgq g)=some z:=by
 unfold km8 at h;cases hk:okZ g with
 | false=>rw [hk] at h;cases h
 | true=>rw [hk] at h;exact ⟨rfl,h⟩
def apZh {α:Type} (T:List (TypeId×TD)) (E:En α) (v:List α) (g:Cfg):List (Nat×AObj):=match km8 (apOf T) g with
 | some q=>(q.id, .frow q.e q.size (v.map E.f))::(kgq g).heap
 | none=>[]
def apGZ {α:Type} (T:List (TypeId×TD)) (E:En α) (v:List α) (g:Cfg):Cfg:=match km8 (apOf T) g with
 | some q=>rsmZ (.row q.id v.length) (apZh T E v g) (kgq g).ids g
 | none=>⟨.bad,g.ks,g.st⟩
theorem apZ {α:Type} {bytes:Nat} {xs ys:List α} {K:List α->Option β} (E:En α) (k:Nat) (h:Option.bind (app bytes xs ys) K=some r) (a:∀ v,K v=some r->W P (apGZ t.T E v (crun P k g)) Q) (hc:apK (km8 (apOf t.T) (crun P k g))=some (bytes,xs.length,xs.map E.f,ys.map E.f):=by kernel_rfl) (hi:idsZ (kgq (crun P k g)).ids (crun P k g)=true:=by kernel_rfl) (hk:∀ v,offZ (crun P k g) (apZh t.T E v (crun P k g))=offZ (crun P k g) (hpZ (crun P k g)):=by intro _;kernel_rfl):W P g Q:=by
 obtain ⟨v,h1,e⟩:=qg.1 h;have a:=a v e;have hk:=hk v;unfold apK at hc;split at hc;rename_i q b;simp only [qc,qt] at hc;obtain ⟨rfl,e1,e2,e3⟩:=hc;unfold apGZ at a;rw [b] at a;obtain ⟨c,i⟩:=kqm b;refine zst k ?_ a (hv:=c) (hi:=hi) (hk:=hk);obtain ⟨X,Y,ty,d,de,m,k1,k2,k3,k4,k5,k6,k7,k8,k9,k10,k11⟩:=kzk i h1 e1 e2 e3;unfold apZh;rw [b];simp only;rw [<- k5];exact kw8 E.f h1 t.ok k1 k2 k3 k4 k6 k7 k8 k9 k10 rfl k11
 ·cases hc
theorem hclZ {α:Type} {E:Option α} {K:α->Option β} {f:FuncId} {as_:List AV} {pre:List (Nat×AObj)} {ids0 ids1:List Nat} {res:α->AV} {post:α->List (Nat×AObj)} (k:Nat) (cs:List C1) (r1 r2:List (Nat×Nat)) (keys:List Nat) (h:Option.bind E K=some r) (hp:∀ v,E=some v->ka3 P f as_ pre ids0 (.ret (res v)) (post v) ids1) (b:∀ v,K v=some r->W P (rsmZ (renA r2 (res v)) (renH r2 (post v)++ki6 (renI r2 ids0) (kgq (crun P k g)).heap) (renI r2 ids1++(kgq (crun P k g)).ids) (crun P k g)) Q) (hc:∀ v,km8 (hcOf cs r1 r2 keys ids0 ids1 (post v)) (crun P k g)=some (f,as_,pre):=by intro _;kernel_rfl) (hi:idsZ (renI r2 ids1++(kgq (crun P k g)).ids) (crun P k g)=true:=by kernel_rfl) (hk:∀ v,offZ (crun P k g) (renH r2 (post v)++ki6 (renI r2 ids0) (kgq (crun P k g)).heap)=offZ (crun P k g) (hpZ (crun P k g)):=by intro _;kernel_rfl):W P g Q:=by
 obtain ⟨v,h1,c⟩:=qg.1 h;obtain ⟨a,d⟩:=kqm (hc v);obtain ⟨x,args,ts,cap,as1,as2,e1,e2,e3,e4,rfl,e5,e6⟩:=k0n d;exact zst k (kx6 r1 r2 e1 e2 (hp v h1) e3 e4 e5 e6) (b v c) (hv:=a) (hi:=hi) (hk:=(hk v))
theorem clL {α:Type} {E:Option α} {K:α->Option β} {f:FuncId} {ys:List FV} {y:α->FV} (k:Nat) (ls:List LendI) (h:Option.bind E K=some r) (hp:∀ v,E=some v->PCall P f ys (y v)) (hl:∀ l∈ls,l.ok (kwk (crun P k g))) (a:∀ v,K v=some r->W P (rsm (.fz (y v)) (crun P k g)) Q) (hc:krb (fun o st=>clOf t.T o (k66 ls st)) (crun P k g)=some (f,ys):=by kernel_rfl) (ha:∀ v,k6o (y v)=true:=by intro _;kernel_rfl):W P g Q:=by
 obtain ⟨v,h1,b⟩:=qg.1 h;refine kb0 k ?_;have a:=a v b;generalize crun P k g=g' at *
 unfold krb at hc;split at hc
 ·rename_i p hv;obtain ⟨o,st⟩:=p;obtain ⟨e1,e2⟩:=kxd hv;rw [e2] at hl;refine kxq hv (kaal ls hl ?_ (ha v)) a;unfold clOf at hc;simp only at hc;split at hc
  ·rename_i c ho;split at hc
   ·rename_i f' hf;split at hc;rename_i ys' hy;simp only [qc,qt] at hc;obtain ⟨rfl,rfl⟩:=hc;obtain ⟨cc,as_,ts⟩:=c;simp only at hf;subst hf;exact k39 ho hy (hp v h1)
    ·cases hc
   ·cases hc
  ·cases hc
 ·cases hc
end
end Go.Proofs.YtnlhjbnpjefjgaaGreatDoor
set_option linter.all false
set_option linter.unusedSectionVars false
namespace Go.Proofs.YtnlhjbnpjefjgaaGreatDoor
open Go Go.RowKit
variable [Dr]
variable {P:Program} {F S0:Nat->Prop} {N0:Nat} {w w':World} {S S':Nat->Prop} {ψ:Env} {K:Nat->Prop} {T:List (TypeId×TD)} {o:Oper} {a:Act} {st:St} {t:TypeId} {d:TD} {id:Nat}
theorem koz {v:Value} {e:TypeId} {size n:Nat} {cs:List Value} (h:w.ownsRow 0 e size v n cs) (hn:0<n:=by omega):∃ g cap,v = .slice (some ⟨g,0,none⟩) n cap:=by
 rcases h.2 with ⟨_,h0⟩ | ⟨g,cap,cur,hv,_⟩;omega
 ·exact ⟨g,cap,hv⟩
theorem ktz {α:Type} (E:En α) (xs:List α) {x:α} {i:Int} (X Y:Operand) (e:TypeId) (de:TD) (k:IntKind) (n:Nat) (h:idx xs i=some x) (s:TOk P T) (hn:n=xs.length) (hy:st.eval Y = .fz (.atom (.int k i)):=by kernel_rfl) (ho:o.op = .indexAddr t X Y:=by kernel_rfl) (q:kad T t=some d:=by kernel_rfl) (hk:d.kind = .slice e:=by kernel_rfl) (l:kad T e=some de:=by kernel_rfl) (y:de.size=E.n:=by kernel_rfl) (z:st.eval X = .row id n:=by kernel_rfl) (r:kaa st.heap id=some (.frow e E.n (xs.map E.f)):=by kernel_rfl):NStep P o st (.ref id n (i.toNat*E.n+0)):=by
 intro ψ S a w ht A;subst hn;have q:=s.get q;have l:=s.get l;obtain ⟨h0,hi⟩:=kpm h;have B:i.toNat<xs.length:=(qd.1 hi).1;have m:=Sim.eval_tmps ht X;rw [z] at m;have b:=Sim.eval_tmps ht Y;rw [hy] at b;have b:=b.atom;obtain ⟨hl,_,cs,c,_,_⟩:=A id _ r;rw [qaa] at hl c;obtain ⟨g,cap,j⟩:=koz c;have hK:id∈st.ids/\a.eval X=ψ.val id:=by
  generalize a.eval X=u at m;cases m with
  | row hK C h1 hv=>exact ⟨hK,hv hl.symm⟩
 refine kaf w (.pointer (some ⟨g,i.toNat*E.n+0,none⟩)) ?_ ⟨kai _, .ref hK.1 (by omega) rfl fun _=>⟨g,by rw [j];rfl,rfl⟩⟩;have p:i<(xs.length:Int):=by omega
 simp [execOp,ho,hK.2,j,b,Instr.indexAt,asIntOf,run_underlying (q.slice hk),h0,p,l.size,y,kbo]
theorem k0w (s:TypeId) (x:Operand) (f:Nat) (fs:List (TypeId×Nat)) (ft:TypeId) (off n p q:Nat) (e:TypeId) (size:Nat) (xs:List FV) (df:TD) (y:TOk P T) (ho:o.op = .fieldAddr s x f) (k:kad T s=some d) (hk:d.kind = .st fs) (hf:fs[f]?=some (ft,off)) (c:kad T ft=some df) (z:Nat.beq df.size 0=false) (A:st.eval x = .ref id n (p+q)) (l:kaa st.heap id=some (.frow e size xs)) (hn:n=xs.length):NStep P o st (.ref id n (p+(q+off))):=by
 intro ψ S a w ht B;have k:=y.get k;have c:=y.get c;have i:=Sim.eval_tmps ht x;rw [A] at i;obtain ⟨hl,_⟩:=B id _ l;obtain ⟨gs,C,m⟩:=k.strct hk;have j:∃ g:Field,gs[f]?=some g/\g.type=ft/\g.offset=off:=by rw [<- m,ql,qw] at hf;obtain ⟨g,j,r⟩:=hf;simp only [qt] at r;exact ⟨g,by simpa using j,r.1,r.2⟩
 obtain ⟨g,j,rfl,rfl⟩:=j;have t:df.size≠0:=fun h=>by rw [h] at z;cases z
 obtain ⟨b,hv,hr⟩:∃ b,a.eval x = .pointer (some ⟨b,p+q,none⟩)/\RV ψ (·∈st.ids) S w (.pointer (some ⟨b,p+q+g.offset,none⟩)) (.ref id n (p+(q+g.offset))):=by
  generalize a.eval x=u at i;cases i with
  | ref hK v h1 hv=>
   obtain ⟨b,D,rfl⟩:=hv (by rw [hl,hn]);exact ⟨b,rfl, .ref hK v rfl fun _=>⟨b,D,by rw [Nat.add_assoc]⟩⟩
 refine kaf w _ ?_ ⟨kai _,hr.here⟩;simp [execOp,ho,hv,Instr.fieldAt,C,j,Instr.sureAddr,fieldPlace,c.size,t,kbo]
theorem k1o {α:Type} (E:En α) (xs:List α) (x:α) (i:Int) (X:Operand) (n q:Nat) (e:TypeId) (y:FV) (h:idx xs i=some x) (D:TOk P T) (ho:o.op = .load t X) (r:kad T t=some d) (hk:d.kind.agg=false) (F:st.eval X = .ref id n (i.toNat*E.n+q)) (s:kaa st.heap id=some (.frow e E.n (xs.map E.f))) (hn:n=xs.length) (C:Nat.blt q E.n=true:=by kernel_rfl) (hy:(E.cl x)[q]?=some y:=by kernel_rfl):NStep P o st (.fz y):=by
 intro ψ S a w ht G;subst hn;have r:=D.get r;obtain ⟨h0,hi⟩:=kpm h;have C:q<E.n:=by simpa [Nat.blt_eq] using C
 have z:i.toNat<xs.length:=(qd.1 hi).1;have l:=Sim.eval_tmps ht X;rw [F] at l;obtain ⟨hl,_,cs,c,_,hr⟩:=G id _ s;rw [qaa] at hl c;obtain ⟨g,cap,j⟩:=koz c;have hp:a.eval X = .pointer (some ⟨g,i.toNat*E.n+q,none⟩):=by
  generalize a.eval X=u at l;cases l with
  | ref hK H h1 hv=>
   obtain ⟨b,A,rfl⟩:=hv hl.symm;rw [j] at A;simp only [kar,qc] at A;rw [A]
 have k:i.toNat*E.n+q<xs.length*E.n:=by have:(i.toNat+1)*E.n<=xs.length*E.n:=qbe _ z;rw [qbi,Nat.one_mul] at this;omega
 have B:i.toNat*E.n+q<cs.length:=by rw [c.1];exact k
 have p:cs[i.toNat*E.n+q]?=some cs[i.toNat*E.n+q]:=qa B;have m:w.cell? ⟨g,i.toNat*E.n+q,none⟩=some cs[i.toNat*E.n+q]:=by rw [j] at c;rw [World.ownsRow.cellAt c _ k,p]
 refine kaf w (cs[i.toNat*E.n+q]) ?_ ⟨kai _, .fz ((hr i.toNat (E.f x) q _ y (by rw [ql,hi];rfl) p (by rw [E.hcl];exact hy)).mono fun _ h => .inl h)⟩;simp [execOp,ho,hp,Instr.loadAt,Instr.sureAddr,loadVar,r.isAgg,hk,m]
end Go.Proofs.YtnlhjbnpjefjgaaGreatDoor
set_option linter.all false
set_option linter.unusedSectionVars false
namespace Go.Proofs.YtnlhjbnpjefjgaaGreatDoor
open Go Go.RowKit
variable [Dr]
variable {P:Program} {F S0:Nat->Prop} {N0:Nat} {w w':World} {S S':Nat->Prop} {ψ:Env} {K:Nat->Prop} {T:List (TypeId×TD)} {o:Oper} {a:Act} {st:St} {t:TypeId} {d:TD} {id:Nat}
theorem StepA.frz {n:Nat} {e:TypeId} {size:Nat} {xs:List FV} {h:List (Nat×AObj)} {i:List Nat} (hs:StepA P o st (.row id n) h i) (c:kaa h id=some (.frow e size xs)) (hn:n=xs.length):StepA P o st (.fz (.lst size n xs)) (kcv id h) i:=by
 subst hn;intro F S0 N0 ψ S a w hS;refine ki4 ?_ (hs F S0 N0 ψ S a w hS);rintro v w' ⟨ψ',S',h1,d,f,g,j,k,l⟩;have ho:=(h1.obj id _ c).2.1;refine ⟨ψ',_,k3i h1 c,?_,f,g,j,fun b m => .inl (k b m),l⟩;have hr:=kyk ho;have hl:=ho.1;cases d with
 | row hK p h1 hv=>rw [hv hl.symm];exact .fz hr
theorem k1b {α:Type} (E:En α) (xs:List α) (x:α) (i:Int) (X:Operand) (n q:Nat) (e:TypeId) (ys:List FV) (h:idx xs i=some x) (L:TOk P T) (ho:o.op = .load t X) (C:kad T t=some d) (hk:d.kind.agg=true) (M:st.eval X = .ref id n (i.toNat*E.n+q)) (F:kaa st.heap id=some (.frow e E.n (xs.map E.f))) (hn:n=xs.length) (J:Nat.ble (q+d.size) E.n=true:=by kernel_rfl) (hy:((E.cl x).drop q).take d.size=ys:=by kernel_rfl):NStep P o st (.fz (.agg ys)):=by
 intro ψ S a w ht N;subst hn hy;have C:=L.get C;obtain ⟨h0,hi⟩:=kpm h;have J:q+d.size<=E.n:=qr J;have G:i.toNat<xs.length:=(qd.1 hi).1;have z:=Sim.eval_tmps ht X;rw [M] at z;obtain ⟨hl,_,cs,k,A,hr⟩:=N id _ F;rw [qaa] at hl k;obtain ⟨g,cap,r⟩:=koz k;have hp:a.eval X = .pointer (some ⟨g,i.toNat*E.n+q,none⟩):=by
  generalize a.eval X=u at z;cases z with
  | ref hK O h1 hv=>
   obtain ⟨b,H,rfl⟩:=hv hl.symm;rw [r] at H;simp only [kar,qc] at H;rw [H]
 have K:cs.length=xs.length*E.n:=k.1;have Q:i.toNat*E.n+E.n<=xs.length*E.n:=by have:(i.toNat+1)*E.n<=xs.length*E.n:=qbe _ G;rw [qbi,Nat.one_mul] at this;exact this
 have hcl:(E.cl x).length=E.n:=by have:=(A (E.f x) (qaf.2 ⟨x,qk hi,rfl⟩)).1;rw [E.hcl] at this;exact this
 have I:∀ y∈E.cl x,y.single=true:=by have:=(A (E.f x) (qaf.2 ⟨x,qk hi,rfl⟩)).2;rw [E.hcl] at this;exact this
 let cs':=(cs.drop (i.toNat*E.n+q)).take d.size
 have c:cs'.length=d.size:=by show ((cs.drop (i.toNat*E.n+q)).take d.size).length=_;rw [qav,qba];omega
 have s:∀ (j:Nat) (v:Value),cs'[j]?=some v->j<d.size/\cs[i.toNat*E.n+q+j]?=some v:=fun j v D=>by
  have l:j<d.size:=by rw [<- c];exact (qd.1 D).1
  refine ⟨l,?_⟩;have B:((cs.drop (i.toNat*E.n+q)).take d.size)[j]?=some v:=D;rw [qad,qn l,qan] at B;exact B
 have m:=k;rw [r] at m;have p:=run_loadCells_list (P:=P) w ⟨g,i.toNat*E.n+q,none⟩ cs' fun j v D=>by obtain ⟨l,hc⟩:=s j v D;rw [kbo,World.ownsRow.cellAt m _ (show i.toNat*E.n+q+j<xs.length*E.n by omega),hc]
 rw [c] at p;refine kaf w (.agg cs'.toArray) ?_ ⟨kai _, .fz (.agg ?_ ?_ fun j v y hv hy=>?_)⟩;simp [execOp,ho,hp,Instr.loadAt,Instr.sureAddr,loadVar,C.isAgg,hk,C.size,p];rw [List.size_toArray,c,qav,qba];omega;exact fun y hy=>I y (qbk (qa8 hy))
 ·rw [List.getElem?_toArray] at hv;obtain ⟨l,hc⟩:=s j v hv;rw [qad,qn l,qan] at hy;rw [Nat.add_assoc] at hc;exact (hr i.toNat (E.f x) (q+j) v y (by rw [ql,hi];rfl) hc (by rw [E.hcl];exact hy)).mono fun _ h => .inl h
section
variable {P:Program} [t:Tab P] {g:Cfg} {Q:Exit->St->Prop} {β:Type} {r:β}
theorem hclZf {α:Type} {E:Option α} {K:α->Option β} {f:FuncId} {as_:List AV} {pre:List (Nat×AObj)} {ids0 ids1:List Nat} {res:α->AV} {post:α->List (Nat×AObj)} (k:Nat) (cs:List C1) (r1 r2:List (Nat×Nat)) (keys:List Nat) (id:Nat) (e:TypeId) (size:Nat) (n:α->Nat) (xs:α->List FV) (h:Option.bind E K=some r)
  (hp:∀ v,E=some v->ka3 P f as_ pre ids0 (.ret (res v)) (post v) ids1) (hc:∀ v,km8 (hcOf cs r1 r2 keys ids0 ids1 (post v)) (crun P k g)=some (f,as_,pre)) (hi:idsZ (renI r2 ids1++(kgq (crun P k g)).ids) (crun P k g)=true)
  (hr:∀ v,renA r2 (res v) = .row id (n v)) (a:∀ v,kaa (renH r2 (post v)++ki6 (renI r2 ids0) (kgq (crun P k g)).heap) id=some (.frow e size (xs v))) (hn:∀ v,n v=(xs v).length)
  (hk:∀ v,offZ (crun P k g) (kcv id (renH r2 (post v)++ki6 (renI r2 ids0) (kgq (crun P k g)).heap))=offZ (crun P k g) (hpZ (crun P k g)))
  (c:∀ v,K v=some r->W P (rsmZ (.fz (.lst size (n v) (xs v))) (kcv id (renH r2 (post v)++ki6 (renI r2 ids0) (kgq (crun P k g)).heap)) (renI r2 ids1++(kgq (crun P k g)).ids) (crun P k g)) Q):W P g Q:=by
 obtain ⟨v,h1,d⟩:=qg.1 h;obtain ⟨b,i⟩:=kqm (hc v);obtain ⟨x,args,ts,cap,as1,as2,e1,e2,e3,e4,rfl,e5,e6⟩:=k0n i;have hs:=kx6 r1 r2 e1 e2 (hp v h1) e3 e4 e5 e6;rw [hr v] at hs;exact zst k (hs.frz (a v) (hn v)) (c v d) (hv:=b) (hi:=hi) (hk:=(hk v))
end
end Go.Proofs.YtnlhjbnpjefjgaaGreatDoor
set_option linter.all false
namespace Go.Proofs.YtnlhjbnpjefjgaaGreatDoor
open Go Go.RowKit
def keyL (r:Int) (xs:List Int):List UInt8:=Lib.itoa r++xs.flatMap fun a=>32::Lib.itoa a
theorem k4q {r:Int} (r0 : -9223372036854775808<=r) (r1:r<=9223372036854775807):∀ {xs:List Int},(∀ x∈xs,khp x)->(keyL r xs).length<=21+22*xs.length:=by
 intro xs h;have hr:=Lib.itoa_length_le r r0 r1;have:∀ l:List Int,(∀ x∈l,khp x)->(l.flatMap fun a=>(32:UInt8)::Lib.itoa a).length<=22*l.length:=by
  intro l
  induction l with
  | nil=>intro _;simp
  | cons a l ih=>
   intro h;have ha:=h a (qq ..);have h1:=Lib.itoa_length_le a ha.1 ha.2;have b:=ih fun x c=>h x (qh _ c);simp only [qbv,qaj,qbq] at b ⊢;omega
 have:=this xs h;simp only [keyL,qaj];omega
theorem k2j (r:Int) {xs:List Int} {k:Nat} (hk:k<xs.length):keyL r (xs.take (k+1))=keyL r (xs.take k)++32::Lib.itoa xs[k]:=by simp only [keyL,qx hk,List.flatMap_append,qbv,List.flatMap_nil,qbh,qa1]
theorem kyx (u:Nat):0<(Lib.decDigits u).length:=by rw [Lib.decDigits];split <;> simp
theorem k9g (n:Int):0<(Lib.itoa n).length:=by
 unfold Lib.itoa;split;simp
 ·exact kyx _
theorem k48:(Tryz.prog.info? 5).map (fun i=>(i.zero,i.size,i.bytes))=some (some (.int .u8 0),1,1):=by kernel_rfl
theorem k7w {S:Nat->Prop} {w:World} {v:Value} {xs:List Int} (h:Ints S w v xs):∀ x∈xs,khp x:=fun x a=>by obtain ⟨k,hk,rfl⟩:=List.getElem_of_mem a;obtain ⟨A,cap,rfl,_,_⟩:=RepSl.shape h;obtain ⟨b,o,cs,_,_,_,_,h1⟩:=RepSl.get h hk;exact h1.2
set_option maxHeartbeats 6400000 in
set_option maxRecDepth 100000 in
theorem k8v (r : Int) (xs : List Int) (sv : Value) (w : World) (hs : Ints Any w sv xs) (r0 : -9223372036854775808 <= r) (r1 : r <= 9223372036854775807) (hn : xs.length <= 1000000) (htab : Lib.TabIs Tryz.prog w "internal/strconv.uint64pow10" .u64 Lib.pow10Tab) :
  Calls Tryz.prog 109 #[.int .i64 r,sv] w fun e w'=>e = .returned (.string ⟨(keyL r xs).toArray⟩)/\RowKit.Below w.heap.size w w':=by
 obtain ⟨i0,hi,hz0,hz1,hz2⟩:=info_parts k48;have HT:=Lib.hid (Lib.tabBelow_of_tabIs htab);have HX:=Lib.hid (k7w hs);have HS:=Lib.hid ((Ints.bound hs).mono (S':=Lt w.heap.size) fun b hb=>hb.2);obtain ⟨A,cap,rfl,hc1,hc2⟩:=RepSl.shape hs;clear hs htab
 go_enter Tryz.func109,Tryz.ntmps109
 go_wp2_with (go_at_call 158;refine (kjh w.heap.size 0 r r0 r1 (.slice none 0 0) [] w (World.ownsRow_nil _ _ _ _) (qy _) HT.out).mono ?_;rintro e w1 ⟨v1,rfl,hown1,hnx1,-⟩;refine Hid.out ?_)
 refine Lib.hid ?_;rw [Nat.zero_add,List.nil_append] at hown1;have HO1:=Lib.hid hown1;have HN1:=Lib.hid hnx1;clear hown1 hnx1
 go_wp2_with fail
 go_loopw [5,12] (fun v i wr=>∃ k:Nat,k<=xs.length/\i = .int .i64 k/\Hid (wr.ownsRow w.heap.size 5 1 v (keyL r (xs.take k)).length (Lib.byteCells (keyL r (xs.take k))))/\Hid (RowKit.Below w.heap.size w wr)) (fun _ i _=>xs.length - (intOf i).toNat)
 case atStart=>exact ⟨0,by omega,by simp,Lib.hid (by simpa [keyL] using HO1.out),Lib.hid HN1.out⟩
 case round=>
  obtain ⟨k,hk,rfl,HO,HB⟩:=hrel;have hz:w.heap.size<=wr.heap.size:=HB.out.size;by_cases hlt:k<xs.length
  ·obtain ⟨A',cap',hv,_,_,hg⟩:=Ints.form (HS.out.keep (Same.of_below (Below.kit rfl HB.out) fun b hb=>hb));injection hv with hv1 hv2 hv3;subst hv1 hv3;obtain ⟨⟨x0,x1⟩,b,o,rfl,hbl,hcell⟩:=hg k hlt;have HL:=Lib.hid (k4q r0 r1 (xs:=xs.take k) fun x hx=>HX.out x (qa8 hx));have HK:=Lib.hid (k2j r hlt);clear hg hv2;have hlen:(keyL r (xs.take k)).length<=22000021:=by have:=HL.out;rw [qav] at this;omega
   go_wp2_with (at_builtin;refine wpList_append_own _ rfl _ _ 193 rfl w.heap.size 5 i0 (.int .u8 0) 1 1 Tryz.underlying193 hi hz0 hz1 hz2 rfl (by decide) _ _ _ rfl (HO.out.alloc _) ⟨wr.heap.size,0,none⟩ 1 1 [Value.int .u8 32] rfl rfl (by intro j u' hj;match j,hj with | 0,hj=>simp at hj;subst hj;simp [Addr.add]) (by intro u' hu'; simp at hu'; subst hu'; rfl) (by unfold maxLen;omega) (by omega) (by simp;omega) ?_)
   intro v2 w2 hown2 hgrow _;have HN2:=Lib.hid ((HB.out.alloc hz _).grown hgrow (by simp;omega) (fun k hk=>(HO.out.lt k hk).1));have HO2:=Lib.hid hown2;clear hown2 hgrow
   go_wp2_with (go_at_call 158;refine (kjh w.heap.size _ _ x0 x1 v2 _ w2 HO2.out (by have:=HN2.out.size;omega) (HT.out.on HN2.out)).mono ?_;rintro e w3 ⟨v3,rfl,hown3,hnx3,-⟩;refine Hid.out ?_)
   refine Lib.hid ?_;have HO3:=Lib.hid hown3;have HN3:=Lib.hid hnx3;clear hown3 hnx3
   go_wp2_with fail
   go_roundw
   case rel=>
    refine ⟨k+1,by omega,by go_num,Lib.hid ?_,Lib.hid (HN2.out.trans HN3.out)⟩;have h:=HO3.out;have e1:Lib.byteCells (keyL r (xs.take k))++[Value.int .u8 32]++Lib.byteCells (Lib.itoa xs[k])=Lib.byteCells (keyL r (xs.take (k+1))):=(by rw [HK.out];simp [Lib.byteCells]);have e2:(keyL r (xs.take k)).length+1+(Lib.itoa xs[k]).length=(keyL r (xs.take (k+1))).length:=(by rw [HK.out];simp;omega);rw [e1,e2] at h;exact h
   case measure=>simp [intOf];omega
  ·have h0:k=xs.length:=(by omega);subst h0;have HO':=HO.out;rw [qae] at HO';obtain ⟨l,hl⟩:∃ l,l=keyL r xs:=⟨_,rfl⟩;rw [<- hl] at HO';have HL:=Lib.hid hl;clear hl HO;have HO:=Lib.hid HO';clear HO';have hpos:0<l.length:=(by rw [HL.out,keyL,qaj];have:=k9g r;omega);rcases HO.out.2 with ⟨-,h0⟩ | ⟨g,cap,cur,rfl,-,-,-,-,-,-⟩;omega
   ·have hcv:=run_convert_bytes_back (P:=Tryz.prog) wr 193 9 5 ⟨g,0,none⟩ cap l Tryz.underlying193 Tryz.underlying5 Tryz.underlying9 (fun j hj=>HO.out.cells (g:=g) rfl j _ (by simp [Lib.byteCells,hj]))
    go_wp2
    go_ret
    have hl:=HL.out;subst hl;exact ⟨rfl,HB.out⟩
def dval (l:List UInt8):Nat:=l.foldl (fun a c=>a*10+(c.toNat - 48)) 0
theorem ktq {d:Nat} (h:d<10):(UInt8.ofNat (48+d)).toNat=48+d:=by simp only [UInt8.toNat_ofNat'];omega
theorem kxj (u:Nat):dval (Lib.decDigits u)=u:=by
 induction u using Nat.strongRecOn with
 | _ u ih=>
  rw [Lib.decDigits];split;rename_i h;simp only [dval,List.foldl_cons,List.foldl_nil,ktq h];omega
  ·rename_i h;have:=ih (u / 10) (by omega);simp only [dval,List.foldl_append,List.foldl_cons,List.foldl_nil,ktq (Nat.mod_lt u (by omega:0<10))] at this ⊢;rw [this];omega
theorem kp6 (u:Nat):∀ c∈Lib.decDigits u,48<=c.toNat/\c.toNat<=57:=by
 induction u using Nat.strongRecOn with
 | _ u ih=>
  rw [Lib.decDigits];split;rename_i h;intro c hc;obtain rfl:=q9.1 hc;rw [ktq h];omega
  ·rename_i h;intro c hc;rcases qab.1 hc with hc | hc;exact ih (u / 10) (by omega) c hc
   ·obtain rfl:=q9.1 hc;have:=Nat.mod_lt u (by omega:0<10);rw [ktq this];omega
theorem kzr {u v:Nat} (h:Lib.decDigits u=Lib.decDigits v):u=v:=by rw [<- kxj u,h,kxj]
theorem krx (n:Int):∀ c∈Lib.itoa n,c≠32:=by
 intro c hc e;subst e;unfold Lib.itoa at hc;split at hc
 ·rcases qat.1 hc with h | h;cases h
  ·have:=kp6 _ _ h;revert this;decide
 ·have:=kp6 _ _ hc;revert this;decide
theorem kyw {m n:Int} (h:Lib.itoa m=Lib.itoa n):m=n:=by
 have a:∀ (u v:Nat),(45:UInt8)::Lib.decDigits u≠Lib.decDigits v:=fun u v h=>by
  have:=kp6 v 45 (by rw [<- h];exact qq ..)
  revert this;decide
 unfold Lib.itoa at h;split at h <;> split at h;have:=kzr (List.cons.inj h).2;omega;exact absurd h (a _ _);exact absurd h.symm (a _ _)
 ·have:=kzr h;omega
theorem ku0:∀ {a a' b b':List UInt8},(∀ c∈a,c≠32)->(∀ c∈a',c≠32)->(b=[]\/∃ t,b=32::t)->(b'=[]\/∃ t,b'=32::t)->a++b=a'++b'->a=a'/\b=b'
 | [],[],b,b',_,_,_,_,h=>⟨rfl,h⟩
 | [],c::a',b,b',_,d,e,_,h=>by
  rcases e with rfl | ⟨t,rfl⟩;cases h
  ·exact absurd (List.cons.inj h).1.symm (d c (qq ..))
 | c::a,[],b,b',h1,_,_,f,h=>by
  rcases f with rfl | ⟨t,rfl⟩;cases h
  ·exact absurd (List.cons.inj h).1 (h1 c (qq ..))
 | c::a,c'::a',b,b',h1,d,e,f,h=>by obtain ⟨e1,e2⟩:=List.cons.inj h;obtain ⟨e3,e4⟩:=ku0 (fun x g=>h1 x (qh _ g)) (fun x g=>d x (qh _ g)) e f e2;exact ⟨by rw [e1,e3],e4⟩
theorem krv:∀ xs:List Int,(xs.flatMap fun a=>(32:UInt8)::Lib.itoa a)=[]\/∃ t,(xs.flatMap fun a=>(32:UInt8)::Lib.itoa a)=32::t
 | [] => .inl rfl
 | a::l => .inr ⟨_,rfl⟩
theorem kxa:∀ {xs ys:List Int},(xs.flatMap fun a=>(32:UInt8)::Lib.itoa a)=(ys.flatMap fun a=>(32:UInt8)::Lib.itoa a)->xs=ys
 | [],[],_=>rfl
 | [],_::_,h=>by cases h
 | _::_,[],h=>by cases h
 | x::xs,y::ys,h=>by simp only [qbv,qbp,List.cons.injEq,true_and] at h;obtain ⟨h1,b⟩:=ku0 (krx x) (krx y) (krv xs) (krv ys) h;rw [kyw h1,kxa b]
theorem k4h {r r':Int} {xs ys:List Int} (h:keyL r xs=keyL r' ys):r=r'/\xs=ys:=by obtain ⟨h1,a⟩:=ku0 (krx r) (krx r') (krv xs) (krv ys) h;exact ⟨kyw h1,kxa a⟩
variable {P:Program} {F S0:Nat->Prop} {N0:Nat} {w w':World} {S S':Nat->Prop} {ψ:Env} {K:Nat->Prop} {T:List (TypeId×TD)} {o:Oper} {a:Act} {st:St} {t:TypeId} {d:TD} {id:Nat}
theorem k9x {g m:Nat} {gs:List (Nat×Array Value)} {vs:Array Value} (c:∀ id o,kaa st.heap id=some o->ObR ψ (·∈st.ids) S w id o) (a:kaa st.heap id=some (.glb gs)) (hm:gs[m]?=some (g,vs)) {nm:String} (f:P.globalNamed nm=some g) (h0:0<vs.size):w.var? P nm=some vs:=by obtain ⟨_,_,_,h⟩:=c id _ a;obtain ⟨hS,b⟩:=h (g,vs) (qk hm);obtain ⟨e,d,i⟩:=b.tab h0;simp only [World.var?,f,qb,i]
theorem kmi {op:BinOp} {x y:Operand} {u v:Option Addr} {n m c d:Nat}:(eqGuard op t x y (.slice u n c) (.slice v m d)).run P w = .ok () w:=by unfold eqGuard;cases op <;> simp
theorem kv3 {u v:Option Addr} {n m c e:Nat} {r:Bool} (h:∀ d:Nat,(Op.equalIn (d+1) t (.slice u n c) (.slice v m e)).run P w = .ok r w):(binOp .eql t (.slice u n c) (.slice v m e)).run P w = .ok (.bool r) w/\(binOp .neq t (.slice u n c) (.slice v m e)).run P w = .ok (.bool !r) w:=by constructor <;> (simp only [binOp];simp [Op.equal,Op.maxDepth,h 9999])
def nonE {α:Type} (xs:List α):Option Unit:=bif List.isEmpty xs then none else some ()
theorem k4w {α:Type} (x y:Operand) (yt te:TypeId) (size:Nat) (enc:α->FV) (xs:List α) {u:Unit} (neg:Bool) (h:nonE xs=some u) (ho:o.op = .binOp (if neg then .neq else .eql) t x y yt:=by kernel_rfl) (ht:P.underlying t=some (.slice te):=by kernel_rfl) (i:st.eval x = .fz (eL size enc xs):=by kernel_rfl) (hy:st.eval y = .fz (.atom (.slice none 0 0)):=by kernel_rfl):
  NStep P o st (.fz (.atom (.bool neg))):=by
 intro ψ S a w f j;have h1:=Sim.eval_tmps f x;rw [i] at h1;have g:=Sim.eval_tmps f y;rw [hy] at g;have g:=g.atom;obtain ⟨z,zs,rfl⟩:∃ z zs,xs=z::zs:=by
  cases xs with
  | nil=>cases h
  | cons z zs=>exact ⟨z,zs,rfl⟩
 generalize hv:a.eval x=v at h1;have h1:RF S w v (.lst size (z::zs).length ((z::zs).map enc)):=by
  cases h1 with
  | fz h=>exact h
 cases h1 with
 | @lst A cap _ _ _ css hn hc hm hs ha hl hr=>
  obtain ⟨b,off,rfl,_,_⟩:=ha 0 (enc z) rfl;refine kaf w (.bool neg) ?_ ⟨kai _, .fz (.atom rfl)⟩;obtain ⟨q1,q2⟩:=kv3 (P:=P) (w:=w) (t:=t) (r:=false) (u:=some ⟨b,off,none⟩) (v:=none) (n:=(z::zs).length) (c:=cap) (m:=0) (e:=0) fun d=>by simp [Op.equalIn,run_underlying ht]
  cases neg;simp [execOp,ho,hv,g,kmi] at q1 ⊢;simp [q1]
  ·simp [execOp,ho,hv,g,kmi] at q2 ⊢;simp [q2]
theorem k1t {f:FuncId} (args:List FV) {vs:Array Value} {gs:List (Nat×Array Value)} {post:List (Nat×AObj)} {ids1:List Nat} (hp:ka3 P f (args.map .fz++[]) [(1, .glb gs)] [1] (.ret (fB true)) post ids1) (hs:vs.size=args.length) (hr:∀ (i:Nat) (v:Value) (x:FV),vs[i]?=some v->args[i]?=some x->RF Any w v x) (l:∀ p,p∈gs->GlbR w p.1 p.2):
  Calls P f vs w fun e w'=>e = .returned (.bool true)/\RowKit.Below w.heap.size w w':=by
 rw [qbh] at hp
 let SB:Nat->Prop:=fun b=>b<w.heap.size
 have n:∀ {v x},RF Any w v x->RF SB w v x:=fun h=>h.bound.mono fun b c=>c.2;refine (hp.2 SB SB w.heap.size ⟨fun _=>0,fun _ => .bool true⟩ SB w vs (by simpa using hs) (fun i v x hv m=>?_) ⟨fun id' o h=>?_,fun id1 id2 o o' b h d g=>?_,fun b h=>h,fun b h => .inl h,qy _,fun b h=>h⟩).mono ?_;simp only [ql,qw] at m;obtain ⟨y,hy,rfl⟩:=m;exact .fz (n (hr i v y hv hy))
 ·rw [kah] at h;split at h
  ·rename_i j;injection h with h;subst h j;refine ⟨q9.2 rfl,⟨rfl,rfl,rfl,fun p hp=>?_⟩,fun b c=>by
    rcases c with c | ⟨u,r,_⟩;cases c
    ·cases r⟩
   exact ⟨(l p hp).lt,l p hp⟩
  ·cases h
 ·rw [kah] at h d;split at h
  ·split at d;rename_i p q;exact absurd (p.symm.trans q) g
   ·cases d
  ·cases h
 ·rintro e w' ⟨ψ',S',⟨v,rfl,hv⟩,k,a,_,_,hS,_⟩;rw [hv.atom];exact ⟨rfl,⟨a.os,a.tape,a.output,a.size,fun b c=>a.block b c⟩⟩
theorem k8t {S:Nat->Prop} {w:World} {v:Value} {n:Nat} {xs:List Int} (h:RF S w v (.lst 1 n (xs.map eI))) (e:∀ x∈xs,khp x):Ints Any w v xs:=by
 cases h with
 | @lst A cap size n ys css hn hc hm hs ha hl hr=>
  subst hn;refine ⟨A,cap,by simp,by simpa using hc,hm,fun i x hi=>?_⟩;have a:(xs.map eI)[i]?=some (eI x):=by rw [ql,hi];rfl
  obtain ⟨b,o,h1,j,f⟩:=ha i _ a;obtain ⟨c,k,l⟩:=hl i _ a;refine ⟨b,o,css i,h1,trivial,f,c,?_,e x (qk hi)⟩;obtain ⟨u,d⟩:∃ u,css i=[u]:=by
   match g:css i,c with
   | [u],_=>exact ⟨u,rfl⟩
  have:=hr i _ 0 u (.atom (.int .i64 x)) a (by rw [d];rfl) rfl;cases this;rw [d]
def inI (x:Int):Bool:=decide (-9223372036854775808<=x) && decide (x<=9223372036854775807)
def keyB (r:Int) (xs:List Int):Option BA:=bif inI r && (Nat.ble xs.length 1000000 && xs.all inI) then some ⟨(keyL r xs).toArray⟩ else none
theorem n_key (f:FuncId) (ts:Array TypeId) (X Y:Operand) (r:Int) (n:Nat) (xs:List Int) (v:BA) (g m:Nat) (gs:List (Nat×Array Value)) (vs:Array Value) {nm:String} (h:keyB r xs=some v) (d:∀ (r:Int) (xs:List Int) (sv:Value) (w:World),Ints Any w sv xs -> -9223372036854775808<=r->r<=9223372036854775807->xs.length<=1000000->w.var? P nm=some vs->Calls P f #[.int .i64 r,sv] w fun e w'=>e = .returned (.string ⟨(keyL r xs).toArray⟩)/\RowKit.Below w.heap.size w w') (hf: ∃ fn, P.funcs[f]? = some fn /\ fn.body.isNone = false /\ (fn.name == "runtime.NumGoroutine") = false) (l: P.globalNamed nm = some g) (ho:o.op = .call { callee := .value (.func f),args:=#[X,Y],argTypes:=ts }) (i:st.eval X = .fz (.atom (.int .i64 r))) (hy:st.eval Y = .fz (.lst 1 n (xs.map eI))) (j:kaa st.heap id=some (.glb gs)) (hm:gs[m]?=some (g,vs)) (k:Nat.blt 0 vs.size=true):
  NStep P o st (.fz (.atom (.string v))):=by
 unfold keyB at h;cases hc:(inI r && (Nat.ble xs.length 1000000 && xs.all inI)) with
 | false=>rw [hc] at h;cases h
 | true=>
  rw [hc] at h;injection h with h;subst h;simp only [qv,inI,qay,qu] at hc;obtain ⟨⟨h0,h1⟩,p,q⟩:=hc;intro ψ S a w ht s;have b:=Sim.eval_tmps ht X;rw [i] at b;have c:=Sim.eval_tmps ht Y;rw [hy] at c;unfold kcm;rw [knr ho hf];have hi:Ints Any w (a.eval Y) xs:=k8t c.inv fun x i=>q x i;have:=d r xs _ w hi h0 h1 (by simpa using p) (k9x s j hm l (by simpa [Nat.blt_eq] using k));rw [show (#[X,Y].map a.eval)=#[.int .i64 r,a.eval Y] by simp [b.atom]];refine this.mono ?_;rintro e w' ⟨rfl,t⟩;exact ⟨_,rfl,Below.kit rfl t, .fz (.atom rfl)⟩
theorem kaam (vs: Array Value) (hv: vs = (Lib.pow10Tab.map fun z => Value.int .u64 z).toArray := by kernel_rfl): ∀ (r : Int) (xs : List Int) (sv : Value) (w : World), Ints Any w sv xs -> -9223372036854775808 <= r -> r <= 9223372036854775807 -> xs.length <= 1000000 -> w.var? Tryz.prog "internal/strconv.uint64pow10" = some vs -> Calls Tryz.prog 109 #[.int .i64 r, sv] w fun e w' => e = .returned (.string ⟨(keyL r xs).toArray⟩) /\ RowKit.Below w.heap.size w w' :=
 fun r xs sv w h1 a b c d=>k8v r xs sv w h1 a b c (by unfold Lib.TabIs;rw [d,hv])
end Go.Proofs.YtnlhjbnpjefjgaaGreatDoor
