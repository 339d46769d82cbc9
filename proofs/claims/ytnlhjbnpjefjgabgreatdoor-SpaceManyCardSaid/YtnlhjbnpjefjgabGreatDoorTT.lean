import Derived.Test.YtnlhjbnpjefjgabGreatDoorOpr
import Derived.Test.YtnlhjbnpjefjgabGreatDoorMach
import Derived.Lib.ItoaNum
import Derived.Sort.Grow
import Derived.Deep.Draws
import Derived.Lib.ConvBytes
import Derived.Lib.AtoiErrMem
import Derived.Test.YtnlhjbnpjefjgabGreatDoorHd
import Derived.Lib.OwnBridge
import Derived.Sort.OwnSortedInts
import Derived.Test.YtnlhjbnpjefjgabGreatDoorMz
import Derived.Test.YtnlhjbnpjefjgabGreatDoorXj
import Derived.Test.YtnlhjbnpjefjgabGreatDoorProg
set_option linter.all false
set_option linter.unusedSectionVars false
namespace Go.Proofs.YtnlhjbnpjefjgabGreatDoor
open Go Go.RowKit
variable [Dr]
def kzn {α:Type} (xs ys:List α):Option Unit:=if xs.length=ys.length then some () else none
theorem kwc {α:Type} {xs ys:List α} {u:Unit} (h:kzn xs ys=some u):xs.length=ys.length:=by
 unfold kzn at h;split at h
 ·assumption
 ·cases h
structure En (α:Type) where
 f:α->FV
 n:Nat
 cl:α->List FV
 hcl:∀ x,(f x).cells=cl x
 hn:∀ x,(f x).cells.length=n
def nB:En Bool:=⟨eB,1,fun x=>[eB x],fun _=>rfl,fun _=>rfl⟩
def nI:En Int:=⟨eI,1,fun x=>[eI x],fun _=>rfl,fun _=>rfl⟩
def nS:En BA:=⟨eS,1,fun x=>[eS x],fun _=>rfl,fun _=>rfl⟩
def nU8:En Int:=⟨eU8,1,fun x=>[eU8 x],fun _=>rfl,fun _=>rfl⟩
def nL {α:Type} (s:Nat) (E:En α):En (List α):=⟨eL s E.f,1,fun x=>[eL s E.f x],fun _=>rfl,fun _=>rfl⟩
def nVaR:En Va:=⟨eVaR,4,fun x=>(eVa x).cells,k41,k7h⟩
def nTmR:En Tm:=⟨eTmR,2,fun x=>(eTm x).cells,knf,k70⟩
def nSy:En Sy:=⟨eSy,2,fun x=>(eSy x).cells,fun _=>rfl,fun _=>rfl⟩
def nRu:En Ru:=⟨eRu,9,fun x=>(eRu x).cells,fun _=>rfl,fun _=>rfl⟩
def kq6 {γ:Type} (f:Oper->St->Option γ) (g:Cfg):Option γ:=match kom g with
 | some p=>f p.1 p.2
 | none=>none
section
variable {P:Program} [t:Tab P] {Q:Exit->St->Prop} {g:Cfg} {β:Type} {r:β}
theorem vst {γ:Type} {f:Oper->St->Option γ} {z:γ} {c:AV} (k:Nat) (hc:kq6 f (crun P k g)=some z) (hn:∀ o v,f o v=some z->NStep P o v c) (h:W P (rsm c (crun P k g)) Q):W P g Q:=by
 refine ka1 k ?_;unfold kq6 at hc;split at hc;rename_i p hp;exact k0t hp (hn _ _ hc) h
 ·cases hc
def ixOf (T:List (TypeId×TD)) (o:Oper) (st:St):Option (Nat×List FV×Int):=match o.op with
 | .indexAddr t x y=>match kac T t with
  | some d=>match d.kind,kld (st.eval x),st.eval y with
   | .slice e,some xs, .fz (.atom (.int _ i))=>match kac T e with
    | some de=>some (de.size,xs,i)
    | none=>none
   | _,_,_=>none
  | none=>none
 | _=>none
theorem ix {α:Type} {ys:List α} {i:Int} {K:α->Option β} (E:En α) (k:Nat) (h:Option.bind (idx ys i) K=some r) (c:∀ v,K v=some r->W P (rsm (.fz (.fp (E.cl v))) (crun P k g)) Q) (hc:kq6 (ixOf t.T) (crun P k g)=some (E.n,ys.map E.f,i):=by kernel_rfl):W P g Q:=by
 obtain ⟨v,h1,j⟩:=qc.1 h;refine vst k hc (fun o st a=>?_) (c v j);unfold ixOf at a;split at a
 ·rename_i tt x y ho;split at a
  ·rename_i d l;split at a
   ·rename_i e xs k' i' hk m hy;split at a;rename_i de b;simp only [qb,qp] at a;obtain ⟨z1,z2,z3⟩:=a;subst z2 z3;exact k9w E.f h1 t.ok ho l hk b m (fun x=>by rw [E.hn,z1]) hy (E.hcl v)
    ·cases a
   ·cases a
  ·cases a
 ·cases a
def byOf (T:List (TypeId×TD)) (o:Oper) (st:St):Option (BA×Int):=match o.op with
 | .index t x y=>match kac T t with
  | some d=>match d.kind,st.eval x,st.eval y with
   | .str, .fz (.atom (.string s)), .fz (.atom (.int _ i))=>some (s,i)
   | _,_,_=>none
  | none=>none
 | _=>none
theorem byx {s:BA} {i:Int} {K:Int->Option β} (k:Nat) (h:Option.bind (byt s i) K=some r) (b:∀ v,K v=some r->W P (rsm (.fz (eU8 v)) (crun P k g)) Q) (hc:kq6 (byOf t.T) (crun P k g)=some (s,i):=by kernel_rfl):W P g Q:=by
 obtain ⟨v,h1,c⟩:=qc.1 h;refine vst k hc (fun o st a=>?_) (b v c);unfold byOf at a;split at a
 ·rename_i tt x y ho;split at a
  ·rename_i d e;split at a;rename_i s' k' i' hk f hy;simp only [qb,qp] at a;obtain ⟨rfl,rfl⟩:=a;exact kadg h1 t.ok ho e hk f hy
   ·cases a
  ·cases a
 ·cases a
def tyCs (T:List (TypeId×TD)):Nat->TypeId->List C0
 | 0,_=>[]
 | n+1,t=>match kac T t with
  | some d=>match d.kind with
   | .slice e=>match kac T e with
    | some de=>[.sl de.size]
    | none=>[.keep]
   | .st fs=>fs.flatMap fun p=>tyCs T n p.1
   | .arr m e=>(List.replicate m e).flatMap fun e=>tyCs T n e
   | _=>[.keep]
  | none=>[.keep]
def tyC (T:List (TypeId×TD)) (t:TypeId):C1:=match kac T t with
 | some d=>match d.kind with
  | .slice e=>match kac T e with
   | some de => .one (.sl de.size)
   | none => .one .keep
  | .st _ => .ag (tyCs T 9 t)
  | .arr _ _ => .ag (tyCs T 9 t)
  | _ => .one .keep
 | none => .one .keep
def clOf (T:List (TypeId×TD)) (o:Oper) (st:St):Option (FuncId×List FV):=match o.op with
 | .call c=>match c.callee with
  | .value (.func f)=>match kqi st (c.argTypes.toList.map (tyC T)) c.args.toList with
   | some ys=>some (f,ys)
   | none=>none
  | _=>none
 | _=>none
theorem cl {α:Type} {E:Option α} {K:α->Option β} {f:FuncId} {ys:List FV} {y:α->FV} (k:Nat) (h:Option.bind E K=some r) (hp:∀ v,E=some v->PCall P f ys (y v)) (b:∀ v,K v=some r->W P (rsm (.fz (y v)) (crun P k g)) Q) (hc:kq6 (clOf t.T) (crun P k g)=some (f,ys):=by kernel_rfl):W P g Q:=by
 obtain ⟨v,h1,d⟩:=qc.1 h;refine vst k hc (fun o st a=>?_) (b v d);unfold clOf at a;split at a
 ·rename_i c ho;split at a
  ·rename_i f' hf;split at a;rename_i ys' hy;simp only [qb,qp] at a;obtain ⟨rfl,rfl⟩:=a;obtain ⟨cc,as_,ts⟩:=c;simp only at hf;subst hf;exact k6x ho hy (hp v h1)
   ·cases a
  ·cases a
 ·cases a
def hcOf (cs:List C1) (r1 r2:List (Nat×Nat)) (keys ids0 ids1:List Nat) (post:List (Nat×AObj)) (o:Oper) (st:St):Option (FuncId×List AV×List (Nat×AObj)):=match o.op with
 | .call c=>match c.callee with
  | .value x=>match fnOf c.args.size (st.eval x) with
   | some (f,cap)=>match kme st r1 (renI r2 ids0) cs c.args.toList,kmd r1 (renI r2 ids0) cap,preX st r1 r2 (renI r2 ids0) keys with
    | some as1,some as2,some pre=>bif kjy st r1 r2 keys ids0 ids1 post then some (f,as1++as2,pre) else none
    | _,_,_=>none
   | _=>none
  | _=>none
 | _=>none
theorem hcl {α:Type} {E:Option α} {K:α->Option β} {f:FuncId} {as_:List AV} {pre:List (Nat×AObj)} {ids0 ids1:List Nat} {res:α->AV} {post:α->List (Nat×AObj)} (k:Nat) (cs:List C1) (r1 r2:List (Nat×Nat)) (keys:List Nat) (h:Option.bind E K=some r) (hp:∀ v,E=some v->kal P f as_ pre ids0 (.ret (res v)) (post v) ids1) (i:∀ v,K v=some r->W P (rsmA (renA r2 (res v)) (renH r2 (post v)++kfp (renI r2 ids0) (stOf (crun P k g)).heap) (renI r2 ids1++(stOf (crun P k g)).ids) (crun P k g)) Q) (hc:∀ v,kpv (hcOf cs r1 r2 keys ids0 ids1 (post v)) (crun P k g)=some (f,as_,pre):=by intro _;kernel_rfl):W P g Q:=by
 obtain ⟨v,h1,j⟩:=qc.1 h;obtain ⟨hk,a⟩:=krd (hc v);refine sst k ?_ (i v j) (hv:=hk);unfold hcOf at a;split at a
 ·rename_i c ho;split at a
  ·rename_i x e;split at a
   ·rename_i f' cap b;split at a
    ·rename_i as1 as2 pre' e1 e2 e3;cases d:kjy (stOf (crun P k g)) r1 r2 keys ids0 ids1 (post v) with
     | false=>rw [d] at a;cases a
     | true=>
      rw [d] at a;simp only [qr,qb,qp] at a;obtain ⟨rfl,rfl,rfl⟩:=a;obtain ⟨cc,as_,ts⟩:=c;simp only at e;subst e;exact k1d r1 r2 ho b (hp v h1) e1 e2 d e3
    ·cases a
   ·cases a
  ·cases a
 ·cases a
theorem kx3 {cs:List C1} {r1 r2:List (Nat×Nat)} {keys ids0 ids1:List Nat} {post:List (Nat×AObj)} {o:Oper} {st:St} {f:FuncId} {as_:List AV} {pre:List (Nat×AObj)} (a:hcOf cs r1 r2 keys ids0 ids1 post o st=some (f,as_,pre)):
  ∃ x args ts cap as1 as2,o.op = .call { callee := .value x,args:=args,argTypes:=ts }/\fnOf args.size (st.eval x)=some (f,cap)/\kme st r1 (renI r2 ids0) cs args.toList=some as1/\kmd r1 (renI r2 ids0) cap=some as2/\as_=as1++as2/\kjy st r1 r2 keys ids0 ids1 post=true/\preX st r1 r2 (renI r2 ids0) keys=some pre:=by
 unfold hcOf at a;split at a
 ·rename_i c ho;split at a
  ·rename_i x d;split at a
   ·rename_i f' cap b;split at a
    ·rename_i as1 as2 pre' e1 e2 e3;cases e:kjy st r1 r2 keys ids0 ids1 post with
     | false=>rw [e] at a;cases a
     | true=>
      rw [e] at a;simp only [qr,qb,qp] at a;obtain ⟨rfl,rfl,rfl⟩:=a;obtain ⟨cc,as_,ts⟩:=c;simp only at d;subst d;exact ⟨x,as_,ts,cap,as1,as2,ho,b,e1,e2,rfl,rfl,e3⟩
    ·cases a
   ·cases a
  ·cases a
 ·cases a
theorem hclS {α α':Type} {E:Option (α ⊕ α')} {K1:α->Option β} {K2:α'->Option β} {f:FuncId} {as_:List AV} {pre:List (Nat×AObj)} {ids0 ids1 ids2:List Nat} {res:α->AV} {post:α->List (Nat×AObj)} {pv:α'->Value} {post2:α'->List (Nat×AObj)} (k:Nat) (cs:List C1) (r1 r2:List (Nat×Nat)) (keys:List Nat) (h:Option.bind E (fun v=>Sum.elim K1 K2 v)=some r) (hp:∀ v,E=some v->Sum.elim (fun v=>kal P f as_ pre ids0 (.ret (res v)) (post v) ids1) (fun v=>kal P f as_ pre ids0 (.pan (pv v)) (post2 v) ids2) v) (a:∀ v,K2 v=some r->W P ⟨.fin (.panic [pnE (pv v)]),[],{ stOf (crun P k g) with heap:=renH r2 (post2 v)++kfp (renI r2 ids0) (stOf (crun P k g)).heap,ids:=renI r2 ids2++(stOf (crun P k g)).ids }⟩ Q) (c:∀ v,K1 v=some r->W P (rsmA (renA r2 (res v)) (renH r2 (post v)++kfp (renI r2 ids0) (stOf (crun P k g)).heap) (renI r2 ids1++(stOf (crun P k g)).ids) (crun P k g)) Q) (hc:∀ v,kpv (hcOf cs r1 r2 keys ids0 ids1 (post v)) (crun P k g)=some (f,as_,pre):=by intro _;kernel_rfl) (hc2:∀ v,kpv (hcOf cs r1 r2 keys ids0 ids2 (post2 v)) (crun P k g)=some (f,as_,pre):=by intro _;kernel_rfl):W P g Q:=by
 obtain ⟨v,h1,b⟩:=qc.1 h;have hp:=hp v h1;cases v with
 | inl v=>exact hcl (post:=post) (res:=res) (K:=fun v=>K1 v) (E:=some v) k cs r1 r2 keys b (fun v' hv=>by injection hv with hv;subst hv;exact hp) c (hc:=hc)
 | inr v=>
  obtain ⟨hk,d⟩:=krd (hc2 v);obtain ⟨x,args,ts,cap,as1,as2,e1,e2,e3,e4,rfl,e5,e6⟩:=kx3 d;exact hpan k r1 r2 hk e1 e2 hp e3 e4 e5 e6 (a v b)
structure ApR where
 id:Nat
 e:TypeId
 size:Nat
 bytes:Nat
 n:Nat
 xs:List FV
 ys:List FV
def k4j (size:Nat):AV->Option (List FV)
 | .fz (.lst s _ ys)=>bif Nat.beq s size then some ys else none
 | .lim s _ ys=>bif Nat.beq s size then some ys else none
 | _=>none
theorem k69 {size:Nat} {x:AV} {ys:List FV} (h:k4j size x=some ys):∃ m,x = .fz (.lst size m ys)\/x = .lim size m ys:=by
 unfold k4j at h;split at h
 ·rename_i s m zs;cases a:Nat.beq s size with
  | false=>rw [a] at h;cases h
  | true=>
   rw [a] at h;obtain rfl:=qf a;obtain rfl:=qy h;exact ⟨m, .inl rfl⟩
 ·rename_i s m zs;cases a:Nat.beq s size with
  | false=>rw [a] at h;cases h
  | true=>
   rw [a] at h;obtain rfl:=qf a;obtain rfl:=qy h;exact ⟨m, .inr rfl⟩
 ·cases h
def apOf (T:List (TypeId×TD)) (o:Oper) (st:St):Option ApR:=match o.op with
 | .call c=>match c.callee,c.args.toList,c.argTypes.toList with
  | .builtin .append,[X,Y],[t,u]=>bif Nat.beq u t then (match kac T t with
   | some d=>match d.kind,st.eval X with
    | .slice e, .row id n=>match kac T e,kaa st.heap id with
     | some de,some (.frow e' s xs)=>match k4j de.size (st.eval Y) with
      | some ys=>bif Nat.beq e' e && (Nat.beq s de.size && (Nat.ble 1 de.size && Nat.beq de.zero.length de.size)) then some ⟨id,e,de.size,de.bytes,n,xs,ys⟩ else none
      | none=>none
     | _,_=>none
    | _,_=>none
   | none=>none) else none
  | _,_,_=>none
 | _=>none
theorem k9u {α:Type} {E:En α} {xs ys v:List α} {o:Oper} {st:St} {q:ApR} (a:apOf t.T o st=some q) (h:app q.bytes xs ys=some v) (hn:q.n=xs.length) (j:q.xs=xs.map E.f) (hy:q.ys=ys.map E.f):
  ∃ (X Y:Operand) (ty:TypeId) (d de:TD) (m:Nat),o.op = .call { callee := .builtin .append,args:=#[X,Y],argTypes:=#[ty,ty] }/\kac t.T ty=some d/\d.kind = .slice q.e/\kac t.T q.e=some de/\de.size=q.size/\Nat.ble 1 de.size=true/\de.zero.length=de.size/\de.bytes=q.bytes /\
   st.eval X = .row q.id xs.length/\kaa st.heap q.id=some (.frow q.e de.size (xs.map E.f))/\(st.eval Y = .fz (.lst de.size m (ys.map E.f))\/st.eval Y = .lim de.size m (ys.map E.f)):=by
 unfold apOf at a;split at a
 ·rename_i c ho;split at a
  ·rename_i X Y ty u h1 k l;cases hu:Nat.beq u ty with
   | false=>rw [hu] at a;cases a
   | true=>
    rw [hu] at a;obtain rfl:=qf hu;simp only [qr] at a;split at a
    ·rename_i d p;split at a
     ·rename_i e id n hk hX;split at a
      ·rename_i de e' s xs' g i;split at a
       ·rename_i ys' r;cases b:(Nat.beq e' e && (Nat.beq s de.size && (Nat.ble 1 de.size && Nat.beq de.zero.length de.size))) with
        | false=>rw [b] at a;cases a
        | true=>
         rw [b] at a;obtain rfl:=qy a;simp only [qo] at b;obtain ⟨b1,b2,b3,b4⟩:=b;obtain rfl:=qf b1;obtain rfl:=qf b2;simp only at hn j hy;subst hn j hy;obtain ⟨m,hm⟩:=k69 r;obtain ⟨cc,as_,ts⟩:=c;simp only at h1 k l;rw [h1,kpz k,kpz l] at ho;exact ⟨X,Y,_,d,de,m,ho,p,hk,g,rfl,b3,qf b4,rfl,hX,i,hm⟩
       ·cases a
      ·cases a
     ·cases a
    ·cases a
  ·cases a
 ·cases a
def apK (q:Option ApR):Option (Nat×Nat×List FV×List FV):=match q with
 | some q=>some (q.bytes,q.n,q.xs,q.ys)
 | none=>none
def apG {α:Type} (T:List (TypeId×TD)) (E:En α) (v:List α) (g:Cfg):Cfg:=match kpv (apOf T) g with
 | some q=>rsmA (.row q.id v.length) ((q.id, .frow q.e q.size (v.map E.f))::(stOf g).heap) (stOf g).ids g
 | none=>⟨.bad,g.ks,g.st⟩
theorem ap {α:Type} {bytes:Nat} {xs ys:List α} {K:List α->Option β} (E:En α) (k:Nat) (h:Option.bind (app bytes xs ys) K=some r) (a:∀ v,K v=some r->W P (apG t.T E v (crun P k g)) Q) (hc:apK (kpv (apOf t.T) (crun P k g))=some (bytes,xs.length,xs.map E.f,ys.map E.f):=by kernel_rfl):W P g Q:=by
 obtain ⟨v,h1,c⟩:=qc.1 h;have a:=a v c;unfold apK at hc;split at hc;rename_i q b;simp only [qb,qp] at hc;obtain ⟨rfl,e1,e2,e3⟩:=hc;unfold apG at a;rw [b] at a;obtain ⟨hk,e⟩:=krd b;refine sst k ?_ a (hv:=hk);obtain ⟨X,Y,ty,d,de,m,k1,k2,k3,k4,k5,k6,k7,k8,k9,k10,k11⟩:=k9u e h1 e1 e2 e3;rw [<- k5];exact k7k E.f h1 t.ok k1 k2 k3 k4 k6 k7 k8 k9 k10 rfl k11
 ·cases hc
def kw0 {γ:Type} (f:Oper->St->Option γ) (g:Cfg):Option γ:=bif okZ g then f (kiv g) (kg9 g) else none
theorem kym {γ:Type} {f:Oper->St->Option γ} {z:γ} {g:Cfg} (h:kw0 f g=some z):okZ g=true/\f (kiv g) (kg9 g)=some z:=by
 unfold kw0 at h;cases hk:okZ g with
 | false=>rw [hk] at h;cases h
 | true=>rw [hk] at h;exact ⟨rfl,h⟩
theorem hclZ {α:Type} {E:Option α} {K:α->Option β} {f:FuncId} {as_:List AV} {pre:List (Nat×AObj)} {ids0 ids1:List Nat} {res:α->AV} {post:α->List (Nat×AObj)} (k:Nat) (cs:List C1) (r1 r2:List (Nat×Nat)) (keys:List Nat) (h:Option.bind E K=some r) (hp:∀ v,E=some v->kal P f as_ pre ids0 (.ret (res v)) (post v) ids1) (b:∀ v,K v=some r->W P (rsmZ (renA r2 (res v)) (renH r2 (post v)++kfp (renI r2 ids0) (kg9 (crun P k g)).heap) (renI r2 ids1++(kg9 (crun P k g)).ids) (crun P k g)) Q) (hc:∀ v,kw0 (hcOf cs r1 r2 keys ids0 ids1 (post v)) (crun P k g)=some (f,as_,pre):=by intro _;kernel_rfl) (hi:idsZ (renI r2 ids1++(kg9 (crun P k g)).ids) (crun P k g)=true:=by kernel_rfl) (hk:∀ v,offZ (crun P k g) (renH r2 (post v)++kfp (renI r2 ids0) (kg9 (crun P k g)).heap)=offZ (crun P k g) (hpZ (crun P k g)):=by intro _;kernel_rfl):W P g Q:=by
 obtain ⟨v,h1,c⟩:=qc.1 h;obtain ⟨a,d⟩:=kym (hc v);obtain ⟨x,args,ts,cap,as1,as2,e1,e2,e3,e4,rfl,e5,e6⟩:=kx3 d;exact zst k (k1d r1 r2 e1 e2 (hp v h1) e3 e4 e5 e6) (b v c) (hv:=a) (hi:=hi) (hk:=(hk v))
theorem clL {α:Type} {E:Option α} {K:α->Option β} {f:FuncId} {ys:List FV} {y:α->FV} (k:Nat) (ls:List LendI) (h:Option.bind E K=some r) (hp:∀ v,E=some v->PCall P f ys (y v)) (hl:∀ l∈ls,l.ok (kzh (crun P k g))) (a:∀ v,K v=some r->W P (rsm (.fz (y v)) (crun P k g)) Q) (hc:kq6 (fun o st=>clOf t.T o (k9j ls st)) (crun P k g)=some (f,ys):=by kernel_rfl) (ha:∀ v,k8x (y v)=true:=by intro _;kernel_rfl):W P g Q:=by
 obtain ⟨v,h1,b⟩:=qc.1 h;refine ka1 k ?_;have a:=a v b;generalize crun P k g=g' at *
 unfold kq6 at hc;split at hc
 ·rename_i p hv;obtain ⟨o,st⟩:=p;obtain ⟨e1,e2⟩:=k0b hv;rw [e2] at hl;refine k0t hv (kacg ls hl ?_ (ha v)) a;unfold clOf at hc;simp only at hc;split at hc
  ·rename_i c ho;split at hc
   ·rename_i f' hf;split at hc;rename_i ys' hy;simp only [qb,qp] at hc;obtain ⟨rfl,rfl⟩:=hc;obtain ⟨cc,as_,ts⟩:=c;simp only at hf;subst hf;exact k6x ho hy (hp v h1)
    ·cases hc
   ·cases hc
  ·cases hc
 ·cases hc
end
end Go.Proofs.YtnlhjbnpjefjgabGreatDoor
set_option linter.all false
namespace Go.Proofs.YtnlhjbnpjefjgabGreatDoor
open Go Go.RowKit
variable {P:Program} {T:List (TypeId×TD)} {st:St} {t:TypeId} {d:TD} {id:Nat}
def tabG {α:Type} (f:α->Value) (id g:Nat) (ov:Value) (eo ei:TypeId) (rows:List (List α)) (i:Nat) (row:List α) (st:St):St:=
 { st with heap:=(id, .tab (g+1) ov eo ei ((rows.set i row).map (List.map f)))::st.heap }
def notT (d:Nat):Operand->Bool
 | .tmp t=>t != d
 | _=>true
theorem ku7 {a:Act} {d:Nat} {v:Value} {x:Operand} (h:notT d x=true):(a.put (some d) v).eval x=a.eval x:=by
 cases x with
 | tmp t=>
  have b:t≠d:=by simpa [notT] using h
  show (a.tmps.setIfInBounds d v).getD t undef=a.tmps.getD t undef;rw [qaj,qaj,Array.getElem?_setIfInBounds_ne (Ne.symm b)]
 | const v=>rfl
 | global g=>rfl
 | func f=>rfl
theorem k7q {α:Type} {f:α->Value} {enc:α->FV} {ops:Array Oper} {o1 o2 o3:Oper} {l:List Oper} {Q:Exit->St->Prop} {rows:List (List α)} {row zs:List α} {i:Int} {A B X Y:Operand} {g m d1 d2:Nat} {ov:Value} {eo ei t2:TypeId} {d2' di:TD} {k:IntKind}
  (h:idx rows i=some row) (hT:TOk P T) (hd:kac T eo=some d) (bg:d.kind = .slice ei) (ar:d.size=1) (bh:kac T ei=some di) (E:di.size=1) (bi:di.zero.length=1)
  (bj:o1.op = .call { callee := .builtin .append,args:=#[A,B],argTypes:=#[eo,eo] }) (bk:o1.dst=some d1)
  (bl:o2.op = .indexAddr t2 X Y) (bm:o2.dst=some d2) (bn:kac T t2=some d2') (bo:d2'.kind = .slice eo)
  (bp:o3.op = .store eo (.tmp d2) (.tmp d1)) (bq:o3.dst=none) (g1:o1.guard=none) (g2:o2.guard=none) (g3:o3.guard=none) (ad:d1≠d2) (au:d1<st.n) (av:d2<st.n)
  (hA:st.eval A = .irow id g (i.toNat+1)) (hB:st.eval B = .fz (.lst 1 m (zs.map enc))\/st.eval B = .lim 1 m (zs.map enc)) (hX:st.eval X = .fz (.atom ov)) (br:notT d1 X=true) (hY:st.eval Y = .fz (.atom (.int k i))) (bs:notT d1 Y=true)
  (ae:kaa st.heap id=some (.tab g ov eo ei (rows.map (List.map f)))) (hf:∀ y,enc y = .atom (f y)/\(f y).oneCell'=true) (aw:(row.length+zs.length)*(di.bytes+1)<=140737488355328)
  (hn:awpL P ops l (((tabG f id g ov eo ei rows i.toNat (row++zs) st).put (some d1) .any).put (some d2) .any) Q):awpL P ops (o1::o2::o3::l) st Q:=fun F S0 N0 ψ S a w hs=>by
 have C:=hs.core;have af:=hT.get hd;have bt:=hT.get bh;obtain ⟨b6,⟨hg,vs,O,ag,U,ax,s⟩,b7⟩:=C.obj id _ ae;rw [qj] at ag U;unfold idx at h;split at h
 case isFalse=>cases h
 rename_i h0;have ay:i.toNat<rows.length:=(qd.1 h).1;obtain ⟨gb,cap,cur,ah,az,bu,hc2,a0,bv⟩:=kdj U;have K:kak ov=some gb:=by rw [ah];rfl
 have ai:i.toNat<vs.length:=by omega
 obtain ⟨u,hu⟩:∃ u,u=vs[i.toNat]:=⟨_,rfl⟩;have H:vs[i.toNat]?=some u:=by rw [hu];exact qa ai
 obtain ⟨L,a1⟩:=ax i.toNat u (row.map f) H (by rw [qg,h];rfl);rw [qj] at L;have I:∀ v b,v∈ov::vs->kak v=some b->Blk (ψ.val id) b:=fun v b hv p=>by rw [O];exact .inr ⟨v,by simpa [kcy] using hv,p⟩
 -- append
 have bw:a.eval A=u:=by
  have aj:=hs.eval A;rw [hA] at aj;generalize a.eval A=z at aj;cases aj with
  | irow hK b8 h1 hv=>
   have:=hv hg.symm;rw [O] at this;simp only [kcy,List.toList_toArray] at this;rw [qac,H] at this;exact (qy this).symm
 have bx:RF S w (a.eval B) (.lst di.size m (zs.map enc)):=by
  have hv:=hs.eval B;rw [E];rcases hB with hB | hB;rw [hB] at hv;exact hv.inv
  ·rw [hB] at hv;generalize a.eval B=z at hv;cases hv with
   | lim h=>exact h
 rw [Nat.mul_add,qa1] at aw;obtain ⟨v',w1,news,V,o,r,a2,M,a3,a4,b5⟩:=k3m o1.type (af.slice bg) bt (by omega) (by rw [bi,E]) (by rw [E];exact L) bx (by simp;omega) (by simp;omega);rw [E] at o a3 a4 M;rw [qj] at o M;have ak:news=zs.map f:=by apply List.ext_getElem (by simp at M;rw [M,qj]);intro j h1 h2;rw [qj] at h2;have:=a3 j (enc zs[j]) 0 news[j] (enc zs[j]) (by rw [qg,qa h2];rfl) (by simp [qa h1]) (by rw [(hf zs[j]).1];rfl);rw [(hf zs[j]).1] at this;rw [this.atom_eq,List.getElem_map]
 have al:v'.oneCell'=true:=ktx o;have a5:∀ b,kak v'=some b->kak u=some b\/b=w.heap.size:=fun b p=>by
  have h1:=kxn o (b:=b);rcases a2 with e | e
  ·left;have:v'.ownBlock=some b:=by
    rcases o.2 with ⟨rfl,_⟩ | ⟨g0,c0,cu0,rfl,_⟩;cases p
    ·exact p
   rw [e] at this;rcases L.2 with ⟨rfl,_⟩ | ⟨g0,c0,cu0,rfl,_⟩;cases this
   ·exact this
  ·right;rcases o.2 with ⟨rfl,_⟩ | ⟨g0,c0,cu0,rfl,_⟩;cases p
   ·have p:some g0=some b:=p;have e:some g0=some w.heap.size:=e;rw [p] at e;exact qy e
 have J:∀ k,k<w.heap.size->kak u≠some k->w1.heap[k]?=w.heap[k]?:=fun k hk ad=>r.block k hk fun e=>by
  rcases L.2 with ⟨rfl,_⟩ | ⟨g0,c0,cu0,rfl,_⟩;cases e
  ·exact ad e.symm
 have a6:kak u≠some gb:=s 0 (i.toNat+1) ov u gb rfl (by rw [qac];exact H) (by omega) K;have am:gb<w.heap.size:=(qar.1 az).1;have Z:w1.heap[gb]?=some (.cells cur eo (0,0)):=by rw [J gb am a6];exact az
 have bz:a.eval X=ov:=by have:=hs.eval X;rw [hX] at this;exact this.atom
 have b0:a.eval Y = .int k i:=by have:=hs.eval Y;rw [hY] at this;exact this.atom
 unfold wpList;rw [show Region.wanted o1 (yielded ops a.tmps)=true by unfold Region.wanted;rw [g1]];refine .inl (kbq (R:=fun v w'=>v'=v/\w1=w') ?_ (kad w1 v' (by simp only [execOp,bj,resolve,invoke,builtin,Sem.run_bind,Sem.run_pure,Result.andThen_ok,List.map_toArray,qao,List.map_nil,bw,V]) ⟨rfl,rfl⟩));rintro _ _ ⟨rfl,rfl⟩;rw [bk]
 -- the row's place
 have a7:(a.put (some d1) v').eval X=ov:=by rw [ku7 br,bz]
 have a8:(a.put (some d1) v').eval Y = .int k i:=by rw [ku7 bs,b0]
 unfold wpList;rw [show Region.wanted o2 (yielded ops (a.put (some d1) v').tmps)=true by unfold Region.wanted;rw [g2]];refine .inl (kbq (R:=fun v w' => .pointer (some ⟨gb,i.toNat,none⟩)=v/\w1=w') ?_ (kad w1 (.pointer (some ⟨gb,i.toNat,none⟩)) ?_ ⟨rfl,rfl⟩))
 rotate_left
 ·have a9:i<(rows.length:Int):=by omega
  simp [execOp,bl,a7,ah,a8,Instr.indexAt,asIntOf,run_underlying ((hT.get bn).slice bo),h0,a9,af.size,ar,ka3]
 rintro _ _ ⟨rfl,rfl⟩;rw [bm]
 -- the store
 have b1:((a.put (some d1) v').put (some d2) (.pointer (some ⟨gb,i.toNat,none⟩))).eval (.tmp d1)=v':=by
  rw [ku7 (show notT d2 (.tmp d1)=true by simp [notT,ad])];show (a.tmps.setIfInBounds d1 v').getD d1 undef=v';have:d1<a.tmps.size:=by rw [hs.size];exact au
  simp [Array.getD,this]
 have b2:((a.put (some d1) v').put (some d2) (.pointer (some ⟨gb,i.toNat,none⟩))).eval (.tmp d2) = .pointer (some ⟨gb,i.toNat,none⟩):=by
  show ((a.tmps.setIfInBounds d1 v').setIfInBounds d2 _).getD d2 undef=_;have:d2<a.tmps.size:=by rw [hs.size];exact av
  simp [Array.getD,this]
 have hst:=kvs (w:=w1) (P:=P) i.toNat v' Z (by rw [a0];omega) al;obtain ⟨w',x⟩:∃ w',w'=w1.setRow gb (cur.toList.set i.toNat v').toArray:=⟨_,rfl⟩;rw [<- x] at hst;have G:∀ k,k≠gb->w'.heap[k]?=w1.heap[k]?:=fun k hk=>by rw [x];exact kfv gb _ k hk
 have ba:w'.heap.size=w1.heap.size:=by rw [x];simp [World.setRow]
 have bb:w.heap.size<=w'.heap.size:=by rw [ba];exact r.size
 have bc:u∈ov::vs:=qe _ (ql H);have aa:∀ k,k<w.heap.size->k≠gb->kak u≠some k->w'.heap[k]?=w.heap[k]?:=fun k hk h1 h2=>by rw [G k h1,J k hk h2]
 have bd:∀ k,k<w.heap.size->¬ Blk (ψ.val id) k->w'.heap[k]?=w.heap[k]?:=fun k hk ab=>aa k hk (fun e=>ab (I ov k (qn ..) (e ▸ K))) fun e=>ab (I u k bc e);have ac:∀ v b,v∈ov::vs->kak v=some b->b<w.heap.size:=fun v b hv p=>(C.obj id _ ae).2.1.lt (I v b hv p);have sp:∀ (k:Nat) (v:Value),(ov::vs.set i.toNat v')[k]?=some v->(k=i.toNat+1/\v=v')\/(k≠i.toNat+1/\(ov::vs)[k]?=some v):=fun k v hk=>by
  cases k with
  | zero=>exact .inr ⟨by omega,hk⟩
  | succ k=>
   rw [qac] at hk ⊢;by_cases be:i.toNat=k;subst be;rw [qa5 ai] at hk;cases hk;exact .inl ⟨rfl,rfl⟩
   ·rw [qbb be] at hk;exact .inr ⟨by omega,hk⟩
 -- a block of v' is none of the other rows'
 have an:∀ (k:Nat) (v:Value) (b:Nat),k≠i.toNat+1->(ov::vs)[k]?=some v->kak v=some b->kak v'≠some b:=fun k v b hk hv p D=>by
  rcases a5 b D with e | e;exact s (i.toNat+1) k u v b (by rw [qac];exact H) hv (Ne.symm hk) e p
  ·have:=ac v b (ql hv) p;omega
 obtain ⟨c1,c2,c3⟩:=C.upd (n:=g+1) (v := .tuple (ov::vs.set i.toNat v').toArray) (w':=w') (ob' := .tab (g+1) ov eo ei ((rows.set i.toNat (row++zs)).map (List.map f))) ae bb bd (.inl (by omega)) (fun b p=>by
   rcases p with p | ⟨v,hv,p⟩;cases p
   ·simp only [kcy] at hv;rcases qan.1 hv with rfl | hv;exact .inl (I _ b (qn ..) p)
    ·rcases List.mem_or_eq_of_mem_set hv with hv | rfl;exact .inl (I v b (qe _ hv) p)
     ·rcases a5 b p with e | e;exact .inl (I u b bc e)
      ·exact .inr (by omega)) (by
  refine ⟨ka2 _ _,vs.set i.toNat v',kaj _ _,by simpa using ag,?_,fun k v xs hv N=>?_,fun k j v1 v2 b h1 h2 b3 ao=>?_⟩;rw [qj,List.length_set,ah,x];exact kxa Z bu hc2 a0 bv ag ay
  ·by_cases hk:i.toNat=k
   ·subst hk;rw [qa5 ai] at hv;cases hv;rw [qg,qa5 ay,qai] at N;cases N;rw [qj,qbc,qaf];refine ⟨?_,fun y hy=>?_⟩
    ·rw [<- ak];exact kdh o fun b p=>G b fun e=>by have D:=kdv p;exact an 0 ov gb (by omega) rfl K (e ▸ D)
    ·rcases qab.1 hy with hy | hy;exact a1 y hy
     ·obtain ⟨z,_,rfl⟩:=qx.1 hy;exact (hf z).2
   ·rw [qbb hk] at hv;rw [qg,qbb hk,<- qg] at N;obtain ⟨k1,k2⟩:=ax k v xs hv N;refine ⟨kdh k1 fun b p=>?_,k2⟩;have D:=kdv p;have aq:(ov::vs)[k+1]?=some v:=(by rw [qac];exact hv);exact aa b (ac v b (ql aq) D) (fun e=>s 0 (k+1) ov v gb rfl aq (by omega) K (e ▸ D)) (fun e=>s (i.toNat+1) (k+1) u v b (by rw [qac];exact H) aq (by omega) e D)
  ·rcases sp k v1 h1 with ⟨e1,f1⟩ | ⟨e1,f1⟩ <;> rcases sp j v2 h2 with ⟨e2,f2⟩ | ⟨e2,f2⟩;omega;exact fun b4=>an j v2 b e2 f2 b4 (f1 ▸ ao);exact f2 ▸ an k v1 b e1 f1 ao
   ·exact s k j v1 v2 b f1 f2 b3 ao)
 have bf:Fr F w w':=⟨by rw [x];exact r.os,by rw [x];exact r.tape,by rw [x];exact r.output,bb,c3,fun _=>by have:=kya V;rw [x];exact this⟩;have s1:=hs.put (st':=tabG f id g ov eo ei rows i.toNat (row++zs) st) (d:=some d1) (v:=v') (c := .any) rfl rfl rfl c1 .any (knz (.inl (by omega))) (fun _ h=>h) (fun _ h=>h) c2 (fun t ht=>by cases ht;exact au);have s2:=s1.put (st':=(tabG f id g ov eo ei rows i.toNat (row++zs) st).put (some d1) .any) (d:=some d2) (v := .pointer (some ⟨gb,i.toNat,none⟩)) (c := .any) rfl rfl rfl s1.core .any Ext.refl (fun _ h=>h) (fun _ h=>h) (fun _ _ _=>rfl) (fun t ht=>by cases ht;exact av);unfold wpList;rw [show Region.wanted o3 (yielded ops ((a.put (some d1) v').put (some d2) (.pointer (some ⟨gb,i.toNat,none⟩))).tmps)=true by unfold Region.wanted;rw [g3]];refine .inl (kbq (R:=fun v w2=>w'=w2) ?_ (ke0 w' ?_ rfl))
 rotate_left
 simp only [execOp,bp,Instr.storeAt,b2,b1,Instr.sureAddr,storeVar,af.size,Sem.run_bind,Sem.run_pure,Result.andThen_ok];rw [qq (by rw [kkq al,ar];simp)];simp [kkq al,hst];rintro v2 _ rfl;rw [bq];exact ka6 (fun e a' w2 q=>q.pre bf) _ _ _ (hn F S0 N0 _ _ _ w' s2)
variable [Dr]
variable {F S0:Nat->Prop} {N0:Nat} {w w':World} {S S':Nat->Prop} {ψ:Env} {K:Nat->Prop} {o:Oper} {a:Act}
theorem kvu {v:Value} {e:TypeId} {size n:Nat} {cs:List Value} (h:w.ownsRow 0 e size v n cs) (hn:0<n:=by omega):∃ g cap,v = .slice (some ⟨g,0,none⟩) n cap:=by
 rcases h.2 with ⟨_,h0⟩ | ⟨g,cap,cur,hv,_⟩;omega
 ·exact ⟨g,cap,hv⟩
theorem kfx (t:TypeId) (d:TD) (id:Nat) {α:Type} (E:En α) (xs:List α) {x:α} {i:Int} (X Y:Operand) (e:TypeId) (de:TD) (k:IntKind) (n:Nat) (h:idx xs i=some x) (s:TOk P T:=by exact kag) (hy:st.eval Y = .fz (.atom (.int k i)):=by kernel_rfl) (ho:o.op = .indexAddr t X Y:=by kernel_rfl) (q:kac T t=some d:=by kernel_rfl) (hk:d.kind = .slice e:=by kernel_rfl) (l:kac T e=some de:=by kernel_rfl) (y:de.size=E.n:=by kernel_rfl) (z:st.eval X = .row id n:=by kernel_rfl) (r:kaa st.heap id=some (.frow e E.n (xs.map E.f)):=by kernel_rfl) (hn:n=xs.length:=by rfl):NStep P o st (.ref id n (i.toNat*E.n+0)):=by
 intro ψ S a w ht A;subst hn;have q:=s.get q;have l:=s.get l;obtain ⟨h0,hi⟩:=kvi h;have B:i.toNat<xs.length:=(qd.1 hi).1;have m:=Sim.eval_tmps ht X;rw [z] at m;have b:=Sim.eval_tmps ht Y;rw [hy] at b;have b:=b.atom;obtain ⟨hl,_,cs,c,_,_⟩:=A id _ r;rw [qj] at hl c;obtain ⟨g,cap,j⟩:=kvu c;have hK:id∈st.ids/\a.eval X=ψ.val id:=by
  generalize a.eval X=u at m;cases m with
  | row hK C h1 hv=>exact ⟨hK,hv hl.symm⟩
 refine kad w (.pointer (some ⟨g,i.toNat*E.n+0,none⟩)) ?_ ⟨kaf _, .ref hK.1 (by omega) rfl fun _=>⟨g,by rw [j];rfl,rfl⟩⟩;have p:i<(xs.length:Int):=by omega
 simp [execOp,ho,hK.2,j,b,Instr.indexAt,asIntOf,run_underlying (q.slice hk),h0,p,l.size,y,ka3]
end Go.Proofs.YtnlhjbnpjefjgabGreatDoor
set_option linter.all false
namespace Go.Proofs.YtnlhjbnpjefjgabGreatDoor
open Go Go.RowKit
variable {P:Program} {F S0:Nat->Prop} {N0:Nat} {w w':World} {S S':Nat->Prop} {ψ:Env} {K:Nat->Prop} {T:List (TypeId×TD)} {o:Oper} {a:Act} {st:St} {t:TypeId} {d:TD} {id:Nat}
theorem kabs {g m:Nat} {gs:List (Nat×Array Value)} {vs:Array Value} (c:∀ id o,kaa st.heap id=some o->ObR ψ (·∈st.ids) S w id o) (a:kaa st.heap id=some (.glb gs)) (hm:gs[m]?=some (g,vs)) {nm:String} (f:P.globalNamed nm=some g) (h0:0<vs.size):w.var? P nm=some vs:=by obtain ⟨_,_,_,h⟩:=c id _ a;obtain ⟨hS,b⟩:=h (g,vs) (ql hm);obtain ⟨e,d,i⟩:=b.tab h0;simp only [World.var?,f,qh,i]
theorem knu {op:BinOp} {x y:Operand} {u v:Option Addr} {n m c d:Nat}:(eqGuard op t x y (.slice u n c) (.slice v m d)).run P w = .ok () w:=by unfold eqGuard;cases op <;> simp
theorem ky0 {u v:Option Addr} {n m c e:Nat} {r:Bool} (h:∀ d:Nat,(Op.equalIn (d+1) t (.slice u n c) (.slice v m e)).run P w = .ok r w):(binOp .eql t (.slice u n c) (.slice v m e)).run P w = .ok (.bool r) w/\(binOp .neq t (.slice u n c) (.slice v m e)).run P w = .ok (.bool !r) w:=by constructor <;> (simp only [binOp];simp [Op.equal,Op.maxDepth,h 9999])
def nonE {α:Type} (xs:List α):Option Unit:=bif List.isEmpty xs then none else some ()
theorem k7j {α:Type} (x y:Operand) (yt te:TypeId) (size:Nat) (enc:α->FV) (xs:List α) {u:Unit} (neg:Bool) (h:nonE xs=some u) (ho:o.op = .binOp (if neg then .neq else .eql) t x y yt:=by kernel_rfl) (ht:P.underlying t=some (.slice te):=by kernel_rfl) (i:st.eval x = .fz (eL size enc xs):=by kernel_rfl) (hy:st.eval y = .fz (.atom (.slice none 0 0)):=by kernel_rfl):
  NStep P o st (.fz (.atom (.bool neg))):=by
 intro ψ S a w f j;have h1:=Sim.eval_tmps f x;rw [i] at h1;have g:=Sim.eval_tmps f y;rw [hy] at g;have g:=g.atom;obtain ⟨z,zs,rfl⟩:∃ z zs,xs=z::zs:=by
  cases xs with
  | nil=>cases h
  | cons z zs=>exact ⟨z,zs,rfl⟩
 generalize hv:a.eval x=v at h1;have h1:RF S w v (.lst size (z::zs).length ((z::zs).map enc)):=by
  cases h1 with
  | fz h=>exact h
 cases h1 with
 | @lst A cap _ _ _ css hn hc hm hs ha hl hr=>
  obtain ⟨b,off,rfl,_,_⟩:=ha 0 (enc z) rfl;refine kad w (.bool neg) ?_ ⟨kaf _, .fz (.atom rfl)⟩;obtain ⟨q1,q2⟩:=ky0 (P:=P) (w:=w) (t:=t) (r:=false) (u:=some ⟨b,off,none⟩) (v:=none) (n:=(z::zs).length) (c:=cap) (m:=0) (e:=0) fun d=>by simp [Op.equalIn,run_underlying ht]
  cases neg;simp [execOp,ho,hv,g,knu] at q1 ⊢;simp [q1]
  ·simp [execOp,ho,hv,g,knu] at q2 ⊢;simp [q2]
theorem k44 {f:FuncId} (args:List FV) {vs:Array Value} {gs:List (Nat×Array Value)} {post:List (Nat×AObj)} {ids1:List Nat} (hp:kal P f (args.map .fz++[]) [(1, .glb gs)] [1] (.ret (fB true)) post ids1) (hs:vs.size=args.length) (hr:∀ (i:Nat) (v:Value) (x:FV),vs[i]?=some v->args[i]?=some x->RF Any w v x) (l:∀ p,p∈gs->GlbR w p.1 p.2):
  Calls P f vs w fun e w'=>e = .returned (.bool true)/\RowKit.Below w.heap.size w w':=by
 rw [List.append_nil] at hp
 let SB:Nat->Prop:=fun b=>b<w.heap.size
 have n:∀ {v x},RF Any w v x->RF SB w v x:=fun h=>h.bound.mono fun b c=>c.2;refine (hp.2 SB SB w.heap.size ⟨fun _=>0,fun _ => .bool true⟩ SB w vs (by simpa using hs) (fun i v x hv m=>?_) ⟨fun id' o h=>?_,fun id1 id2 o o' b h d g=>?_,fun b h=>h,fun b h => .inl h,qu _,fun b h=>h⟩).mono ?_;simp only [qg,qs] at m;obtain ⟨y,hy,rfl⟩:=m;exact .fz (n (hr i v y hv hy))
 ·rw [kae] at h;split at h
  ·rename_i j;injection h with h;subst h j;refine ⟨qaa.2 rfl,⟨rfl,rfl,rfl,fun p hp=>?_⟩,fun b c=>by
    rcases c with c | ⟨u,hu,_⟩;cases c
    ·cases hu⟩
   exact ⟨(l p hp).lt,l p hp⟩
  ·cases h
 ·rw [kae] at h d;split at h
  ·split at d;rename_i p q;exact absurd (p.symm.trans q) g
   ·cases d
  ·cases h
 ·rintro e w' ⟨ψ',S',⟨v,rfl,hv⟩,k,a,_,_,hS,_⟩;rw [hv.atom];exact ⟨rfl,⟨a.os,a.tape,a.output,a.size,fun b c=>a.block b c⟩⟩
theorem kaay {S:Nat->Prop} {w:World} {v:Value} {n:Nat} {xs:List Int} (h:RF S w v (.lst 1 n (xs.map eI))) (d:∀ x∈xs,kio x):Ints Any w v xs:=by
 cases h with
 | @lst A cap size n ys css hn hc hm hs ha hl hr=>
  subst hn;refine ⟨A,cap,by simp,by simpa using hc,hm,fun i x hi=>?_⟩;have a:(xs.map eI)[i]?=some (eI x):=by rw [qg,hi];rfl
  obtain ⟨b,o,h1,g,e⟩:=ha i _ a;obtain ⟨c,j,k⟩:=hl i _ a;refine ⟨b,o,css i,h1,trivial,e,c,?_,d x (ql hi)⟩;obtain ⟨u,hu⟩:∃ u,css i=[u]:=by
   match f:css i,c with
   | [u],_=>exact ⟨u,rfl⟩
  have:=hr i _ 0 u (.atom (.int .i64 x)) a (by rw [hu];rfl) rfl;cases this;rw [hu]
def inI (x:Int):Bool:=decide (-9223372036854775808<=x) && decide (x<=9223372036854775807)
def keyB (r:Int) (xs:List Int):Option BA:=bif inI r && (Nat.ble xs.length 1000000 && xs.all inI) then some ⟨(keyL r xs).toArray⟩ else none
theorem n_key (f:FuncId) (ts:Array TypeId) (X Y:Operand) (r:Int) (n:Nat) (xs:List Int) (v:BA) (g m:Nat) (gs:List (Nat×Array Value)) (vs:Array Value) {nm:String} (h:keyB r xs=some v) (d:∀ (r:Int) (xs:List Int) (sv:Value) (w:World),Ints Any w sv xs -> -9223372036854775808<=r->r<=9223372036854775807->xs.length<=1000000->w.var? P nm=some vs->Calls P f #[.int .i64 r,sv] w fun e w'=>e = .returned (.string ⟨(keyL r xs).toArray⟩)/\RowKit.Below w.heap.size w w') (hf: ∃ fn, P.funcs[f]? = some fn /\ fn.body.isNone = false /\ (fn.name == "runtime.NumGoroutine") = false) (l: P.globalNamed nm = some g) (ho:o.op = .call { callee := .value (.func f),args:=#[X,Y],argTypes:=ts }) (i:st.eval X = .fz (.atom (.int .i64 r))) (hy:st.eval Y = .fz (.lst 1 n (xs.map eI))) (j:kaa st.heap id=some (.glb gs)) (hm:gs[m]?=some (g,vs)) (k:Nat.blt 0 vs.size=true):
  NStep P o st (.fz (.atom (.string v))):=by
 unfold keyB at h;cases hc:(inI r && (Nat.ble xs.length 1000000 && xs.all inI)) with
 | false=>rw [hc] at h;cases h
 | true=>
  rw [hc] at h;injection h with h;subst h;simp only [qo,inI,qa3,qk] at hc;obtain ⟨⟨h0,h1⟩,p,q⟩:=hc;intro ψ S a w ht s;have b:=Sim.eval_tmps ht X;rw [i] at b;have c:=Sim.eval_tmps ht Y;rw [hy] at c;unfold kbx;rw [kpo ho hf];have hi:Ints Any w (a.eval Y) xs:=kaay c.inv fun x i=>q x i;have:=d r xs _ w hi h0 h1 (by simpa using p) (kabs s j hm l (by simpa [Nat.blt_eq] using k));rw [show (#[X,Y].map a.eval)=#[.int .i64 r,a.eval Y] by simp [b.atom]];refine this.mono ?_;rintro e w' ⟨rfl,t⟩;exact ⟨_,rfl,Below.kit rfl t, .fz (.atom rfl)⟩
theorem kach (vs: Array Value) (hv: vs = (Lib.pow10Tab.map fun z => Value.int .u64 z).toArray := by kernel_rfl): ∀ (r : Int) (xs : List Int) (sv : Value) (w : World), Ints Any w sv xs -> -9223372036854775808 <= r -> r <= 9223372036854775807 -> xs.length <= 1000000 -> w.var? Tryz.prog "internal/strconv.uint64pow10" = some vs -> Calls Tryz.prog 123 #[.int .i64 r, sv] w fun e w' => e = .returned (.string ⟨(keyL r xs).toArray⟩) /\ RowKit.Below w.heap.size w w' :=
 fun r xs sv w h1 a b c d=>kaa0 r xs sv w h1 a b c (by unfold Lib.TabIs;rw [d,hv])
def DlP {σ α β:Type} (step:σ->Option ((List Int×(List Int->σ)) ⊕ α)) (K:α->Option β) (r:β):Nat->σ->Prop
 | 0,_=>False
 | n+1,s=>∃ x,step s=some x/\Sum.elim (fun p=>∀ τ:List Int,τ.Perm p.1->DlP step K r n (p.2 τ)) (fun v=>K v=some r) x
theorem k0g {σ α β:Type} {step:σ->Option ((List Int×(List Int->σ)) ⊕ α)} {K:α->Option β} {r r':β}:∀ (n:Nat) (s:σ),DlP step K r n s->DlP step K r' n s->r=r'
 | 0,_,h,_=>h.elim
 | n+1,s,⟨x,h1,b⟩,⟨y,c,a⟩=>by
  rw [h1] at c;cases c;cases x with
  | inl p=>exact k0g n _ (b p.1 (List.Perm.refl _)) (a p.1 (List.Perm.refl _))
  | inr v=>
   have b:K v=some r:=b;have a:K v=some r':=a;rw [b] at a;exact qy a
open Classical in
noncomputable def kub {σ α β:Type} (step:σ->Option ((List Int×(List Int->σ)) ⊕ α)) (n:Nat) (s:σ) (K:α->Option β):Option β:=
 if h:∃ r,DlP step K r n s then some (Classical.choose h) else none
theorem k4d {σ α β:Type} {step:σ->Option ((List Int×(List Int->σ)) ⊕ α)} {n:Nat} {s:σ} {K:α->Option β} {r:β} (h:kub step n s K=some r):DlP step K r n s:=by
 unfold kub at h;split at h;rename_i a;cases h;exact Classical.choose_spec a
 ·cases h
theorem k7l {σ α β:Type} {step:σ->Option ((List Int×(List Int->σ)) ⊕ α)} {n:Nat} {s:σ} (K:α->Option β) {r:β} (h:DlP step K r n s):kub step n s K=some r:=by unfold kub;rw [dif_pos ⟨r,h⟩];exact qah some (k0g n s (Classical.choose_spec (⟨r,h⟩:∃ r,DlP step K r n s)) h)
def ksy {α:Type} (rows:List (List Int)) (i:Int) (m:List (Int×α)):Option (List Int):=
 Option.bind (idx rows i) fun row=>bif Nat.ble ((row.length+m.length)*9) 140737488355328 then some row else none
theorem k2i {α:Type} {rows:List (List Int)} {i:Int} {m:List (Int×α)} {row:List Int} (h:ksy rows i m=some row):idx rows i=some row/\(row.length+m.length)*9<=140737488355328:=by
 unfold ksy at h;obtain ⟨x,h1,h⟩:=qc.1 h;cases a:Nat.ble ((x.length+m.length)*9) 140737488355328 with
 | false=>rw [a] at h;cases h
 | true=>
  rw [a] at h;cases h;exact ⟨h1,qi a⟩
def kd6 (rows:List (List Int)) (i:Int) (row:List Int):List Int->List (List Int)
 | []=>rows
 | k::l=>rows.set i.toNat (row++k::l)
theorem kl1 {rows:List (List Int)} {i:Int} {row:List Int} (h:idx rows i=some row) (ks:List Int):kd6 rows i row ks=rows.set i.toNat (row++ks):=by
 cases ks with
 | nil=>
  unfold idx at h;split at h;show rows=_;rw [List.append_nil];obtain ⟨h1,a⟩:=qd.1 h;rw [<- a,List.set_getElem_self]
  ·cases h
 | cons k l=>rfl
theorem k5f {rows:List (List Int)} {i:Int} {row:List Int} (h:idx rows i=some row) (ks:List Int):idx (kd6 rows i row ks) i=some (row++ks):=by
 rw [kl1 h];unfold idx at h ⊢;split at h;rename_i h0;rw [qt h0];obtain ⟨h1,a⟩:=qd.1 h;rw [qa5 h1]
 ·cases h
theorem k32 {rows:List (List Int)} {i:Int} {row:List Int} (h:idx rows i=some row) (ks:List Int) (k:Int):(kd6 rows i row ks).set i.toNat ((row++ks)++[k])=kd6 rows i row (ks++[k]):=by rw [kl1 h,kl1 h,List.set_set,qa0]
def kbg {α:Type} (m:List (Int×α)) (seen:List Nat):List Int:=seen.filterMap fun j=>(m[j]?).map (·.1)
theorem k2k {α:Type} {m:List (Int×α)} {seen:List Nat} {j:Nat} {p:Int×α} (h:m[j]?=some p):kbg m (seen++[j])=kbg m seen++[p.1]:=by unfold kbg;rw [List.filterMap_append];simp [h]
theorem k4c:∀ (n:Nat) (l:List Nat),l.Nodup->(∀ j,j∈l↔j<n)->l.Perm (List.range n):=fun n l h1 b=>by rw [List.perm_ext_iff_of_nodup h1 List.nodup_range];intro a;rw [qbl];exact b a
theorem k31 {α:Type} {m:List (Int×α)} {seen:List Nat} (hn:seen.Nodup) (hl:∀ j∈seen,j<m.length) (h0:khr seen m.length=[]):(kbg m seen).Perm (m.map (·.1)):=by
 have hp:seen.Perm (List.range m.length):=k4c _ _ hn fun j=>⟨hl j,fun b=>by
  by_cases h:j∈seen;exact h
  ·have:=(kig (i:=j) (n:=m.length) seen).2 ⟨b,h⟩;rw [h0] at this;cases this⟩
 have e:(List.range m.length).filterMap (fun j=>(m[j]?).map (·.1))=m.map (·.1):=by
  apply List.ext_getElem?;intro k;have hs:∀ (l:List Nat),(∀ j∈l,j<m.length)->l.filterMap (fun j=>(m[j]?).map (·.1))=l.map fun j=>((m[j]?).map (·.1)).getD 0:=by
   intro l
   induction l with
   | nil=>intro _;rfl
   | cons a l ih=>
    intro hl;have ha:=hl a (qn ..);rw [List.filterMap_cons,qa ha];simp only [qai,qao,qa ha,qa9];rw [ih fun j b=>hl j (qe _ b)]
  rw [hs _ fun j b=>qbl.1 b];by_cases hk:k<m.length;rw [qg,List.getElem?_range hk,qg,qa hk];simp [hk]
  ·rw [qaz (by simp;omega),qaz (by simp;omega)]
 rw [<- e];exact hp.filterMap _
def RngI {α:Type} (m:List (Int×α)) (s:List Nat):Prop:=s.Nodup/\∀ j∈s,j<m.length
theorem k62 {α:Type} (m:List (Int×α)):RngI m []:=⟨List.nodup_nil,fun _ h=>nomatch h⟩
theorem kqz:∀ (n:Nat) (s:List Nat),s.Nodup->(∀ j∈s,j<n)->s.length<=n
 | 0,[],_,_=>qu _
 | 0,a::s,_,h=>absurd (h a (qn ..)) (Nat.not_lt_zero _)
 | n+1,s,hn,h=>by
  by_cases hm:n∈s;have h1:=kqz n (s.erase n) (hn.erase n) fun j b=>(by have c:=(hn.mem_erase_iff).1 b;have:=h j c.2;have:=c.1;omega);rw [List.length_erase_of_mem hm] at h1;omega
  ·have:=kqz n s hn fun j b=>(by have:=h j b;have:j≠n:=fun e=>hm (e ▸ b);omega);omega
variable {α:Type} {m:List (Int×α)} {s:List Nat} {j:Nat} {enc:α->FV} {p:Int×FV}
theorem k5w (h:(kvI enc m)[j]?=some p):∃ q,m[j]?=some q/\p.1=q.1:=by
 unfold kvI at h;rw [qg] at h;cases a:m[j]? with
 | none=>rw [a] at h;cases h
 | some q=>rw [a] at h;cases h;exact ⟨q,rfl,rfl⟩
theorem kacy (h:(kvI enc m)[j]?=some p):j<m.length:=by obtain ⟨q,a,_⟩:=k5w h;exact (qd.1 a).1
theorem k09 (h:(kvI enc m)[j]?=some p):kbg m (s++[j])=kbg m s++[p.1]:=by obtain ⟨q,a,e⟩:=k5w h;rw [k2k a,e]
theorem k2e (a:RngI m s) (h0:khr s (kvI enc m).length=[]):(kbg m s).Perm (m.map fun p=>p.1):=by unfold kvI at h0;rw [qj] at h0;exact k31 a.1 a.2 h0
theorem kyn (c:RngI m s) (f:j∉s) (hp:(kvI enc m)[j]?=some p):RngI m (s++[j]):=by
 refine ⟨?_,fun k hk=>?_⟩;rw [List.nodup_append];exact ⟨c.1,by simp,fun a ha b d=>by rw [qaa] at d;subst d;exact fun e=>f (e ▸ ha)⟩
 ·rcases qab.1 hk with hk | hk;exact c.2 k hk
  ·rw [qaa] at hk;subst hk;exact kacy hp
theorem k6p (a:RngI m s) (b:j∉s) (hp:(kvI enc m)[j]?=some p):s.length+1<=m.length:=by have h:=kyn a b hp;have:=kqz _ _ h.1 h.2;simpa using this
theorem k8s (a:RngI m s) (b:j∉s) (hp:(kvI enc m)[j]?=some p):m.length - (s++[j]).length<m.length - s.length:=by have:=k6p a b hp;rw [qaf,qbf];omega
theorem k4t:(kbg m s).length<=s.length:=List.length_filterMap_le _ _
theorem k78 {row:List Int} (hl:(row.length+m.length)*9<=140737488355328) (a:RngI m s) (b:j∉s) (hp:(kvI enc m)[j]?=some p):((row++kbg m s).length+[p.1].length)*(8+1)<=140737488355328:=by have h1:=k6p a b hp;have c:=k4t (m:=m) (s:=s);rw [qaf,qbf];omega
section
variable {P:Program} {T:List (TypeId×TD)} {Q:Exit->St->Prop} {st:St} {ks:List Frm} [t:Tab P] {g:Cfg} {β:Type} {r:β}
theorem lend (k:Nat) (e:Exit) (a:Q e (stOf (crun P k g))) (hc:(nilK (crun P k g) && kma (crun P k g).foc e)=true:=by kernel_rfl):W P g Q:=by
 refine ka1 k ?_;generalize crun P k g=g' at *
 obtain ⟨foc,ks,st⟩:=g';simp only [qo] at hc;cases ks with
 | cons=>cases hc.1
 | nil=>
  obtain ⟨rfl,_⟩:=kre hc.2;exact W_fin a
theorem lpN {σ α:Type} {step:σ->Option ((List Int×(List Int->σ)) ⊕ α)} {n:Nat} {s0:σ} {K:α->Option β} (k:Nat) (H:σ->St) (Qb:α->Exit->St->Prop) (h:kub step n s0 K=some r) (hc:kky (crun P k g)=true) (h0:LeSt (stOf (crun P k g)) (H s0))
  (d:∀ s x,step s=some x->W P (kpr (kmi (crun P k g)) (H s)) (Sum.elim (fun p e st=>e = .normal/\∃ τ:List Int,τ.Perm p.1/\LeSt st (H (p.2 τ))) (fun v e st=>(e ≠ .normal/\e ≠ .outgrown)/\Qb v e st) x))
  (ha:∀ v,K v=some r->∀ e st',Qb v e st'->∃ st2,LeSt st' st2/\W P (unw e (ksOf (crun P k g)) st2) Q):W P g Q:=by
 have f:=k4d h;refine lpI (σ:=σ×Nat) k (fun p=>H p.1) (fun p=>DlP step K r p.2 p.1) (fun p=>p.2) (fun e st=>∃ v,K v=some r/\Qb v e st) (s0,n) f hc h0 (fun p hp=>?_) fun e st' a=>?_
 ·obtain ⟨s,m⟩:=p;cases m with
  | zero=>exact hp.elim
  | succ m=>
   obtain ⟨x,i,hr⟩:=hp;have:=d s x i;obtain ⟨c,b⟩:∃ c,kmi (crun P k g)=⟨.code c,[],(crun P k g).st⟩:=by
    unfold kky at hc;unfold kmi;split at hc;rename_i c hf;exact ⟨c,rfl⟩
    ·cases hc
   rw [b] at this ⊢;refine kab9 (kru (c:=c) (kab8 this) ?_)
   ·intro e st a;cases x with
    | inl q=>
     obtain ⟨j,τ,l,hl⟩:=a;exact .inl ⟨j,(q.2 τ,m),⟨hr τ l,Nat.lt_succ_self m⟩,hl⟩
    | inr v=>exact .inr ⟨a.1,v,hr,a.2⟩
 ·obtain ⟨v,hv,a⟩:=a;exact ha v hv e st' a
theorem nxI (k:Nat) (x:Operand) (id m stepped:Nat) (kv:List (Int×FV)) (seen:List Nat) (ho:(kiv (crun P k g)).op = .next x false) (e:(stOf (crun P k g)).eval x = .ref id 0 0) (a:kaa (stOf (crun P k g)).heap id=some (.xo (.mit m kv.length seen stepped))) (b:kaa (stOf (crun P k g)).heap m=some (.xo (.imap kv))) (d:kv.length<=stepped) (h0:khr seen kv.length=[]->W P (rsmA (.fz (.tup [.atom (.bool false)])) (stOf (crun P k g)).heap (stOf (crun P k g)).ids (crun P k g)) Q) (h1:∀ (j:Nat) (p:Int×FV),j∉seen->kv[j]?=some p->W P (rsmA (.tup [.fz (.atom (.bool true)), .fz (.atom (.int .i64 p.1)), .fz p.2]) ((id, .xo (.mit m kv.length (seen++[j]) kv.length))::(stOf (crun P k g)).heap) (stOf (crun P k g)).ids (crun P k g)) Q) (hv:okP (crun P k g)=true:=by kernel_rfl):W P g Q:=
 sstD k (k91 ho e a b d) hv fun c h i f=>by
  rcases f with ⟨e0,rfl,rfl,rfl⟩ | ⟨j,p,l,hp,rfl,rfl,rfl⟩;exact h0 e0
  ·exact h1 j p l hp
def op3 (n:Nat) (g:Cfg):Oper:=match g.foc with
 | .ops _ (a::b::c::_)=>match n with
  | 0=>a
  | 1=>b
  | _=>c
 | _=>default
def k80 (g:Cfg):Bool:=match g.foc with
 | .ops _ (_::_::_::_)=>true
 | _=>false
def kaco (f:St->St) (g:Cfg):Cfg:=match g.foc with
 | .ops os (_::_::_::l)=>⟨.ops os l,g.ks,f g.st⟩
 | _=>⟨.bad,g.ks,g.st⟩
theorem tapp {α:Type} (f:α->Value) (enc:α->FV) (k:Nat) (rows:List (List α)) (row zs:List α) (i:Int) (A B X Y:Operand) (g' m d1 d2 id:Nat) (ov:Value) (eo ei t2:TypeId) (d d2' di:TD) (ki:IntKind) (h:idx rows i=some row) (H:kac t.T eo=some d) (e:d.kind = .slice ei) (j:d.size=1) (l:kac t.T ei=some di) (b:di.size=1) (o:di.zero.length=1) (a:k80 (crun P k g)=true) (p:(op3 0 (crun P k g)).op = .call { callee := .builtin .append,args:=#[A,B],argTypes:=#[eo,eo] }) (q:(op3 0 (crun P k g)).dst=some d1) (r:(op3 1 (crun P k g)).op = .indexAddr t2 X Y) (s:(op3 1 (crun P k g)).dst=some d2) (u:kac t.T t2=some d2') (v:d2'.kind = .slice eo) (w:(op3 2 (crun P k g)).op = .store eo (.tmp d2) (.tmp d1)) (x:(op3 2 (crun P k g)).dst=none) (g1:(op3 0 (crun P k g)).guard=none) (g2:(op3 1 (crun P k g)).guard=none) (g3:(op3 2 (crun P k g)).guard=none) (z:(d1 == d2)=false) (C:Nat.blt d1 (stOf (crun P k g)).n=true) (D:Nat.blt d2 (stOf (crun P k g)).n=true) (hA:(stOf (crun P k g)).eval A = .irow id g' (i.toNat+1)) (I:(stOf (crun P k g)).eval B = .fz (.lst 1 m (zs.map enc))\/(stOf (crun P k g)).eval B = .lim 1 m (zs.map enc)) (hX:(stOf (crun P k g)).eval X = .fz (.atom ov)) (E:notT d1 X=true) (J:(stOf (crun P k g)).eval Y = .fz (.atom (.int ki i))) (F:notT d1 Y=true) (G:kaa (stOf (crun P k g)).heap id=some (.tab g' ov eo ei (rows.map (List.map f)))) (hf:∀ y,enc y = .atom (f y)/\(f y).oneCell'=true) (c:(row.length+zs.length)*(di.bytes+1)<=140737488355328) (hn:W P (kaco (fun st=>((tabG f id g' ov eo ei rows i.toNat (row++zs) st).put (some d1) .any).put (some d2) .any) (crun P k g)) Q):W P g Q:=by
 refine ka1 k ?_;generalize crun P k g=gg at *
 obtain ⟨foc,ks,st⟩:=gg;unfold k80 at a;simp only at a;split at a;exact W_ops (k7q h t.ok H e j l b o p q r s u v w x g1 g2 g3 (by simpa using z) (qi C) (qi D) hA I hX E J F G hf c (ops_W hn))
 ·cases a
end
variable [Dr]
theorem StepA.frz {n:Nat} {e:TypeId} {size:Nat} {xs:List FV} {h:List (Nat×AObj)} {i:List Nat} (hs:StepA P o st (.row id n) h i) (c:kaa h id=some (.frow e size xs)) (hn:n=xs.length):StepA P o st (.fz (.lst size n xs)) (kbd id h) i:=by
 subst hn;intro F S0 N0 ψ S a w hS;refine kim ?_ (hs F S0 N0 ψ S a w hS);rintro v w' ⟨ψ',S',h1,d,f,g,j,k,l⟩;have ho:=(h1.obj id _ c).2.1;refine ⟨ψ',_,kyo h1 c,?_,f,g,j,fun b m => .inl (k b m),l⟩;have hr:=k1q ho;have hl:=ho.1;cases d with
 | row hK p h1 hv=>rw [hv hl.symm];exact .fz hr
theorem kfu (t:TypeId) (d:TD) (id:Nat) {α:Type} (E:En α) (xs:List α) (x:α) (i:Int) (X:Operand) (n q:Nat) (e:TypeId) (ys:List FV) (h:idx xs i=some x) (L:TOk P T:=by exact kag) (J:Nat.ble (q+d.size) E.n=true:=by kernel_rfl) (hy:((E.cl x).drop q).take d.size=ys:=by kernel_rfl) (ho:o.op = .load t X:=by kernel_rfl) (C:kac T t=some d:=by kernel_rfl) (hk:d.kind.agg=true:=by kernel_rfl) (M:st.eval X = .ref id n (i.toNat*E.n+q):=by kernel_rfl) (F:kaa st.heap id=some (.frow e E.n (xs.map E.f)):=by kernel_rfl) (hn:n=xs.length:=by rfl):NStep P o st (.fz (.agg ys)):=by
 intro ψ S a w ht N;subst hn hy;have C:=L.get C;obtain ⟨h0,hi⟩:=kvi h;have J:q+d.size<=E.n:=qi J;have G:i.toNat<xs.length:=(qd.1 hi).1;have z:=Sim.eval_tmps ht X;rw [M] at z;obtain ⟨hl,_,cs,k,A,hr⟩:=N id _ F;rw [qj] at hl k;obtain ⟨g,cap,r⟩:=kvu k;have hp:a.eval X = .pointer (some ⟨g,i.toNat*E.n+q,none⟩):=by
  generalize a.eval X=u at z;cases z with
  | ref hK O h1 hv=>
   obtain ⟨b,H,rfl⟩:=hv hl.symm;rw [r] at H;simp only [kak,qb] at H;rw [H]
 have K:cs.length=xs.length*E.n:=k.1;have Q:i.toNat*E.n+E.n<=xs.length*E.n:=by have:(i.toNat+1)*E.n<=xs.length*E.n:=qbg _ G;rw [qbd,Nat.one_mul] at this;exact this
 have hcl:(E.cl x).length=E.n:=by have:=(A (E.f x) (qx.2 ⟨x,ql hi,rfl⟩)).1;rw [E.hcl] at this;exact this
 have I:∀ y∈E.cl x,y.single=true:=by have:=(A (E.f x) (qx.2 ⟨x,ql hi,rfl⟩)).2;rw [E.hcl] at this;exact this
 let cs':=(cs.drop (i.toNat*E.n+q)).take d.size
 have c:cs'.length=d.size:=by show ((cs.drop (i.toNat*E.n+q)).take d.size).length=_;rw [qak,qaw];omega
 have s:∀ (j:Nat) (v:Value),cs'[j]?=some v->j<d.size/\cs[i.toNat*E.n+q+j]?=some v:=fun j v D=>by
  have l:j<d.size:=by rw [<- c];exact (qd.1 D).1
  refine ⟨l,?_⟩;have B:((cs.drop (i.toNat*E.n+q)).take d.size)[j]?=some v:=D;rw [qv,qt l,qae] at B;exact B
 have m:=k;rw [r] at m;have p:=run_loadCells_list (P:=P) w ⟨g,i.toNat*E.n+q,none⟩ cs' fun j v D=>by obtain ⟨l,hc⟩:=s j v D;rw [ka3,World.ownsRow.cellAt m _ (show i.toNat*E.n+q+j<xs.length*E.n by omega),hc]
 rw [c] at p;refine kad w (.agg cs'.toArray) ?_ ⟨kaf _, .fz (.agg ?_ ?_ fun j v y hv hy=>?_)⟩;simp [execOp,ho,hp,Instr.loadAt,Instr.sureAddr,loadVar,C.isAgg,hk,C.size,p];rw [List.size_toArray,c,qak,qaw];omega;exact fun y hy=>I y (qbi (qa6 hy))
 ·rw [qbu] at hv;obtain ⟨l,hc⟩:=s j v hv;rw [qv,qt l,qae] at hy;rw [Nat.add_assoc] at hc;exact (hr i.toNat (E.f x) (q+j) v y (by rw [qg,hi];rfl) hc (by rw [E.hcl];exact hy)).mono fun _ h => .inl h
section
variable {P:Program} [t:Tab P] {g:Cfg} {Q:Exit->St->Prop} {β:Type} {r:β}
theorem hclZf {α:Type} {E:Option α} {K:α->Option β} {f:FuncId} {as_:List AV} {pre:List (Nat×AObj)} {ids0 ids1:List Nat} {res:α->AV} {post:α->List (Nat×AObj)} (k:Nat) (cs:List C1) (r1 r2:List (Nat×Nat)) (keys:List Nat) (id:Nat) (e:TypeId) (size:Nat) (n:α->Nat) (xs:α->List FV) (h:Option.bind E K=some r)
  (hp:∀ v,E=some v->kal P f as_ pre ids0 (.ret (res v)) (post v) ids1) (hc:∀ v,kw0 (hcOf cs r1 r2 keys ids0 ids1 (post v)) (crun P k g)=some (f,as_,pre)) (hi:idsZ (renI r2 ids1++(kg9 (crun P k g)).ids) (crun P k g)=true)
  (hr:∀ v,renA r2 (res v) = .row id (n v)) (a:∀ v,kaa (renH r2 (post v)++kfp (renI r2 ids0) (kg9 (crun P k g)).heap) id=some (.frow e size (xs v))) (hn:∀ v,n v=(xs v).length)
  (hk:∀ v,offZ (crun P k g) (kbd id (renH r2 (post v)++kfp (renI r2 ids0) (kg9 (crun P k g)).heap))=offZ (crun P k g) (hpZ (crun P k g)))
  (c:∀ v,K v=some r->W P (rsmZ (.fz (.lst size (n v) (xs v))) (kbd id (renH r2 (post v)++kfp (renI r2 ids0) (kg9 (crun P k g)).heap)) (renI r2 ids1++(kg9 (crun P k g)).ids) (crun P k g)) Q):W P g Q:=by
 obtain ⟨v,h1,d⟩:=qc.1 h;obtain ⟨b,i⟩:=kym (hc v);obtain ⟨x,args,ts,cap,as1,as2,e1,e2,e3,e4,rfl,e5,e6⟩:=kx3 i;have hs:=k1d r1 r2 e1 e2 (hp v h1) e3 e4 e5 e6;rw [hr v] at hs;exact zst k (hs.frz (a v) (hn v)) (c v d) (hv:=b) (hi:=hi) (hk:=(hk v))
end
end Go.Proofs.YtnlhjbnpjefjgabGreatDoor
set_option linter.all false
namespace Go.Proofs.YtnlhjbnpjefjgabGreatDoor
open Go Go.RowKit
def tt2:TD:=⟨1,8, .int .i64,[.int .i64 0]⟩
def tt3:TD:=⟨1,8, .int .i64,[.int .i64 0]⟩
def tt4:TD:=⟨1,1, .bool,[.bool false]⟩
def tt5:TD:=⟨1,1, .int .u8,[.int .u8 0]⟩
def tt9:TD:=⟨1,16, .str,[.string ⟨#[]⟩]⟩
def tt20:TD:=⟨1,16, .ifc,[.nilIface]⟩
def tt23:TD:=⟨1,24, .slice 3,[.slice none 0 0]⟩
def tt24:TD:=⟨1,24, .slice 62,[.slice none 0 0]⟩
def tt25:TD:=⟨1,24, .slice 33,[.slice none 0 0]⟩
def tt27:TD:=⟨4,88, .st [(9,0),(23,1),(24,2),(25,3)],[.string ⟨#[]⟩, .slice none 0 0, .slice none 0 0, .slice none 0 0]⟩
def tt29:TD:=⟨1,24, .slice 31,[.slice none 0 0]⟩
def tt31:TD:=⟨4,56, .st [(3,0),(2,1),(9,2),(29,3)],[.int .i64 0, .int .i64 0, .string ⟨#[]⟩, .slice none 0 0]⟩
def tt33:TD:=⟨9,120, .st [(3,0),(3,1),(3,2),(31,3),(9,7),(23,8)],[.int .i64 0, .int .i64 0, .int .i64 0, .int .i64 0, .int .i64 0, .string ⟨#[]⟩, .slice none 0 0, .string ⟨#[]⟩, .slice none 0 0]⟩
def tt34:TD:=⟨1,24, .slice 55,[.slice none 0 0]⟩
def tt36:TD:=⟨2,48, .st [(34,0),(23,1)],[.slice none 0 0, .slice none 0 0]⟩
def tt37:TD:=⟨1,8, .int .i64,[.int .i64 0]⟩
def tt41:TD:=⟨1,24, .slice 50,[.slice none 0 0]⟩
def tt46:TD:=⟨1,8, .fn,[.nilFunc]⟩
def tt50:TD:=⟨2,32, .st [(3,0),(41,1)],[.int .i64 0, .slice none 0 0]⟩
def tt53:TD:=⟨1,24, .slice 71,[.slice none 0 0]⟩
def tt55:TD:=⟨3,40, .st [(3,0),(3,1),(53,2)],[.int .i64 0, .int .i64 0, .slice none 0 0]⟩
def tt58:TD:=⟨1,8, .fn,[.nilFunc]⟩
def tt62:TD:=⟨2,24, .st [(9,0),(3,1)],[.string ⟨#[]⟩, .int .i64 0]⟩
def tt64:TD:=⟨1,24, .slice 23,[.slice none 0 0]⟩
def tt65:TD:=⟨1,24, .slice 23,[.slice none 0 0]⟩
def tt71:TD:=⟨2,32, .st [(3,0),(23,1)],[.int .i64 0, .slice none 0 0]⟩
def tt72:TD:=⟨1,8, .fn,[.nilFunc]⟩
def tt73:TD:=⟨1,24, .slice 4,[.slice none 0 0]⟩
def tt76:TD:=⟨1,8, .ptr 91,[.pointer none]⟩
def tt78:TD:=⟨1,8, .map 3 4,[.map none]⟩
def tt83:TD:=⟨1,24, .slice 2,[.slice none 0 0]⟩
def tt84:TD:=⟨1,24, .slice 83,[.slice none 0 0]⟩
def tt88:TD:=⟨1,8, .fn,[.nilFunc]⟩
def tt89:TD:=⟨1,8, .map 9 3,[.map none]⟩
def tt91:TD:=⟨4,80, .st [(89,0),(23,1),(64,2),(23,3)],[.map none, .slice none 0 0, .slice none 0 0, .slice none 0 0]⟩
def tt97:TD:=⟨1,24, .slice 3,[.slice none 0 0]⟩
def tt102:TD:=⟨1,8, .fn,[.nilFunc]⟩
def k4y:TD:=⟨1,8, .map 9 4,[.map none]⟩
def tt110:TD:=⟨1,8, .fn,[.nilFunc]⟩
def tt111:TD:=⟨1,8, .int .u64,[.int .u64 0]⟩
def tt116:TD:=⟨1,8, .ptr 158,[.pointer none]⟩
def tt119:TD:=⟨1,8, .fn,[.nilFunc]⟩
def tt120:TD:=⟨1,8, .fn,[.nilFunc]⟩
def k30:TD:=⟨1,8, .map 3 97,[.map none]⟩
def tt127:TD:=⟨1,8, .fn,[.nilFunc]⟩
def tt129:TD:=⟨1,8, .fn,[.nilFunc]⟩
def tt143:TD:=⟨3,48, .st [(9,0),(23,1),(3,2)],[.string ⟨#[]⟩, .slice none 0 0, .int .i64 0]⟩
def tt149:TD:=⟨1,4, .int .u32,[.int .u32 0]⟩
def tt152:TD:=⟨1,8, .int .u64,[.int .u64 0]⟩
def k4f:TD:=⟨1,8, .map 9 2,[.map none]⟩
def tt158:TD:=⟨5,96, .st [(27,0),(156,4)],[.string ⟨#[]⟩, .slice none 0 0, .slice none 0 0, .slice none 0 0, .map none]⟩
def tt162:TD:=⟨1,8, .int .i64,[.int .i64 0]⟩
def tt194:TD:=⟨4,64, .st [(143,0),(9,3)],[.string ⟨#[]⟩, .slice none 0 0, .int .i64 0, .string ⟨#[]⟩]⟩
def tt200:TD:=⟨1,8, .int .u64,[.int .u64 0]⟩
def tt204:TD:=⟨1,8, .ptr 3,[.pointer none]⟩
def k4o:TD:=⟨1,24, .slice 5,[.slice none 0 0]⟩
def tt212:TD:=⟨1,24, .slice 194,[.slice none 0 0]⟩
def tt220:TD:=⟨1,24, .slice 212,[.slice none 0 0]⟩
def tt223:TD:=⟨1,24, .slice 225,[.slice none 0 0]⟩
def tt225:TD:=⟨3,48, .arr 3 9,[.string ⟨#[]⟩, .string ⟨#[]⟩, .string ⟨#[]⟩]⟩
def tt229:TD:=⟨1,24, .slice 9,[.slice none 0 0]⟩
def tt233:TD:=⟨24,24, .arr 24 5,List.replicate 24 (.int .u8 0)⟩
def tt239:TD:=⟨20,160, .arr 20 152,List.replicate 20 (.int .u64 0)⟩
def tt243:TD:=⟨32,32, .arr 32 5,List.replicate 32 (.int .u8 0)⟩
def tt244:TD:=⟨64,64, .arr 64 5,List.replicate 64 (.int .u8 0)⟩
def TT:List (TypeId×TD):=[(2,tt2),(3,tt3),(4,tt4),(5,tt5),(9,tt9),(20,tt20),(23,tt23),(24,tt24),(25,tt25),(27,tt27),(29,tt29),(31,tt31),(33,tt33),(34,tt34),(36,tt36),(37,tt37),(41,tt41),(46,tt46),(50,tt50),(53,tt53),(55,tt55),(58,tt58),(62,tt62),(64,tt64),(65,tt65),(71,tt71),(72,tt72),(73,tt73),(76,tt76),(78,tt78),(83,tt83),(84,tt84),(88,tt88),(89,tt89),(91,tt91),(97,tt97),(102,tt102),(106,k4y),(110,tt110),(111,tt111),(116,tt116),(119,tt119),(120,tt120),(124,k30),(127,tt127),(129,tt129),(143,tt143),(149,tt149),(152,tt152),(156,k4f),(158,tt158),(162,tt162),(194,tt194),(200,tt200),(204,tt204),(206,k4o),(212,tt212),(220,tt220),(223,tt223),(225,tt225),(229,tt229),(233,tt233),(239,tt239),(243,tt243),(244,tt244)]
theorem kag:TOk Tryz.prog TT:=k58 (by kernel_rfl)
instance tabP:Tab Tryz.prog:=⟨TT,kag,by kernel_rfl⟩
def gt0:List Int:=[1,10,100,1000,10000,100000,1000000,10000000,100000000,1000000000,10000000000,100000000000,1000000000000,10000000000000,100000000000000,1000000000000000,10000000000000000,100000000000000000,1000000000000000000,10000000000000000000]
def gv0:Array Value:=#[.int .u64 1, .int .u64 10, .int .u64 100, .int .u64 1000, .int .u64 10000, .int .u64 100000, .int .u64 1000000, .int .u64 10000000, .int .u64 100000000, .int .u64 1000000000, .int .u64 10000000000, .int .u64 100000000000, .int .u64 1000000000000, .int .u64 10000000000000, .int .u64 100000000000000, .int .u64 1000000000000000, .int .u64 10000000000000000, .int .u64 100000000000000000, .int .u64 1000000000000000000, .int .u64 10000000000000000000]
def gt2:List Int:=[0,1,28,2,29,14,24,3,30,22,20,15,25,17,4,8,31,27,13,23,21,19,16,7,26,12,18,6,11,5,10,9]
def gv2:Array Value:=#[.int .u8 0, .int .u8 1, .int .u8 28, .int .u8 2, .int .u8 29, .int .u8 14, .int .u8 24, .int .u8 3, .int .u8 30, .int .u8 22, .int .u8 20, .int .u8 15, .int .u8 25, .int .u8 17, .int .u8 4, .int .u8 8, .int .u8 31, .int .u8 27, .int .u8 13, .int .u8 23, .int .u8 21, .int .u8 19, .int .u8 16, .int .u8 7, .int .u8 26, .int .u8 12, .int .u8 18, .int .u8 6, .int .u8 11, .int .u8 5, .int .u8 10, .int .u8 9]
def gt3:List Int:=[0,1,56,2,57,49,28,3,61,58,42,50,38,29,17,4,62,47,59,36,45,43,51,22,53,39,33,30,24,18,12,5,63,55,48,27,60,41,37,16,46,35,44,21,52,32,23,11,54,26,40,15,34,20,31,10,25,14,19,9,13,8,7,6]
def gv3:Array Value:=#[.int .u8 0, .int .u8 1, .int .u8 56, .int .u8 2, .int .u8 57, .int .u8 49, .int .u8 28, .int .u8 3, .int .u8 61, .int .u8 58, .int .u8 42, .int .u8 50, .int .u8 38, .int .u8 29, .int .u8 17, .int .u8 4, .int .u8 62, .int .u8 47, .int .u8 59, .int .u8 36, .int .u8 45, .int .u8 43, .int .u8 51, .int .u8 22, .int .u8 53, .int .u8 39, .int .u8 33, .int .u8 30, .int .u8 24, .int .u8 18, .int .u8 12, .int .u8 5, .int .u8 63, .int .u8 55, .int .u8 48, .int .u8 27, .int .u8 60, .int .u8 41, .int .u8 37, .int .u8 16, .int .u8 46, .int .u8 35, .int .u8 44, .int .u8 21, .int .u8 52, .int .u8 32, .int .u8 23, .int .u8 11, .int .u8 54, .int .u8 26, .int .u8 40, .int .u8 15, .int .u8 34, .int .u8 20, .int .u8 31, .int .u8 10, .int .u8 25, .int .u8 14, .int .u8 19, .int .u8 9, .int .u8 13, .int .u8 8, .int .u8 7, .int .u8 6]
def GV:List (Nat×Array Value):=[(0,gv0),(2,gv2),(3,gv3),(1,#[])]
end Go.Proofs.YtnlhjbnpjefjgabGreatDoor
