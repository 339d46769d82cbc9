import Derived.Test.YtjnjipmjkkhdpaaGreatDoorOpr
import Derived.Test.YtjnjipmjkkhdpaaGreatDoorMach
import Derived.Lib.ItoaNum
import Derived.Sort.Grow
import Derived.Deep.Draws
import Derived.Lib.ConvBytes
import Derived.Lib.AtoiErrMem
import Derived.RangeFuncNested
import Derived.Test.YtjnjipmjkkhdpaaGreatDoorXg
import Derived.Test.YtjnjipmjkkhdpaaGreatDoorSim
import Derived.Test.YtjnjipmjkkhdpaaGreatDoorXj
import Derived.Test.YtjnjipmjkkhdpaaGreatDoorProg
set_option linter.all false
set_option linter.unusedSectionVars false
namespace Go.Proofs.YtjnjipmjkkhdpaaGreatDoor
open Go Go.RowKit Go.Proofs.Tryz
variable [Dr]
def kxl {α:Type} (xs ys:List α):Option Unit:=if xs.length=ys.length then some () else none
theorem k2c {α:Type} {xs ys:List α} {u:Unit} (h:kxl xs ys=some u):xs.length=ys.length:=by
 unfold kxl at h;split at h
 ·assumption
 ·cases h
structure En (α:Type) where
 f:α->FV
 n:Nat
 cl:α->List FV
 hcl:∀ x,(f x).cells=cl x
 hn:∀ x,(f x).cells.length=n
def nB:En Bool:=⟨eB,1,fun x=>[eB x],fun _=>rfl,fun _=>rfl⟩
def nI:En Int:=⟨eI,1,fun x=>[eI x],fun _=>rfl,fun _=>rfl⟩
def nS:En BA:=⟨eS,1,fun x=>[eS x],fun _=>rfl,fun _=>rfl⟩
def nU8:En Int:=⟨eU8,1,fun x=>[eU8 x],fun _=>rfl,fun _=>rfl⟩
def nL {α:Type} (s:Nat) (E:En α):En (List α):=⟨eL s E.f,1,fun x=>[eL s E.f x],fun _=>rfl,fun _=>rfl⟩
def nVaR:En Va:=⟨eVaR,4,fun x=>(eVa x).cells,k2v,k5u⟩
def nTmR:En Tm:=⟨eTmR,2,fun x=>(eTm x).cells,kmd,k6a⟩
def nSy:En Sy:=⟨eSy,2,fun x=>(eSy x).cells,fun _=>rfl,fun _=>rfl⟩
def nRu:En Ru:=⟨eRu,9,fun x=>(eRu x).cells,fun _=>rfl,fun _=>rfl⟩
def ko4 {γ:Type} (f:Oper->St->Option γ) (g:Cfg):Option γ:=match knh g with
 | some p=>f p.1 p.2
 | none=>none
section
variable {P:Program} [t:Tab P] {Q:Exit->St->Prop} {g:Cfg} {β:Type} {r:β}
theorem vst [Rd] {γ:Type} {f:Oper->St->Option γ} {z:γ} {c:AV} (k:Nat) (hc:ko4 f (crun P k g)=some z) (hn:∀ o v,f o v=some z->NStep P o v c) (h:W P (rsm c (crun P k g)) Q):W P g Q:=by
 refine ka0 k ?_;unfold ko4 at hc;split at hc;rename_i p hp;exact kyu hp (hn _ _ hc) h
 ·cases hc
def ixOf (T:List (TypeId×TD)) (o:Oper) (st:St):Option (Nat×List FV×Int):=match o.op with
 | .indexAddr t x y=>match kac T t with
  | some d=>match d.kind,kjf (st.eval x),st.eval y with
   | .slice e,some xs, .fz (.atom (.int _ i))=>match kac T e with
    | some de=>some (de.size,xs,i)
    | none=>none
   | _,_,_=>none
  | none=>none
 | _=>none
theorem ix [Rd] {α:Type} {ys:List α} {i:Int} {K:α->Option β} (E:En α) (k:Nat) (h:Option.bind (idx ys i) K=some r) (c:∀ v,K v=some r->W P (rsm (.fz (.fp (E.cl v))) (crun P k g)) Q) (hc:ko4 (ixOf t.T) (crun P k g)=some (E.n,ys.map E.f,i):=by kernel_rfl):W P g Q:=by
 obtain ⟨v,h1,j⟩:=qi.1 h;refine vst k hc (fun o st a=>?_) (c v j);unfold ixOf at a;split at a
 ·rename_i tt x y l;split at a
  ·rename_i d hd;split at a
   ·rename_i e xs k' i' hk hx hy;split at a;rename_i de b;simp only [qc,qp] at a;obtain ⟨z1,z2,z3⟩:=a;subst z2 z3;exact k8m E.f h1 t.ok l hd hk b hx (fun x=>by rw [E.hn,z1]) hy (E.hcl v)
    ·cases a
   ·cases a
  ·cases a
 ·cases a
def byOf (T:List (TypeId×TD)) (o:Oper) (st:St):Option (BA×Int):=match o.op with
 | .index t x y=>match kac T t with
  | some d=>match d.kind,st.eval x,st.eval y with
   | .str, .fz (.atom (.string s)), .fz (.atom (.int _ i))=>some (s,i)
   | _,_,_=>none
  | none=>none
 | _=>none
theorem byx [Rd] {s:BA} {i:Int} {K:Int->Option β} (k:Nat) (h:Option.bind (byt s i) K=some r) (b:∀ v,K v=some r->W P (rsm (.fz (eU8 v)) (crun P k g)) Q) (hc:ko4 (byOf t.T) (crun P k g)=some (s,i):=by kernel_rfl):W P g Q:=by
 obtain ⟨v,h1,c⟩:=qi.1 h;refine vst k hc (fun o st a=>?_) (b v c);unfold byOf at a;split at a
 ·rename_i tt x y e;split at a
  ·rename_i d hd;split at a;rename_i s' k' i' hk hx hy;simp only [qc,qp] at a;obtain ⟨rfl,rfl⟩:=a;exact kab0 h1 t.ok e hd hk hx hy
   ·cases a
  ·cases a
 ·cases a
def tyCs (T:List (TypeId×TD)):Nat->TypeId->List C0
 | 0,_=>[]
 | n+1,t=>match kac T t with
  | some d=>match d.kind with
   | .slice e=>match kac T e with
    | some de=>[.sl de.size]
    | none=>[.keep]
   | .st fs=>fs.flatMap fun p=>tyCs T n p.1
   | .arr m e=>(List.replicate m e).flatMap fun e=>tyCs T n e
   | _=>[.keep]
  | none=>[.keep]
def tyC (T:List (TypeId×TD)) (t:TypeId):C1:=match kac T t with
 | some d=>match d.kind with
  | .slice e=>match kac T e with
   | some de => .one (.sl de.size)
   | none => .one .keep
  | .st _ => .ag (tyCs T 9 t)
  | .arr _ _ => .ag (tyCs T 9 t)
  | _ => .one .keep
 | none => .one .keep
def clOf (T:List (TypeId×TD)) (o:Oper) (st:St):Option (FuncId×List FV):=match o.op with
 | .call c=>match c.callee with
  | .value (.func f)=>match kmy st (c.argTypes.toList.map (tyC T)) c.args.toList with
   | some ys=>some (f,ys)
   | none=>none
  | _=>none
 | _=>none
theorem cl [Rd] {α:Type} {E:Option α} {K:α->Option β} {f:FuncId} {ys:List FV} {y:α->FV} (k:Nat) (h:Option.bind E K=some r) (hp:∀ v,E=some v->PCall P f ys (y v)) (d:∀ v,K v=some r->W P (rsm (.fz (y v)) (crun P k g)) Q) (hc:ko4 (clOf t.T) (crun P k g)=some (f,ys):=by kernel_rfl):W P g Q:=by
 obtain ⟨v,h1,e⟩:=qi.1 h;refine vst k hc (fun o st a=>?_) (d v e);unfold clOf at a;split at a
 ·rename_i c i;split at a
  ·rename_i f' b;split at a;rename_i ys' hy;simp only [qc,qp] at a;obtain ⟨rfl,rfl⟩:=a;obtain ⟨cc,as_,ts⟩:=c;simp only at b;subst b;exact k5a i hy (hp v h1)
   ·cases a
  ·cases a
 ·cases a
def hcOf (cs:List C1) (r1 r2:List (Nat×Nat)) (keys ids0 ids1:List Nat) (post:List (Nat×AObj)) (o:Oper) (st:St):Option (FuncId×List AV×List (Nat×AObj)):=match o.op with
 | .call c=>match c.callee with
  | .value x=>match fnOf c.args.size (st.eval x) with
   | some (f,cap)=>match klf st r1 (renI r2 ids0) cs c.args.toList,kkj r1 (renI r2 ids0) cap,preX st r1 r2 (renI r2 ids0) keys with
    | some as1,some as2,some pre=>bif kid st r1 r2 keys ids0 ids1 post then some (f,as1++as2,pre) else none
    | _,_,_=>none
   | _=>none
  | _=>none
 | _=>none
theorem hcl [Rd] {α:Type} {E:Option α} {K:α->Option β} {f:FuncId} {as_:List AV} {pre:List (Nat×AObj)} {ids0 ids1:List Nat} {res:α->AV} {post:α->List (Nat×AObj)} (k:Nat) (cs:List C1) (r1 r2:List (Nat×Nat)) (keys:List Nat) (h:Option.bind E K=some r)
  (hp:∀ v,E=some v->HCall P f as_ pre ids0 (.ret (res v)) (post v) ids1) (hc:∀ v,kpk (hcOf cs r1 r2 keys ids0 ids1 (post v)) (crun P k g)=some (f,as_,pre))
  (e:∀ v,K v=some r->W P (rsmA (renA r2 (res v)) (renH r2 (post v)++kf2 (renI r2 ids0) (stOf (crun P k g)).heap) (renI r2 ids1++(stOf (crun P k g)).ids) (crun P k g)) Q):W P g Q:=by
 obtain ⟨v,h1,i⟩:=qi.1 h;obtain ⟨hk,a⟩:=ksy (hc v);refine sst k ?_ (e v i) (hv:=hk);unfold hcOf at a;split at a
 ·rename_i c j;split at a
  ·rename_i x hx;split at a
   ·rename_i f' cap b;split at a
    ·rename_i as1 as2 pre' e1 e2 e3;cases d:kid (stOf (crun P k g)) r1 r2 keys ids0 ids1 (post v) with
     | false=>rw [d] at a;cases a
     | true=>
      rw [d] at a;simp only [qg,qc,qp] at a;obtain ⟨rfl,rfl,rfl⟩:=a;obtain ⟨cc,as_,ts⟩:=c;simp only at hx;subst hx;exact k4m r1 r2 j b (hp v h1) e1 e2 d e3
    ·cases a
   ·cases a
  ·cases a
 ·cases a
theorem k1k {cs:List C1} {r1 r2:List (Nat×Nat)} {keys ids0 ids1:List Nat} {post:List (Nat×AObj)} {o:Oper} {st:St} {f:FuncId} {as_:List AV} {pre:List (Nat×AObj)} (a:hcOf cs r1 r2 keys ids0 ids1 post o st=some (f,as_,pre)):
  ∃ x args ts cap as1 as2,o.op = .call { callee := .value x,args:=args,argTypes:=ts }/\fnOf args.size (st.eval x)=some (f,cap)/\klf st r1 (renI r2 ids0) cs args.toList=some as1/\kkj r1 (renI r2 ids0) cap=some as2/\as_=as1++as2/\kid st r1 r2 keys ids0 ids1 post=true/\preX st r1 r2 (renI r2 ids0) keys=some pre:=by
 unfold hcOf at a;split at a
 ·rename_i c e;split at a
  ·rename_i x hx;split at a
   ·rename_i f' cap b;split at a
    ·rename_i as1 as2 pre' e1 e2 e3;cases d:kid st r1 r2 keys ids0 ids1 post with
     | false=>rw [d] at a;cases a
     | true=>
      rw [d] at a;simp only [qg,qc,qp] at a;obtain ⟨rfl,rfl,rfl⟩:=a;obtain ⟨cc,as_,ts⟩:=c;simp only at hx;subst hx;exact ⟨x,as_,ts,cap,as1,as2,e,b,e1,e2,rfl,rfl,e3⟩
    ·cases a
   ·cases a
  ·cases a
 ·cases a
theorem hclS [Rd] {α α':Type} {E:Option (α ⊕ α')} {K1:α->Option β} {K2:α'->Option β} {f:FuncId} {as_:List AV} {pre:List (Nat×AObj)} {ids0 ids1 ids2:List Nat} {res:α->AV} {post:α->List (Nat×AObj)} {pv:α'->Value} {post2:α'->List (Nat×AObj)} (k:Nat) (cs:List C1) (r1 r2:List (Nat×Nat)) (keys:List Nat) (h:Option.bind E (fun v=>Sum.elim K1 K2 v)=some r) (hp:∀ v,E=some v->Sum.elim (fun v=>HCall P f as_ pre ids0 (.ret (res v)) (post v) ids1) (fun v=>HCall P f as_ pre ids0 (.pan (pv v)) (post2 v) ids2) v) (a:∀ v,K2 v=some r->W P ⟨.fin (.panic [pnE (pv v)]),[],{ stOf (crun P k g) with heap:=renH r2 (post2 v)++kf2 (renI r2 ids0) (stOf (crun P k g)).heap,ids:=renI r2 ids2++(stOf (crun P k g)).ids }⟩ Q) (c:∀ v,K1 v=some r->W P (rsmA (renA r2 (res v)) (renH r2 (post v)++kf2 (renI r2 ids0) (stOf (crun P k g)).heap) (renI r2 ids1++(stOf (crun P k g)).ids) (crun P k g)) Q) (hc:∀ v,kpk (hcOf cs r1 r2 keys ids0 ids1 (post v)) (crun P k g)=some (f,as_,pre):=by intro _;kernel_rfl) (hc2:∀ v,kpk (hcOf cs r1 r2 keys ids0 ids2 (post2 v)) (crun P k g)=some (f,as_,pre):=by intro _;kernel_rfl):W P g Q:=by
 obtain ⟨v,h1,b⟩:=qi.1 h;have hp:=hp v h1;cases v with
 | inl v=>exact hcl k cs r1 r2 keys (E:=some v) (K:=fun v=>K1 v) b (res:=res) (post:=post) (fun v' hv=>by injection hv with hv;subst hv;exact hp) hc c
 | inr v=>
  obtain ⟨hk,d⟩:=ksy (hc2 v);obtain ⟨x,args,ts,cap,as1,as2,e1,e2,e3,e4,rfl,e5,e6⟩:=k1k d;exact hpan k r1 r2 hk e1 e2 hp e3 e4 e5 e6 (a v b)
structure ApR where
 id:Nat
 e:TypeId
 size:Nat
 bytes:Nat
 n:Nat
 xs:List FV
 ys:List FV
def k2f (size:Nat):AV->Option (List FV)
 | .fz (.lst s _ ys)=>bif Nat.beq s size then some ys else none
 | .lim s _ ys=>bif Nat.beq s size then some ys else none
 | _=>none
theorem k5p {size:Nat} {x:AV} {ys:List FV} (h:k2f size x=some ys):∃ m,x = .fz (.lst size m ys)\/x = .lim size m ys:=by
 unfold k2f at h;split at h
 ·rename_i s m zs;cases a:Nat.beq s size with
  | false=>rw [a] at h;cases h
  | true=>
   rw [a] at h;obtain rfl:=qe a;obtain rfl:=qu h;exact ⟨m, .inl rfl⟩
 ·rename_i s m zs;cases a:Nat.beq s size with
  | false=>rw [a] at h;cases h
  | true=>
   rw [a] at h;obtain rfl:=qe a;obtain rfl:=qu h;exact ⟨m, .inr rfl⟩
 ·cases h
def apOf (T:List (TypeId×TD)) (o:Oper) (st:St):Option ApR:=match o.op with
 | .call c=>match c.callee,c.args.toList,c.argTypes.toList with
  | .builtin .append,[X,Y],[t,u]=>bif Nat.beq u t then (match kac T t with
   | some d=>match d.kind,st.eval X with
    | .slice e, .row id n=>match kac T e,kaa st.heap id with
     | some de,some (.frow e' s xs)=>match k2f de.size (st.eval Y) with
      | some ys=>bif Nat.beq e' e && (Nat.beq s de.size && (Nat.ble 1 de.size && Nat.beq de.zero.length de.size)) then some ⟨id,e,de.size,de.bytes,n,xs,ys⟩ else none
      | none=>none
     | _,_=>none
    | _,_=>none
   | none=>none) else none
  | _,_,_=>none
 | _=>none
theorem k0h {α:Type} {E:En α} {xs ys v:List α} {o:Oper} {st:St} {q:ApR} (a:apOf t.T o st=some q) (h:app q.bytes xs ys=some v) (hn:q.n=xs.length) (hx:q.xs=xs.map E.f) (hy:q.ys=ys.map E.f):
  ∃ (X Y:Operand) (ty:TypeId) (d de:TD) (m:Nat),o.op = .call { callee := .builtin .append,args:=#[X,Y],argTypes:=#[ty,ty] }/\kac t.T ty=some d/\d.kind = .slice q.e/\kac t.T q.e=some de/\de.size=q.size/\Nat.ble 1 de.size=true/\de.zero.length=de.size/\de.bytes=q.bytes /\
   st.eval X = .row q.id xs.length/\kaa st.heap q.id=some (.frow q.e de.size (xs.map E.f))/\(st.eval Y = .fz (.lst de.size m (ys.map E.f))\/st.eval Y = .lim de.size m (ys.map E.f)):=by
 unfold apOf at a;split at a
 ·rename_i c k;split at a
  ·rename_i X Y ty u h1 l p;cases g:Nat.beq u ty with
   | false=>rw [g] at a;cases a
   | true=>
    rw [g] at a;obtain rfl:=qe g;simp only [qg] at a;split at a
    ·rename_i d hd;split at a
     ·rename_i e id n hk r;split at a
      ·rename_i de e' s xs' i j;split at a
       ·rename_i ys' w;cases b:(Nat.beq e' e && (Nat.beq s de.size && (Nat.ble 1 de.size && Nat.beq de.zero.length de.size))) with
        | false=>rw [b] at a;cases a
        | true=>
         rw [b] at a;obtain rfl:=qu a;simp only [qk] at b;obtain ⟨b1,b2,b3,b4⟩:=b;obtain rfl:=qe b1;obtain rfl:=qe b2;simp only at hn hx hy;subst hn hx hy;obtain ⟨m,hm⟩:=k5p w;obtain ⟨cc,as_,ts⟩:=c;simp only at h1 l p;rw [h1,kn7 l,kn7 p] at k;exact ⟨X,Y,_,d,de,m,k,hd,hk,i,rfl,b3,qe b4,rfl,r,j,hm⟩
       ·cases a
      ·cases a
     ·cases a
    ·cases a
  ·cases a
 ·cases a
def apK (q:Option ApR):Option (Nat×Nat×List FV×List FV):=match q with
 | some q=>some (q.bytes,q.n,q.xs,q.ys)
 | none=>none
def apG {α:Type} (T:List (TypeId×TD)) (E:En α) (v:List α) (g:Cfg):Cfg:=match kpk (apOf T) g with
 | some q=>rsmA (.row q.id v.length) ((q.id, .frow q.e q.size (v.map E.f))::(stOf g).heap) (stOf g).ids g
 | none=>⟨.bad,g.ks,g.st⟩
theorem ap [Rd] {α:Type} {bytes:Nat} {xs ys:List α} {K:List α->Option β} (E:En α) (k:Nat) (h:Option.bind (app bytes xs ys) K=some r) (a:∀ v,K v=some r->W P (apG t.T E v (crun P k g)) Q) (hc:apK (kpk (apOf t.T) (crun P k g))=some (bytes,xs.length,xs.map E.f,ys.map E.f):=by kernel_rfl):W P g Q:=by
 obtain ⟨v,h1,c⟩:=qi.1 h;have a:=a v c;unfold apK at hc;split at hc;rename_i q b;simp only [qc,qp] at hc;obtain ⟨rfl,e1,e2,e3⟩:=hc;unfold apG at a;rw [b] at a;obtain ⟨hk,e⟩:=ksy b;refine sst k ?_ a (hv:=hk);obtain ⟨X,Y,ty,d,de,m,k1,k2,k3,k4,k5,k6,k7,k8,k9,k10,k11⟩:=k0h e h1 e1 e2 e3;rw [<- k5];exact kyc E.f h1 t.ok k1 k2 k3 k4 k6 k7 k8 k9 k10 rfl k11
 ·cases hc
def kor {γ:Type} (f:Oper->St->Option γ) (g:Cfg):Option γ:=bif okZ g then f (kkf g) (ki6 g) else none
theorem kwa {γ:Type} {f:Oper->St->Option γ} {z:γ} {g:Cfg} (h:kor f g=some z):okZ g=true/\f (kkf g) (ki6 g)=some z:=by
 unfold kor at h;cases hk:okZ g with
 | false=>rw [hk] at h;cases h
 | true=>rw [hk] at h;exact ⟨rfl,h⟩
def apZh {α:Type} (T:List (TypeId×TD)) (E:En α) (v:List α) (g:Cfg):List (Nat×AObj):=match kor (apOf T) g with
 | some q=>(q.id, .frow q.e q.size (v.map E.f))::(ki6 g).heap
 | none=>[]
def apGZ {α:Type} (T:List (TypeId×TD)) (E:En α) (v:List α) (g:Cfg):Cfg:=match kor (apOf T) g with
 | some q=>rsmZ (.row q.id v.length) (apZh T E v g) (ki6 g).ids g
 | none=>⟨.bad,g.ks,g.st⟩
theorem apZ [Rd] {α:Type} {bytes:Nat} {xs ys:List α} {K:List α->Option β} (E:En α) (k:Nat) (h:Option.bind (app bytes xs ys) K=some r) (a:∀ v,K v=some r->W P (apGZ t.T E v (crun P k g)) Q) (hc:apK (kor (apOf t.T) (crun P k g))=some (bytes,xs.length,xs.map E.f,ys.map E.f):=by kernel_rfl) (hi:idsZ (ki6 (crun P k g)).ids (crun P k g)=true:=by kernel_rfl) (hk:∀ v,offZ (crun P k g) (apZh t.T E v (crun P k g))=offZ (crun P k g) (hpZ (crun P k g)):=by intro _;kernel_rfl):W P g Q:=by
 obtain ⟨v,h1,e⟩:=qi.1 h;have a:=a v e;have hk:=hk v;unfold apK at hc;split at hc;rename_i q b;simp only [qc,qp] at hc;obtain ⟨rfl,e1,e2,e3⟩:=hc;unfold apGZ at a;rw [b] at a;obtain ⟨c,i⟩:=kwa b;refine zst k ?_ c hi hk a;obtain ⟨X,Y,ty,d,de,m,k1,k2,k3,k4,k5,k6,k7,k8,k9,k10,k11⟩:=k0h i h1 e1 e2 e3;unfold apZh;rw [b];simp only;rw [<- k5];exact kyc E.f h1 t.ok k1 k2 k3 k4 k6 k7 k8 k9 k10 rfl k11
 ·cases hc
theorem hclZ [Rd] {α:Type} {E:Option α} {K:α->Option β} {f:FuncId} {as_:List AV} {pre:List (Nat×AObj)} {ids0 ids1:List Nat} {res:α->AV} {post:α->List (Nat×AObj)} (k:Nat) (cs:List C1) (r1 r2:List (Nat×Nat)) (keys:List Nat) (h:Option.bind E K=some r) (hp:∀ v,E=some v->HCall P f as_ pre ids0 (.ret (res v)) (post v) ids1) (b:∀ v,K v=some r->W P (rsmZ (renA r2 (res v)) (renH r2 (post v)++kf2 (renI r2 ids0) (ki6 (crun P k g)).heap) (renI r2 ids1++(ki6 (crun P k g)).ids) (crun P k g)) Q) (hc:∀ v,kor (hcOf cs r1 r2 keys ids0 ids1 (post v)) (crun P k g)=some (f,as_,pre):=by intro _;kernel_rfl) (hi:idsZ (renI r2 ids1++(ki6 (crun P k g)).ids) (crun P k g)=true:=by kernel_rfl) (hk:∀ v,offZ (crun P k g) (renH r2 (post v)++kf2 (renI r2 ids0) (ki6 (crun P k g)).heap)=offZ (crun P k g) (hpZ (crun P k g)):=by intro _;kernel_rfl):W P g Q:=by
 obtain ⟨v,h1,c⟩:=qi.1 h;obtain ⟨a,d⟩:=kwa (hc v);obtain ⟨x,args,ts,cap,as1,as2,e1,e2,e3,e4,rfl,e5,e6⟩:=k1k d;exact zst k (k4m r1 r2 e1 e2 (hp v h1) e3 e4 e5 e6) a hi (hk v) (b v c)
theorem clL [Rd] {α:Type} {E:Option α} {K:α->Option β} {f:FuncId} {ys:List FV} {y:α->FV} (k:Nat) (ls:List LendI) (h:Option.bind E K=some r) (hp:∀ v,E=some v->PCall P f ys (y v)) (hl:∀ l∈ls,l.ok (kxd (crun P k g)))
  (hc:ko4 (fun o st=>clOf t.T o (k73 ls st)) (crun P k g)=some (f,ys)) (ha:∀ v,k7b (y v)=true) (a:∀ v,K v=some r->W P (rsm (.fz (y v)) (crun P k g)) Q):W P g Q:=by
 obtain ⟨v,h1,d⟩:=qi.1 h;refine ka0 k ?_;have a:=a v d;generalize crun P k g=g' at *
 unfold ko4 at hc;split at hc
 ·rename_i p hv;obtain ⟨o,st⟩:=p;obtain ⟨e1,e2⟩:=kyh hv;rw [e2] at hl;refine kyu hv (kaaz ls hl ?_ (ha v)) a;unfold clOf at hc;simp only at hc;split at hc
  ·rename_i c e;split at hc
   ·rename_i f' b;split at hc;rename_i ys' hy;simp only [qc,qp] at hc;obtain ⟨rfl,rfl⟩:=hc;obtain ⟨cc,as_,ts⟩:=c;simp only at b;subst b;exact k5a e hy (hp v h1)
    ·cases hc
   ·cases hc
  ·cases hc
 ·cases hc
end
end Go.Proofs.YtjnjipmjkkhdpaaGreatDoor
set_option linter.all false
set_option linter.unusedSectionVars false
namespace Go.Proofs.YtjnjipmjkkhdpaaGreatDoor
open Go Go.RowKit Go.Proofs.Tryz
variable [Dr]
variable {P:Program} {F S0:Nat->Prop} {N0:Nat} {w w':World} {S S':Nat->Prop} {ψ:Env} {K:Nat->Prop} {T:List (TypeId×TD)} {o:Oper} {a:Act} {st:St} {t:TypeId} {d:TD} {id:Nat}
theorem ktf {v:Value} {e:TypeId} {size n:Nat} {cs:List Value} (h:w.ownsRow 0 e size v n cs) (hn:0<n:=by omega):∃ g cap,v = .slice (some ⟨g,0,none⟩) n cap:=by
 rcases h.2 with ⟨_,h0⟩ | ⟨g,cap,cur,hv,_⟩;omega
 ·exact ⟨g,cap,hv⟩
theorem kke (t:TypeId) (d:TD) (id:Nat) {α:Type} (E:En α) (xs:List α) {x:α} {i:Int} (X Y:Operand) (e:TypeId) (de:TD) (k:IntKind) (n:Nat) (h:idx xs i=some x) (r:TOk P T:=by exact kao) (s:o.op = .indexAddr t X Y:=by kernel_rfl) (hd:kac T t=some d:=by kernel_rfl) (hk:d.kind = .slice e:=by kernel_rfl) (l:kac T e=some de:=by kernel_rfl) (y:de.size=E.n:=by kernel_rfl) (hx:st.eval X = .row id n:=by kernel_rfl) (q:kaa st.heap id=some (.frow e E.n (xs.map E.f)):=by kernel_rfl) (hn:n=xs.length:=by rfl) (hy:st.eval Y = .fz (.atom (.int k i)):=by kernel_rfl):NStep P o st (.ref id n (i.toNat*E.n+0)):=by
 intro ψ S a w ht z;subst hn;have hd:=r.get hd;have l:=r.get l;obtain ⟨h0,hi⟩:=kpm h;have A:i.toNat<xs.length:=(qd.1 hi).1;have m:=Sim.eval_tmps ht X;rw [hx] at m;have b:=Sim.eval_tmps ht Y;rw [hy] at b;have b:=b.atom;obtain ⟨hl,_,cs,c,_,_⟩:=z id _ q;rw [qs] at hl c;obtain ⟨g,cap,j⟩:=ktf c;have hK:id∈st.ids/\a.eval X=ψ.val id:=by
  generalize a.eval X=u at m;cases m with
  | row hK B h1 hv=>exact ⟨hK,hv hl.symm⟩
 refine kad w (.pointer (some ⟨g,i.toNat*E.n+0,none⟩)) ?_ ⟨kae _, .ref hK.1 (by omega) rfl fun _=>⟨g,by rw [j];rfl,rfl⟩⟩;have p:i<(xs.length:Int):=by omega
 simp [execOp,s,hK.2,j,b,Instr.indexAt,asIntOf,run_underlying (hd.slice hk),h0,p,l.size,y,kbg]
end Go.Proofs.YtjnjipmjkkhdpaaGreatDoor
set_option linter.all false
namespace Go.Proofs.YtjnjipmjkkhdpaaGreatDoor
open Go Go.RowKit Go.Proofs.Tryz
theorem k9i {α:Type} {b:Bool} {x y r:α} (h:(bif b then x else y)=r):(b=true/\x=r)\/(b=false/\y=r):=by
 cases b;exact .inr ⟨rfl,h⟩
 ·exact .inl ⟨rfl,h⟩
variable {P:Program} {F S0:Nat->Prop} {N0:Nat} {w w':World} {S S':Nat->Prop} {ψ:Env} {K:Nat->Prop} {T:List (TypeId×TD)} {o:Oper} {a:Act} {st:St} {t:TypeId} {d:TD} {id:Nat}
section
variable {P:Program} [t:Tab P] {Q:Exit->St->Prop} {g:Cfg}
def kxj (ks ids:List Nat) (st:St):St:=⟨st.n,ks.map fun t=>(t,look .any st.tmps t),ids.filterMap fun i=>(kaa st.heap i).map fun o=>(i,o),ids,st.dfr⟩
theorem wrl (k:Nat) (ks ids:List Nat) (i q m n:Nat) (a:W P (klb (crun P k g) (kxn i n (kxj ks ids (stOf (crun P k g))))) Q) (hmn:m=n:=by simp) (hl:coA (stOf (crun P k g)) (kxj ks ids (stOf (crun P k g)))=some (kxj ks ids (stOf (crun P k g))):=by kernel_rfl)
  (hr:kvg i (kxj ks ids (stOf (crun P k g)))=List.replicate q m:=by kernel_rfl) (hc:kt9 (crun P k g)=true:=by kernel_rfl):W P g Q:=wle k ((le_a hl).trans (k5y i hr hmn)) a (hc:=hc)
end
variable [Dr]
theorem kkb (t:TypeId) (d:TD) (id:Nat) {α:Type} (E:En α) (xs:List α) (x:α) (i:Int) (X:Operand) (n q:Nat) (e:TypeId) (ys:List FV) (h:idx xs i=some x) (K:TOk P T:=by exact kao) (L:o.op = .load t X:=by kernel_rfl) (hd:kac T t=some d:=by kernel_rfl) (hk:d.kind.agg=true:=by kernel_rfl) (hx:st.eval X = .ref id n (i.toNat*E.n+q):=by kernel_rfl) (D:kaa st.heap id=some (.frow e E.n (xs.map E.f)):=by kernel_rfl) (hn:n=xs.length:=by rfl) (I:Nat.ble (q+d.size) E.n=true:=by kernel_rfl) (hy:((E.cl x).drop q).take d.size=ys:=by kernel_rfl):NStep P o st (.fz (.agg ys)):=by
 intro ψ S a w ht M;subst hn hy;have hd:=K.get hd;obtain ⟨h0,hi⟩:=kpm h;have I:q+d.size<=E.n:=qh I;have F:i.toNat<xs.length:=(qd.1 hi).1;have z:=Sim.eval_tmps ht X;rw [hx] at z;obtain ⟨hl,_,cs,k,A,hr⟩:=M id _ D;rw [qs] at hl k;obtain ⟨g,cap,r⟩:=ktf k;have hp:a.eval X = .pointer (some ⟨g,i.toNat*E.n+q,none⟩):=by
  generalize a.eval X=u at z;cases z with
  | ref hK N h1 hv=>
   obtain ⟨b,G,rfl⟩:=hv hl.symm;rw [r] at G;simp only [kap,qc] at G;rw [G]
 have J:cs.length=xs.length*E.n:=k.1;have O:i.toNat*E.n+E.n<=xs.length*E.n:=by have:(i.toNat+1)*E.n<=xs.length*E.n:=qan _ F;rw [qaw,Nat.one_mul] at this;exact this
 have hcl:(E.cl x).length=E.n:=by have:=(A (E.f x) (qap.2 ⟨x,qm hi,rfl⟩)).1;rw [E.hcl] at this;exact this
 have H:∀ y∈E.cl x,y.single=true:=by have:=(A (E.f x) (qap.2 ⟨x,qm hi,rfl⟩)).2;rw [E.hcl] at this;exact this
 let cs':=(cs.drop (i.toNat*E.n+q)).take d.size
 have c:cs'.length=d.size:=by show ((cs.drop (i.toNat*E.n+q)).take d.size).length=_;rw [q9,qau];omega
 have s:∀ (j:Nat) (v:Value),cs'[j]?=some v->j<d.size/\cs[i.toNat*E.n+q+j]?=some v:=fun j v C=>by
  have l:j<d.size:=by rw [<- c];exact (qd.1 C).1
  refine ⟨l,?_⟩;have B:((cs.drop (i.toNat*E.n+q)).take d.size)[j]?=some v:=C;rw [qw,qr l,qag] at B;exact B
 have m:=k;rw [r] at m;have p:=run_loadCells_list (P:=P) w ⟨g,i.toNat*E.n+q,none⟩ cs' fun j v C=>by obtain ⟨l,hc⟩:=s j v C;rw [kbg,World.ownsRow.cellAt m _ (show i.toNat*E.n+q+j<xs.length*E.n by omega),hc]
 rw [c] at p;refine kad w (.agg cs'.toArray) ?_ ⟨kae _, .fz (.agg ?_ ?_ fun j v y hv hy=>?_)⟩;simp [execOp,L,hp,Instr.loadAt,Instr.sureAddr,loadVar,hd.isAgg,hk,hd.size,p];rw [List.size_toArray,c,q9,qau];omega;exact fun y hy=>H y (qbe (qa4 hy))
 ·rw [qbr] at hv;obtain ⟨l,hc⟩:=s j v hv;rw [qw,qr l,qag] at hy;rw [Nat.add_assoc] at hc;exact (hr i.toNat (E.f x) (q+j) v y (by rw [ql,hi];rfl) hc (by rw [E.hcl];exact hy)).mono fun _ h => .inl h
section
variable {P:Program} [t:Tab P] {g:Cfg} {Q:Exit->St->Prop} {β:Type} {r:β}
end
end Go.Proofs.YtjnjipmjkkhdpaaGreatDoor
set_option linter.all false
set_option linter.unusedSectionVars false
namespace Go.Proofs.YtjnjipmjkkhdpaaGreatDoor
open Go Go.RowKit Go.Proofs.Tryz
def kig {σ α:Type} (P:Program) (l:Nat) (enc:α->FV) (step:σ->α->Option σ) (J:σ->(Nat->Prop)->List Nat->World->Prop):Prop:=
 ∀ (s:σ) (x:α) (s':σ),step s x=some s'->∀ (F S:Nat->Prop) (bs:List Nat) (w:World) (v:Value),OpqC (J s) S bs w->(∀ b∈bs,b<w.heap.size/\¬ S b/\¬ F b)->(∀ b,S b->b<w.heap.size)->(∀ b,F b->b<w.heap.size)->RF S w v (enc x) ->
  YieldAt Fence.wide 0 P l #[v] w fun e w'=>e = .returned (.bool true)/\∃ (S':Nat->Prop) (bs':List Nat),OpqC (J s') S' bs' w'/\(∀ b∈bs',b<w'.heap.size/\¬ S' b/\¬ F b/\(b∈bs\/w.heap.size<=b)) /\
   (∀ b,S b->S' b)/\(∀ b,S' b->b<w'.heap.size/\(S b\/b∈bs\/w.heap.size<=b))/\Same S w w'/\Fr F w w'
variable {P:Program} {F S0:Nat->Prop} {N0:Nat} {w w':World} {S S':Nat->Prop} {ψ:Env} {o:Oper} {a:Act} {st:St}
theorem kwd {heap:List (Nat×AObj)} {ids:List Nat} {id:Nat} {J J':(Nat->Prop)->List Nat->World->Prop} {bs':List Nat} (h:Core F S0 N0 heap ids ψ S w) (v:kaa heap id=some (.xo (.opq J)))
  (o:w.heap.size<=w'.heap.size) (x:OpqC J' S' bs' w') (l:∀ b∈bs',b<w'.heap.size/\¬ S' b/\¬ F b/\(S0 b\/N0<=b)/\∀ i ob,i≠id->kaa heap i=some ob->¬ Blk (ψ.val i) b)
  (hS:∀ b,S b->S' b) (m:∀ b,S' b->b<w'.heap.size/\(S0 b\/N0<=b)/\∀ i ob,i≠id->kaa heap i=some ob->¬ Blk (ψ.val i) b) (hk:Same S w w') (p:∀ i ob b,i≠id->kaa heap i=some ob->Blk (ψ.val i) b->w'.heap[b]?=w.heap[b]?):
  Core F S0 N0 ((id, .xo (.opq J'))::heap) ids (ψ.set id (ψ.len id+1) (.tuple (bs'.map fun b => .pointer (some ⟨b,0,none⟩)).toArray)) S' w'/\Ext (·∈ids) ψ (ψ.set id (ψ.len id+1) (.tuple (bs'.map fun b => .pointer (some ⟨b,0,none⟩)).toArray)):=by
 obtain ⟨r,y,z⟩:=h.obj id _ v;have hx:Ext (·∈ids) ψ (ψ.set id (ψ.len id+1) (.tuple (bs'.map fun b => .pointer (some ⟨b,0,none⟩)).toArray)):=kos (.inl (Nat.lt_succ_self _));refine ⟨⟨fun i o' c=>?_,fun i i' o' o'' b k f d g e=>?_,fun b l=>(m b l).1,fun b s=>(m b s).2.1,qar h.n0 o,fun b l=>qbb (h.fr b l) o⟩,hx⟩
 ·rw [kab] at c;by_cases j:id=i;subst j;rw [qr rfl] at c;injection c with c;subst c;refine ⟨r,⟨bs',kaj _ _,fun b a=>(l b a).1,x⟩,fun b a=>?_⟩;rw [kaj] at a;obtain ⟨q1,q2,q3,q4,_⟩:=l b (blk_ptrs.1 a);exact ⟨q2,q3,q4⟩
  ·rw [qj j] at c;obtain ⟨h1,A,B⟩:=h.obj i o' c;have q:=kb5 ψ (Ne.symm j) (ψ.len id+1) (.tuple (bs'.map fun b => .pointer (some ⟨b,0,none⟩)).toArray);refine ⟨h1,A.keep hx (fun _ h=>h) hS hk q fun b a=>p i o' b (Ne.symm j) c a,fun b a=>?_⟩;rw [q.2] at a;exact ⟨fun hs=>(m b hs).2.2 i o' (Ne.symm j) c a,(B b a).2⟩
 ·have key:∀ {i' o'' b},id≠i'->kaa heap i'=some o''->Blk (ψ.val i') b->b∉bs':=fun {i' o'' b} d t u hm=>(l b hm).2.2.2.2 i' o'' (Ne.symm d) t u;rw [kab] at k f;by_cases j:id=i;subst j;rw [kaj] at g;rw [qj d] at f;rw [(kb5 ψ (Ne.symm d) _ _).2] at e;exact key d f e (blk_ptrs.1 g)
  ·rw [qj j] at k;rw [(kb5 ψ (Ne.symm j) _ _).2] at g;by_cases n:id=i';subst n;rw [kaj] at e;exact key j k g (blk_ptrs.1 e)
   ·rw [qj n] at f;rw [(kb5 ψ (Ne.symm n) _ _).2] at e;exact h.inj i i' o' o'' b k f d g e
theorem k5m {heap:List (Nat×AObj)} {ids:List Nat} {id:Nat} {J J':(Nat->Prop)->List Nat->World->Prop} {bs bs':List Nat} (h:Core F S0 N0 heap ids ψ S w) (f:kaa heap id=some (.xo (.opq J)))
  (hv:ψ.val id = .tuple (bs.map fun b => .pointer (some ⟨b,0,none⟩)).toArray) (g:w.heap.size<=w'.heap.size) (n:OpqC J' S' bs' w') (o:∀ b∈bs',b<w'.heap.size/\¬ S' b/\¬ F b/\(b∈bs\/w.heap.size<=b))
  (hS:∀ b,S b->S' b) (j:∀ b,S' b->b<w'.heap.size/\(S b\/b∈bs\/w.heap.size<=b)) (hk:Same S w w') (c:∀ i ob b,i≠id->kaa heap i=some ob->Blk (ψ.val i) b->w'.heap[b]?=w.heap[b]?):
  Core F S0 N0 ((id, .xo (.opq J'))::heap) ids (ψ.set id (ψ.len id+1) (.tuple (bs'.map fun b => .pointer (some ⟨b,0,none⟩)).toArray)) S' w'/\Ext (·∈ids) ψ (ψ.set id (ψ.len id+1) (.tuple (bs'.map fun b => .pointer (some ⟨b,0,none⟩)).toArray)):=by
 obtain ⟨_,_,k⟩:=h.obj id _ f;have a:∀ b,b∈bs\/w.heap.size<=b->(S0 b\/N0<=b)/\∀ i ob,i≠id->kaa heap i=some ob->¬ Blk (ψ.val i) b:=fun b q=>by
  rcases q with q | q;exact ⟨(k b (by rw [hv];exact blk_ptrs.2 q)).2.2,fun i ob d h1 e=>h.inj i id ob _ b h1 f d e (by rw [hv];exact blk_ptrs.2 q)⟩
  ·exact ⟨.inr (qar h.n0 q),fun i ob d h1 e=>by have:=(h.obj i ob h1).2.1.lt e;omega⟩
 refine kwd h f g n (fun b l=>?_) hS (fun b m=>?_) hk c;obtain ⟨q1,q2,q3,q4⟩:=o b l;exact ⟨q1,q2,q3,a b q4⟩
 ·obtain ⟨q1,q⟩:=j b m;rcases q with q | q;exact ⟨q1,h.s0 b q,fun i ob _ h1 e=>((h.obj i ob h1).2.2 b e).1 q⟩
  ·exact ⟨q1,a b q⟩
theorem k8u [Rd] {σ α:Type} {enc:α->FV} {step:σ->α->Option σ} {J:σ->(Nat->Prop)->List Nat->World->Prop} {l:Nat} {s s':σ} {z:α} {ops:Array Oper} {os:List Oper} {Q:Exit->St->Prop} {x y:Operand} {ts:Array TypeId} {id:Nat}
  (H:kig P l enc step J) (hst:step s z=some s') (G:o.op = .call { callee := .value x,args:=#[y],argTypes:=ts }) (hx:st.eval x = .fz (.atom (.func (.yield l) #[] #[]))) (c:C1) (hy:co1 c (st.eval y) = .fz (enc z)) (q:kaa st.heap id=some (.xo (.opq (J s))))
  (I:kbi ops st o=some true) (hd:∀ t,o.dst=some t->t<st.n)
  (hn:awpL P ops os (({ st with heap:=(id, .xo (.opq (J s')))::st.heap }:St).put o.dst (.fz (.atom (.bool true)))) Q):awpL P ops (o::os) st Q:=by
 intro F S0 N0 ψ S a w hs;unfold ka5;rw [kdp hs I];have d:=hs.core;obtain ⟨K,⟨bs,hv,D,L⟩,r⟩:=d.obj id _ q;have j:=hs.eval x;rw [hx] at j;have j:=j.atom;have u:=klp c (hs.eval y);rw [hy] at u;obtain ⟨F',f⟩:∃ F':Nat->Prop,∀ b,F' b↔(F b\/∃ i ob,i≠id/\kaa st.heap i=some ob/\Blk (ψ.val i) b):=⟨_,fun _=>Iff.rfl⟩;obtain ⟨fn,tmps,assign,body,v,m⟩:=H s z s' hst F' S bs w (a.eval y) L (fun b g=>⟨D b g,(r b (by rw [hv];exact blk_ptrs.2 g)).1,fun p=>by
  rcases (f b).1 p with p | ⟨i,ob,h1,A,B⟩;exact (r b (by rw [hv];exact blk_ptrs.2 g)).2.1 p
  ·exact d.inj i id ob _ b A q h1 B (by rw [hv];exact blk_ptrs.2 g)⟩) d.lt (fun b p=>by
  rcases (f b).1 p with p | ⟨i,ob,h1,A,B⟩;exact d.fr b p
  ·exact (d.obj i ob A).2.1.lt B) u.inv
 have E:(execOp a.eval o).run P w = .ok (.round l fn tmps assign body) w:=by simp [execOp,G,resolve,j,Deferred.ofValue,invoke,v]
 refine kry (fun c h=>by rw [G] at h;cases h) E ⟨fun h=>(by cases h),RoundIn.mono (F:=Fd) (show RoundIn Fd 0 P l fn tmps assign body w _ from m) ?_⟩;rintro e w' ⟨rfl,S',bs',q1,q2,q3,q4,q5,q6⟩;obtain ⟨c1,c2⟩:=k5m d q hv q6.size q1 (fun b g=>⟨(q2 b g).1,(q2 b g).2.1,fun p=>(q2 b g).2.2.1 ((f b).2 (.inl p)),(q2 b g).2.2.2⟩) q3 q4 q5 fun i ob b h1 A B=>q6.block b ((f b).2 (.inr ⟨i,ob,h1,A,B⟩));have C:Fr F w w':=⟨q6.os,q6.tape,q6.output,q6.size,fun b g=>q6.block b ((f b).2 (.inl g)),q6.drawn⟩;exact kcu (fun e a' w'' k=>k.pre C) _ _ _ (hn F S0 N0 _ S' _ w' (hs.put (st':={ st with heap:=(id, .xo (.opq (J s')))::st.heap }) rfl rfl rfl c1 (.fz (.atom rfl)) c2 (fun _ h=>h) q3 q5 hd))
inductive Dk where
 | mk (rule hole:Int) (args:List Dk)
namespace Dk
def rule:Dk->Int | mk r _ _=>r
def hole:Dk->Int | mk _ h _=>h
def args:Dk->List Dk | mk _ _ l=>l
theorem ind {P:Dk->Prop} (h:∀ r k l,(∀ t∈l,P t)->P (mk r k l)) (t:Dk):P t:=
 Dk.rec (motive_1:=P) (motive_2:=fun l=>∀ t∈l,P t) (fun r k l ih=>h r k l ih) (fun _ h=>nomatch h)
  (fun t l h1 a x hx=>(qaa.1 hx).elim (fun e=>e ▸ h1) (a x)) t
end Dk
mutual
def eDkR:Dk->FV
 | .mk r h l => .agg [eI r,eI h, .lst 3 l.length (kp3 l)]
def kp3:List Dk->List FV
 | []=>[]
 | x::l=>eDkR x::kp3 l
end
def eDk (x:Dk):FV := .agg [eI x.rule,eI x.hole,eL 3 eDkR x.args]
theorem ksq:∀ l:List Dk,kp3 l=l.map eDkR
 | []=>by simp [kp3]
 | x::l=>by simp [kp3,ksq l]
theorem ku6 (x:Dk):eDkR x=eDk x:=by cases x;simp [eDkR,eDk,ksq,eL,Dk.rule,Dk.hole,Dk.args]
theorem k2t (x:Dk):(eDkR x).cells=(eDk x).cells:=by rw [ku6]
theorem k67 (x:Dk):(eDkR x).cells.length=3:=by rw [ku6];rfl
def nDkR:En Dk:=⟨eDkR,3,fun x=>(eDk x).cells,k2t,k67⟩
variable {P:Program} {F S0:Nat->Prop} {N0:Nat} {w w':World} {S S':Nat->Prop} {ψ ψ':Env} {K:Nat->Prop} {T:List (TypeId×TD)} {o:Oper} {a:Act} {st:St} {t tx:TypeId} {d:TD} {id:Nat}
def tt2:TD:=⟨1,8, .int .i64,[.int .i64 0]⟩
def tt3:TD:=⟨1,8, .int .i64,[.int .i64 0]⟩
def tt4:TD:=⟨1,1, .bool,[.bool false]⟩
def tt5:TD:=⟨1,1, .int .u8,[.int .u8 0]⟩
def tt9:TD:=⟨1,16, .str,[.string ⟨#[]⟩]⟩
def tt20:TD:=⟨1,16, .ifc,[.nilIface]⟩
def tt21:TD:=⟨1,4, .int .i32,[.int .i32 0]⟩
def tt22:TD:=⟨1,24, .slice 3,[.slice none 0 0]⟩
def tt23:TD:=⟨1,24, .slice 85,[.slice none 0 0]⟩
def tt24:TD:=⟨1,24, .slice 53,[.slice none 0 0]⟩
def tt26:TD:=⟨4,88, .st [(9,0),(22,1),(23,2),(24,3)],[.string ⟨#[]⟩, .slice none 0 0, .slice none 0 0, .slice none 0 0]⟩
def tt27:TD:=⟨1,24, .slice 29,[.slice none 0 0]⟩
def tt29:TD:=⟨3,40, .st [(3,0),(3,1),(27,2)],[.int .i64 0, .int .i64 0, .slice none 0 0]⟩
def tt30:TD:=⟨1,24, .slice 48,[.slice none 0 0]⟩
def tt32:TD:=⟨4,64, .st [(29,0),(30,3)],[.int .i64 0, .int .i64 0, .slice none 0 0, .slice none 0 0]⟩
def tt35:TD:=⟨1,8, .int .i64,[.int .i64 0]⟩
def tt40:TD:=⟨1,24, .slice 44,[.slice none 0 0]⟩
def tt44:TD:=⟨2,32, .st [(3,0),(40,1)],[.int .i64 0, .slice none 0 0]⟩
def tt48:TD:=⟨2,32, .st [(3,0),(40,1)],[.int .i64 0, .slice none 0 0]⟩
def tt49:TD:=⟨1,24, .slice 51,[.slice none 0 0]⟩
def tt51:TD:=⟨4,56, .st [(3,0),(2,1),(9,2),(49,3)],[.int .i64 0, .int .i64 0, .string ⟨#[]⟩, .slice none 0 0]⟩
def tt53:TD:=⟨9,120, .st [(3,0),(3,1),(3,2),(51,3),(9,7),(22,8)],[.int .i64 0, .int .i64 0, .int .i64 0, .int .i64 0, .int .i64 0, .string ⟨#[]⟩, .slice none 0 0, .string ⟨#[]⟩, .slice none 0 0]⟩
def tt54:TD:=⟨1,8, .fn,[.nilFunc]⟩
def tt71:TD:=⟨1,24, .slice 22,[.slice none 0 0]⟩
def tt76:TD:=⟨1,8, .fn,[.nilFunc]⟩
def tt78:TD:=⟨1,8, .fn,[.nilFunc]⟩
def tt85:TD:=⟨2,24, .st [(9,0),(3,1)],[.string ⟨#[]⟩, .int .i64 0]⟩
def tt88:TD:=⟨1,8, .ptr 91,[.pointer none]⟩
def tt89:TD:=⟨1,24, .slice 5,[.slice none 0 0]⟩
def tt91:TD:=⟨2,32, .st [(88,0),(89,1)],[.pointer none, .slice none 0 0]⟩
def tt100:TD:=⟨1,8, .fn,[.nilFunc]⟩
def tt105:TD:=⟨1,8, .int .u64,[.int .u64 0]⟩
def tt108:TD:=⟨1,8, .fn,[.nilFunc]⟩
def tt118:TD:=⟨1,24, .slice 9,[.slice none 0 0]⟩
def tt120:TD:=⟨1,8, .ptr 5,[.pointer none]⟩
def tt121:TD:=⟨1,8, .map 9 4,[.map none]⟩
def tt125:TD:=⟨1,8, .fn,[.nilFunc]⟩
def tt128:TD:=⟨1,8, .int .i64,[.int .i64 0]⟩
def tt136:TD:=⟨1,4, .int .u32,[.int .u32 0]⟩
def tt138:TD:=⟨1,8, .int .u64,[.int .u64 0]⟩
def tt144:TD:=⟨3,48, .st [(9,0),(22,1),(3,2)],[.string ⟨#[]⟩, .slice none 0 0, .int .i64 0]⟩
def tt153:TD:=⟨1,8, .ptr 192,[.pointer none]⟩
def tt159:TD:=⟨1,8, .fn,[.nilFunc]⟩
def tt162:TD:=⟨1,24, .slice 197,[.slice none 0 0]⟩
def tt164:TD:=⟨5,112, .st [(26,0),(162,4)],[.string ⟨#[]⟩, .slice none 0 0, .slice none 0 0, .slice none 0 0, .slice none 0 0]⟩
def tt168:TD:=⟨1,8, .int .u64,[.int .u64 0]⟩
def tt172:TD:=⟨1,8, .ptr 3,[.pointer none]⟩
def tt175:TD:=⟨1,24, .slice 177,[.slice none 0 0]⟩
def tt177:TD:=⟨3,48, .arr 3 9,[.string ⟨#[]⟩, .string ⟨#[]⟩, .string ⟨#[]⟩]⟩
def tt187:TD:=⟨4,64, .st [(144,0),(9,3)],[.string ⟨#[]⟩, .slice none 0 0, .int .i64 0, .string ⟨#[]⟩]⟩
def k2n:TD:=⟨1,8, .map 9 2,[.map none]⟩
def tt192:TD:=⟨5,96, .st [(26,0),(190,4)],[.string ⟨#[]⟩, .slice none 0 0, .slice none 0 0, .slice none 0 0, .map none]⟩
def ktn:TD:=⟨1,24, .slice 4,[.slice none 0 0]⟩
def tt207:TD:=⟨24,24, .arr 24 5,List.replicate 24 (.int .u8 0)⟩
def tt212:TD:=⟨1,24, .slice 187,[.slice none 0 0]⟩
def tt216:TD:=⟨1,8, .fn,[.nilFunc]⟩
def tt218:TD:=⟨20,160, .arr 20 138,List.replicate 20 (.int .u64 0)⟩
def tt222:TD:=⟨1,24, .slice 212,[.slice none 0 0]⟩
def tt226:TD:=⟨32,32, .arr 32 5,List.replicate 32 (.int .u8 0)⟩
def tt227:TD:=⟨64,64, .arr 64 5,List.replicate 64 (.int .u8 0)⟩
def tt242:TD:=⟨2,2, .st [(5,0),(5,1)],[.int .u8 0, .int .u8 0]⟩
def tt243:TD:=⟨32,32, .arr 16 242,List.replicate 32 (.int .u8 0)⟩
def TT:List (TypeId×TD):=[(2,tt2),(3,tt3),(4,tt4),(5,tt5),(9,tt9),(20,tt20),(21,tt21),(22,tt22),(23,tt23),(24,tt24),(26,tt26),(27,tt27),(29,tt29),(30,tt30),(32,tt32),(35,tt35),(40,tt40),(44,tt44),(48,tt48),(49,tt49),(51,tt51),(53,tt53),(54,tt54),(71,tt71),(76,tt76),(78,tt78),(85,tt85),(88,tt88),(89,tt89),(91,tt91),(100,tt100),(105,tt105),(108,tt108),(118,tt118),(120,tt120),(121,tt121),(125,tt125),(128,tt128),(136,tt136),(138,tt138),(144,tt144),(153,tt153),(159,tt159),(162,tt162),(164,tt164),(168,tt168),(172,tt172),(175,tt175),(177,tt177),(187,tt187),(190,k2n),(192,tt192),(197,ktn),(207,tt207),(212,tt212),(216,tt216),(218,tt218),(222,tt222),(226,tt226),(227,tt227),(242,tt242),(243,tt243)]
theorem kao:TOk prog TT:=k35 (by kernel_rfl)
instance tabP:Tab prog:=⟨TT,kao,by kernel_rfl⟩
def gv0:Array Value:=#[.int .u64 1, .int .u64 10, .int .u64 100, .int .u64 1000, .int .u64 10000, .int .u64 100000, .int .u64 1000000, .int .u64 10000000, .int .u64 100000000, .int .u64 1000000000, .int .u64 10000000000, .int .u64 100000000000, .int .u64 1000000000000, .int .u64 10000000000000, .int .u64 100000000000000, .int .u64 1000000000000000, .int .u64 10000000000000000, .int .u64 100000000000000000, .int .u64 1000000000000000000, .int .u64 10000000000000000000]
def gv1:Array Value:=#[.int .u8 0, .int .u8 1, .int .u8 28, .int .u8 2, .int .u8 29, .int .u8 14, .int .u8 24, .int .u8 3, .int .u8 30, .int .u8 22, .int .u8 20, .int .u8 15, .int .u8 25, .int .u8 17, .int .u8 4, .int .u8 8, .int .u8 31, .int .u8 27, .int .u8 13, .int .u8 23, .int .u8 21, .int .u8 19, .int .u8 16, .int .u8 7, .int .u8 26, .int .u8 12, .int .u8 18, .int .u8 6, .int .u8 11, .int .u8 5, .int .u8 10, .int .u8 9]
def gv2:Array Value:=#[.int .u8 0, .int .u8 1, .int .u8 56, .int .u8 2, .int .u8 57, .int .u8 49, .int .u8 28, .int .u8 3, .int .u8 61, .int .u8 58, .int .u8 42, .int .u8 50, .int .u8 38, .int .u8 29, .int .u8 17, .int .u8 4, .int .u8 62, .int .u8 47, .int .u8 59, .int .u8 36, .int .u8 45, .int .u8 43, .int .u8 51, .int .u8 22, .int .u8 53, .int .u8 39, .int .u8 33, .int .u8 30, .int .u8 24, .int .u8 18, .int .u8 12, .int .u8 5, .int .u8 63, .int .u8 55, .int .u8 48, .int .u8 27, .int .u8 60, .int .u8 41, .int .u8 37, .int .u8 16, .int .u8 46, .int .u8 35, .int .u8 44, .int .u8 21, .int .u8 52, .int .u8 32, .int .u8 23, .int .u8 11, .int .u8 54, .int .u8 26, .int .u8 40, .int .u8 15, .int .u8 34, .int .u8 20, .int .u8 31, .int .u8 10, .int .u8 25, .int .u8 14, .int .u8 19, .int .u8 9, .int .u8 13, .int .u8 8, .int .u8 7, .int .u8 6]
def gv4:Array Value:=#[.int .u8 240, .int .u8 240, .int .u8 240, .int .u8 240, .int .u8 240, .int .u8 240, .int .u8 240, .int .u8 240, .int .u8 240, .int .u8 240, .int .u8 240, .int .u8 240, .int .u8 240, .int .u8 240, .int .u8 240, .int .u8 240, .int .u8 240, .int .u8 240, .int .u8 240, .int .u8 240, .int .u8 240, .int .u8 240, .int .u8 240, .int .u8 240, .int .u8 240, .int .u8 240, .int .u8 240, .int .u8 240, .int .u8 240, .int .u8 240, .int .u8 240, .int .u8 240, .int .u8 240, .int .u8 240, .int .u8 240, .int .u8 240, .int .u8 240, .int .u8 240, .int .u8 240, .int .u8 240, .int .u8 240, .int .u8 240, .int .u8 240, .int .u8 240, .int .u8 240, .int .u8 240, .int .u8 240, .int .u8 240, .int .u8 240, .int .u8 240, .int .u8 240, .int .u8 240, .int .u8 240, .int .u8 240, .int .u8 240, .int .u8 240, .int .u8 240, .int .u8 240, .int .u8 240, .int .u8 240, .int .u8 240, .int .u8 240, .int .u8 240, .int .u8 240, .int .u8 240, .int .u8 240, .int .u8 240, .int .u8 240, .int .u8 240, .int .u8 240, .int .u8 240, .int .u8 240, .int .u8 240, .int .u8 240, .int .u8 240, .int .u8 240, .int .u8 240, .int .u8 240, .int .u8 240, .int .u8 240, .int .u8 240, .int .u8 240, .int .u8 240, .int .u8 240, .int .u8 240, .int .u8 240, .int .u8 240, .int .u8 240, .int .u8 240, .int .u8 240, .int .u8 240, .int .u8 240, .int .u8 240, .int .u8 240, .int .u8 240, .int .u8 240, .int .u8 240, .int .u8 240, .int .u8 240, .int .u8 240, .int .u8 240, .int .u8 240, .int .u8 240, .int .u8 240, .int .u8 240, .int .u8 240, .int .u8 240, .int .u8 240, .int .u8 240, .int .u8 240, .int .u8 240, .int .u8 240, .int .u8 240, .int .u8 240, .int .u8 240, .int .u8 240, .int .u8 240, .int .u8 240, .int .u8 240, .int .u8 240, .int .u8 240, .int .u8 240, .int .u8 240, .int .u8 240, .int .u8 240, .int .u8 240, .int .u8 240, .int .u8 240, .int .u8 241, .int .u8 241, .int .u8 241, .int .u8 241, .int .u8 241, .int .u8 241, .int .u8 241, .int .u8 241, .int .u8 241, .int .u8 241, .int .u8 241, .int .u8 241, .int .u8 241, .int .u8 241, .int .u8 241, .int .u8 241, .int .u8 241, .int .u8 241, .int .u8 241, .int .u8 241, .int .u8 241, .int .u8 241, .int .u8 241, .int .u8 241, .int .u8 241, .int .u8 241, .int .u8 241, .int .u8 241, .int .u8 241, .int .u8 241, .int .u8 241, .int .u8 241, .int .u8 241, .int .u8 241, .int .u8 241, .int .u8 241, .int .u8 241, .int .u8 241, .int .u8 241, .int .u8 241, .int .u8 241, .int .u8 241, .int .u8 241, .int .u8 241, .int .u8 241, .int .u8 241, .int .u8 241, .int .u8 241, .int .u8 241, .int .u8 241, .int .u8 241, .int .u8 241, .int .u8 241, .int .u8 241, .int .u8 241, .int .u8 241, .int .u8 241, .int .u8 241, .int .u8 241, .int .u8 241, .int .u8 241, .int .u8 241, .int .u8 241, .int .u8 241, .int .u8 241, .int .u8 241, .int .u8 2, .int .u8 2, .int .u8 2, .int .u8 2, .int .u8 2, .int .u8 2, .int .u8 2, .int .u8 2, .int .u8 2, .int .u8 2, .int .u8 2, .int .u8 2, .int .u8 2, .int .u8 2, .int .u8 2, .int .u8 2, .int .u8 2, .int .u8 2, .int .u8 2, .int .u8 2, .int .u8 2, .int .u8 2, .int .u8 2, .int .u8 2, .int .u8 2, .int .u8 2, .int .u8 2, .int .u8 2, .int .u8 2, .int .u8 2, .int .u8 19, .int .u8 3, .int .u8 3, .int .u8 3, .int .u8 3, .int .u8 3, .int .u8 3, .int .u8 3, .int .u8 3, .int .u8 3, .int .u8 3, .int .u8 3, .int .u8 3, .int .u8 35, .int .u8 3, .int .u8 3, .int .u8 52, .int .u8 4, .int .u8 4, .int .u8 4, .int .u8 68, .int .u8 241, .int .u8 241, .int .u8 241, .int .u8 241, .int .u8 241, .int .u8 241, .int .u8 241, .int .u8 241, .int .u8 241, .int .u8 241, .int .u8 241]
def gv5:Array Value:=#[.int .u8 128, .int .u8 191, .int .u8 160, .int .u8 191, .int .u8 128, .int .u8 159, .int .u8 144, .int .u8 191, .int .u8 128, .int .u8 143, .int .u8 0, .int .u8 0, .int .u8 0, .int .u8 0, .int .u8 0, .int .u8 0, .int .u8 0, .int .u8 0, .int .u8 0, .int .u8 0, .int .u8 0, .int .u8 0, .int .u8 0, .int .u8 0, .int .u8 0, .int .u8 0, .int .u8 0, .int .u8 0, .int .u8 0, .int .u8 0, .int .u8 0, .int .u8 0]
set_option linter.unusedVariables false
noncomputable def exF:FT:=(.nd 84 Tryz.f84 (.nd 49 Tryz.f49 (.nd 27 Tryz.f27 (.nd 20 Tryz.f20 (.nd 10 Tryz.f10 (.nd 8 Tryz.f8 (.nd 7 Tryz.f7 .lf .lf) (.nd 9 Tryz.f9 .lf .lf)) (.nd 19 Tryz.f19 (.nd 11 Tryz.f11 .lf .lf) .lf)) (.nd 24 Tryz.f24 (.nd 23 Tryz.f23 (.nd 22 Tryz.f22 .lf .lf) .lf) (.nd 26 Tryz.f26 (.nd 25 Tryz.f25 .lf .lf) .lf))) (.nd 34 Tryz.f34 (.nd 31 Tryz.f31 (.nd 29 Tryz.f29 (.nd 28 Tryz.f28 .lf .lf) (.nd 30 Tryz.f30 .lf .lf)) (.nd 33 Tryz.f33 (.nd 32 Tryz.f32 .lf .lf) .lf)) (.nd 46 Tryz.f46 (.nd 36 Tryz.f36 (.nd 35 Tryz.f35 .lf .lf) .lf) (.nd 48 Tryz.f48 (.nd 47 Tryz.f47 .lf .lf) .lf)))) (.nd 62 Tryz.f62 (.nd 56 Tryz.f56 (.nd 53 Tryz.f53 (.nd 51 Tryz.f51 (.nd 50 Tryz.f50 .lf .lf) (.nd 52 Tryz.f52 .lf .lf)) (.nd 55 Tryz.f55 (.nd 54 Tryz.f54 .lf .lf) .lf)) (.nd 59 Tryz.f59 (.nd 58 Tryz.f58 (.nd 57 Tryz.f57 .lf .lf) .lf) (.nd 61 Tryz.f61 (.nd 60 Tryz.f60 .lf .lf) .lf))) (.nd 78 Tryz.f78 (.nd 66 Tryz.f66 (.nd 64 Tryz.f64 (.nd 63 Tryz.f63 .lf .lf) .lf) (.nd 77 Tryz.f77 (.nd 74 Tryz.f74 .lf .lf) .lf)) (.nd 81 Tryz.f81 (.nd 80 Tryz.f80 (.nd 79 Tryz.f79 .lf .lf) .lf) (.nd 83 Tryz.f83 (.nd 82 Tryz.f82 .lf .lf) .lf))))) (.nd 125 Tryz.f125 (.nd 113 Tryz.f113 (.nd 91 Tryz.f91 (.nd 88 Tryz.f88 (.nd 86 Tryz.f86 (.nd 85 Tryz.f85 .lf .lf) (.nd 87 Tryz.f87 .lf .lf)) (.nd 90 Tryz.f90 (.nd 89 Tryz.f89 .lf .lf) .lf)) (.nd 102 Tryz.f102 (.nd 93 Tryz.f93 (.nd 92 Tryz.f92 .lf .lf) .lf) (.nd 111 Tryz.f111 (.nd 103 Tryz.f103 .lf .lf) .lf))) (.nd 119 Tryz.f119 (.nd 116 Tryz.f116 (.nd 115 Tryz.f115 (.nd 114 Tryz.f114 .lf .lf) .lf) (.nd 118 Tryz.f118 (.nd 117 Tryz.f117 .lf .lf) .lf)) (.nd 122 Tryz.f122 (.nd 121 Tryz.f121 (.nd 120 Tryz.f120 .lf .lf) .lf) (.nd 124 Tryz.f124 (.nd 123 Tryz.f123 .lf .lf) .lf)))) (.nd 154 Tryz.f154 (.nd 145 Tryz.f145 (.nd 130 Tryz.f130 (.nd 127 Tryz.f127 (.nd 126 Tryz.f126 .lf .lf) (.nd 128 Tryz.f128 .lf .lf)) (.nd 144 Tryz.f144 (.nd 142 Tryz.f142 .lf .lf) .lf)) (.nd 151 Tryz.f151 (.nd 150 Tryz.f150 (.nd 149 Tryz.f149 .lf .lf) .lf) (.nd 153 Tryz.f153 (.nd 152 Tryz.f152 .lf .lf) .lf))) (.nd 178 Tryz.f178 (.nd 157 Tryz.f157 (.nd 156 Tryz.f156 (.nd 155 Tryz.f155 .lf .lf) .lf) (.nd 169 Tryz.f169 (.nd 163 Tryz.f163 .lf .lf) .lf)) (.nd 185 Tryz.f185 (.nd 183 Tryz.f183 (.nd 182 Tryz.f182 .lf .lf) .lf) (.nd 195 Tryz.f195 (.nd 191 Tryz.f191 .lf .lf) .lf))))))
def exZ:List (TypeId×Value):=[(2, .int .i64 0),(4, .bool false)]
def exP:List Nat:=[7,8,11,23,24,25,29,32,33,34,46,47,51,52,53,54,55,61,62,63,74,77,78,79,82,83,84,85,87,89,102,111,113,114,115,118,119,120,124,125,127,142,144,145,150,156,163,182,183,185,191,195,21,88]
def exM:List Nat:=[20]
def exN:List Nat:=[]
theorem kaaw:exF.ok prog:=FT.ok_of (by kernel_rfl)
theorem kabt:ZOk prog exZ:=by
 intro p hp;simp only [exZ,qaa,List.not_mem_nil,or_false] at hp;rcases hp with rfl | rfl;exact ⟨_,show prog.info? 2=some Tryz.t2 from by kernel_rfl,by kernel_rfl⟩
 ·exact ⟨_,show prog.info? 4=some Tryz.t4 from by kernel_rfl,by kernel_rfl⟩
def exI:List Nat:=[200]
theorem kaaj:∀ f∈exI,IbOk prog f:=by intro f a;simp only [exI,qaa,List.not_mem_nil,or_false] at a;subst a;exact ⟨Tryz.f200,func200,by kernel_rfl,by kernel_rfl,by kernel_rfl,rfl⟩
noncomputable def exC (fx:List (Nat×List FV×FV)):Cx:={ T:=TT,Z:=exZ,fn:=exF,mu:=exM,pu:=exP,fx:=fx,ib:=exI,nf:=exN }
theorem kl1 (fx:List (Nat×List FV×FV)) (h:∀ p∈fx,PCall prog p.1 p.2.1 p.2.2):CxOk prog (exC fx):=⟨kao,kabt,kaaw,h,kaaj,by kernel_rfl⟩
-- 7 synthesis/synthesislaw34.awake
-- 8 synthesis/sketch.Count
-- 9 synthesis/sketch.All
-- 10 synthesis/sketch.Fill
-- 11 synthesis/synthesisref13.Compare
-- 19 synthesis/synthesislaw34.language
-- 20 synthesis/synthesislaw34.draft
-- 22 synthesis/sketch.Open
-- 23 synthesis/sketch.Check
-- 24 synthesis/synthesisref34.Same
-- 25 synthesis/sketch.numbered
-- 26 synthesis/sketch.choices
-- 27 synthesis/sketch.fill
-- 28 slices.SortFunc[[]synthesis/api.Term,synthesis/api.Term]
-- 29 synthesis/term.Compare
-- 30 slices.CompactFunc[[]synthesis/api.Term,synthesis/api.Term]
-- 31 synthesis/sketch.All$1
-- 32 synthesis/synthesisref13.order
-- 33 synthesis/synthesisref13.Size
-- 34 synthesis/synthesisref13.CompareInts
-- 35 synthesis/synthesisref13.Rules
-- 36 synthesis/synthesisref13.arities
-- 46 synthesis/grammar.Check
-- 47 synthesis/term.Check
-- 48 synthesis/term.At
-- 49 synthesis/enumerate.UpTo
-- 50 synthesis/sketch.body
-- 51 synthesis/sketch.levels
-- 52 synthesis/sketch.hole
-- 53 synthesis/sketch.node
-- 54 synthesis/synthesisref34.SameBody
-- 55 synthesis/synthesisref13.Same
-- 56 slices.ContainsFunc[[]synthesis/api.Sketch,synthesis/api.Sketch]
-- 57 synthesis/sketch.numbered$1
-- 58 synthesis/sketch.copied
-- 59 synthesis/sketch.made
-- 60 slices.pdqsortCmpFunc[synthesis/api.Term]
-- 61 math/bits.Len
-- 62 synthesis/term.Size
-- 63 synthesis/term.lexical
-- 64 synthesis/term.Rules
-- 66 synthesis/term.collect
-- 74 strconv.Itoa
-- 77 synthesis/grammar.named
-- 78 synthesis/grammar.typed
-- 79 synthesis/grammar.rule
-- 80 slices.ContainsFunc[[]synthesis/api.Rule,synthesis/api.Rule]
-- 81 synthesis/grammar.Check$1
-- 82 synthesis/grammar.sameRule
-- 83 synthesis/term.within
-- 84 synthesis/term.shallow
-- 85 synthesis/term.derived
-- 86 synthesis/term.clone
-- 87 synthesis/counting.Total
-- 88 synthesis/enumerate.Terms
-- 89 synthesis/term.Depth
-- 90 slices.ContainsFunc[[]synthesis/api.Term,synthesis/api.Term]
-- 91 synthesis/sketch.hole$1
-- 92 slices.IndexFunc[[]synthesis/api.Sketch,synthesis/api.Sketch]
-- 93 slices.insertionSortCmpFunc[synthesis/api.Term]
-- 102 math/bits.Len64
-- 103 synthesis/term.Rules$1
-- 111 internal/strconv.Itoa
-- 113 synthesis/grammar.symbol
-- 114 synthesis/grammar.same
-- 115 synthesis/value.Check
-- 116 synthesis/operator.Find
-- 117 slices.IndexFunc[[]synthesis/api.Rule,synthesis/api.Rule]
-- 118 slices.Equal[[]int,int]
-- 119 synthesis/value.Equal
-- 120 synthesis/counting.check
-- 121 synthesis/counting.open
-- 122 synthesis/counting.counted
-- 123 synthesis/counting.Total$1
-- 124 synthesis/counting.permitted
-- 125 synthesis/counting.plus
-- 126 (*synthesis/counting.counter).terms
-- 127 synthesis/counting.Count
-- 128 synthesis/enumerate.open
-- 130 slices.IndexFunc[[]synthesis/api.Term,synthesis/api.Term]
-- 142 internal/strconv.FormatInt
-- 144 synthesis/value.unused
-- 145 synthesis/value.ranged
-- 149 synthesis/operator.find
-- 150 synthesis/value.Compare
-- 151 synthesis/counting.counted$1
-- 152 synthesis/grammar.Of
-- 153 (*synthesis/counting.counter).lists
-- 154 synthesis/counting.args
-- 155 synthesis/counting.Count$1
-- 156 (synthesis/enumerate.lister).reach
-- 157 (synthesis/enumerate.lister).args
-- 163 internal/strconv.small
-- 169 synthesis/operator.catalog
-- 178 synthesis/operator.family
-- 182 strings.Cut
-- 183 synthesis/operator.typeOf
-- 185 internal/stringslite.Cut
-- 191 internal/stringslite.Index
-- 195 internal/stringslite.IndexByte
-- 200 internal/bytealg.IndexByteString
-- PU synthesis/synthesislaw34.awake
-- PU synthesis/sketch.Count
-- PU synthesis/synthesisref13.Compare
-- PU synthesis/sketch.Check
-- PU synthesis/synthesisref34.Same
-- PU synthesis/sketch.numbered
-- PU synthesis/term.Compare
-- PU synthesis/synthesisref13.order
-- PU synthesis/synthesisref13.Size
-- PU synthesis/synthesisref13.CompareInts
-- PU synthesis/grammar.Check
-- PU synthesis/term.Check
-- PU synthesis/sketch.levels
-- PU synthesis/sketch.hole
-- PU synthesis/sketch.node
-- PU synthesis/synthesisref34.SameBody
-- PU synthesis/synthesisref13.Same
-- PU math/bits.Len
-- PU synthesis/term.Size
-- PU synthesis/term.lexical
-- PU strconv.Itoa
-- PU synthesis/grammar.named
-- PU synthesis/grammar.typed
-- PU synthesis/grammar.rule
-- PU synthesis/grammar.sameRule
-- PU synthesis/term.within
-- PU synthesis/term.shallow
-- PU synthesis/term.derived
-- PU synthesis/counting.Total
-- PU synthesis/term.Depth
-- PU math/bits.Len64
-- PU internal/strconv.Itoa
-- PU synthesis/grammar.symbol
-- PU synthesis/grammar.same
-- PU synthesis/value.Check
-- PU slices.Equal[[]int,int]
-- PU synthesis/value.Equal
-- PU synthesis/counting.check
-- PU synthesis/counting.permitted
-- PU synthesis/counting.plus
-- PU synthesis/counting.Count
-- PU internal/strconv.FormatInt
-- PU synthesis/value.unused
-- PU synthesis/value.ranged
-- PU synthesis/value.Compare
-- PU (synthesis/enumerate.lister).reach
-- PU internal/strconv.small
-- PU strings.Cut
-- PU synthesis/operator.typeOf
-- PU internal/stringslite.Cut
-- PU internal/stringslite.Index
-- PU internal/stringslite.IndexByte
-- PU synthesis/sketch.Print
-- PU synthesis/enumerate.Terms
set_option maxRecDepth 100000
def lgF:FV := .agg [.atom (.string ⟨#[110]⟩), .lst 1 1 [.atom (.int .i64 2)], .lst 2 1 [.agg [.atom (.string ⟨#[83]⟩), .atom (.int .i64 2)]], .lst 9 3 [.agg [.atom (.int .i64 0), .atom (.int .i64 1), .atom (.int .i64 0), .atom (.int .i64 0), .atom (.int .i64 0), .atom (.string ⟨#[]⟩), .atom (.slice none 0 0), .atom (.string ⟨#[]⟩), .atom (.slice none 0 0)], .agg [.atom (.int .i64 0), .atom (.int .i64 2), .atom (.int .i64 0), .atom (.int .i64 2), .atom (.int .i64 1), .atom (.string ⟨#[]⟩), .atom (.slice none 0 0), .atom (.string ⟨#[]⟩), .atom (.slice none 0 0)], .agg [.atom (.int .i64 0), .atom (.int .i64 3), .atom (.int .i64 0), .atom (.int .i64 0), .atom (.int .i64 0), .atom (.string ⟨#[]⟩), .atom (.slice none 0 0), .atom (.string ⟨#[97,100,100]⟩), .lst 1 2 [.atom (.int .i64 0), .atom (.int .i64 0)]]]]
def lgT:FV := .agg [.atom (.string ⟨#[110]⟩), .lst 1 1 [.atom (.int .i64 2)], .lst 2 1 [.agg [.atom (.string ⟨#[83]⟩), .atom (.int .i64 2)]], .lst 9 3 [.agg [.atom (.int .i64 0), .atom (.int .i64 1), .atom (.int .i64 0), .atom (.int .i64 0), .atom (.int .i64 0), .atom (.string ⟨#[]⟩), .lst 4 0 [], .atom (.string ⟨#[]⟩), .lst 1 0 []], .agg [.atom (.int .i64 0), .atom (.int .i64 2), .atom (.int .i64 0), .atom (.int .i64 2), .atom (.int .i64 1), .atom (.string ⟨#[]⟩), .lst 4 0 [], .atom (.string ⟨#[]⟩), .lst 1 0 []], .agg [.atom (.int .i64 0), .atom (.int .i64 3), .atom (.int .i64 0), .atom (.int .i64 0), .atom (.int .i64 0), .atom (.string ⟨#[]⟩), .lst 4 0 [], .atom (.string ⟨#[97,100,100]⟩), .lst 1 2 [.atom (.int .i64 0), .atom (.int .i64 0)]]]]
def drF:FV := .agg [.atom (.int .i64 2), .atom (.int .i64 0), .lst 3 2 [.agg [.atom (.int .i64 0), .atom (.int .i64 1), .atom (.slice none 0 0)], .agg [.atom (.int .i64 0), .atom (.int .i64 0), .atom (.slice none 0 0)]], .lst 2 1 [.agg [.atom (.int .i64 0), .lst 2 2 [.agg [.atom (.int .i64 0), .atom (.slice none 0 0)], .agg [.atom (.int .i64 1), .atom (.slice none 0 0)]]]]]
def drT:FV := .agg [.atom (.int .i64 2), .atom (.int .i64 0), .lst 3 2 [.agg [.atom (.int .i64 0), .atom (.int .i64 1), .lst 3 0 []], .agg [.atom (.int .i64 0), .atom (.int .i64 0), .lst 3 0 []]], .lst 2 1 [.agg [.atom (.int .i64 0), .lst 2 2 [.agg [.atom (.int .i64 0), .lst 2 0 []], .agg [.atom (.int .i64 1), .lst 2 0 []]]]]]
theorem check_lgT:PCall prog 46 [lgT] (.atom (.int .i64 0)):=kjw (kl1 [] (fun p hp=>by cases hp)) 2000
theorem kzm:PCall prog 46 [lgF] (.atom (.int .i64 0)):=check_lgT.le (by kernel_rfl)
def lgL:La:=⟨⟨#[110]⟩,[2],[⟨⟨#[83]⟩,2⟩],[Ru.mk 0 1 0 (Va.mk 0 0 ⟨#[]⟩ []) ⟨#[]⟩ [],Ru.mk 0 2 0 (Va.mk 2 1 ⟨#[]⟩ []) ⟨#[]⟩ [],Ru.mk 0 3 0 (Va.mk 0 0 ⟨#[]⟩ []) ⟨#[97,100,100]⟩ [0,0]]⟩
theorem ksr {P:Program} {f:Nat} {xs:List FV} (ys:List FV) (r:FV) (v:Int) {w:Int} (b:PCall P f ys r) (hr:r=eI v) (h:(bif kf8 xs ys then some v else none)=some w):PCall P f xs (eI w):=by
 cases a:kf8 xs ys with
 | false=>rw [a] at h;cases h
 | true=>
  rw [a] at h;obtain rfl:=qu h;rw [kia a,<- hr];exact b
def kl3 (a0:La):Option Int:=bif kf8 [eLa a0] [eLa lgL] then some 0 else none
theorem kng (a0:La) (r:Int) (h:kl3 a0=some r):PCall prog 46 [eLa a0] (eI r):=ksr [eLa lgL] (eI 0) 0 (by rw [show eLa lgL=lgT by kernel_rfl];exact check_lgT) rfl h
def fx1:List (Nat×List FV×FV):=[(46,[lgF], .atom (.int .i64 0)),(46,[lgT], .atom (.int .i64 0))]
theorem k5e:∀ p∈fx1,PCall prog p.1 p.2.1 p.2.2:=fun p hp=>by
 rcases qaa.1 hp with rfl | hp;exact kzm
 ·obtain rfl:=qat.1 hp;exact check_lgT
theorem k8i:PCall prog 47 [lgT, .atom (.int .i64 0), .agg [.atom (.int .i64 0), .lst 2 0 []]] (.atom (.int .i64 0)):=kjw (kl1 fx1 k5e) 2000
def ktq (a0:La) (a1:Int) (a2:Tm):Option Int:=bif kf8 [eLa a0,eI a1,eTm a2] [eLa lgL,eI 0,eTm (Tm.mk 0 [])] then some 0 else none
theorem kww (a0:La) (a1:Int) (a2:Tm) (r:Int) (h:ktq a0 a1 a2=some r):PCall prog 47 [eLa a0,eI a1,eTm a2] (eI r):=ksr [eLa lgL,eI 0,eTm (Tm.mk 0 [])] (eI 0) 0 (by rw [show eLa lgL=lgT by kernel_rfl];exact k8i) rfl h
def kp4 (a0:Va):Option (BA×Int):=none
theorem ks1 (a0:Va) (r:BA×Int) (h:kp4 a0=some r):PCall prog 167 [eVa a0] (.tup [eS r.1,eI r.2]):=by cases h
theorem kabb:PCall prog 74 [.atom (.int .i64 0)] (.atom (.string ⟨#[48]⟩)):=kjw (kl1 [] (fun p hp=>by cases hp)) 2000
theorem kabv:PCall prog 74 [.atom (.int .i64 1)] (.atom (.string ⟨#[49]⟩)):=kjw (kl1 [] (fun p hp=>by cases hp)) 2000
def kj8 (a0:Int):Option BA:=if a0=0 then some ⟨#[48]⟩ else if a0=1 then some ⟨#[49]⟩ else none
theorem kn1 (a0:Int) (r:BA) (h:kj8 a0=some r):PCall prog 74 [eI a0] (eS r):=by
 unfold kj8 at h;split at h;rename_i e;subst e;obtain rfl:=qu h;exact kabb
 ·split at h;rename_i e;subst e;obtain rfl:=qu h;exact kabv
  ·cases h
end Go.Proofs.YtjnjipmjkkhdpaaGreatDoor
