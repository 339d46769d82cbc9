import Derived.Test.YtpcfkflhnkfjjaaGreatOpr
import Derived.Test.YtpcfkflhnkfjjaaGreatMach
set_option linter.all false
namespace Go.Proofs.YtpcfkflhnkfjjaaGreat
open Go Go.RowKit
def ks8 {α:Type} (xs ys:List α):Option Unit:=if xs.length=ys.length then some () else none
theorem knb {α:Type} {xs ys:List α} {u:Unit} (h:ks8 xs ys=some u):xs.length=ys.length:=by
 unfold ks8 at h;split at h
 ·assumption
 ·cases h
structure En (α:Type) where
 f:α->FV
 n:Nat
 cl:α->List FV
 hcl:∀ x,(f x).cells=cl x
 hn:∀ x,(f x).cells.length=n
def nB:En Bool:=⟨eB,1,fun x=>[eB x],fun _=>rfl,fun _=>rfl⟩
def nI:En Int:=⟨eI,1,fun x=>[eI x],fun _=>rfl,fun _=>rfl⟩
def nS:En BA:=⟨eS,1,fun x=>[eS x],fun _=>rfl,fun _=>rfl⟩
def nL {α:Type} (s:Nat) (E:En α):En (List α):=⟨eL s E.f,1,fun x=>[eL s E.f x],fun _=>rfl,fun _=>rfl⟩
def nVaR:En Va:=⟨eVaR,4,fun x=>(eVa x).cells,k2q,k5u⟩
def nTmR:En Tm:=⟨eTmR,2,fun x=>(eTm x).cells,k1m,k55⟩
def nSy:En Sy:=⟨eSy,2,fun x=>(eSy x).cells,fun _=>rfl,fun _=>rfl⟩
def nRu:En Ru:=⟨eRu,9,fun x=>(eRu x).cells,fun _=>rfl,fun _=>rfl⟩
def kqq {γ:Type} (f:Oper->St->Option γ) (g:Cfg):Option γ:=match kn5 g with
 | some p=>f p.1 p.2
 | none=>none
section
variable {P:Program} [t:Tab P] {Q:Exit->St->Prop} {g:Cfg} {β:Type} {r:β}
theorem vst {γ:Type} {f:Oper->St->Option γ} {z:γ} {c:AV} (k:Nat) (hc:kqq f (crun P k g)=some z) (hn:∀ o v,f o v=some z->NStep P o v c) (h:W P (rsm c (crun P k g)) Q):W P g Q:=by
 refine kdc (k:=k) ?_;unfold kqq at hc;split at hc;rename_i p hp;exact ky0 hp (hn _ _ hc) h
 ·cases hc
def ixOf (T:List (TypeId×TD)) (o:Oper) (st:St):Option (Nat×List FV×Int):=match o.op with
 | .indexAddr t x y=>match kak T t with
  | some d=>match d.kind,kn1 (st.eval x),st.eval y with
   | .slice e,some xs, .fz (.atom (.int _ i))=>match kak T e with
    | some de=>some (de.size,xs,i)
    | none=>none
   | _,_,_=>none
  | none=>none
 | _=>none
theorem ix {α:Type} {ys:List α} {i:Int} {K:α->Option β} (E:En α) (k:Nat) (h:Option.bind (idx ys i) K=some r) (c:∀ v,K v=some r->W P (rsm (.fz (.fp (E.cl v))) (crun P k g)) Q) (hc:kqq (ixOf t.T) (crun P k g)=some (E.n,ys.map E.f,i):=by kernel_rfl):W P g Q:=by
 obtain ⟨v,h1,j⟩:=qd.1 h;refine vst k hc (fun o st a=>?_) (c v j);unfold ixOf at a;split at a
 ·rename_i tt x y ho;split at a
  ·rename_i d l;split at a
   ·rename_i e xs k' i' hk m p;split at a;rename_i de b;simp only [ql,qad] at a;obtain ⟨z1,z2,z3⟩:=a;subst z2 z3;exact k8n (enc:=E.f) h1 t.ok ho l hk b m (fun x=>by rw [E.hn,z1]) p (E.hcl v)
    ·cases a
   ·cases a
  ·cases a
 ·cases a
def byOf (T:List (TypeId×TD)) (o:Oper) (st:St):Option (BA×Int):=match o.op with
 | .index t x y=>match kak T t with
  | some d=>match d.kind,st.eval x,st.eval y with
   | .str, .fz (.atom (.string s)), .fz (.atom (.int _ i))=>some (s,i)
   | _,_,_=>none
  | none=>none
 | _=>none
theorem byx {s:BA} {i:Int} {K:Int->Option β} (k:Nat) (h:Option.bind (byt s i) K=some r) (b:∀ v,K v=some r->W P (rsm (.fz (eU8 v)) (crun P k g)) Q) (hc:kqq (byOf t.T) (crun P k g)=some (s,i):=by kernel_rfl):W P g Q:=by
 obtain ⟨v,h1,c⟩:=qd.1 h;refine vst k hc (fun o st a=>?_) (b v c);unfold byOf at a;split at a
 ·rename_i tt x y ho;split at a
  ·rename_i d e;split at a;rename_i s' k' i' hk f j;simp only [ql,qad] at a;obtain ⟨rfl,rfl⟩:=a;exact kabh h1 t.ok ho e hk f j
   ·cases a
  ·cases a
 ·cases a
def tyCs (T:List (TypeId×TD)):Nat->TypeId->List C0
 | 0,_=>[]
 | n+1,t=>match kak T t with
  | some d=>match d.kind with
   | .slice e=>match kak T e with
    | some de=>[.sl de.size]
    | none=>[.keep]
   | .st fs=>fs.flatMap fun p=>tyCs T n p.1
   | .arr m e=>(List.replicate m e).flatMap fun e=>tyCs T n e
   | _=>[.keep]
  | none=>[.keep]
def tyC (T:List (TypeId×TD)) (t:TypeId):C1:=match kak T t with
 | some d=>match d.kind with
  | .slice e=>match kak T e with
   | some de => .one (.sl de.size)
   | none => .one .keep
  | .st _ => .ag (tyCs T 9 t)
  | .arr _ _ => .ag (tyCs T 9 t)
  | _ => .one .keep
 | none => .one .keep
def clOf (T:List (TypeId×TD)) (o:Oper) (st:St):Option (FuncId×List FV):=match o.op with
 | .call c=>match c.callee with
  | .value (.func f)=>match kpz st (c.argTypes.toList.map (tyC T)) c.args.toList with
   | some ys=>some (f,ys)
   | none=>none
  | _=>none
 | _=>none
theorem cl {α:Type} {E:Option α} {K:α->Option β} {f:FuncId} {ys:List FV} {y:α->FV} (k:Nat) (h:Option.bind E K=some r) (hp:∀ v,E=some v->kac P f ys (y v)) (hc:kqq (clOf t.T) (crun P k g)=some (f,ys)) (b:∀ v,K v=some r->W P (rsm (.fz (y v)) (crun P k g)) Q):W P g Q:=by
 obtain ⟨v,h1,d⟩:=qd.1 h;refine vst k hc (fun o st a=>?_) (b v d);unfold clOf at a;split at a
 ·rename_i c ho;split at a
  ·rename_i f' hf;split at a;rename_i ys' e;simp only [ql,qad] at a;obtain ⟨rfl,rfl⟩:=a;obtain ⟨cc,as_,ts⟩:=c;simp only at hf;subst hf;exact k42 ho e (hp v h1)
   ·cases a
  ·cases a
 ·cases a
def hcOf (cs:List C1) (r1 r2:List (Nat×Nat)) (keys ids0 ids1:List Nat) (post:List (Nat×AObj)) (o:Oper) (st:St):Option (FuncId×List AV×List (Nat×AObj)):=match o.op with
 | .call c=>match c.callee with
  | .value x=>match fnOf c.args.size (st.eval x) with
   | some (f,cap)=>match kpf st r1 (renI r2 ids0) cs c.args.toList,kpe r1 (renI r2 ids0) cap,preX st r1 r2 (renI r2 ids0) keys with
    | some as1,some as2,some pre=>bif kmx st r1 r2 keys ids0 ids1 post then some (f,as1++as2,pre) else none
    | _,_,_=>none
   | _=>none
  | _=>none
 | _=>none
theorem hcl {α:Type} {E:Option α} {K:α->Option β} {f:FuncId} {as_:List AV} {pre:List (Nat×AObj)} {ids0 ids1:List Nat} {res:α->AV} {post:α->List (Nat×AObj)} (k:Nat) (cs:List C1) (r1 r2:List (Nat×Nat)) (keys:List Nat) (h:Option.bind E K=some r)
  (hp:∀ v,E=some v->kb7 P f as_ pre ids0 (.ret (res v)) (post v) ids1) (hc:∀ v,ks1 (hcOf cs r1 r2 keys ids0 ids1 (post v)) (crun P k g)=some (f,as_,pre))
  (i:∀ v,K v=some r->W P (rsmA (renA r2 (res v)) (renH r2 (post v)++kl1 (renI r2 ids0) (stOf (crun P k g)).heap) (renI r2 ids1++(stOf (crun P k g)).ids) (crun P k g)) Q):W P g Q:=by
 obtain ⟨v,h1,j⟩:=qd.1 h;obtain ⟨hk,a⟩:=kub (hc v);refine sst k ?_ hk (i v j);unfold hcOf at a;split at a
 ·rename_i c ho;split at a
  ·rename_i x e;split at a
   ·rename_i f' cap b;split at a
    ·rename_i as1 as2 pre' e1 e2 e3;cases d:kmx (stOf (crun P k g)) r1 r2 keys ids0 ids1 (post v) with
     | false=>rw [d] at a;cases a
     | true=>
      rw [d] at a;simp only [qf,ql,qad] at a;obtain ⟨rfl,rfl,rfl⟩:=a;obtain ⟨cc,as_,ts⟩:=c;simp only at e;subst e;exact k4i r1 r2 ho b (hp v h1) e1 e2 d e3
    ·cases a
   ·cases a
  ·cases a
 ·cases a
theorem kaai {cs:List C1} {r1 r2:List (Nat×Nat)} {keys ids0 ids1:List Nat} {post:List (Nat×AObj)} {o:Oper} {st:St} {f:FuncId} {as_:List AV} {pre:List (Nat×AObj)} (a:hcOf cs r1 r2 keys ids0 ids1 post o st=some (f,as_,pre)):
  ∃ x args ts cap as1 as2,o.op = .call { callee := .value x,args:=args,argTypes:=ts }/\fnOf args.size (st.eval x)=some (f,cap)/\kpf st r1 (renI r2 ids0) cs args.toList=some as1/\kpe r1 (renI r2 ids0) cap=some as2/\as_=as1++as2/\kmx st r1 r2 keys ids0 ids1 post=true/\preX st r1 r2 (renI r2 ids0) keys=some pre:=by
 unfold hcOf at a;split at a
 ·rename_i c ho;split at a
  ·rename_i x d;split at a
   ·rename_i f' cap b;split at a
    ·rename_i as1 as2 pre' e1 e2 e3;cases e:kmx st r1 r2 keys ids0 ids1 post with
     | false=>rw [e] at a;cases a
     | true=>
      rw [e] at a;simp only [qf,ql,qad] at a;obtain ⟨rfl,rfl,rfl⟩:=a;obtain ⟨cc,as_,ts⟩:=c;simp only at d;subst d;exact ⟨x,as_,ts,cap,as1,as2,ho,b,e1,e2,rfl,rfl,e3⟩
    ·cases a
   ·cases a
  ·cases a
 ·cases a
structure ApR where
 id:Nat
 e:TypeId
 size:Nat
 bytes:Nat
 n:Nat
 xs:List FV
 ys:List FV
def k19 (size:Nat):AV->Option (List FV)
 | .fz (.lst s _ ys)=>bif Nat.beq s size then some ys else none
 | .lim s _ ys=>bif Nat.beq s size then some ys else none
 | _=>none
theorem k5h {size:Nat} {x:AV} {ys:List FV} (h:k19 size x=some ys):∃ m,x = .fz (.lst size m ys)\/x = .lim size m ys:=by
 unfold k19 at h;split at h
 ·rename_i s m zs;cases a:Nat.beq s size with
  | false=>rw [a] at h;cases h
  | true=>
   rw [a] at h;obtain rfl:=qv a;obtain rfl:=qaq h;exact ⟨m, .inl rfl⟩
 ·rename_i s m zs;cases a:Nat.beq s size with
  | false=>rw [a] at h;cases h
  | true=>
   rw [a] at h;obtain rfl:=qv a;obtain rfl:=qaq h;exact ⟨m, .inr rfl⟩
 ·cases h
def apOf (T:List (TypeId×TD)) (o:Oper) (st:St):Option ApR:=match o.op with
 | .call c=>match c.callee,c.args.toList,c.argTypes.toList with
  | .builtin .append,[X,Y],[t,u]=>bif Nat.beq u t then (match kak T t with
   | some d=>match d.kind,st.eval X with
    | .slice e, .row id n=>match kak T e,kae st.heap id with
     | some de,some (.frow e' s xs)=>match k19 de.size (st.eval Y) with
      | some ys=>bif Nat.beq e' e && (Nat.beq s de.size && (Nat.ble 1 de.size && Nat.beq de.zero.length de.size)) then some ⟨id,e,de.size,de.bytes,n,xs,ys⟩ else none
      | none=>none
     | _,_=>none
    | _,_=>none
   | none=>none) else none
  | _,_,_=>none
 | _=>none
theorem kv3 {α:Type} {E:En α} {xs ys v:List α} {o:Oper} {st:St} {q:ApR} (a:apOf t.T o st=some q) (h:app q.bytes xs ys=some v) (hn:q.n=xs.length) (k:q.xs=xs.map E.f) (l:q.ys=ys.map E.f):
  ∃ (X Y:Operand) (ty:TypeId) (d de:TD) (m:Nat),o.op = .call { callee := .builtin .append,args:=#[X,Y],argTypes:=#[ty,ty] }/\kak t.T ty=some d/\d.kind = .slice q.e/\kak t.T q.e=some de/\de.size=q.size/\Nat.ble 1 de.size=true/\de.zero.length=de.size/\de.bytes=q.bytes /\
   st.eval X = .row q.id xs.length/\kae st.heap q.id=some (.frow q.e de.size (xs.map E.f))/\(st.eval Y = .fz (.lst de.size m (ys.map E.f))\/st.eval Y = .lim de.size m (ys.map E.f)):=by
 unfold apOf at a;split at a
 ·rename_i c ho;split at a
  ·rename_i X Y ty u h1 p r;cases g:Nat.beq u ty with
   | false=>rw [g] at a;cases a
   | true=>
    rw [g] at a;obtain rfl:=qv g;simp only [qf] at a;split at a
    ·rename_i d w;split at a
     ·rename_i e id n hk x;split at a
      ·rename_i de e' s xs' i j;split at a
       ·rename_i ys' y;cases b:(Nat.beq e' e && (Nat.beq s de.size && (Nat.ble 1 de.size && Nat.beq de.zero.length de.size))) with
        | false=>rw [b] at a;cases a
        | true=>
         rw [b] at a;obtain rfl:=qaq a;simp only [qy] at b;obtain ⟨b1,b2,b3,b4⟩:=b;obtain rfl:=qv b1;obtain rfl:=qv b2;simp only at hn k l;subst hn k l;obtain ⟨m,hm⟩:=k5h y;obtain ⟨cc,as_,ts⟩:=c;simp only at h1 p r;rw [h1,ko3 p,ko3 r] at ho;exact ⟨X,Y,_,d,de,m,ho,w,hk,i,rfl,b3,qv b4,rfl,x,j,hm⟩
       ·cases a
      ·cases a
     ·cases a
    ·cases a
  ·cases a
 ·cases a
def apK (q:Option ApR):Option (Nat×Nat×List FV×List FV):=match q with
 | some q=>some (q.bytes,q.n,q.xs,q.ys)
 | none=>none
def apG {α:Type} (T:List (TypeId×TD)) (E:En α) (v:List α) (g:Cfg):Cfg:=match ks1 (apOf T) g with
 | some q=>rsmA (.row q.id v.length) ((q.id, .frow q.e q.size (v.map E.f))::(stOf g).heap) (stOf g).ids g
 | none=>⟨.bad,g.ks,g.st⟩
theorem ap {α:Type} {bytes:Nat} {xs ys:List α} {K:List α->Option β} (E:En α) (k:Nat) (h:Option.bind (app bytes xs ys) K=some r) (a:∀ v,K v=some r->W P (apG t.T E v (crun P k g)) Q) (hc:apK (ks1 (apOf t.T) (crun P k g))=some (bytes,xs.length,xs.map E.f,ys.map E.f):=by kernel_rfl):W P g Q:=by
 obtain ⟨v,h1,c⟩:=qd.1 h;have a:=a v c;unfold apK at hc;split at hc;rename_i q b;simp only [ql,qad] at hc;obtain ⟨rfl,e1,e2,e3⟩:=hc;unfold apG at a;rw [b] at a;obtain ⟨hk,e⟩:=kub b;refine sst k ?_ hk a;obtain ⟨X,Y,ty,d,de,m,k1,k2,k3,k4,k5,k6,k7,k8,k9,k10,k11⟩:=kv3 e h1 e1 e2 e3;rw [<- k5];exact kt2 (enc:=E.f) h1 t.ok k1 k2 k3 k4 k6 k7 k8 k9 k10 rfl k11
 ·cases hc
def kle {γ:Type} (f:Oper->St->Option γ) (g:Cfg):Option γ:=bif okZ g then f (kng g) (kia g) else none
theorem ksc {γ:Type} {f:Oper->St->Option γ} {z:γ} {g:Cfg} (h:kle f g=some z):okZ g=true/\f (kng g) (kia g)=some z:=by
 unfold kle at h;cases hk:okZ g with
 | false=>rw [hk] at h;cases h
 | true=>rw [hk] at h;exact ⟨rfl,h⟩
def apZh {α:Type} (T:List (TypeId×TD)) (E:En α) (v:List α) (g:Cfg):List (Nat×AObj):=match kle (apOf T) g with
 | some q=>(q.id, .frow q.e q.size (v.map E.f))::(kia g).heap
 | none=>[]
def apGZ {α:Type} (T:List (TypeId×TD)) (E:En α) (v:List α) (g:Cfg):Cfg:=match kle (apOf T) g with
 | some q=>rsmZ (.row q.id v.length) (apZh T E v g) (kia g).ids g
 | none=>⟨.bad,g.ks,g.st⟩
theorem apZ {α:Type} {bytes:Nat} {xs ys:List α} {K:List α->Option β} (E:En α) (k:Nat) (h:Option.bind (app bytes xs ys) K=some r) (hc:apK (kle (apOf t.T) (crun P k g))=some (bytes,xs.length,xs.map E.f,ys.map E.f))
  (hi:idsZ (kia (crun P k g)).ids (crun P k g)=true) (hk:∀ v,offZ (crun P k g) (apZh t.T E v (crun P k g))=offZ (crun P k g) (hpZ (crun P k g))) (a:∀ v,K v=some r->W P (apGZ t.T E v (crun P k g)) Q):W P g Q:=by
 obtain ⟨v,h1,e⟩:=qd.1 h;have a:=a v e;have hk:=hk v;unfold apK at hc;split at hc;rename_i q b;simp only [ql,qad] at hc;obtain ⟨rfl,e1,e2,e3⟩:=hc;unfold apGZ at a;rw [b] at a;obtain ⟨c,i⟩:=ksc b;refine zst k ?_ c hi hk a;obtain ⟨X,Y,ty,d,de,m,k1,k2,k3,k4,k5,k6,k7,k8,k9,k10,k11⟩:=kv3 i h1 e1 e2 e3;unfold apZh;rw [b];simp only;rw [<- k5];exact kt2 (enc:=E.f) h1 t.ok k1 k2 k3 k4 k6 k7 k8 k9 k10 rfl k11
 ·cases hc
theorem hclZ {α:Type} {E:Option α} {K:α->Option β} {f:FuncId} {as_:List AV} {pre:List (Nat×AObj)} {ids0 ids1:List Nat} {res:α->AV} {post:α->List (Nat×AObj)} (k:Nat) (cs:List C1) (r1 r2:List (Nat×Nat)) (keys:List Nat) (h:Option.bind E K=some r)
  (hp:∀ v,E=some v->kb7 P f as_ pre ids0 (.ret (res v)) (post v) ids1) (hc:∀ v,kle (hcOf cs r1 r2 keys ids0 ids1 (post v)) (crun P k g)=some (f,as_,pre)) (hi:idsZ (renI r2 ids1++(kia (crun P k g)).ids) (crun P k g)=true)
  (hk:∀ v,offZ (crun P k g) (renH r2 (post v)++kl1 (renI r2 ids0) (kia (crun P k g)).heap)=offZ (crun P k g) (hpZ (crun P k g)))
  (b:∀ v,K v=some r->W P (rsmZ (renA r2 (res v)) (renH r2 (post v)++kl1 (renI r2 ids0) (kia (crun P k g)).heap) (renI r2 ids1++(kia (crun P k g)).ids) (crun P k g)) Q):W P g Q:=by
 obtain ⟨v,h1,c⟩:=qd.1 h;obtain ⟨a,d⟩:=ksc (hc v);obtain ⟨x,args,ts,cap,as1,as2,e1,e2,e3,e4,rfl,e5,e6⟩:=kaai d;exact zst k (k4i r1 r2 e1 e2 (hp v h1) e3 e4 e5 e6) a hi (hk v) (b v c)
theorem clL {α:Type} {E:Option α} {K:α->Option β} {f:FuncId} {ys:List FV} {y:α->FV} (k:Nat) (ls:List LendI) (h:Option.bind E K=some r) (hp:∀ v,E=some v->kac P f ys (y v)) (hl:∀ l∈ls,l.ok (kx2 (crun P k g)))
  (hc:kqq (fun o st=>clOf t.T o (k72 ls st)) (crun P k g)=some (f,ys)) (ha:∀ v,k7j (y v)=true) (a:∀ v,K v=some r->W P (rsm (.fz (y v)) (crun P k g)) Q):W P g Q:=by
 obtain ⟨v,h1,b⟩:=qd.1 h;refine kdc (k:=k) ?_;have a:=a v b;generalize crun P k g=g' at *
 unfold kqq at hc;split at hc
 ·rename_i p hv;obtain ⟨o,st⟩:=p;obtain ⟨e1,e2⟩:=kyn hv;rw [e2] at hl;refine ky0 hv (kaay ls hl ?_ (ha v)) a;unfold clOf at hc;simp only at hc;split at hc
  ·rename_i c ho;split at hc
   ·rename_i f' hf;split at hc;rename_i ys' d;simp only [ql,qad] at hc;obtain ⟨rfl,rfl⟩:=hc;obtain ⟨cc,as_,ts⟩:=c;simp only at hf;subst hf;exact k42 ho d (hp v h1)
    ·cases hc
   ·cases hc
  ·cases hc
 ·cases hc
end
end Go.Proofs.YtpcfkflhnkfjjaaGreat
