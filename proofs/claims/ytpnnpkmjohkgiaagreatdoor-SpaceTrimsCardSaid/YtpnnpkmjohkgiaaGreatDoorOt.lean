import Derived.Test.YtpnnpkmjohkgiaaGreatDoorOpr
import Derived.Test.YtpnnpkmjohkgiaaGreatDoorMach
set_option linter.all false
namespace Go.Proofs.YtpnnpkmjohkgiaaGreatDoor
open Go Go.RowKit
structure En (α:Type) where
 f:α->FV
 n:Nat
 cl:α->List FV
 hcl:∀ x,(f x).cells=cl x
 hn:∀ x,(f x).cells.length=n
def nB:En Bool:=⟨eB,1,fun x=>[eB x],fun _=>rfl,fun _=>rfl⟩
def nI:En Int:=⟨eI,1,fun x=>[eI x],fun _=>rfl,fun _=>rfl⟩
def kj7 {γ:Type} (f:Oper->St->Option γ) (g:Cfg):Option γ:=match khh g with
 | some p=>f p.1 p.2
 | none=>none
section
variable {P:Program} [t:Tab P] {Q:Exit->St->Prop} {g:Cfg} {β:Type} {r:β}
theorem vst {γ:Type} {f:Oper->St->Option γ} {z:γ} {c:AV} (k:Nat) (hc:kj7 f (crun P k g)=some z) (hn:∀ o v,f o v=some z->NStep P o v c) (h:W P (rsm c (crun P k g)) Q):W P g Q:=by
 refine kcc (k:=k) ?_;unfold kj7 at hc;split at hc;rename_i p hp;exact ko9 hp (hn _ _ hc) h
 ·cases hc
def ixOf (T:List (TypeId×TD)) (o:Oper) (st:St):Option (Nat×List FV×Int):=match o.op with
 | .indexAddr t x y=>match kad T t with
  | some d=>match d.kind,khf (st.eval x),st.eval y with
   | .slice e,some xs, .fz (.atom (.int _ i))=>match kad T e with
    | some de=>some (de.size,xs,i)
    | none=>none
   | _,_,_=>none
  | none=>none
 | _=>none
theorem ix {α:Type} {ys:List α} {i:Int} {K:α->Option β} (E:En α) (k:Nat) (h:Option.bind (idx ys i) K=some r) (hc:kj7 (ixOf t.T) (crun P k g)=some (E.n,ys.map E.f,i)) (c:∀ v,K v=some r->W P (rsm (.fz (.fp (E.cl v))) (crun P k g)) Q):W P g Q:=by
 obtain ⟨v,h1,j⟩:=qi.1 h;refine vst k hc (fun o st a=>?_) (c v j);unfold ixOf at a;split at a
 ·rename_i tt x y ho;split at a
  ·rename_i d l;split at a
   ·rename_i e xs k' i' hk m hy;split at a;rename_i de b;simp only [qb,qj] at a;obtain ⟨z1,z2,z3⟩:=a;subst z2 z3;exact kya (enc:=E.f) h1 t.ok ho l hk b m (fun x=>by rw [E.hn,z1]) hy (E.hcl v)
    ·cases a
   ·cases a
  ·cases a
 ·cases a
def tyCs (T:List (TypeId×TD)):Nat->TypeId->List C0
 | 0,_=>[]
 | n+1,t=>match kad T t with
  | some d=>match d.kind with
   | .slice e=>match kad T e with
    | some de=>[.sl de.size]
    | none=>[.keep]
   | .st fs=>fs.flatMap fun p=>tyCs T n p.1
   | .arr m e=>(List.replicate m e).flatMap fun e=>tyCs T n e
   | _=>[.keep]
  | none=>[.keep]
def tyC (T:List (TypeId×TD)) (t:TypeId):C1:=match kad T t with
 | some d=>match d.kind with
  | .slice e=>match kad T e with
   | some de => .one (.sl de.size)
   | none => .one .keep
  | .st _ => .ag (tyCs T 9 t)
  | .arr _ _ => .ag (tyCs T 9 t)
  | _ => .one .keep
 | none => .one .keep
def clOf (T:List (TypeId×TD)) (o:Oper) (st:St):Option (FuncId×List FV):=match o.op with
 | .call c=>match c.callee with
  | .value (.func f)=>match kh7 st (c.argTypes.toList.map (tyC T)) c.args.toList with
   | some ys=>some (f,ys)
   | none=>none
  | _=>none
 | _=>none
theorem cl {α:Type} {E:Option α} {K:α->Option β} {f:FuncId} {ys:List FV} {y:α->FV} (k:Nat) (h:Option.bind E K=some r) (hp:∀ v,E=some v->PCall P f ys (y v)) (hc:kj7 (clOf t.T) (crun P k g)=some (f,ys)) (b:∀ v,K v=some r->W P (rsm (.fz (y v)) (crun P k g)) Q):W P g Q:=by
 obtain ⟨v,h1,d⟩:=qi.1 h;refine vst k hc (fun o st a=>?_) (b v d);unfold clOf at a;split at a
 ·rename_i c ho;split at a
  ·rename_i f' hf;split at a;rename_i ys' hy;simp only [qb,qj] at a;obtain ⟨rfl,rfl⟩:=a;obtain ⟨cc,as_,ts⟩:=c;simp only at hf;subst hf;exact kuq ho hy (hp v h1)
   ·cases a
  ·cases a
 ·cases a
def hcOf (cs:List C1) (r1 r2:List (Nat×Nat)) (keys ids0 ids1:List Nat) (post:List (Nat×AObj)) (o:Oper) (st:St):Option (FuncId×List AV×List (Nat×AObj)):=match o.op with
 | .call c=>match c.callee with
  | .value x=>match fnOf c.args.size (st.eval x) with
   | some (f,cap)=>match khz st r1 (renI r2 ids0) cs c.args.toList,khy r1 (renI r2 ids0) cap,preX st r1 r2 (renI r2 ids0) keys with
    | some as1,some as2,some pre=>bif kgq st r1 r2 keys ids0 ids1 post then some (f,as1++as2,pre) else none
    | _,_,_=>none
   | _=>none
  | _=>none
 | _=>none
theorem hcl {α:Type} {E:Option α} {K:α->Option β} {f:FuncId} {as_:List AV} {pre:List (Nat×AObj)} {ids0 ids1:List Nat} {res:α->AV} {post:α->List (Nat×AObj)} (k:Nat) (cs:List C1) (r1 r2:List (Nat×Nat)) (keys:List Nat) (h:Option.bind E K=some r)
  (hp:∀ v,E=some v->kdh P f as_ pre ids0 (.ret (res v)) (post v) ids1) (hc:∀ v,kl5 (hcOf cs r1 r2 keys ids0 ids1 (post v)) (crun P k g)=some (f,as_,pre))
  (i:∀ v,K v=some r->W P (rsmA (renA r2 (res v)) (renH r2 (post v)++ke2 (renI r2 ids0) (stOf (crun P k g)).heap) (renI r2 ids1++(stOf (crun P k g)).ids) (crun P k g)) Q):W P g Q:=by
 obtain ⟨v,h1,j⟩:=qi.1 h;obtain ⟨hk,a⟩:=ko2 (hc v);refine sst k ?_ hk (i v j);unfold hcOf at a;split at a
 ·rename_i c ho;split at a
  ·rename_i x e;split at a
   ·rename_i f' cap b;split at a
    ·rename_i as1 as2 pre' e1 e2 e3;cases d:kgq (stOf (crun P k g)) r1 r2 keys ids0 ids1 (post v) with
     | false=>rw [d] at a;cases a
     | true=>
      rw [d] at a;simp only [qe,qb,qj] at a;obtain ⟨rfl,rfl,rfl⟩:=a;obtain ⟨cc,as_,ts⟩:=c;simp only at e;subst e;exact kpj r1 r2 ho b (hp v h1) e1 e2 d e3
    ·cases a
   ·cases a
  ·cases a
 ·cases a
theorem kq8 {cs:List C1} {r1 r2:List (Nat×Nat)} {keys ids0 ids1:List Nat} {post:List (Nat×AObj)} {o:Oper} {st:St} {f:FuncId} {as_:List AV} {pre:List (Nat×AObj)} (a:hcOf cs r1 r2 keys ids0 ids1 post o st=some (f,as_,pre)):
  ∃ x args ts cap as1 as2,o.op = .call { callee := .value x,args:=args,argTypes:=ts }/\fnOf args.size (st.eval x)=some (f,cap)/\khz st r1 (renI r2 ids0) cs args.toList=some as1/\khy r1 (renI r2 ids0) cap=some as2/\as_=as1++as2/\kgq st r1 r2 keys ids0 ids1 post=true/\preX st r1 r2 (renI r2 ids0) keys=some pre:=by
 unfold hcOf at a;split at a
 ·rename_i c ho;split at a
  ·rename_i x d;split at a
   ·rename_i f' cap b;split at a
    ·rename_i as1 as2 pre' e1 e2 e3;cases e:kgq st r1 r2 keys ids0 ids1 post with
     | false=>rw [e] at a;cases a
     | true=>
      rw [e] at a;simp only [qe,qb,qj] at a;obtain ⟨rfl,rfl,rfl⟩:=a;obtain ⟨cc,as_,ts⟩:=c;simp only at d;subst d;exact ⟨x,as_,ts,cap,as1,as2,ho,b,e1,e2,rfl,rfl,e3⟩
    ·cases a
   ·cases a
  ·cases a
 ·cases a
structure ApR where
 id:Nat
 e:TypeId
 size:Nat
 bytes:Nat
 n:Nat
 xs:List FV
 ys:List FV
def kr0 (size:Nat):AV->Option (List FV)
 | .fz (.lst s _ ys)=>bif Nat.beq s size then some ys else none
 | .lim s _ ys=>bif Nat.beq s size then some ys else none
 | _=>none
theorem ku2 {size:Nat} {x:AV} {ys:List FV} (h:kr0 size x=some ys):∃ m,x = .fz (.lst size m ys)\/x = .lim size m ys:=by
 unfold kr0 at h;split at h
 ·rename_i s m zs;cases a:Nat.beq s size with
  | false=>rw [a] at h;cases h
  | true=>
   rw [a] at h;obtain rfl:=qf a;obtain rfl:=qag h;exact ⟨m, .inl rfl⟩
 ·rename_i s m zs;cases a:Nat.beq s size with
  | false=>rw [a] at h;cases h
  | true=>
   rw [a] at h;obtain rfl:=qf a;obtain rfl:=qag h;exact ⟨m, .inr rfl⟩
 ·cases h
def apOf (T:List (TypeId×TD)) (o:Oper) (st:St):Option ApR:=match o.op with
 | .call c=>match c.callee,c.args.toList,c.argTypes.toList with
  | .builtin .append,[X,Y],[t,u]=>bif Nat.beq u t then (match kad T t with
   | some d=>match d.kind,st.eval X with
    | .slice e, .row id n=>match kad T e,kab st.heap id with
     | some de,some (.frow e' s xs)=>match kr0 de.size (st.eval Y) with
      | some ys=>bif Nat.beq e' e && (Nat.beq s de.size && (Nat.ble 1 de.size && Nat.beq de.zero.length de.size)) then some ⟨id,e,de.size,de.bytes,n,xs,ys⟩ else none
      | none=>none
     | _,_=>none
    | _,_=>none
   | none=>none) else none
  | _,_,_=>none
 | _=>none
theorem kx8 {α:Type} {E:En α} {xs ys v:List α} {o:Oper} {st:St} {q:ApR} (a:apOf t.T o st=some q) (h:app q.bytes xs ys=some v) (hn:q.n=xs.length) (k:q.xs=xs.map E.f) (hy:q.ys=ys.map E.f):
  ∃ (X Y:Operand) (ty:TypeId) (d de:TD) (m:Nat),o.op = .call { callee := .builtin .append,args:=#[X,Y],argTypes:=#[ty,ty] }/\kad t.T ty=some d/\d.kind = .slice q.e/\kad t.T q.e=some de/\de.size=q.size/\Nat.ble 1 de.size=true/\de.zero.length=de.size/\de.bytes=q.bytes /\
   st.eval X = .row q.id xs.length/\kab st.heap q.id=some (.frow q.e de.size (xs.map E.f))/\(st.eval Y = .fz (.lst de.size m (ys.map E.f))\/st.eval Y = .lim de.size m (ys.map E.f)):=by
 unfold apOf at a;split at a
 ·rename_i c ho;split at a
  ·rename_i X Y ty u h1 l p;cases g:Nat.beq u ty with
   | false=>rw [g] at a;cases a
   | true=>
    rw [g] at a;obtain rfl:=qf g;simp only [qe] at a;split at a
    ·rename_i d r;split at a
     ·rename_i e id n hk w;split at a
      ·rename_i de e' s xs' i j;split at a
       ·rename_i ys' x;cases b:(Nat.beq e' e && (Nat.beq s de.size && (Nat.ble 1 de.size && Nat.beq de.zero.length de.size))) with
        | false=>rw [b] at a;cases a
        | true=>
         rw [b] at a;obtain rfl:=qag a;simp only [qn] at b;obtain ⟨b1,b2,b3,b4⟩:=b;obtain rfl:=qf b1;obtain rfl:=qf b2;simp only at hn k hy;subst hn k hy;obtain ⟨m,hm⟩:=ku2 x;obtain ⟨cc,as_,ts⟩:=c;simp only at h1 l p;rw [h1,khw l,khw p] at ho;exact ⟨X,Y,_,d,de,m,ho,r,hk,i,rfl,b3,qf b4,rfl,w,j,hm⟩
       ·cases a
      ·cases a
     ·cases a
    ·cases a
  ·cases a
 ·cases a
def apK (q:Option ApR):Option (Nat×Nat×List FV×List FV):=match q with
 | some q=>some (q.bytes,q.n,q.xs,q.ys)
 | none=>none
def apG {α:Type} (T:List (TypeId×TD)) (E:En α) (v:List α) (g:Cfg):Cfg:=match kl5 (apOf T) g with
 | some q=>rsmA (.row q.id v.length) ((q.id, .frow q.e q.size (v.map E.f))::(stOf g).heap) (stOf g).ids g
 | none=>⟨.bad,g.ks,g.st⟩
theorem ap {α:Type} {bytes:Nat} {xs ys:List α} {K:List α->Option β} (E:En α) (k:Nat) (h:Option.bind (app bytes xs ys) K=some r) (a:∀ v,K v=some r->W P (apG t.T E v (crun P k g)) Q) (hc:apK (kl5 (apOf t.T) (crun P k g))=some (bytes,xs.length,xs.map E.f,ys.map E.f):=by kernel_rfl):W P g Q:=by
 obtain ⟨v,h1,c⟩:=qi.1 h;have a:=a v c;unfold apK at hc;split at hc;rename_i q b;simp only [qb,qj] at hc;obtain ⟨rfl,e1,e2,e3⟩:=hc;unfold apG at a;rw [b] at a;obtain ⟨hk,e⟩:=ko2 b;refine sst k ?_ hk a;obtain ⟨X,Y,ty,d,de,m,k1,k2,k3,k4,k5,k6,k7,k8,k9,k10,k11⟩:=kx8 e h1 e1 e2 e3;rw [<- k5];exact kvh (enc:=E.f) h1 t.ok k1 k2 k3 k4 k6 k7 k8 k9 k10 rfl k11
 ·cases hc
def kme {γ:Type} (f:Oper->St->Option γ) (g:Cfg):Option γ:=bif okZ g then f (kgz g) (ken g) else none
theorem knl {γ:Type} {f:Oper->St->Option γ} {z:γ} {g:Cfg} (h:kme f g=some z):okZ g=true/\f (kgz g) (ken g)=some z:=by
 unfold kme at h;cases hk:okZ g with
 | false=>rw [hk] at h;cases h
 | true=>rw [hk] at h;exact ⟨rfl,h⟩
theorem hclZ {α:Type} {E:Option α} {K:α->Option β} {f:FuncId} {as_:List AV} {pre:List (Nat×AObj)} {ids0 ids1:List Nat} {res:α->AV} {post:α->List (Nat×AObj)} (k:Nat) (cs:List C1) (r1 r2:List (Nat×Nat)) (keys:List Nat) (h:Option.bind E K=some r)
  (hp:∀ v,E=some v->kdh P f as_ pre ids0 (.ret (res v)) (post v) ids1) (hc:∀ v,kme (hcOf cs r1 r2 keys ids0 ids1 (post v)) (crun P k g)=some (f,as_,pre)) (hi:idsZ (renI r2 ids1++(ken (crun P k g)).ids) (crun P k g)=true)
  (hk:∀ v,offZ (crun P k g) (renH r2 (post v)++ke2 (renI r2 ids0) (ken (crun P k g)).heap)=offZ (crun P k g) (hpZ (crun P k g)))
  (b:∀ v,K v=some r->W P (rsmZ (renA r2 (res v)) (renH r2 (post v)++ke2 (renI r2 ids0) (ken (crun P k g)).heap) (renI r2 ids1++(ken (crun P k g)).ids) (crun P k g)) Q):W P g Q:=by
 obtain ⟨v,h1,c⟩:=qi.1 h;obtain ⟨a,d⟩:=knl (hc v);obtain ⟨x,args,ts,cap,as1,as2,e1,e2,e3,e4,rfl,e5,e6⟩:=kq8 d;exact zst k (kpj r1 r2 e1 e2 (hp v h1) e3 e4 e5 e6) a hi (hk v) (b v c)
theorem clL {α:Type} {E:Option α} {K:α->Option β} {f:FuncId} {ys:List FV} {y:α->FV} (k:Nat) (ls:List LendI) (h:Option.bind E K=some r) (hp:∀ v,E=some v->PCall P f ys (y v)) (hl:∀ l∈ls,l.ok (kob (crun P k g)))
  (hc:kj7 (fun o st=>clOf t.T o (kxt ls st)) (crun P k g)=some (f,ys)) (ha:∀ v,kw9 (y v)=true) (a:∀ v,K v=some r->W P (rsm (.fz (y v)) (crun P k g)) Q):W P g Q:=by
 obtain ⟨v,h1,b⟩:=qi.1 h;refine kcc (k:=k) ?_;have a:=a v b;generalize crun P k g=g' at *
 unfold kj7 at hc;split at hc
 ·rename_i p hv;obtain ⟨o,st⟩:=p;obtain ⟨e1,e2⟩:=kox hv;rw [e2] at hl;refine ko9 hv (k09 ls hl ?_ (ha v)) a;unfold clOf at hc;simp only at hc;split at hc
  ·rename_i c ho;split at hc
   ·rename_i f' hf;split at hc;rename_i ys' hy;simp only [qb,qj] at hc;obtain ⟨rfl,rfl⟩:=hc;obtain ⟨cc,as_,ts⟩:=c;simp only at hf;subst hf;exact kuq ho hy (hp v h1)
    ·cases hc
   ·cases hc
  ·cases hc
 ·cases hc
end
section
variable {P:Program} {F S0:Nat->Prop} {N0:Nat} {w w':World} {S S':Nat->Prop} {ψ:Env} {K:Nat->Prop} {T:List (TypeId×TD)} {o:Oper} {a:Act} {st:St} {t:TypeId} {d:TD} {id:Nat}
theorem kii {v:Value} {e:TypeId} {size n:Nat} {cs:List Value} (h:w.ownsRow 0 e size v n cs) (hn:0<n):∃ g cap,v = .slice (some ⟨g,0,none⟩) n cap:=by
 rcases h.2 with ⟨_,h0⟩ | ⟨g,cap,cur,hv,_⟩;omega
 ·exact ⟨g,cap,hv⟩
theorem kl8 {α:Type} (E:En α) {xs:List α} {x:α} {i:Int} {X Y:Operand} {e:TypeId} {de:TD} {k:IntKind} {n:Nat} (h:idx xs i=some x) (s:TOk P T) (ho:o.op = .indexAddr t X Y) (q:kad T t=some d) (hk:d.kind = .slice e) (l:kad T e=some de) (y:de.size=E.n)
  (z:st.eval X = .row id n) (r:kab st.heap id=some (.frow e E.n (xs.map E.f))) (hn:n=xs.length) (hy:st.eval Y = .fz (.atom (.int k i)):=by kernel_rfl):NStep P o st (.ref id n (i.toNat*E.n+0)):=by
 intro ψ S a w ht A;subst hn;have q:=s.get q;have l:=s.get l;obtain ⟨h0,hi⟩:=kiy h;have B:i.toNat<xs.length:=(qd.1 hi).1;have m:=Sim.eval_tmps ht X;rw [z] at m;have b:=Sim.eval_tmps ht Y;rw [hy] at b;have b:=b.atom;obtain ⟨hl,_,cs,c,_,_⟩:=A id _ r;rw [qaj] at hl c;obtain ⟨g,cap,j⟩:=kii c (by omega);have hK:id∈st.ids/\a.eval X=ψ.val id:=by
  generalize a.eval X=u at m;cases m with
  | row hK C h1 hv=>exact ⟨hK,hv hl.symm⟩
 refine kaf (w':=w) (v := .pointer (some ⟨g,i.toNat*E.n+0,none⟩)) ?_ ⟨kag _, .ref hK.1 (by omega) rfl fun _=>⟨g,by rw [j];rfl,rfl⟩⟩;have p:i<(xs.length:Int):=by omega
 simp [execOp,ho,hK.2,j,b,Instr.indexAt,asIntOf,run_underlying (q.slice hk),h0,p,l.size,y,kbl]
theorem krh {s:TypeId} {x:Operand} {f:Nat} {fs:List (TypeId×Nat)} {ft:TypeId} {off n p q:Nat} {e:TypeId} {size:Nat} {xs:List FV} {df:TD} (y:TOk P T) (ho:o.op = .fieldAddr s x f) (k:kad T s=some d) (hk:d.kind = .st fs) (hf:fs[f]?=some (ft,off)) (c:kad T ft=some df) (z:Nat.beq df.size 0=false)
  (A:st.eval x = .ref id n (p+q)) (l:kab st.heap id=some (.frow e size xs)) (hn:n=xs.length):NStep P o st (.ref id n (p+(q+off))):=by
 intro ψ S a w ht B;have k:=y.get k;have c:=y.get c;have i:=Sim.eval_tmps ht x;rw [A] at i;obtain ⟨hl,_⟩:=B id _ l;obtain ⟨gs,C,m⟩:=k.strct hk;have j:∃ g:Field,gs[f]?=some g/\g.type=ft/\g.offset=off:=by rw [<- m,qr,qp] at hf;obtain ⟨g,j,r⟩:=hf;simp only [qj] at r;exact ⟨g,by simpa using j,r.1,r.2⟩
 obtain ⟨g,j,rfl,rfl⟩:=j;have t:df.size≠0:=fun h=>by rw [h] at z;cases z
 obtain ⟨b,hv,hr⟩:∃ b,a.eval x = .pointer (some ⟨b,p+q,none⟩)/\RV ψ (·∈st.ids) S w (.pointer (some ⟨b,p+q+g.offset,none⟩)) (.ref id n (p+(q+g.offset))):=by
  generalize a.eval x=u at i;cases i with
  | ref hK v h1 hv=>
   obtain ⟨b,D,rfl⟩:=hv (by rw [hl,hn]);exact ⟨b,rfl, .ref hK v rfl fun _=>⟨b,D,by rw [Nat.add_assoc]⟩⟩
 refine kaf (w':=w) ?_ ⟨kag _,hr.here⟩;simp [execOp,ho,hv,Instr.fieldAt,C,j,Instr.sureAddr,fieldPlace,c.size,t,kbl]
theorem ksl {α:Type} (E:En α) {xs:List α} {x:α} {i:Int} {X:Operand} {n q:Nat} {e:TypeId} {y:FV} (h:idx xs i=some x) (D:TOk P T) (ho:o.op = .load t X) (r:kad T t=some d) (hk:d.kind.agg=false) (F:st.eval X = .ref id n (i.toNat*E.n+q)) (s:kab st.heap id=some (.frow e E.n (xs.map E.f))) (hn:n=xs.length) (C:Nat.blt q E.n=true:=by kernel_rfl) (hy:(E.cl x)[q]?=some y:=by kernel_rfl):NStep P o st (.fz y):=by
 intro ψ S a w ht G;subst hn;have r:=D.get r;obtain ⟨h0,hi⟩:=kiy h;have C:q<E.n:=by simpa [qbd] using C
 have z:i.toNat<xs.length:=(qd.1 hi).1;have l:=Sim.eval_tmps ht X;rw [F] at l;obtain ⟨hl,_,cs,c,_,hr⟩:=G id _ s;rw [qaj] at hl c;obtain ⟨g,cap,j⟩:=kii c (by omega);have hp:a.eval X = .pointer (some ⟨g,i.toNat*E.n+q,none⟩):=by
  generalize a.eval X=u at l;cases l with
  | ref hK H h1 hv=>
   obtain ⟨b,A,rfl⟩:=hv hl.symm;rw [j] at A;simp only [kav,qb] at A;rw [A]
 have k:i.toNat*E.n+q<xs.length*E.n:=by have:(i.toNat+1)*E.n<=xs.length*E.n:=qay _ z;rw [qa4,Nat.one_mul] at this;omega
 have B:i.toNat*E.n+q<cs.length:=by rw [c.1];exact k
 have p:cs[i.toNat*E.n+q]?=some cs[i.toNat*E.n+q]:=qa B;have m:w.cell? ⟨g,i.toNat*E.n+q,none⟩=some cs[i.toNat*E.n+q]:=by rw [j] at c;rw [World.ownsRow.cellAt c _ k,p]
 refine kaf (w':=w) (v:=cs[i.toNat*E.n+q]) ?_ ⟨kag _, .fz ((hr i.toNat (E.f x) q _ y (by rw [qr,hi];rfl) p (by rw [E.hcl];exact hy)).mono fun _ h => .inl h)⟩;simp [execOp,ho,hp,Instr.loadAt,Instr.sureAddr,loadVar,r.isAgg,hk,m]
end
section
variable {P:Program} {F S0:Nat->Prop} {N0:Nat} {w w':World} {S S':Nat->Prop} {ψ:Env} {K:Nat->Prop} {T:List (TypeId×TD)} {o:Oper} {a:Act} {st:St} {t:TypeId} {d:TD} {id:Nat}
theorem StepA.frz {n:Nat} {e:TypeId} {size:Nat} {xs:List FV} {h:List (Nat×AObj)} {i:List Nat} (hs:StepA P o st (.row id n) h i) (c:kab h id=some (.frow e size xs)) (hn:n=xs.length):StepA P o st (.fz (.lst size n xs)) (kb6 id h) i:=by
 subst hn;intro F S0 N0 ψ S a w hS;refine kgr ?_ (hs F S0 N0 ψ S a w hS);rintro v w' ⟨ψ',S',h1,d,f,g,j,k,l⟩;have ho:=(h1.obj id _ c).2.1;refine ⟨ψ',_,kua h1 c,?_,f,g,j,fun b m => .inl (k b m),l⟩;have hr:=kpr ho;have hl:=ho.1;cases d with
 | row hK p h1 hv=>rw [hv hl.symm];exact .fz hr
theorem kry {α:Type} (E:En α) {xs:List α} {x:α} {i:Int} {X:Operand} {n q:Nat} {e:TypeId} {ys:List FV} (h:idx xs i=some x) (L:TOk P T) (ho:o.op = .load t X) (C:kad T t=some d) (hk:d.kind.agg=true) (M:st.eval X = .ref id n (i.toNat*E.n+q)) (F:kab st.heap id=some (.frow e E.n (xs.map E.f))) (hn:n=xs.length) (J:Nat.ble (q+d.size) E.n=true:=by kernel_rfl) (hy:((E.cl x).drop q).take d.size=ys:=by kernel_rfl):NStep P o st (.fz (.agg ys)):=by
 intro ψ S a w ht N;subst hn hy;have C:=L.get C;obtain ⟨h0,hi⟩:=kiy h;have J:q+d.size<=E.n:=qk J;have G:i.toNat<xs.length:=(qd.1 hi).1;have z:=Sim.eval_tmps ht X;rw [M] at z;obtain ⟨hl,_,cs,k,A,hr⟩:=N id _ F;rw [qaj] at hl k;obtain ⟨g,cap,r⟩:=kii k (by omega);have hp:a.eval X = .pointer (some ⟨g,i.toNat*E.n+q,none⟩):=by
  generalize a.eval X=u at z;cases z with
  | ref hK O h1 hv=>
   obtain ⟨b,H,rfl⟩:=hv hl.symm;rw [r] at H;simp only [kav,qb] at H;rw [H]
 have K:cs.length=xs.length*E.n:=k.1;have Q:i.toNat*E.n+E.n<=xs.length*E.n:=by have:(i.toNat+1)*E.n<=xs.length*E.n:=qay _ G;rw [qa4,Nat.one_mul] at this;exact this
 have hcl:(E.cl x).length=E.n:=by have:=(A (E.f x) (qaf.2 ⟨x,qm hi,rfl⟩)).1;rw [E.hcl] at this;exact this
 have I:∀ y∈E.cl x,y.single=true:=by have:=(A (E.f x) (qaf.2 ⟨x,qm hi,rfl⟩)).2;rw [E.hcl] at this;exact this
 let cs':=(cs.drop (i.toNat*E.n+q)).take d.size
 have c:cs'.length=d.size:=by show ((cs.drop (i.toNat*E.n+q)).take d.size).length=_;rw [qam,qba];omega
 have s:∀ (j:Nat) (v:Value),cs'[j]?=some v->j<d.size/\cs[i.toNat*E.n+q+j]?=some v:=fun j v D=>by
  have l:j<d.size:=by rw [<- c];exact (qd.1 D).1
  refine ⟨l,?_⟩;have B:((cs.drop (i.toNat*E.n+q)).take d.size)[j]?=some v:=D;rw [qw,qq l,qae] at B;exact B
 have m:=k;rw [r] at m;have p:=run_loadCells_list (P:=P) w ⟨g,i.toNat*E.n+q,none⟩ cs' fun j v D=>by obtain ⟨l,hc⟩:=s j v D;rw [kbl,World.ownsRow.cellAt m _ (show i.toNat*E.n+q+j<xs.length*E.n by omega),hc]
 rw [c] at p;refine kaf (w':=w) (v := .agg cs'.toArray) ?_ ⟨kag _, .fz (.agg ?_ ?_ fun j v y hv hy=>?_)⟩;simp [execOp,ho,hp,Instr.loadAt,Instr.sureAddr,loadVar,C.isAgg,hk,C.size,p];rw [List.size_toArray,c,qam,qba];omega;exact fun y hy=>I y (qaz (qa5 hy))
 ·rw [List.getElem?_toArray] at hv;obtain ⟨l,hc⟩:=s j v hv;rw [qw,qq l,qae] at hy;rw [Nat.add_assoc] at hc;exact (hr i.toNat (E.f x) (q+j) v y (by rw [qr,hi];rfl) hc (by rw [E.hcl];exact hy)).mono fun _ h => .inl h
end
section
variable {P:Program} [t:Tab P] {g:Cfg} {Q:Exit->St->Prop} {β:Type} {r:β}
theorem hclZf {α:Type} {E:Option α} {K:α->Option β} {f:FuncId} {as_:List AV} {pre:List (Nat×AObj)} {ids0 ids1:List Nat} {res:α->AV} {post:α->List (Nat×AObj)} (k:Nat) (cs:List C1) (r1 r2:List (Nat×Nat)) (keys:List Nat) (id:Nat) (e:TypeId) (size:Nat) (n:α->Nat) (xs:α->List FV) (h:Option.bind E K=some r)
  (hp:∀ v,E=some v->kdh P f as_ pre ids0 (.ret (res v)) (post v) ids1) (hc:∀ v,kme (hcOf cs r1 r2 keys ids0 ids1 (post v)) (crun P k g)=some (f,as_,pre)) (hi:idsZ (renI r2 ids1++(ken (crun P k g)).ids) (crun P k g)=true)
  (hr:∀ v,renA r2 (res v) = .row id (n v)) (a:∀ v,kab (renH r2 (post v)++ke2 (renI r2 ids0) (ken (crun P k g)).heap) id=some (.frow e size (xs v))) (hn:∀ v,n v=(xs v).length)
  (hk:∀ v,offZ (crun P k g) (kb6 id (renH r2 (post v)++ke2 (renI r2 ids0) (ken (crun P k g)).heap))=offZ (crun P k g) (hpZ (crun P k g)))
  (c:∀ v,K v=some r->W P (rsmZ (.fz (.lst size (n v) (xs v))) (kb6 id (renH r2 (post v)++ke2 (renI r2 ids0) (ken (crun P k g)).heap)) (renI r2 ids1++(ken (crun P k g)).ids) (crun P k g)) Q):W P g Q:=by
 obtain ⟨v,h1,d⟩:=qi.1 h;obtain ⟨b,i⟩:=knl (hc v);obtain ⟨x,args,ts,cap,as1,as2,e1,e2,e3,e4,rfl,e5,e6⟩:=kq8 i;have hs:=kpj r1 r2 e1 e2 (hp v h1) e3 e4 e5 e6;rw [hr v] at hs;exact zst k (hs.frz (a v) (hn v)) b hi (hk v) (c v d)
end
end Go.Proofs.YtpnnpkmjohkgiaaGreatDoor
