import Derived.Test.YtaimpcnpifoidaaGreatDoorOpr
import Derived.Test.YtaimpcnpifoidaaGreatDoorMach
import Derived.Lib.ItoaNum
import Derived.Sort.Grow
import Derived.Deep.Draws
import Derived.Lib.ConvBytes
import Derived.Lib.AtoiErrMem
set_option linter.all false
namespace Go.Proofs.YtaimpcnpifoidaaGreatDoor
open Go Go.RowKit
def k1z {α:Type} (xs ys:List α):Option Unit:=if xs.length=ys.length then some () else none
theorem kaa3 {α:Type} {xs ys:List α} {u:Unit} (h:k1z xs ys=some u):xs.length=ys.length:=by
 unfold k1z at h;split at h
 ·assumption
 ·cases h
structure En (α:Type) where
 f:α->FV
 n:Nat
 cl:α->List FV
 hcl:∀ x,(f x).cells=cl x
 hn:∀ x,(f x).cells.length=n
def nB:En Bool:=⟨eB,1,fun x=>[eB x],fun _=>rfl,fun _=>rfl⟩
def nI:En Int:=⟨eI,1,fun x=>[eI x],fun _=>rfl,fun _=>rfl⟩
def nS:En BA:=⟨eS,1,fun x=>[eS x],fun _=>rfl,fun _=>rfl⟩
def nU8:En Int:=⟨eU8,1,fun x=>[eU8 x],fun _=>rfl,fun _=>rfl⟩
def nL {α:Type} (s:Nat) (E:En α):En (List α):=⟨eL s E.f,1,fun x=>[eL s E.f x],fun _=>rfl,fun _=>rfl⟩
def nVaR:En Va:=⟨eVaR,4,fun x=>(eVa x).cells,k2x,k66⟩
def nTmR:En Tm:=⟨eTmR,2,fun x=>(eTm x).cells,kab5,kah7⟩
def nSy:En Sy:=⟨eSy,2,fun x=>(eSy x).cells,fun _=>rfl,fun _=>rfl⟩
def nRu:En Ru:=⟨eRu,9,fun x=>(eRu x).cells,fun _=>rfl,fun _=>rfl⟩
def kwl {γ:Type} (f:Oper->St->Option γ) (g:Cfg):Option γ:=match krg g with
 | some p=>f p.1 p.2
 | none=>none
theorem h_pn {P:Program} {f:FuncId} {cap:List AV} {o:Oper} {st:St} {x:Operand} {args:Array Operand} {ts:Array TypeId} {cs:List C1} {as1 as2 pre:_} {ids0 ids1:List Nat} {v:Value} {post:List (Nat×AObj)} {keys:List Nat} (r1 r2:List (Nat×Nat)) (ho:o.op = .call { callee := .value x,args:=args,argTypes:=ts })
  (k:fnOf args.size (st.eval x)=some (f,cap)) (hc:kau P f (as1++as2) pre ids0 (.pan v) post ids1) (b:kpr st r1 (renI r2 ids0) cs args.toList=some as1) (g:kp1 r1 (renI r2 ids0) cap=some as2)
  (c:km4 st r1 r2 keys ids0 ids1 post=true) (h:preX st r1 r2 (renI r2 ids0) keys=some pre):k68 P o st v (renH r2 post++kkh (renI r2 ids0) st.heap) (renI r2 ids1++st.ids):=by
 intro F S0 N0 ψ S a w hs next Q' hQ;obtain ⟨vs,i,d⟩:=k0t r1 r2 ho k hc b g c h hs;unfold Oper.wp;rw [i];refine d.mono ?_;rintro e w' ⟨ψ',S',j,h1,h2,_⟩;simp only [HEnd.ren,HEnd.is] at j;subst j;exact hQ w' ⟨ψ',S',h1,h2⟩
section
variable {P:Program} [t:Tab P] {Q:Exit->St->Prop} {g:Cfg} {β:Type} {r:β}
theorem vst {γ:Type} {f:Oper->St->Option γ} {z:γ} {c:AV} (k:Nat) (hc:kwl f (crun P k g)=some z) (hn:∀ o v,f o v=some z->NStep P o v c) (h:W P (rsm c (crun P k g)) Q):W P g Q:=by
 refine kch (k:=k) ?_;unfold kwl at hc;split at hc;rename_i p hp;exact k7c hp (hn _ _ hc) h
 ·cases hc
def ixOf (T:List (TypeId×TD)) (o:Oper) (st:St):Option (Nat×List FV×Int):=match o.op with
 | .indexAddr t x y=>match kat T t with
  | some d=>match d.kind,ktc (st.eval x),st.eval y with
   | .slice e,some xs, .fz (.atom (.int _ i))=>match kat T e with
    | some de=>some (de.size,xs,i)
    | none=>none
   | _,_,_=>none
  | none=>none
 | _=>none
theorem ix {α:Type} {ys:List α} {i:Int} {K:α->Option β} (E:En α) (k:Nat) (h:Option.bind (idx ys i) K=some r) (c:∀ v,K v=some r->W P (rsm (.fz (.fp (E.cl v))) (crun P k g)) Q) (hc:kwl (ixOf t.T) (crun P k g)=some (E.n,ys.map E.f,i):=by kernel_rfl):W P g Q:=by
 obtain ⟨v,h1,h2⟩:=qk.1 h;refine vst k hc (fun o st a=>?_) (c v h2);unfold ixOf at a;split at a
 ·rename_i tt x y ho;split at a
  ·rename_i d hd;split at a
   ·rename_i e xs k' i' hk j l;split at a;rename_i de b;simp only [ql,qak] at a;obtain ⟨z1,z2,z3⟩:=a;subst z2 z3;exact kak5 (enc:=E.f) h1 t.ok ho hd hk b j (fun x=>by rw [E.hn,z1]) l (E.hcl v)
    ·cases a
   ·cases a
  ·cases a
 ·cases a
def byOf (T:List (TypeId×TD)) (o:Oper) (st:St):Option (BA×Int):=match o.op with
 | .index t x y=>match kat T t with
  | some d=>match d.kind,st.eval x,st.eval y with
   | .str, .fz (.atom (.string s)), .fz (.atom (.int _ i))=>some (s,i)
   | _,_,_=>none
  | none=>none
 | _=>none
theorem byx {s:BA} {i:Int} {K:Int->Option β} (k:Nat) (h:Option.bind (byt s i) K=some r) (b:∀ v,K v=some r->W P (rsm (.fz (eU8 v)) (crun P k g)) Q) (hc:kwl (byOf t.T) (crun P k g)=some (s,i):=by kernel_rfl):W P g Q:=by
 obtain ⟨v,h1,h2⟩:=qk.1 h;refine vst k hc (fun o st a=>?_) (b v h2);unfold byOf at a;split at a
 ·rename_i tt x y ho;split at a
  ·rename_i d hd;split at a;rename_i s' k' i' hk c e;simp only [ql,qak] at a;obtain ⟨rfl,rfl⟩:=a;exact kank h1 t.ok ho hd hk c e
   ·cases a
  ·cases a
 ·cases a
def tyCs (T:List (TypeId×TD)):Nat->TypeId->List C0
 | 0,_=>[]
 | n+1,t=>match kat T t with
  | some d=>match d.kind with
   | .slice e=>match kat T e with
    | some de=>[.sl de.size]
    | none=>[.keep]
   | .st fs=>fs.flatMap fun p=>tyCs T n p.1
   | .arr m e=>(List.replicate m e).flatMap fun e=>tyCs T n e
   | _=>[.keep]
  | none=>[.keep]
def tyC (T:List (TypeId×TD)) (t:TypeId):C1:=match kat T t with
 | some d=>match d.kind with
  | .slice e=>match kat T e with
   | some de => .one (.sl de.size)
   | none => .one .keep
  | .st _ => .ag (tyCs T 9 t)
  | .arr _ _ => .ag (tyCs T 9 t)
  | _ => .one .keep
 | none => .one .keep
def clOf (T:List (TypeId×TD)) (o:Oper) (st:St):Option (FuncId×List FV):=match o.op with
 | .call c=>match c.callee with
  | .value (.func f)=>match kva st (c.argTypes.toList.map (tyC T)) c.args.toList with
   | some ys=>some (f,ys)
   | none=>none
  | _=>none
 | _=>none
theorem cl {α:Type} {E:Option α} {K:α->Option β} {f:FuncId} {ys:List FV} {y:α->FV} (k:Nat) (h:Option.bind E K=some r) (hp:∀ v,E=some v->kac P f ys (y v)) (hc:kwl (clOf t.T) (crun P k g)=some (f,ys)) (d:∀ v,K v=some r->W P (rsm (.fz (y v)) (crun P k g)) Q):W P g Q:=by
 obtain ⟨v,h1,h2⟩:=qk.1 h;refine vst k hc (fun o st a=>?_) (d v h2);unfold clOf at a;split at a
 ·rename_i c ho;split at a
  ·rename_i f' b;split at a;rename_i ys' e;simp only [ql,qak] at a;obtain ⟨rfl,rfl⟩:=a;obtain ⟨cc,as_,ts⟩:=c;simp only at b;subst b;exact kaeu ho e (hp v h1)
   ·cases a
  ·cases a
 ·cases a
def hcOf (cs:List C1) (r1 r2:List (Nat×Nat)) (keys ids0 ids1:List Nat) (post:List (Nat×AObj)) (o:Oper) (st:St):Option (FuncId×List AV×List (Nat×AObj)):=match o.op with
 | .call c=>match c.callee with
  | .value x=>match fnOf c.args.size (st.eval x) with
   | some (f,cap)=>match kpr st r1 (renI r2 ids0) cs c.args.toList,kp1 r1 (renI r2 ids0) cap,preX st r1 r2 (renI r2 ids0) keys with
    | some as1,some as2,some pre=>bif km4 st r1 r2 keys ids0 ids1 post then some (f,as1++as2,pre) else none
    | _,_,_=>none
   | _=>none
  | _=>none
 | _=>none
theorem hcl {α:Type} {E:Option α} {K:α->Option β} {f:FuncId} {as_:List AV} {pre:List (Nat×AObj)} {ids0 ids1:List Nat} {res:α->AV} {post:α->List (Nat×AObj)} (k:Nat) (cs:List C1) (r1 r2:List (Nat×Nat)) (keys:List Nat) (h:Option.bind E K=some r)
  (hp:∀ v,E=some v->kau P f as_ pre ids0 (.ret (res v)) (post v) ids1) (hc:∀ v,kwh (hcOf cs r1 r2 keys ids0 ids1 (post v)) (crun P k g)=some (f,as_,pre))
  (i:∀ v,K v=some r->W P (rsmA (renA r2 (res v)) (renH r2 (post v)++kkh (renI r2 ids0) (stOf (crun P k g)).heap) (renI r2 ids1++(stOf (crun P k g)).ids) (crun P k g)) Q):W P g Q:=by
 obtain ⟨v,h1,h2⟩:=qk.1 h;obtain ⟨hk,a⟩:=k0u (hc v);refine sst k ?_ hk (i v h2);unfold hcOf at a;split at a
 ·rename_i c ho;split at a
  ·rename_i x e;split at a
   ·rename_i f' cap b;split at a
    ·rename_i as1 as2 pre' e1 e2 e3;cases d:km4 (stOf (crun P k g)) r1 r2 keys ids0 ids1 (post v) with
     | false=>rw [d] at a;cases a
     | true=>
      rw [d] at a;simp only [qf,ql,qak] at a;obtain ⟨rfl,rfl,rfl⟩:=a;obtain ⟨cc,as_,ts⟩:=c;simp only at e;subst e;exact kafp r1 r2 ho b (hp v h1) e1 e2 d e3
    ·cases a
   ·cases a
  ·cases a
 ·cases a
theorem k3a {cs:List C1} {r1 r2:List (Nat×Nat)} {keys ids0 ids1:List Nat} {post:List (Nat×AObj)} {o:Oper} {st:St} {f:FuncId} {as_:List AV} {pre:List (Nat×AObj)} (a:hcOf cs r1 r2 keys ids0 ids1 post o st=some (f,as_,pre)):
  ∃ x args ts cap as1 as2,o.op = .call { callee := .value x,args:=args,argTypes:=ts }/\fnOf args.size (st.eval x)=some (f,cap)/\kpr st r1 (renI r2 ids0) cs args.toList=some as1/\kp1 r1 (renI r2 ids0) cap=some as2/\as_=as1++as2/\km4 st r1 r2 keys ids0 ids1 post=true/\preX st r1 r2 (renI r2 ids0) keys=some pre:=by
 unfold hcOf at a;split at a
 ·rename_i c ho;split at a
  ·rename_i x d;split at a
   ·rename_i f' cap b;split at a
    ·rename_i as1 as2 pre' e1 e2 e3;cases e:km4 st r1 r2 keys ids0 ids1 post with
     | false=>rw [e] at a;cases a
     | true=>
      rw [e] at a;simp only [qf,ql,qak] at a;obtain ⟨rfl,rfl,rfl⟩:=a;obtain ⟨cc,as_,ts⟩:=c;simp only at d;subst d;exact ⟨x,as_,ts,cap,as1,as2,ho,b,e1,e2,rfl,rfl,e3⟩
    ·cases a
   ·cases a
  ·cases a
 ·cases a
theorem hclS {α α':Type} {E:Option (α ⊕ α')} {K1:α->Option β} {K2:α'->Option β} {f:FuncId} {as_:List AV} {pre:List (Nat×AObj)} {ids0 ids1 ids2:List Nat} {res:α->AV} {post:α->List (Nat×AObj)} {pv:α'->Value} {post2:α'->List (Nat×AObj)} (k:Nat) (cs:List C1) (r1 r2:List (Nat×Nat)) (keys:List Nat)
  (h:Option.bind E (fun v=>Sum.elim K1 K2 v)=some r) (hp:∀ v,E=some v->Sum.elim (fun v=>kau P f as_ pre ids0 (.ret (res v)) (post v) ids1) (fun v=>kau P f as_ pre ids0 (.pan (pv v)) (post2 v) ids2) v)
  (hc:∀ v,kwh (hcOf cs r1 r2 keys ids0 ids1 (post v)) (crun P k g)=some (f,as_,pre)) (a:∀ v,kwh (hcOf cs r1 r2 keys ids0 ids2 (post2 v)) (crun P k g)=some (f,as_,pre))
  (b:∀ v,K2 v=some r->W P ⟨.fin (.panic [pnE (pv v)]),[],{ stOf (crun P k g) with heap:=renH r2 (post2 v)++kkh (renI r2 ids0) (stOf (crun P k g)).heap,ids:=renI r2 ids2++(stOf (crun P k g)).ids }⟩ Q)
  (c:∀ v,K1 v=some r->W P (rsmA (renA r2 (res v)) (renH r2 (post v)++kkh (renI r2 ids0) (stOf (crun P k g)).heap) (renI r2 ids1++(stOf (crun P k g)).ids) (crun P k g)) Q):W P g Q:=by
 obtain ⟨v,h1,h2⟩:=qk.1 h;have hp:=hp v h1;cases v with
 | inl v=>exact hcl k cs r1 r2 keys (E:=some v) (K:=fun v=>K1 v) h2 (res:=res) (post:=post) (fun v' hv=>by injection hv with hv;subst hv;exact hp) hc c
 | inr v=>
  obtain ⟨hk,d⟩:=k0u (a v);obtain ⟨x,args,ts,cap,as1,as2,e1,e2,e3,e4,rfl,e5,e6⟩:=k3a d;exact hpan k r1 r2 hk e1 e2 hp e3 e4 e5 e6 (b v h2)
structure ApR where
 id:Nat
 e:TypeId
 size:Nat
 bytes:Nat
 n:Nat
 xs:List FV
 ys:List FV
def kaa7 (size:Nat):AV->Option (List FV)
 | .fz (.lst s _ ys)=>bif Nat.beq s size then some ys else none
 | .lim s _ ys=>bif Nat.beq s size then some ys else none
 | _=>none
theorem kagv {size:Nat} {x:AV} {ys:List FV} (h:kaa7 size x=some ys):∃ m,x = .fz (.lst size m ys)\/x = .lim size m ys:=by
 unfold kaa7 at h;split at h
 ·rename_i s m zs;cases a:Nat.beq s size with
  | false=>rw [a] at h;cases h
  | true=>
   rw [a] at h;obtain rfl:=qx a;obtain rfl:=qq h;exact ⟨m, .inl rfl⟩
 ·rename_i s m zs;cases a:Nat.beq s size with
  | false=>rw [a] at h;cases h
  | true=>
   rw [a] at h;obtain rfl:=qx a;obtain rfl:=qq h;exact ⟨m, .inr rfl⟩
 ·cases h
def apOf (T:List (TypeId×TD)) (o:Oper) (st:St):Option ApR:=match o.op with
 | .call c=>match c.callee,c.args.toList,c.argTypes.toList with
  | .builtin .append,[X,Y],[t,u]=>bif Nat.beq u t then (match kat T t with
   | some d=>match d.kind,st.eval X with
    | .slice e, .row id n=>match kat T e,kab st.heap id with
     | some de,some (.frow e' s xs)=>match kaa7 de.size (st.eval Y) with
      | some ys=>bif Nat.beq e' e && (Nat.beq s de.size && (Nat.ble 1 de.size && Nat.beq de.zero.length de.size)) then some ⟨id,e,de.size,de.bytes,n,xs,ys⟩ else none
      | none=>none
     | _,_=>none
    | _,_=>none
   | none=>none) else none
  | _,_,_=>none
 | _=>none
theorem k9a {α:Type} {E:En α} {xs ys v:List α} {o:Oper} {st:St} {q:ApR} (a:apOf t.T o st=some q) (h:app q.bytes xs ys=some v) (hn:q.n=xs.length) (k:q.xs=xs.map E.f) (l:q.ys=ys.map E.f):
  ∃ (X Y:Operand) (ty:TypeId) (d de:TD) (m:Nat),o.op = .call { callee := .builtin .append,args:=#[X,Y],argTypes:=#[ty,ty] }/\kat t.T ty=some d/\d.kind = .slice q.e/\kat t.T q.e=some de/\de.size=q.size/\Nat.ble 1 de.size=true/\de.zero.length=de.size/\de.bytes=q.bytes /\
   st.eval X = .row q.id xs.length/\kab st.heap q.id=some (.frow q.e de.size (xs.map E.f))/\(st.eval Y = .fz (.lst de.size m (ys.map E.f))\/st.eval Y = .lim de.size m (ys.map E.f)):=by
 unfold apOf at a;split at a
 ·rename_i c ho;split at a
  ·rename_i X Y ty u h1 h2 h3;cases g:Nat.beq u ty with
   | false=>rw [g] at a;cases a
   | true=>
    rw [g] at a;obtain rfl:=qx g;simp only [qf] at a;split at a
    ·rename_i d hd;split at a
     ·rename_i e id n hk p;split at a
      ·rename_i de e' s xs' i j;split at a
       ·rename_i ys' r;cases b:(Nat.beq e' e && (Nat.beq s de.size && (Nat.ble 1 de.size && Nat.beq de.zero.length de.size))) with
        | false=>rw [b] at a;cases a
        | true=>
         rw [b] at a;obtain rfl:=qq a;simp only [q8] at b;obtain ⟨b1,b2,b3,b4⟩:=b;obtain rfl:=qx b1;obtain rfl:=qx b2;simp only at hn k l;subst hn k l;obtain ⟨m,hm⟩:=kagv r;obtain ⟨cc,as_,ts⟩:=c;simp only at h1 h2 h3;rw [h1,ktz h2,ktz h3] at ho;exact ⟨X,Y,_,d,de,m,ho,hd,hk,i,rfl,b3,qx b4,rfl,p,j,hm⟩
       ·cases a
      ·cases a
     ·cases a
    ·cases a
  ·cases a
 ·cases a
def apK (q:Option ApR):Option (Nat×Nat×List FV×List FV):=match q with
 | some q=>some (q.bytes,q.n,q.xs,q.ys)
 | none=>none
def apG {α:Type} (T:List (TypeId×TD)) (E:En α) (v:List α) (g:Cfg):Cfg:=match kwh (apOf T) g with
 | some q=>rsmA (.row q.id v.length) ((q.id, .frow q.e q.size (v.map E.f))::(stOf g).heap) (stOf g).ids g
 | none=>⟨.bad,g.ks,g.st⟩
theorem ap {α:Type} {bytes:Nat} {xs ys:List α} {K:List α->Option β} (E:En α) (k:Nat) (h:Option.bind (app bytes xs ys) K=some r) (a:∀ v,K v=some r->W P (apG t.T E v (crun P k g)) Q) (hc:apK (kwh (apOf t.T) (crun P k g))=some (bytes,xs.length,xs.map E.f,ys.map E.f):=by kernel_rfl):W P g Q:=by
 obtain ⟨v,h1,h2⟩:=qk.1 h;have a:=a v h2;unfold apK at hc;split at hc;rename_i q b;simp only [ql,qak] at hc;obtain ⟨rfl,e1,e2,e3⟩:=hc;unfold apG at a;rw [b] at a;obtain ⟨hk,c⟩:=k0u b;refine sst k ?_ hk a;obtain ⟨X,Y,ty,d,de,m,k1,k2,k3,k4,k5,k6,k7,k8,k9,k10,k11⟩:=k9a c h1 e1 e2 e3;rw [<- k5];exact k7n (enc:=E.f) h1 t.ok k1 k2 k3 k4 k6 k7 k8 k9 k10 rfl k11
 ·cases hc
def krc {γ:Type} (f:Oper->St->Option γ) (g:Cfg):Option γ:=bif okZ g then f (knm g) (ki6 g) else none
theorem kx3 {γ:Type} {f:Oper->St->Option γ} {z:γ} {g:Cfg} (h:krc f g=some z):okZ g=true/\f (knm g) (ki6 g)=some z:=by
 unfold krc at h;cases hk:okZ g with
 | false=>rw [hk] at h;cases h
 | true=>rw [hk] at h;exact ⟨rfl,h⟩
def apZh {α:Type} (T:List (TypeId×TD)) (E:En α) (v:List α) (g:Cfg):List (Nat×AObj):=match krc (apOf T) g with
 | some q=>(q.id, .frow q.e q.size (v.map E.f))::(ki6 g).heap
 | none=>[]
def apGZ {α:Type} (T:List (TypeId×TD)) (E:En α) (v:List α) (g:Cfg):Cfg:=match krc (apOf T) g with
 | some q=>rsmZ (.row q.id v.length) (apZh T E v g) (ki6 g).ids g
 | none=>⟨.bad,g.ks,g.st⟩
theorem apZ {α:Type} {bytes:Nat} {xs ys:List α} {K:List α->Option β} (E:En α) (k:Nat) (h:Option.bind (app bytes xs ys) K=some r) (hc:apK (krc (apOf t.T) (crun P k g))=some (bytes,xs.length,xs.map E.f,ys.map E.f))
  (hi:idsZ (ki6 (crun P k g)).ids (crun P k g)=true) (hk:∀ v,offZ (crun P k g) (apZh t.T E v (crun P k g))=offZ (crun P k g) (hpZ (crun P k g))) (a:∀ v,K v=some r->W P (apGZ t.T E v (crun P k g)) Q):W P g Q:=by
 obtain ⟨v,h1,h2⟩:=qk.1 h;have a:=a v h2;have hk:=hk v;unfold apK at hc;split at hc;rename_i q b;simp only [ql,qak] at hc;obtain ⟨rfl,e1,e2,e3⟩:=hc;unfold apGZ at a;rw [b] at a;obtain ⟨c,e⟩:=kx3 b;refine zst k ?_ c hi hk a;obtain ⟨X,Y,ty,d,de,m,k1,k2,k3,k4,k5,k6,k7,k8,k9,k10,k11⟩:=k9a e h1 e1 e2 e3;unfold apZh;rw [b];simp only;rw [<- k5];exact k7n (enc:=E.f) h1 t.ok k1 k2 k3 k4 k6 k7 k8 k9 k10 rfl k11
 ·cases hc
theorem hclZ {α:Type} {E:Option α} {K:α->Option β} {f:FuncId} {as_:List AV} {pre:List (Nat×AObj)} {ids0 ids1:List Nat} {res:α->AV} {post:α->List (Nat×AObj)} (k:Nat) (cs:List C1) (r1 r2:List (Nat×Nat)) (keys:List Nat) (h:Option.bind E K=some r)
  (hp:∀ v,E=some v->kau P f as_ pre ids0 (.ret (res v)) (post v) ids1) (hc:∀ v,krc (hcOf cs r1 r2 keys ids0 ids1 (post v)) (crun P k g)=some (f,as_,pre)) (hi:idsZ (renI r2 ids1++(ki6 (crun P k g)).ids) (crun P k g)=true)
  (hk:∀ v,offZ (crun P k g) (renH r2 (post v)++kkh (renI r2 ids0) (ki6 (crun P k g)).heap)=offZ (crun P k g) (hpZ (crun P k g)))
  (b:∀ v,K v=some r->W P (rsmZ (renA r2 (res v)) (renH r2 (post v)++kkh (renI r2 ids0) (ki6 (crun P k g)).heap) (renI r2 ids1++(ki6 (crun P k g)).ids) (crun P k g)) Q):W P g Q:=by
 obtain ⟨v,h1,h2⟩:=qk.1 h;obtain ⟨a,c⟩:=kx3 (hc v);obtain ⟨x,args,ts,cap,as1,as2,e1,e2,e3,e4,rfl,e5,e6⟩:=k3a c;exact zst k (kafp r1 r2 e1 e2 (hp v h1) e3 e4 e5 e6) a hi (hk v) (b v h2)
theorem hclSZ {α α':Type} {E:Option (α ⊕ α')} {K1:α->Option β} {K2:α'->Option β} {f:FuncId} {as_:List AV} {pre:List (Nat×AObj)} {ids0 ids1 ids2:List Nat} {res:α->AV} {post:α->List (Nat×AObj)} {pv:α'->Value} {post2:α'->List (Nat×AObj)} (k:Nat) (cs:List C1) (r1 r2:List (Nat×Nat)) (keys:List Nat)
  (h:Option.bind E (fun v=>Sum.elim K1 K2 v)=some r) (hp:∀ v,E=some v->Sum.elim (fun v=>kau P f as_ pre ids0 (.ret (res v)) (post v) ids1) (fun v=>kau P f as_ pre ids0 (.pan (pv v)) (post2 v) ids2) v)
  (hc:∀ v,krc (hcOf cs r1 r2 keys ids0 ids1 (post v)) (crun P k g)=some (f,as_,pre)) (a:∀ v,krc (hcOf cs r1 r2 keys ids0 ids2 (post2 v)) (crun P k g)=some (f,as_,pre)) (hi:idsZ (renI r2 ids1++(ki6 (crun P k g)).ids) (crun P k g)=true)
  (hk:∀ v,offZ (crun P k g) (renH r2 (post v)++kkh (renI r2 ids0) (ki6 (crun P k g)).heap)=offZ (crun P k g) (hpZ (crun P k g)))
  (b:∀ v,K2 v=some r->W P ⟨.fin (.panic [pnE (pv v)]),[],{ stOf (crun P k g) with tmps:=[],heap:=renH r2 (post2 v)++kkh (renI r2 ids0) (ki6 (crun P k g)).heap,ids:=renI r2 ids2++(ki6 (crun P k g)).ids }⟩ Q)
  (hd:∀ v,K2 v=some r->W P (rsmP (crun P k g)) Q)
  (d:∀ v,K1 v=some r->W P (rsmZ (renA r2 (res v)) (renH r2 (post v)++kkh (renI r2 ids0) (ki6 (crun P k g)).heap) (renI r2 ids1++(ki6 (crun P k g)).ids) (crun P k g)) Q):W P g Q:=by
 obtain ⟨v,h1,h2⟩:=qk.1 h;have hp:=hp v h1;cases v with
 | inl v=>exact hclZ k cs r1 r2 keys (E:=some v) (K:=fun v=>K1 v) h2 (res:=res) (post:=post) (fun v' hv=>by injection hv with hv;subst hv;exact hp) hc hi hk d
 | inr v=>
  obtain ⟨c,e⟩:=kx3 (a v);obtain ⟨x,args,ts,cap,as1,as2,e1,e2,e3,e4,rfl,e5,e6⟩:=k3a e;exact zpn k (h_pn r1 r2 e1 e2 hp e3 e4 e5 e6) c (b v h2) (hd v h2)
theorem clL {α:Type} {E:Option α} {K:α->Option β} {f:FuncId} {ys:List FV} {y:α->FV} (k:Nat) (ls:List LendI) (h:Option.bind E K=some r) (hp:∀ v,E=some v->kac P f ys (y v)) (hl:∀ l∈ls,l.ok (kzc (crun P k g)))
  (hc:kwl (fun o st=>clOf t.T o (kajd ls st)) (crun P k g)=some (f,ys)) (ha:∀ v,kajm (y v)=true) (a:∀ v,K v=some r->W P (rsm (.fz (y v)) (crun P k g)) Q):W P g Q:=by
 obtain ⟨v,h1,h2⟩:=qk.1 h;refine kch (k:=k) ?_;have a:=a v h2;generalize crun P k g=g' at *
 unfold kwl at hc;split at hc
 ·rename_i p hv;obtain ⟨o,st⟩:=p;obtain ⟨e1,e2⟩:=k71 hv;rw [e2] at hl;refine k7c hv (kam6 ls hl ?_ (ha v)) a;unfold clOf at hc;simp only at hc;split at hc
  ·rename_i c ho;split at hc
   ·rename_i f' b;split at hc;rename_i ys' d;simp only [ql,qak] at hc;obtain ⟨rfl,rfl⟩:=hc;obtain ⟨cc,as_,ts⟩:=c;simp only at b;subst b;exact kaeu ho d (hp v h1)
    ·cases hc
   ·cases hc
  ·cases hc
 ·cases hc
end
theorem kak1 {α:Type} {b:Bool} {x y r:α} (h:(bif b then x else y)=r):(b=true/\x=r)\/(b=false/\y=r):=by
 cases b;exact .inr ⟨rfl,h⟩
 ·exact .inl ⟨rfl,h⟩
section
variable {P:Program} {F S0:Nat->Prop} {N0:Nat} {w w':World} {S S':Nat->Prop} {ψ:Env} {K:Nat->Prop} {T:List (TypeId×TD)} {o:Oper} {a:Act} {st:St} {t:TypeId} {d:TD} {id:Nat}
def tabC {α:Type} (E:En α) (xs:List α):List FV:=xs.flatMap E.cl
theorem kaaa {α:Type} (E:En α):∀ (xs:List α) (i:Nat) (x:α),xs[i]?=some x->∃ post,(tabC E xs).drop (i*E.n)=E.cl x++post
 | [],i,x,h=>by simp at h
 | y::xs,0,x,h=>by simp at h;subst h;exact ⟨xs.flatMap E.cl,by simp [tabC]⟩
 | y::xs,i+1,x,h=>by
  obtain ⟨post,hp⟩:=kaaa E xs i x (by simpa using h);refine ⟨post,?_⟩;have hl:(E.cl y).length=E.n:=by rw [<- E.hcl];exact E.hn y
  rw [<- hp];unfold tabC;rw [qa0,qbn,Nat.one_mul,Nat.add_comm,<- List.drop_drop,show (E.cl y++xs.flatMap E.cl).drop E.n=xs.flatMap E.cl by rw [<- hl];simp]
theorem k98 {b o:Nat} {cs ys zs:List FV} {off:Nat} (h:RF S w (.pointer (some ⟨b,o,none⟩)) (.fp cs)) (hd:cs.drop off=ys++zs) (h0:0<ys.length):RF S w (.pointer (some ⟨b,o+off,none⟩)) (.fp ys):=by
 cases h with
 | fp vs hS ha hl hp h1 hr=>
  have d:ys.length+zs.length=cs.length - off:=by rw [<- qr,<- hd,qau]
  refine .fp ((vs.drop off).take ys.length) hS (fun j u a=>?_) (by rw [qah,qau];omega) h0 (fun x c=>h1 x (List.mem_of_mem_drop (i:=off) (by rw [hd];exact List.mem_append_left _ c))) fun i v x hv c=>?_
  ·rw [qaj] at a;split at a
   ·rw [qat] at a;have:=ha _ u a
    rwa [<- Nat.add_assoc] at this
   ·cases a
  ·rw [qaj] at hv;split at hv;rename_i hi;rw [qat] at hv;refine hr _ v x hv ?_;rw [<- qat,hd,qav hi];exact c
   ·cases hv
theorem kamn {α:Type} (E:En α) {xs:List α} {g m:Nat} {gs:List (Nat×Array Value)} {vs:Array Value} (f:∀ id o,kab st.heap id=some o->ObR ψ (·∈st.ids) S w id o) (b:kab st.heap id=some (.glb gs)) (hm:gs[m]?=some (g,vs)) (hv:vs.toList.map FV.atom=tabC E xs) (h1:vs.toList.all (·.oneCell')=true) (h0:0<vs.size):
  RF S w (.pointer (some ⟨g,0,none⟩)) (.fp (tabC E xs)):=by
 obtain ⟨_,_,_,h⟩:=f id _ b;obtain ⟨hS,c⟩:=h (g,vs) (qw hm);obtain ⟨e,d,k⟩:=c.tab h0;rw [<- hv];refine .fp vs.toList hS (fun j u l=>?_) (by simp) (by simpa using h0) (fun x a=>?_) fun i v x hv a=>?_;simp only [World.cell?,k];simpa using l;obtain ⟨v,hv,rfl⟩:=qa3.1 a;exact qs.1 h1 v hv
 ·rw [qp,hv] at a;simp only [qbk,ql] at a;subst a;exact .atom (qs.1 h1 v (qw hv))
theorem kaks {g m:Nat} {gs:List (Nat×Array Value)} {vs:Array Value} (c:∀ id o,kab st.heap id=some o->ObR ψ (·∈st.ids) S w id o) (a:kab st.heap id=some (.glb gs)) (hm:gs[m]?=some (g,vs)) {nm:String} (f:P.globalNamed nm=some g) (h0:0<vs.size):w.var? P nm=some vs:=by obtain ⟨_,_,_,h⟩:=c id _ a;obtain ⟨hS,b⟩:=h (g,vs) (qw hm);obtain ⟨e,d,i⟩:=b.tab h0;simp only [World.var?,f,qa,i]
theorem kadz {α:Type} (E:En α) {xs:List α} {v:α} {g m n:Nat} {gs:List (Nat×Array Value)} {vs:Array Value} {Y:Operand} {k:IntKind} {i:Int} {e:TypeId} {de:TD} (h:idx xs i=some v) (ho:o.op = .indexAddr t (.global g) Y) (x:TOk P T) (y:P.underlying t=some (.array n e)) (c:kat T e=some de)
  (j:de.size=E.n) (hn:xs.length=n) (hp:0<E.n) (z:st.eval Y = .fz (.atom (.int k i))) (l:kab st.heap id=some (.glb gs)) (hm:gs[m]?=some (g,vs)) (p:vs.toList.map FV.atom=tabC E xs) (h1:vs.toList.all (·.oneCell')=true) (h0:Nat.blt 0 vs.size=true:=by kernel_rfl):
  NStep P o st (.fz (.fp (E.cl v))):=by
 intro ψ S a w ht A;obtain ⟨q,hi⟩:=ko4 h;have B:i.toNat<xs.length:=(qo.1 hi).1;obtain ⟨post,hd⟩:=kaaa E xs i.toNat v hi;have hr:=kamn E A l hm p h1 (by simpa [Nat.blt_eq] using h0);have d:=Sim.eval_tmps ht Y;rw [z] at d;have r:=d.atom;have f:i<(n:Int):=by omega
 have c:=x.get c;have hl:(E.cl v).length=E.n:=by rw [<- E.hcl];exact E.hn v
 have s:=k98 (o:=0) hr hd (by omega);refine kaj (w':=w) (v := .pointer (some ⟨g,0+i.toNat*E.n,none⟩)) ?_ ⟨kai _, .fz (s.mono fun b C => .inl C)⟩;have u:a.eval (.global g) = .pointer (some ⟨g,0,none⟩):=rfl;simp [execOp,ho,u,r,Instr.indexAt,asIntOf,run_underlying y,Instr.sureAddr,q,f,c.size,j,kjj]
theorem kaj6 {X:Operand} {s:BA} (i:TOk P T) (ho:o.op = .range t X:=by kernel_rfl) (hd:kat T t=some d:=by kernel_rfl) (hk:d.kind = .str:=by kernel_rfl) (j:st.eval X = .fz (.atom (.string s)):=by kernel_rfl) (hid:st.ids.contains id=false:=by kernel_rfl):kcx P o st (.ref id 0 0) ((id, .sit s 0)::st.heap) (id::st.ids):=by
 have hid:id∉st.ids:=by simpa using hid
 intro F S0 N0 ψ S a w g;have c:=g.core;obtain ⟨_,e,h1,h2⟩:=i.get hd;rw [hk] at h2;have k:P.underlying t=some .string:=by cases e <;> simp only [kan] at h2;exact h1
 have f:=g.eval X;rw [j] at f;have f:=f.atom;refine kaj (w':=w.alloc (.stringIter s 0)) (v := .pointer (some ⟨w.heap.size,0,none⟩)) ?_ ⟨ψ.set id 0 (.pointer (some ⟨w.heap.size,0,none⟩)),S,?_,?_,koz _ c.fr,ker hid _ _,fun _ h=>qn _ h,fun _ h=>h,Same.of_grow (kdd _ _)⟩;simp [execOp,ho,f,Instr.range,run_underlying k];exact c.add (kdd _ _) hid (fun b l=>by simp [kby] at l;omega) ⟨kes _ _,w.heap.size,kbp _ _,heap_alloc_new w _⟩
 ·exact .ref (qt ..) (by rw [kes];exact qy _) rfl fun _=>⟨w.heap.size,by rw [kbp];rfl,rfl⟩
theorem kae1 {s:BA} {pos:Nat} {v:Value} (hs:ObR ψ K S w id (.sit s pos)) (hv:RV ψ K S w v (.ref id 0 0)):∃ b,ψ.val id = .pointer (some ⟨b,0,none⟩)/\w.heap[b]?=some (.stringIter s pos)/\v = .pointer (some ⟨b,0,none⟩):=by
 obtain ⟨h0,b,h1,h2⟩:=hs;cases hv with
 | ref hK hn c hv=>
  obtain ⟨b',a,rfl⟩:=hv h0.symm;rw [h1] at a;simp only [kby,ql] at a;subst a;exact ⟨b,h1,h2,rfl⟩
theorem kaej {X:Operand} {s:BA} {pos:Nat} (g:decide (pos<s.size)=false) (ho:o.op = .next X true:=by kernel_rfl) (d:st.eval X = .ref id 0 0:=by kernel_rfl) (e:kab st.heap id=some (.sit s pos):=by kernel_rfl):kcx P o st (.fz (.tup [eB false])) st.heap st.ids:=by
 refine NStep.step fun ψ S a w ht h=>?_;have c:=Sim.eval_tmps ht X;rw [d] at c;obtain ⟨b,h1,h2,h3⟩:=kae1 (h id _ e) c;have f:¬ pos<s.size:=qa1 g;refine kaj (w':=w) (v := .tuple #[.bool false]) ?_ ⟨kai _, .fz (.tup rfl fun i v x hv d=>?_)⟩;simp [execOp,ho,h3,Instr.next,getObj,Sem.run,h2,f]
 ·cases i with
  | zero=>simp at hv d;subst hv d;exact .atom rfl
  | succ i=>simp at hv
theorem kand {X:Operand} {s:BA} {pos:Nat} (z:decide (pos<s.size)=true) (ho:o.op = .next X true:=by kernel_rfl) (d:st.eval X = .ref id 0 0:=by kernel_rfl) (m:kab st.heap id=some (.sit s pos):=by kernel_rfl):
  kcx P o st (.fz (.tup [eB true,eI ((pos:Nat):Int),eI32 (((Utf8.decode s pos).1:Nat):Int)])) ((id, .sit s (pos+(Utf8.decode s pos).2))::st.heap) st.ids:=by
 intro F S0 N0 ψ S a w p;have c:=p.core;obtain ⟨hid,f,r⟩:=c.obj id _ m;have hv:=p.eval X;rw [d] at hv;obtain ⟨b,g,q,t⟩:=kae1 f hv;have h0:=f.1;have u:pos<s.size:=qal z;have y:b<w.heap.size:=(qbi.1 q).1;have j:ψ.set id 0 (ψ.val id)=ψ:=by
  unfold Env.set;congr 1
  ·funext i;split;rename_i h;rw [h,h0]
   ·rfl
  ·funext i;split;rename_i h;rw [h]
   ·rfl
 let w':World:={ w with heap:=w.heap.setIfInBounds b (.stringIter s (pos+(Utf8.decode s pos).2)) }
 have l:∀ k,k<w.heap.size->¬ Blk (ψ.val id) k->w'.heap[k]?=w.heap[k]?:=fun k _ hk=>by show (w.heap.setIfInBounds b _)[k]?=_;rw [Array.getElem?_setIfInBounds_ne];exact fun e=>hk (.of (by rw [g,e];rfl))
 have hk:Same S w w':=fun k hk hl=>l k hl fun e=>(r k e).1 hk;obtain ⟨c1,c2,c3⟩:=c.upd (n:=0) (v:=ψ.val id) (w':=w') (ob' := .sit s (pos+(Utf8.decode s pos).2)) m (by simp [w']) l (.inr ⟨h0,rfl⟩) (fun b q => .inl q) (by rw [j];exact ⟨h0,b,g,by show (w.heap.setIfInBounds b _)[b]?=_;simp [y]⟩);rw [j] at c1;refine kaj (w':=w') (v := .tuple #[.bool true, .int .i64 pos, .int .i32 (Utf8.decode s pos).1]) ?_ ⟨ψ,S,c1, .fz (.tup rfl fun i v x hv d=>?_),⟨rfl,rfl,rfl,by simp [w'],c3⟩,Ext.refl,fun _ h=>h,fun _ h=>h,hk⟩;simp [execOp,ho,t,Instr.next,getObj,setObj,Sem.run,q,u,goInt,w']
 ·match i with
  | 0=>simp at hv d;subst hv d;exact .atom rfl
  | 1=>simp at hv d;subst hv d;exact .atom rfl
  | 2=>simp at hv d;subst hv d;exact .atom rfl
  | i+3=>simp at hv
def s2b (s:BA):Option (List Int):=if s.size<=140737488355328 then some (ofBA s) else none
theorem s_s2b {sr:TypeId} {x:Operand} {s:BA} {xs:List Int} {e:TypeId} {ds de:TD} (h:s2b s=some xs) (m:TOk P T) (ho:o.op = .convert sr t x:=by kernel_rfl) (hs:kat T sr=some ds:=by kernel_rfl) (C:ds.kind = .str:=by kernel_rfl) (hd:kat T t=some d:=by kernel_rfl) (hk:d.kind = .slice e:=by kernel_rfl) (p:kat T e=some de:=by kernel_rfl) (q:de.kind = .int .u8:=by kernel_rfl) (D:st.eval x = .fz (.atom (.string s)):=by kernel_rfl):NStep P o st (.fz (eL 1 eU8 xs)):=by
 unfold s2b at h;split at h
 ·rename_i E;injection h with h;subst h;intro ψ S a w ht J;obtain ⟨_,u,h1,_⟩:=m.get hs;have g:=(m.get hd).slice hk;obtain ⟨_,u3,F,r⟩:=m.get p;rw [q] at r;have G:P.underlying e=some (.int .u8):=by cases u3 <;> simp only [kan] at r;subst r;exact F
  have hv:=Sim.eval_tmps ht x;rw [D] at hv;have c:(ofBA s).length=s.size:=by unfold ofBA;rw [qag,qas];rfl
  have k:∀ i (n:Int),(ofBA s)[i]?=some n->i<s.size/\((s.data.toList.getD i 0).toNat:Int)=n:=fun i n hn=>by have hi:i<s.size:=(by rw [<- c];exact (qo.1 hn).1);refine ⟨hi,?_⟩;unfold ofBA at hn;rw [qp,qm] at hn;obtain ⟨b,H,rfl⟩:=hn;rw [List.getD_eq_getElem?_getD,H];rfl
  refine kaj (w':=Lib.bytesWorld w e s) (v := .slice (some ⟨w.heap.size,0,none⟩) s.size (grownCap w s.size 0 e)) ?_ ⟨?_, .fz ?_⟩;have:=Lib.run_convert_string_bytes (P:=P) w sr t e s h1 g G;simp [execOp,ho,hv.atom,this];have:=Lib.bytesWorld_below w e s;exact this
  ·have A:=grownCap_ge w s.size 0 e;have B:=grownCap_le_maxLen w s.size 0 e (by unfold maxLen;omega);unfold maxLen at B;show RF _ _ _ (.lst 1 (ofBA s).length ((ofBA s).map eU8));rw [c];refine .lst (fun i=>[.int .u8 (s.data.toList.getD i 0).toNat]) (by simp [c]) A (by omega) (by omega) (fun i y f=>?_) (fun i y f=>?_) fun i y j v z f hv l=>?_
   ·simp only [qp,qm] at f;obtain ⟨n,hn,rfl⟩:=f;refine ⟨w.heap.size,0,rfl, .inr (qy _),fun j u g=>?_⟩;cases j with
    | zero=>
     simp at g;subst g;have:=Lib.bytesWorld_cell w e s i (k i n hn).1;simpa using this
    | succ j=>simp at g
   simp only [qp,qm] at f;obtain ⟨n,hn,rfl⟩:=f;exact ⟨rfl,rfl,fun z l=>by simp [FV.cells,eU8] at l;subst l;rfl⟩
   ·simp only [qp,qm] at f;obtain ⟨n,hn,rfl⟩:=f;cases j with
    | zero=>
     simp [FV.cells,eU8] at hv l;subst hv l;have I:=(k i n hn).2;rw [<- I,show s.data.toList.getD i 0=(s.data[i]?).getD 0 by simp];exact RF.atom rfl
    | succ j=>simp at hv
 ·cases h
theorem k3f {sr:TypeId} {x:Operand} {k:IntKind} {n:Int} {ds:TD} (b:TOk P T) (ho:o.op = .convert sr t x:=by kernel_rfl) (hs:kat T sr=some ds:=by kernel_rfl) (c:ds.kind = .int k:=by kernel_rfl) (hd:kat T t=some d:=by kernel_rfl) (hk:d.kind = .str:=by kernel_rfl) (f:st.eval x = .fz (.atom (.int k n)):=by kernel_rfl):NStep P o st (.fz (.atom (.string (Utf8.encode n)))):=by intro ψ S a w ht g;obtain ⟨_,e,h1,_⟩:=b.get hs;obtain ⟨_,e',h2,h3⟩:=b.get hd;rw [hk] at h3;cases e' <;> simp only [kan] at h3;have hv:=Sim.eval_tmps ht x;rw [f] at hv;refine kaj (w':=w) (v := .string (Utf8.encode n)) ?_ ⟨kai _, .fz (.atom rfl)⟩;cases e <;> simp [execOp,ho,hv.atom,convert,run_underlying h1,run_underlying h2,Conv.intToString]
theorem k14 {v:Value} {e:TypeId} {size n:Nat} {cs:List Value} (h:w.ownsRow 0 e size v n cs) (hn:0<n):∃ g cap,v = .slice (some ⟨g,0,none⟩) n cap:=by
 rcases h.2 with ⟨_,h0⟩ | ⟨g,cap,cur,hv,_⟩;omega
 ·exact ⟨g,cap,hv⟩
theorem k2c {α:Type} (E:En α) {xs:List α} {x:α} {i:Int} {X Y:Operand} {e:TypeId} {de:TD} {k:IntKind} {n:Nat} (h:idx xs i=some x) (r:TOk P T) (ho:o.op = .indexAddr t X Y) (hd:kat T t=some d) (hk:d.kind = .slice e) (l:kat T e=some de) (s:de.size=E.n)
  (y:st.eval X = .row id n) (q:kab st.heap id=some (.frow e E.n (xs.map E.f))) (hn:n=xs.length) (z:st.eval Y = .fz (.atom (.int k i)):=by kernel_rfl):NStep P o st (.ref id n (i.toNat*E.n+0)):=by
 intro ψ S a w ht A;subst hn;have hd:=r.get hd;have l:=r.get l;obtain ⟨h0,hi⟩:=ko4 h;have B:i.toNat<xs.length:=(qo.1 hi).1;have m:=Sim.eval_tmps ht X;rw [y] at m;have b:=Sim.eval_tmps ht Y;rw [z] at b;have b:=b.atom;obtain ⟨hl,_,cs,c,_,_⟩:=A id _ q;rw [qag] at hl c;obtain ⟨g,cap,j⟩:=k14 c (by omega);have hK:id∈st.ids/\a.eval X=ψ.val id:=by
  generalize a.eval X=u at m;cases m with
  | row hK C h1 hv=>exact ⟨hK,hv hl.symm⟩
 refine kaj (w':=w) (v := .pointer (some ⟨g,i.toNat*E.n+0,none⟩)) ?_ ⟨kai _, .ref hK.1 (by omega) rfl fun _=>⟨g,by rw [j];rfl,rfl⟩⟩;have p:i<(xs.length:Int):=by omega
 simp [execOp,ho,hK.2,j,b,Instr.indexAt,asIntOf,run_underlying (hd.slice hk),h0,p,l.size,s,kjj]
theorem kacw {s:TypeId} {x:Operand} {f:Nat} {fs:List (TypeId×Nat)} {ft:TypeId} {off n p q:Nat} {e:TypeId} {size:Nat} {xs:List FV} {df:TD} (v:TOk P T) (ho:o.op = .fieldAddr s x f) (hd:kat T s=some d) (hk:d.kind = .st fs) (y:fs[f]?=some (ft,off)) (c:kat T ft=some df) (z:Nat.beq df.size 0=false)
  (A:st.eval x = .ref id n (p+q)) (k:kab st.heap id=some (.frow e size xs)) (hn:n=xs.length):NStep P o st (.ref id n (p+(q+off))):=by
 intro ψ S a w ht B;have hd:=v.get hd;have c:=v.get c;have i:=Sim.eval_tmps ht x;rw [A] at i;obtain ⟨hl,_⟩:=B id _ k;obtain ⟨gs,C,l⟩:=hd.strct hk;have j:∃ g:Field,gs[f]?=some g/\g.type=ft/\g.offset=off:=by rw [<- l,qp,qm] at y;obtain ⟨g,j,m⟩:=y;simp only [qak] at m;exact ⟨g,by simpa using j,m.1,m.2⟩
 obtain ⟨g,j,rfl,rfl⟩:=j;have r:df.size≠0:=fun h=>by rw [h] at z;cases z
 obtain ⟨b,hv,hr⟩:∃ b,a.eval x = .pointer (some ⟨b,p+q,none⟩)/\RV ψ (·∈st.ids) S w (.pointer (some ⟨b,p+q+g.offset,none⟩)) (.ref id n (p+(q+g.offset))):=by
  generalize a.eval x=u at i;cases i with
  | ref hK t h1 hv=>
   obtain ⟨b,D,rfl⟩:=hv (by rw [hl,hn]);exact ⟨b,rfl, .ref hK t rfl fun _=>⟨b,D,by rw [Nat.add_assoc]⟩⟩
 refine kaj (w':=w) ?_ ⟨kai _,hr.here⟩;simp [execOp,ho,hv,Instr.fieldAt,C,j,Instr.sureAddr,fieldPlace,c.size,r,kjj]
theorem kack {α:Type} (E:En α) {xs:List α} {x:α} {i:Int} {X:Operand} {n q:Nat} {e:TypeId} {y:FV} (h:idx xs i=some x) (C:TOk P T) (ho:o.op = .load t X) (hd:kat T t=some d) (hk:d.kind.agg=false) (D:st.eval X = .ref id n (i.toNat*E.n+q)) (r:kab st.heap id=some (.frow e E.n (xs.map E.f))) (hn:n=xs.length) (B:Nat.blt q E.n=true:=by kernel_rfl) (F:(E.cl x)[q]?=some y:=by kernel_rfl):NStep P o st (.fz y):=by
 intro ψ S a w ht G;subst hn;have hd:=C.get hd;obtain ⟨h0,hi⟩:=ko4 h;have B:q<E.n:=by simpa [Nat.blt_eq] using B
 have s:i.toNat<xs.length:=(qo.1 hi).1;have l:=Sim.eval_tmps ht X;rw [D] at l;obtain ⟨hl,_,cs,c,_,hr⟩:=G id _ r;rw [qag] at hl c;obtain ⟨g,cap,j⟩:=k14 c (by omega);have hp:a.eval X = .pointer (some ⟨g,i.toNat*E.n+q,none⟩):=by
  generalize a.eval X=u at l;cases l with
  | ref hK H h1 hv=>
   obtain ⟨b,z,rfl⟩:=hv hl.symm;rw [j] at z;simp only [kby,ql] at z;rw [z]
 have k:i.toNat*E.n+q<xs.length*E.n:=by have:(i.toNat+1)*E.n<=xs.length*E.n:=qa7 _ s;rw [qbn,Nat.one_mul] at this;omega
 have A:i.toNat*E.n+q<cs.length:=by rw [c.1];exact k
 have p:cs[i.toNat*E.n+q]?=some cs[i.toNat*E.n+q]:=qc A;have m:w.cell? ⟨g,i.toNat*E.n+q,none⟩=some cs[i.toNat*E.n+q]:=by rw [j] at c;rw [World.ownsRow.cellAt c _ k,p]
 refine kaj (w':=w) (v:=cs[i.toNat*E.n+q]) ?_ ⟨kai _, .fz ((hr i.toNat (E.f x) q _ y (by rw [qp,hi];rfl) p (by rw [E.hcl];exact F)).mono fun _ h => .inl h)⟩;simp [execOp,ho,hp,Instr.loadAt,Instr.sureAddr,loadVar,hd.isAgg,hk,m]
def kzr (n b:Int):Option BA:=if b=10 /\ -9223372036854775808<=n/\n<=9223372036854775807 then some ⟨(Lib.itoa n).toArray⟩ else none
theorem kadd {f:FuncId} {ts:Array TypeId} {X Y:Operand} {n b:Int} {v:BA} {g m:Nat} {gs:List (Nat×Array Value)} {vs:Array Value} {nm:String} (h:kzr n b=some v)
  (i:∀ (n:Int),-9223372036854775808<=n->n<=9223372036854775807->∀ w:World,w.var? P nm=some vs->Calls P f #[.int .i64 n, .int .i64 10] w fun e w'=>e = .returned (.string ⟨(Lib.itoa n).toArray⟩)/\∃ k os,w'=Sort.grow (w.drewN k) os)
  (p : ∃ fn, P.funcs[f]? = some fn /\ fn.body.isNone = false /\ (fn.name == "runtime.NumGoroutine") = false) (q : P.globalNamed nm = some g)
  (ho:o.op = .call { callee := .value (.func f),args:=#[X,Y],argTypes:=ts }) (r:st.eval X = .fz (.atom (.int .i64 n))) (s:st.eval Y = .fz (.atom (.int .i64 b))) (j:kab st.heap id=some (.glb gs)) (hm:gs[m]?=some (g,vs)) (l:Nat.blt 0 vs.size=true):
  NStep P o st (.fz (.atom (.string v))):=by
 unfold kzr at h;split at h;rename_i hc;obtain ⟨rfl,h0,h1⟩:=hc;injection h with h;subst h;intro ψ S a w ht t;have c:=Sim.eval_tmps ht X;rw [r] at c;have d:=Sim.eval_tmps ht Y;rw [s] at d;unfold kis;rw [kt3 ho p];have:=i n h0 h1 w (kaks t j hm q (by simpa [Nat.blt_eq] using l));rw [show (#[X,Y].map a.eval)=#[.int .i64 n, .int .i64 10] by simp [c.atom,d.atom]];refine this.mono ?_;rintro e w' ⟨rfl,k,os,rfl⟩;refine ⟨_,rfl,⟨rfl,rfl,rfl,by simp [Sort.grow,World.drewN],fun b u=>?_⟩, .fz (.atom rfl)⟩;simp only [Sort.grow,World.drewN];exact qbh u
 ·cases h
theorem kabr {f:FuncId} {args:List FV} {vs:Array Value} {gs:List (Nat×Array Value)} {post:List (Nat×AObj)} {ids1:List Nat} (hp:kau P f (args.map .fz++[]) [(1, .glb gs)] [1] (.ret (fB true)) post ids1) (hs:vs.size=args.length) (hr:∀ (i:Nat) (v:Value) (x:FV),vs[i]?=some v->args[i]?=some x->RF Any w v x)
  (j:∀ p,p∈gs->GlbR w p.1 p.2):
  Calls P f vs w fun e w'=>e = .returned (.bool true)/\Below w.heap.size w w':=by
 rw [List.append_nil] at hp
 let SB:Nat->Prop:=fun b=>b<w.heap.size
 have l:∀ {v x},RF Any w v x->RF SB w v x:=fun h=>h.bound.mono fun b c=>c.2;refine (hp.2 SB SB w.heap.size ⟨fun _=>0,fun _ => .bool true⟩ SB w vs (by simpa using hs) (fun i v x hv k=>?_) ⟨fun id' o h=>?_,fun id1 id2 o o' b h d hne=>?_,fun b h=>h,fun b h => .inl h,qy _,fun b h=>h⟩).mono ?_;simp only [qp,qm] at k;obtain ⟨y,m,rfl⟩:=k;exact .fz (l (hr i v y hv m))
 ·rw [kae] at h;split at h
  ·rename_i hid;injection h with h;subst h hid;refine ⟨qbf.2 rfl,⟨rfl,rfl,rfl,fun p hp=>?_⟩,fun b c=>by
    rcases c with c | ⟨u,n,_⟩;cases c
    ·cases n⟩
   exact ⟨(j p hp).lt,j p hp⟩
  ·cases h
 ·rw [kae] at h d;split at h
  ·split at d;rename_i p q;exact absurd (p.symm.trans q) hne
   ·cases d
  ·cases h
 ·rintro e w' ⟨ψ',S',⟨v,rfl,hv⟩,g,a,_,_,hS,_⟩;rw [hv.atom];exact ⟨rfl,⟨a.os,a.tape,a.output,a.size,fun b c=>a.block b c⟩⟩
end
inductive Rx where
 | mk (input:Int) (value:Va) (op:BA) (args:List Rx)
namespace Rx
def input:Rx->Int | mk i _ _ _=>i
def value:Rx->Va | mk _ v _ _=>v
def op:Rx->BA | mk _ _ o _=>o
def args:Rx->List Rx | mk _ _ _ a=>a
end Rx
mutual
def eRxR:Rx->FV
 | .mk i v o l => .agg [eI i,eI v.type,eI v.num,eS v.text,eL 4 eVaR v.items,eS o, .lst 7 l.length (k2l l)]
def k2l:List Rx->List FV
 | []=>[]
 | x::l=>eRxR x::k2l l
end
def eRx (x:Rx):FV := .agg [eI x.input,eI x.value.type,eI x.value.num,eS x.value.text,eL 4 eVaR x.value.items,eS x.op,eL 7 eRxR x.args]
theorem k74:∀ l:List Rx,k2l l=l.map eRxR
 | []=>by simp [k2l]
 | x::l=>by simp [k2l,k74 l]
theorem k3k (x:Rx):eRxR x=eRx x:=by cases x;simp [eRxR,eRx,k74,eL,Rx.input,Rx.value,Rx.op,Rx.args]
theorem kab4 (x:Rx):(eRxR x).cells=(eRx x).cells:=by rw [k3k]
theorem kahf (x:Rx):(eRxR x).cells.length=7:=by rw [k3k];rfl
def nRxR:En Rx:=⟨eRxR,7,fun x=>(eRx x).cells,kab4,kahf⟩
inductive RZ:List Value->List FV->Prop where
 | nil:RZ [] []
 | at {v:Value} {l:List Value} {m:List FV} (h:v.oneCell'=true) (k:RZ l m):RZ (v::l) (.atom v::m)
 | sl {n:Nat} {l:List Value} {m:List FV} (h:0<n) (k:RZ l m):RZ (.slice none 0 0::l) (.lst n 0 []::m)
theorem RZ.len {l:List Value} {m:List FV} (h:RZ l m):m.length=l.length:=by
 induction h with
 | nil=>rfl
 | «at» _ _ ih=>simp [ih]
 | sl _ _ ih=>simp [ih]
theorem RZ.single {l:List Value} {m:List FV} (h:RZ l m):∀ y∈m,y.single=true:=by
 induction h with
 | nil=>simp
 | «at» h _ ih=>intro y a;rcases qac.1 a with rfl | a;exact h;exact ih y a
 | sl _ _ ih=>intro y a;rcases qac.1 a with rfl | a;rfl;exact ih y a
theorem RZ.rf {l:List Value} {m:List FV} (h:RZ l m) {S:Nat->Prop} {w:World}:∀ (j:Nat) (v:Value) (y:FV),l[j]?=some v->m[j]?=some y->RF S w v y:=by
 induction h with
 | nil=>intro j v y h;simp at h
 | «at» h _ ih=>
  intro j v y hv a;cases j with
  | zero=>simp at hv a;subst hv a;exact .atom h
  | succ j=>simp at hv a;exact ih j v y hv a
 | sl h _ ih=>
  intro j v y hv a;cases j with
  | zero=>simp at hv a;subst hv a;exact .lst (fun _=>[]) rfl (qy _) (by decide) h (fun i x b=>by simp at b) (fun i x b=>by simp at b) (fun i x j v y b=>by simp at b)
  | succ j=>simp at hv a;exact ih j v y hv a
section
variable {P:Program} {F S0:Nat->Prop} {N0:Nat} {w w':World} {S S':Nat->Prop} {ψ:Env} {K:Nat->Prop} {T:List (TypeId×TD)} {o:Oper} {a:Act} {st:St} {t:TypeId} {d:TD} {id:Nat}
theorem k5b (z:Array Value) (n k:Nat) (hk:k<n) (a:0<z.size):(madeCells z n)[k]?=z[k % z.size]?:=by have hm:k % z.size<z.size:=Nat.mod_lt _ a;simp [madeCells,hk,hm]
theorem kal0 {α:Type} (E:En α) {bytes:Nat} {z:α} {n:Int} {xs:List α} {X Y:Operand} {e:TypeId} {de:TD} {k k':IntKind} {zs:List Value} {zl:List FV} (h:mkL bytes z n=some xs) (ho:o.op = .makeSlice t X Y) (V:TOk P T) (hd:kat T t=some d) (hk:d.kind = .slice e) (p:kat T e=some de)
  (H:de.size=E.n) (I:de.zero=zs) (q:E.cl z=zl) (c:RZ zs zl) (r:Nat.ble 1 E.n=true) (J:de.bytes=bytes) (s:st.eval X = .fz (.atom (.int k n))) (B:st.eval Y = .fz (.atom (.int k' n))) (hid:st.ids.contains id=false):
  kcx P o st (.row id xs.length) ((id, .frow e E.n (xs.map E.f))::st.heap) (id::st.ids):=by
 have hid:id∉st.ids:=by simpa using hid
 have r:0<E.n:=qai r;obtain ⟨rfl,h0,K,L⟩:=kaia h;have hd:=V.get hd;have p:=V.get p;subst J;intro F S0 N0 ψ S a w u;have l:=u.eval X;rw [s] at l;have l:=l.atom;have m:=u.eval Y;rw [B] at m;have m:=m.atom;obtain ⟨⟨i,z',hi,M,N,Z,O⟩,_⟩:=p;have g:=u.core;have hcl:z'.cells.toList=zs:=by rw [O,I]
 have A:zs.length=E.n:=by rw [<- c.len,<- q,<- E.hcl,E.hn]
 have Q:z'.cells.size=E.n:=by rw [<- qas,hcl,A]
 have hr:=run_make (P:=P) w t e i z' (hd.slice hk) hi Z k k' n n h0 (Int.le_refl _) (by rw [N];exact K) L;rw [M,H] at hr;have C:Grow w (w.alloc (.cells (madeCells z'.cells (n.toNat*E.n)) e)):=kdd _ _;have D:(List.replicate n.toNat z).length=n.toNat:=List.length_replicate;rw [D];refine kaj (w':=w.alloc (.cells (madeCells z'.cells (n.toNat*E.n)) e)) (v := .slice (some ⟨w.heap.size,0,none⟩) n.toNat n.toNat) ?_ ⟨ψ.set id n.toNat (.slice (some ⟨w.heap.size,0,none⟩) n.toNat n.toNat),S,?_,?_,koz _ g.fr,ker hid _ _,fun _ h=>qn _ h,fun _ h=>h,Same.of_grow C⟩;simp [execOp,ho,l,m,hr]
 ·refine g.add C hid (fun b K=>by simp [kby] at K;omega) ⟨by rw [kes];simp,r,(madeCells z'.cells (n.toNat*E.n)).toList,?_,fun x s=>?_,fun i x j v y s hv B=>?_⟩;rw [kbp];have:=World.ownsRow_lit (base:=0) (size:=E.n) (e:=e) w (madeCells z'.cells (n.toNat*E.n)) n.toNat (qz _) (by unfold maxLen;omega) (by rw [size_madeCells]);simpa using this;simp only [List.map_replicate,List.mem_replicate] at s;rw [s.2,E.hcl,q];exact ⟨by rw [c.len,A],c.single⟩
  ·have R:i<n.toNat:=(by have:=(qo.1 s).1;simpa using this);have G:=qw s;simp only [List.map_replicate,List.mem_replicate] at G;rw [G.2,E.hcl,q] at B;have hj:j<E.n:=(by rw [<- A,<- c.len];exact (qo.1 B).1);have U:i*E.n+j<n.toNat*E.n:=(by have:(i+1)*E.n<=n.toNat*E.n:=qa7 _ R;rw [qbn,Nat.one_mul] at this;omega);rw [qay,k5b _ _ _ U (by omega),Q,Nat.mul_comm i,Nat.mul_add_mod,Nat.mod_eq_of_lt hj,<- qay,hcl] at hv;exact c.rf j v y hv B
 ·exact .row (qt ..) (by rw [kes];exact qy _) rfl fun _=>by rw [kbp]
theorem kabc {v:Value} {e:TypeId} {n size:Nat} {cs:List Value} (h:w.ownsRow 0 e size v n cs) (hn:0<n):∃ g cap cur,v = .slice (some ⟨g,0,none⟩) n cap/\w.heap[g]?=some (.cells cur e (0,0))/\n<=cap/\cap<=maxLen/\cur.size=cap*size/\cur.toList.take (n*size)=cs:=by
 rcases h.2 with ⟨_,h0⟩ | ⟨g,cap,cur,hv,_,a,h1,h2,h3,b⟩;omega
 ·exact ⟨g,cap,cur,hv,a,h1,h2,h3,by rw [b]⟩
theorem k8o {α:Type} (E:En α) {xs:List α} {x y:α} {i:Int} {X Y:Operand} {n:Nat} {u:FV} (h:idx xs i=some x) (hT:TOk P T) (ho:o.op = .store t X Y) (hd:kat T t=some d) (hz:d.size=E.n) (hx:st.eval X = .ref id n (i.toNat*E.n+0)) (M:kab st.heap id=some (.frow t E.n (xs.map E.f))) (hn:n=xs.length) (hy:st.eval Y = .fz u) (hu:E.f y=u)
  (N:∀ q∈E.cl y,q.single=true):kcx P o st .any ((id, .frow t E.n ((xs.set i.toNat y).map E.f))::st.heap) st.ids:=by
 subst hn;subst hu;intro F S0 N0 ψ S a w I;have hd:=hT.get hd;obtain ⟨h0,hi⟩:=ko4 h;have ad:i.toNat<xs.length:=(qo.1 hi).1;have m:=I.core;obtain ⟨hid,⟨hl,O,cs,p,ae,hr⟩,af⟩:=m.obj id _ M;rw [qag] at hl p;have hcl:cs.length=xs.length*E.n:=p.1;obtain ⟨g,cap,cur,r,hg,Q,ag,J,ah⟩:=kabc p (by omega);have K:=I.eval X;rw [hx] at K;have hp:a.eval X = .pointer (some ⟨g,i.toNat*E.n,none⟩):=by
  generalize a.eval X=u at K;cases K with
  | ref hK am h1 hv=>
   obtain ⟨b,R,rfl⟩:=hv hl.symm;rw [r] at R;simp only [kby,ql] at R;rw [R,Nat.add_zero]
 have s:=I.eval Y;rw [hy] at s;have s:RF S w (a.eval Y) (E.f y):=by
  generalize a.eval Y=u at s;cases s with
  | fz h=>exact h
 obtain ⟨hc,ai,U⟩:=s.cells (by rw [E.hcl];exact N);rw [E.hn] at hc;obtain ⟨us,A⟩:∃ us,us=(a.eval Y).cells.toList:=⟨_,rfl⟩;have B:us.length=E.n:=by rw [A,qas,hc]
 have an:i.toNat*E.n+E.n<=xs.length*E.n:=by have:(i.toNat+1)*E.n<=xs.length*E.n:=qa7 _ ad;rw [qbn,Nat.one_mul] at this;exact this
 have al:xs.length*E.n<=cap*E.n:=qa7 _ Q;have hst:=run_storeCells_at (P:=P) g (i.toNat*E.n) t us 0 cur w hg (by rw [B,J];omega) (fun v hv=>U v (by rw [<- A];exact hv));obtain ⟨new,D⟩:∃ new:Array Value,new=(cur.toList.take (i.toNat*E.n+0)++us++cur.toList.drop (i.toNat*E.n+0+us.length)).toArray:=⟨_,rfl⟩;rw [<- D] at hst;have V:new.toList=cur.toList.take (i.toNat*E.n)++us++cur.toList.drop (i.toNat*E.n+E.n):=by rw [D,B];simp
 have Z:new.size=cap*E.n:=by rw [<- qas,V];simp only [qr,qah,qau,qas,J,B];omega
 have aj:new.toList.length=cap*E.n:=by rw [qas];exact Z
 have G:∀ k,k<w.heap.size->¬ Blk (ψ.val id) k->(w.setRow g new).heap[k]?=w.heap[k]?:=fun k _ hk=>kwp g new k fun e=>hk (.of (by rw [r,e];rfl));have ao:(w.setRow g new).heap.size=w.heap.size:=by simp [World.setRow]
 have H:ψ.set id xs.length (ψ.val id)=ψ:=by
  unfold Env.set;congr 1
  ·funext j;split;rename_i hj;rw [hj,hl]
   ·rfl
  ·funext j;split;rename_i hj;rw [hj]
   ·rfl
 have hk:Same S w (w.setRow g new):=fun k hk hl=>G k hl fun e=>(af k e).1 hk;have aa:∀ q,(new.toList.take (xs.length*E.n))[q]?=if i.toNat*E.n<=q/\q<i.toNat*E.n+E.n then us[q - i.toNat*E.n]? else cs[q]?:=fun q=>by
  have h1:(cur.toList.take (i.toNat*E.n)).length=i.toNat*E.n:=by rw [qah,qas,J];omega
  rw [<- ah,qaj,qaj,V];by_cases a1:q<i.toNat*E.n;rw [qan,qav (by omega),qaj,qj a1,qj (by omega),qg (by omega)]
  ·by_cases a2:q<i.toNat*E.n+E.n;rw [qj (by omega),qj (by omega),qav (by rw [qr];omega),qa5 (by omega),h1]
   ·rw [qg (c:=_/\_) (by omega),qa5 (by rw [qr];omega),qr,h1,B,qat];congr 2;omega
 obtain ⟨c1,c2,c3⟩:=m.upd (n:=xs.length) (v:=ψ.val id) (w':=w.setRow g new) (ob' := .frow t E.n ((xs.set i.toNat y).map E.f)) M (by omega) G (.inr ⟨hl,rfl⟩) (fun b R => .inl R) (by
  rw [H];refine ⟨by simp [hl],O,new.toList.take (xs.length*E.n),?_,fun z C=>?_,fun k z j v q C hv hq=>?_⟩;rw [qag,List.length_set,r];exact ⟨by rw [qah,aj];omega, .inr ⟨g,cap,new,rfl,qz _,kuy g hg,Q,ag,Z,rfl⟩⟩
  ·obtain ⟨z0,l,rfl⟩:=qa3.1 C;rcases List.mem_or_eq_of_mem_set l with l | rfl;exact ae _ (List.mem_map_of_mem l)
   ·exact ⟨E.hn _,by rw [E.hcl];exact N⟩
  ·obtain ⟨z0,l,rfl⟩:∃ z0,(xs.set i.toNat y)[k]?=some z0/\E.f z0=z:=(by rw [qp,qm] at C;exact C);have hj:j<E.n:=(by rw [<- E.hn z0];exact (qo.1 hq).1);rw [aa] at hv;by_cases L:i.toNat=k;subst L;rw [List.getElem?_set_self (by omega)] at l;injection l with l;subst l;rw [qj (by omega),Nat.add_sub_cancel_left,A,qay] at hv;exact (ai j v q hv hq).keep hk
   ·rw [List.getElem?_set_ne L] at l;have ak:¬ (i.toNat*E.n<=k*E.n+j/\k*E.n+j<i.toNat*E.n+E.n):=by
     intro ⟨b1,b2⟩;rcases Nat.lt_or_gt_of_ne L with ab | ac;have:(i.toNat+1)*E.n<=k*E.n:=qa7 _ ab;rw [qbn,Nat.one_mul] at this;omega
     ·have:(k+1)*E.n<=i.toNat*E.n:=qa7 _ ac;rw [qbn,Nat.one_mul] at this;omega
    rw [qg ak] at hv;exact (hr k (E.f z0) j v q (by rw [qp,l];rfl) hv hq).keep hk)
 rw [H] at c1;refine kps (w':=w.setRow g new) ?_ ⟨ψ,S,c1, .any,⟨rfl,rfl,rfl,by omega,c3⟩,Ext.refl,fun _ h=>h,fun _ h=>h,c2⟩;simp only [execOp,ho,Instr.storeAt,hp,Instr.sureAddr,storeVar,hd.size,Sem.run_bind,Sem.run_pure,Result.andThen_ok];rw [qg (by rw [hc,hz];simp)];simp [<- A,hst]
theorem k9k {α:Type} (E:En α) {bytes:Nat} {z:α} {n:Int} {xs:List α} {v:St} {X Y:Operand} {e:TypeId} {de:TD} {k k':IntKind} {zs:List Value} {zl:List FV} (h:mkL bytes z n=some xs) (ho:o.op = .makeSlice t X Y) (p:TOk P T) (hd:kat T t=some d) (hk:d.kind = .slice e) (a:kat T e=some de)
  (b:de.size=E.n) (c:de.zero=zs) (g:E.cl z=zl) (i:RZ zs zl) (j:Nat.ble 1 E.n=true:=by kernel_rfl) (l:de.bytes=bytes:=by kernel_rfl) (q:v.eval X = .fz (.atom (.int k n)):=by kernel_rfl) (r:v.eval Y = .fz (.atom (.int k' n)):=by kernel_rfl):k21 P v o (.row id xs.length) id (.frow e E.n (xs.map E.f)):=
 fun m ids' hid=>kal0 (st:={ v with heap:=m,ids:=ids' }) E h ho p hd hk a b c g i j l q r hid
end
def mokM (id:Nat) (g:Cfg):Bool:=match g.foc with
 | .dry z (_+1) i (o::_) fs _ _ es=>match kdi z.os (kyx z g.st i o fs) o with
  | some true=>kxk z g.st es id
  | _=>false
 | _=>false
def rsmM (c:AV) (id:Nat) (ob:AObj) (g:Cfg):Cfg:=match g.foc with
 | .dry z (k+1) i (o::l) fs hp nid es=>⟨.dry z k (i+1) l ((i,o.dst,c)::fs) ((id,ob)::hp) (id::nid) ((i,id)::es),g.ks,g.st⟩
 | _=>⟨.bad,g.ks,g.st⟩
theorem mst {P:Program} {Q:Exit->St->Prop} [t:Tab P] {g:Cfg} (k:Nat) {c:AV} {id:Nat} {ob:AObj} (hn:k21 P (kzc (crun P k g)) (knm (crun P k g)) c id ob) (h:W P (rsmM c id ob (crun P k g)) Q) (hv:mokM id (crun P k g)=true:=by kernel_rfl):W P g Q:=by
 refine kch (k:=k) ?_;generalize crun P k g=g' at *
 obtain ⟨foc,ks,st⟩:=g';unfold mokM at hv;simp only at hv;split at hv
 ·rename_i z k i o l fs hp nid es;split at hv;rename_i a;simp only [kzc,knm,krg,a] at hn;unfold kxk at hv;rw [Bool.not_eq_true'] at hv;unfold W FW;show kua P z.os z.n z.ai (kjg P ks Q) st (k+1) i (o::l) fs hp nid es;exact .inr (.inl ⟨_,_,_,a,hn,hv,by unfold W FW at h;exact h⟩)
  ·cases hv
 ·cases hv
end Go.Proofs.YtaimpcnpifoidaaGreatDoor
