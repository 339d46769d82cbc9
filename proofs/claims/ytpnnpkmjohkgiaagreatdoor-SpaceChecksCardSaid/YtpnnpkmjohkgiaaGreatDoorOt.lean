import Derived.Test.YtpnnpkmjohkgiaaGreatDoorOpr
import Derived.Test.YtpnnpkmjohkgiaaGreatDoorMach
set_option linter.all false
namespace Go.Proofs.YtpnnpkmjohkgiaaGreatDoor
open Go Go.RowKit
structure En (α:Type) where
 f:α->FV
 n:Nat
 cl:α->List FV
 hcl:∀ x,(f x).cells=cl x
 hn:∀ x,(f x).cells.length=n
def nI:En Int:=⟨eI,1,fun x=>[eI x],fun _=>rfl,fun _=>rfl⟩
def nS:En BA:=⟨eS,1,fun x=>[eS x],fun _=>rfl,fun _=>rfl⟩
def nL {α:Type} (s:Nat) (E:En α):En (List α):=⟨eL s E.f,1,fun x=>[eL s E.f x],fun _=>rfl,fun _=>rfl⟩
def nVaR:En Va:=⟨eVaR,4,fun x=>(eVa x).cells,kxy,k07⟩
def nSy:En Sy:=⟨eSy,2,fun x=>(eSy x).cells,fun _=>rfl,fun _=>rfl⟩
def nRu:En Ru:=⟨eRu,9,fun x=>(eRu x).cells,fun _=>rfl,fun _=>rfl⟩
def kmh {γ:Type} (f:Oper->St->Option γ) (g:Cfg):Option γ:=match kkj g with
 | some p=>f p.1 p.2
 | none=>none
section
variable {P:Program} [t:Tab P] {Q:Exit->St->Prop} {g:Cfg} {β:Type} {r:β}
theorem vst {γ:Type} {f:Oper->St->Option γ} {z:γ} {c:AV} (k:Nat) (hc:kmh f (crun P k g)=some z) (hn:∀ o v,f o v=some z->NStep P o v c) (h:W P (rsm c (crun P k g)) Q):W P g Q:=by
 refine kc5 (k:=k) ?_;unfold kmh at hc;split at hc;rename_i p hp;exact kt0 hp (hn _ _ hc) h
 ·cases hc
def ixOf (T:List (TypeId×TD)) (o:Oper) (st:St):Option (Nat×List FV×Int):=match o.op with
 | .indexAddr t x y=>match kab T t with
  | some d=>match d.kind,kkf (st.eval x),st.eval y with
   | .slice e,some xs, .fz (.atom (.int _ i))=>match kab T e with
    | some de=>some (de.size,xs,i)
    | none=>none
   | _,_,_=>none
  | none=>none
 | _=>none
theorem ix {α:Type} {ys:List α} {i:Int} {K:α->Option β} (E:En α) (k:Nat) (h:Option.bind (idx ys i) K=some r) (hc:kmh (ixOf t.T) (crun P k g)=some (E.n,ys.map E.f,i)) (c:∀ v,K v=some r->W P (rsm (.fz (.fp (E.cl v))) (crun P k g)) Q):W P g Q:=by
 obtain ⟨v,h1,j⟩:=qx.1 h;refine vst k hc (fun o st a=>?_) (c v j);unfold ixOf at a;split at a
 ·rename_i tt x y l;split at a
  ·rename_i d m;split at a
   ·rename_i e xs k' i' hk p hy;split at a;rename_i de b;simp only [qc,qm] at a;obtain ⟨z1,z2,z3⟩:=a;subst z2 z3;exact k4b (enc:=E.f) h1 t.ok l m hk b p (fun x=>by rw [E.hn,z1]) hy (E.hcl v)
    ·cases a
   ·cases a
  ·cases a
 ·cases a
def byOf (T:List (TypeId×TD)) (o:Oper) (st:St):Option (BA×Int):=match o.op with
 | .index t x y=>match kab T t with
  | some d=>match d.kind,st.eval x,st.eval y with
   | .str, .fz (.atom (.string s)), .fz (.atom (.int _ i))=>some (s,i)
   | _,_,_=>none
  | none=>none
 | _=>none
theorem byx {s:BA} {i:Int} {K:Int->Option β} (k:Nat) (h:Option.bind (byt s i) K=some r) (b:∀ v,K v=some r->W P (rsm (.fz (eU8 v)) (crun P k g)) Q) (hc:kmh (byOf t.T) (crun P k g)=some (s,i):=by kernel_rfl):W P g Q:=by
 obtain ⟨v,h1,c⟩:=qx.1 h;refine vst k hc (fun o st a=>?_) (b v c);unfold byOf at a;split at a
 ·rename_i tt x y e;split at a
  ·rename_i d f;split at a;rename_i s' k' i' hk j hy;simp only [qc,qm] at a;obtain ⟨rfl,rfl⟩:=a;exact k8d h1 t.ok e f hk j hy
   ·cases a
  ·cases a
 ·cases a
def tyCs (T:List (TypeId×TD)):Nat->TypeId->List C0
 | 0,_=>[]
 | n+1,t=>match kab T t with
  | some d=>match d.kind with
   | .slice e=>match kab T e with
    | some de=>[.sl de.size]
    | none=>[.keep]
   | .st fs=>fs.flatMap fun p=>tyCs T n p.1
   | .arr m e=>(List.replicate m e).flatMap fun e=>tyCs T n e
   | _=>[.keep]
  | none=>[.keep]
def tyC (T:List (TypeId×TD)) (t:TypeId):C1:=match kab T t with
 | some d=>match d.kind with
  | .slice e=>match kab T e with
   | some de => .one (.sl de.size)
   | none => .one .keep
  | .st _ => .ag (tyCs T 9 t)
  | .arr _ _ => .ag (tyCs T 9 t)
  | _ => .one .keep
 | none => .one .keep
def clOf (T:List (TypeId×TD)) (o:Oper) (st:St):Option (FuncId×List FV):=match o.op with
 | .call c=>match c.callee with
  | .value (.func f)=>match klr st (c.argTypes.toList.map (tyC T)) c.args.toList with
   | some ys=>some (f,ys)
   | none=>none
  | _=>none
 | _=>none
theorem cl {α:Type} {E:Option α} {K:α->Option β} {f:FuncId} {ys:List FV} {y:α->FV} (k:Nat) (h:Option.bind E K=some r) (hp:∀ v,E=some v->PCall P f ys (y v)) (hc:kmh (clOf t.T) (crun P k g)=some (f,ys)) (d:∀ v,K v=some r->W P (rsm (.fz (y v)) (crun P k g)) Q):W P g Q:=by
 obtain ⟨v,h1,e⟩:=qx.1 h;refine vst k hc (fun o st a=>?_) (d v e);unfold clOf at a;split at a
 ·rename_i c i;split at a
  ·rename_i f' b;split at a;rename_i ys' hy;simp only [qc,qm] at a;obtain ⟨rfl,rfl⟩:=a;obtain ⟨cc,as_,ts⟩:=c;simp only at b;subst b;exact kz8 i hy (hp v h1)
   ·cases a
  ·cases a
 ·cases a
def hcOf (cs:List C1) (r1 r2:List (Nat×Nat)) (keys ids0 ids1:List Nat) (post:List (Nat×AObj)) (o:Oper) (st:St):Option (FuncId×List AV×List (Nat×AObj)):=match o.op with
 | .call c=>match c.callee with
  | .value x=>match fnOf c.args.size (st.eval x) with
   | some (f,cap)=>match km3 st r1 (renI r2 ids0) cs c.args.toList,km2 r1 (renI r2 ids0) cap,preX st r1 r2 (renI r2 ids0) keys with
    | some as1,some as2,some pre=>bif kl8 st r1 r2 keys ids0 ids1 post then some (f,as1++as2,pre) else none
    | _,_,_=>none
   | _=>none
  | _=>none
 | _=>none
theorem hcl {α:Type} {E:Option α} {K:α->Option β} {f:FuncId} {as_:List AV} {pre:List (Nat×AObj)} {ids0 ids1:List Nat} {res:α->AV} {post:α->List (Nat×AObj)} (k:Nat) (cs:List C1) (r1 r2:List (Nat×Nat)) (keys:List Nat) (h:Option.bind E K=some r)
  (hp:∀ v,E=some v->kfs P f as_ pre ids0 (.ret (res v)) (post v) ids1) (hc:∀ v,kqc (hcOf cs r1 r2 keys ids0 ids1 (post v)) (crun P k g)=some (f,as_,pre))
  (i:∀ v,K v=some r->W P (rsmA (renA r2 (res v)) (renH r2 (post v)++kk1 (renI r2 ids0) (stOf (crun P k g)).heap) (renI r2 ids1++(stOf (crun P k g)).ids) (crun P k g)) Q):W P g Q:=by
 obtain ⟨v,h1,j⟩:=qx.1 h;obtain ⟨hk,a⟩:=ktr (hc v);refine sst k ?_ hk (i v j);unfold hcOf at a;split at a
 ·rename_i c l;split at a
  ·rename_i x e;split at a
   ·rename_i f' cap b;split at a
    ·rename_i as1 as2 pre' e1 e2 e3;cases d:kl8 (stOf (crun P k g)) r1 r2 keys ids0 ids1 (post v) with
     | false=>rw [d] at a;cases a
     | true=>
      rw [d] at a;simp only [qd,qc,qm] at a;obtain ⟨rfl,rfl,rfl⟩:=a;obtain ⟨cc,as_,ts⟩:=c;simp only at e;subst e;exact k7w r1 r2 l b (hp v h1) e1 e2 d e3
    ·cases a
   ·cases a
  ·cases a
 ·cases a
structure ApR where
 id:Nat
 e:TypeId
 size:Nat
 bytes:Nat
 n:Nat
 xs:List FV
 ys:List FV
def kw4 (size:Nat):AV->Option (List FV)
 | .fz (.lst s _ ys)=>bif Nat.beq s size then some ys else none
 | .lim s _ ys=>bif Nat.beq s size then some ys else none
 | _=>none
theorem k0r {size:Nat} {x:AV} {ys:List FV} (h:kw4 size x=some ys):∃ m,x = .fz (.lst size m ys)\/x = .lim size m ys:=by
 unfold kw4 at h;split at h
 ·rename_i s m zs;cases a:Nat.beq s size with
  | false=>rw [a] at h;cases h
  | true=>
   rw [a] at h;obtain rfl:=qh a;obtain rfl:=qab h;exact ⟨m, .inl rfl⟩
 ·rename_i s m zs;cases a:Nat.beq s size with
  | false=>rw [a] at h;cases h
  | true=>
   rw [a] at h;obtain rfl:=qh a;obtain rfl:=qab h;exact ⟨m, .inr rfl⟩
 ·cases h
def apOf (T:List (TypeId×TD)) (o:Oper) (st:St):Option ApR:=match o.op with
 | .call c=>match c.callee,c.args.toList,c.argTypes.toList with
  | .builtin .append,[X,Y],[t,u]=>bif Nat.beq u t then (match kab T t with
   | some d=>match d.kind,st.eval X with
    | .slice e, .row id n=>match kab T e,kaa st.heap id with
     | some de,some (.frow e' s xs)=>match kw4 de.size (st.eval Y) with
      | some ys=>bif Nat.beq e' e && (Nat.beq s de.size && (Nat.ble 1 de.size && Nat.beq de.zero.length de.size)) then some ⟨id,e,de.size,de.bytes,n,xs,ys⟩ else none
      | none=>none
     | _,_=>none
    | _,_=>none
   | none=>none) else none
  | _,_,_=>none
 | _=>none
theorem k39 {α:Type} {E:En α} {xs ys v:List α} {o:Oper} {st:St} {q:ApR} (a:apOf t.T o st=some q) (h:app q.bytes xs ys=some v) (hn:q.n=xs.length) (k:q.xs=xs.map E.f) (hy:q.ys=ys.map E.f):
  ∃ (X Y:Operand) (ty:TypeId) (d de:TD) (m:Nat),o.op = .call { callee := .builtin .append,args:=#[X,Y],argTypes:=#[ty,ty] }/\kab t.T ty=some d/\d.kind = .slice q.e/\kab t.T q.e=some de/\de.size=q.size/\Nat.ble 1 de.size=true/\de.zero.length=de.size/\de.bytes=q.bytes /\
   st.eval X = .row q.id xs.length/\kaa st.heap q.id=some (.frow q.e de.size (xs.map E.f))/\(st.eval Y = .fz (.lst de.size m (ys.map E.f))\/st.eval Y = .lim de.size m (ys.map E.f)):=by
 unfold apOf at a;split at a
 ·rename_i c l;split at a
  ·rename_i X Y ty u h1 p r;cases g:Nat.beq u ty with
   | false=>rw [g] at a;cases a
   | true=>
    rw [g] at a;obtain rfl:=qh g;simp only [qd] at a;split at a
    ·rename_i d w;split at a
     ·rename_i e id n hk x;split at a
      ·rename_i de e' s xs' i j;split at a
       ·rename_i ys' y;cases b:(Nat.beq e' e && (Nat.beq s de.size && (Nat.ble 1 de.size && Nat.beq de.zero.length de.size))) with
        | false=>rw [b] at a;cases a
        | true=>
         rw [b] at a;obtain rfl:=qab a;simp only [qp] at b;obtain ⟨b1,b2,b3,b4⟩:=b;obtain rfl:=qh b1;obtain rfl:=qh b2;simp only at hn k hy;subst hn k hy;obtain ⟨m,hm⟩:=k0r y;obtain ⟨cc,as_,ts⟩:=c;simp only at h1 p r;rw [h1,kla p,kla r] at l;exact ⟨X,Y,_,d,de,m,l,w,hk,i,rfl,b3,qh b4,rfl,x,j,hm⟩
       ·cases a
      ·cases a
     ·cases a
    ·cases a
  ·cases a
 ·cases a
def apK (q:Option ApR):Option (Nat×Nat×List FV×List FV):=match q with
 | some q=>some (q.bytes,q.n,q.xs,q.ys)
 | none=>none
def apG {α:Type} (T:List (TypeId×TD)) (E:En α) (v:List α) (g:Cfg):Cfg:=match kqc (apOf T) g with
 | some q=>rsmA (.row q.id v.length) ((q.id, .frow q.e q.size (v.map E.f))::(stOf g).heap) (stOf g).ids g
 | none=>⟨.bad,g.ks,g.st⟩
theorem ap {α:Type} {bytes:Nat} {xs ys:List α} {K:List α->Option β} (E:En α) (k:Nat) (h:Option.bind (app bytes xs ys) K=some r) (a:∀ v,K v=some r->W P (apG t.T E v (crun P k g)) Q) (hc:apK (kqc (apOf t.T) (crun P k g))=some (bytes,xs.length,xs.map E.f,ys.map E.f):=by kernel_rfl):W P g Q:=by
 obtain ⟨v,h1,c⟩:=qx.1 h;have a:=a v c;unfold apK at hc;split at hc;rename_i q b;simp only [qc,qm] at hc;obtain ⟨rfl,e1,e2,e3⟩:=hc;unfold apG at a;rw [b] at a;obtain ⟨hk,e⟩:=ktr b;refine sst k ?_ hk a;obtain ⟨X,Y,ty,d,de,m,k1,k2,k3,k4,k5,k6,k7,k8,k9,k10,k11⟩:=k39 e h1 e1 e2 e3;rw [<- k5];exact k1a (enc:=E.f) h1 t.ok k1 k2 k3 k4 k6 k7 k8 k9 k10 rfl k11
 ·cases hc
theorem clL {α:Type} {E:Option α} {K:α->Option β} {f:FuncId} {ys:List FV} {y:α->FV} (k:Nat) (ls:List LendI) (h:Option.bind E K=some r) (hp:∀ v,E=some v->PCall P f ys (y v)) (hl:∀ l∈ls,l.ok (ks0 (crun P k g)))
  (hc:kmh (fun o st=>clOf t.T o (k3u ls st)) (crun P k g)=some (f,ys)) (ha:∀ v,k3b (y v)=true) (a:∀ v,K v=some r->W P (rsm (.fz (y v)) (crun P k g)) Q):W P g Q:=by
 obtain ⟨v,h1,d⟩:=qx.1 h;refine kc5 (k:=k) ?_;have a:=a v d;generalize crun P k g=g' at *
 unfold kmh at hc;split at hc
 ·rename_i p hv;obtain ⟨o,st⟩:=p;obtain ⟨e1,e2⟩:=ktm hv;rw [e2] at hl;refine kt0 hv (k65 ls hl ?_ (ha v)) a;unfold clOf at hc;simp only at hc;split at hc
  ·rename_i c e;split at hc
   ·rename_i f' b;split at hc;rename_i ys' hy;simp only [qc,qm] at hc;obtain ⟨rfl,rfl⟩:=hc;obtain ⟨cc,as_,ts⟩:=c;simp only at b;subst b;exact kz8 e hy (hp v h1)
    ·cases hc
   ·cases hc
  ·cases hc
 ·cases hc
end
section
variable {P:Program} {F S0:Nat->Prop} {N0:Nat} {w w':World} {S S':Nat->Prop} {ψ:Env} {K:Nat->Prop} {T:List (TypeId×TD)} {o:Oper} {a:Act} {st:St} {t:TypeId} {d:TD} {id:Nat}
theorem kl9 {v:Value} {e:TypeId} {size n:Nat} {cs:List Value} (h:w.ownsRow 0 e size v n cs) (hn:0<n):∃ g cap,v = .slice (some ⟨g,0,none⟩) n cap:=by
 rcases h.2 with ⟨_,h0⟩ | ⟨g,cap,cur,hv,_⟩;omega
 ·exact ⟨g,cap,hv⟩
theorem kqg {α:Type} (E:En α) {xs:List α} {x:α} {i:Int} {X Y:Operand} {e:TypeId} {de:TD} {k:IntKind} {n:Nat} (h:idx xs i=some x) (s:TOk P T) (y:o.op = .indexAddr t X Y) (q:kab T t=some d) (hk:d.kind = .slice e) (l:kab T e=some de) (z:de.size=E.n)
  (A:st.eval X = .row id n) (r:kaa st.heap id=some (.frow e E.n (xs.map E.f))) (hn:n=xs.length) (hy:st.eval Y = .fz (.atom (.int k i)):=by kernel_rfl):NStep P o st (.ref id n (i.toNat*E.n+0)):=by
 intro ψ S a w ht B;subst hn;have q:=s.get q;have l:=s.get l;obtain ⟨h0,hi⟩:=kmt h;have C:i.toNat<xs.length:=(qg.1 hi).1;have m:=Sim.eval_tmps ht X;rw [A] at m;have b:=Sim.eval_tmps ht Y;rw [hy] at b;have b:=b.atom;obtain ⟨hl,_,cs,c,_,_⟩:=B id _ r;rw [qat] at hl c;obtain ⟨g,cap,j⟩:=kl9 c (by omega);have hK:id∈st.ids/\a.eval X=ψ.val id:=by
  generalize a.eval X=u at m;cases m with
  | row hK D h1 hv=>exact ⟨hK,hv hl.symm⟩
 refine kae (w':=w) (v := .pointer (some ⟨g,i.toNat*E.n+0,none⟩)) ?_ ⟨kag _, .ref hK.1 (by omega) rfl fun _=>⟨g,by rw [j];rfl,rfl⟩⟩;have p:i<(xs.length:Int):=by omega
 simp [execOp,y,hK.2,j,b,Instr.indexAt,asIntOf,run_underlying (q.slice hk),h0,p,l.size,z,kb2]
theorem kwh {s:TypeId} {x:Operand} {f:Nat} {fs:List (TypeId×Nat)} {ft:TypeId} {off n p q:Nat} {e:TypeId} {size:Nat} {xs:List FV} {df:TD} (y:TOk P T) (B:o.op = .fieldAddr s x f) (k:kab T s=some d) (hk:d.kind = .st fs) (z:fs[f]?=some (ft,off)) (c:kab T ft=some df) (A:Nat.beq df.size 0=false)
  (C:st.eval x = .ref id n (p+q)) (l:kaa st.heap id=some (.frow e size xs)) (hn:n=xs.length):NStep P o st (.ref id n (p+(q+off))):=by
 intro ψ S a w ht D;have k:=y.get k;have c:=y.get c;have i:=Sim.eval_tmps ht x;rw [C] at i;obtain ⟨hl,_⟩:=D id _ l;obtain ⟨gs,E,m⟩:=k.strct hk;have j:∃ g:Field,gs[f]?=some g/\g.type=ft/\g.offset=off:=by rw [<- m,qv,qr] at z;obtain ⟨g,j,r⟩:=z;simp only [qm] at r;exact ⟨g,by simpa using j,r.1,r.2⟩
 obtain ⟨g,j,rfl,rfl⟩:=j;have t:df.size≠0:=fun h=>by rw [h] at A;cases A
 obtain ⟨b,hv,hr⟩:∃ b,a.eval x = .pointer (some ⟨b,p+q,none⟩)/\RV ψ (·∈st.ids) S w (.pointer (some ⟨b,p+q+g.offset,none⟩)) (.ref id n (p+(q+g.offset))):=by
  generalize a.eval x=u at i;cases i with
  | ref hK v h1 hv=>
   obtain ⟨b,F,rfl⟩:=hv (by rw [hl,hn]);exact ⟨b,rfl, .ref hK v rfl fun _=>⟨b,F,by rw [Nat.add_assoc]⟩⟩
 refine kae (w':=w) ?_ ⟨kag _,hr.here⟩;simp [execOp,B,hv,Instr.fieldAt,E,j,Instr.sureAddr,fieldPlace,c.size,t,kb2]
theorem kxp {α:Type} (E:En α) {xs:List α} {x:α} {i:Int} {X:Operand} {n q:Nat} {e:TypeId} {y:FV} (h:idx xs i=some x) (D:TOk P T) (F:o.op = .load t X) (r:kab T t=some d) (hk:d.kind.agg=false) (G:st.eval X = .ref id n (i.toNat*E.n+q)) (s:kaa st.heap id=some (.frow e E.n (xs.map E.f))) (hn:n=xs.length) (C:Nat.blt q E.n=true:=by kernel_rfl) (hy:(E.cl x)[q]?=some y:=by kernel_rfl):NStep P o st (.fz y):=by
 intro ψ S a w ht H;subst hn;have r:=D.get r;obtain ⟨h0,hi⟩:=kmt h;have C:q<E.n:=by simpa [qbf] using C
 have z:i.toNat<xs.length:=(qg.1 hi).1;have l:=Sim.eval_tmps ht X;rw [G] at l;obtain ⟨hl,_,cs,c,_,hr⟩:=H id _ s;rw [qat] at hl c;obtain ⟨g,cap,j⟩:=kl9 c (by omega);have hp:a.eval X = .pointer (some ⟨g,i.toNat*E.n+q,none⟩):=by
  generalize a.eval X=u at l;cases l with
  | ref hK I h1 hv=>
   obtain ⟨b,A,rfl⟩:=hv hl.symm;rw [j] at A;simp only [ka1,qc] at A;rw [A]
 have k:i.toNat*E.n+q<xs.length*E.n:=by have:(i.toNat+1)*E.n<=xs.length*E.n:=qay _ z;rw [qa0,Nat.one_mul] at this;omega
 have B:i.toNat*E.n+q<cs.length:=by rw [c.1];exact k
 have p:cs[i.toNat*E.n+q]?=some cs[i.toNat*E.n+q]:=qa B;have m:w.cell? ⟨g,i.toNat*E.n+q,none⟩=some cs[i.toNat*E.n+q]:=by rw [j] at c;rw [World.ownsRow.cellAt c _ k,p]
 refine kae (w':=w) (v:=cs[i.toNat*E.n+q]) ?_ ⟨kag _, .fz ((hr i.toNat (E.f x) q _ y (by rw [qv,hi];rfl) p (by rw [E.hcl];exact hy)).mono fun _ h => .inl h)⟩;simp [execOp,F,hp,Instr.loadAt,Instr.sureAddr,loadVar,r.isAgg,hk,m]
end
section
variable {P:Program} {F S0:Nat->Prop} {N0:Nat} {w w':World} {S S':Nat->Prop} {ψ:Env} {K:Nat->Prop} {T:List (TypeId×TD)} {o:Oper} {a:Act} {st:St} {t:TypeId} {d:TD} {id:Nat}
theorem kw2 {α:Type} (E:En α) {xs:List α} {x:α} {i:Int} {X:Operand} {n q:Nat} {e:TypeId} {ys:List FV} (h:idx xs i=some x) (L:TOk P T) (M:o.op = .load t X) (C:kab T t=some d) (hk:d.kind.agg=true) (N:st.eval X = .ref id n (i.toNat*E.n+q)) (F:kaa st.heap id=some (.frow e E.n (xs.map E.f))) (hn:n=xs.length) (J:Nat.ble (q+d.size) E.n=true:=by kernel_rfl) (hy:((E.cl x).drop q).take d.size=ys:=by kernel_rfl):NStep P o st (.fz (.agg ys)):=by
 intro ψ S a w ht O;subst hn hy;have C:=L.get C;obtain ⟨h0,hi⟩:=kmt h;have J:q+d.size<=E.n:=qn J;have G:i.toNat<xs.length:=(qg.1 hi).1;have z:=Sim.eval_tmps ht X;rw [N] at z;obtain ⟨hl,_,cs,k,A,hr⟩:=O id _ F;rw [qat] at hl k;obtain ⟨g,cap,r⟩:=kl9 k (by omega);have hp:a.eval X = .pointer (some ⟨g,i.toNat*E.n+q,none⟩):=by
  generalize a.eval X=u at z;cases z with
  | ref hK Q h1 hv=>
   obtain ⟨b,H,rfl⟩:=hv hl.symm;rw [r] at H;simp only [ka1,qc] at H;rw [H]
 have K:cs.length=xs.length*E.n:=k.1;have R:i.toNat*E.n+E.n<=xs.length*E.n:=by have:(i.toNat+1)*E.n<=xs.length*E.n:=qay _ G;rw [qa0,Nat.one_mul] at this;exact this
 have hcl:(E.cl x).length=E.n:=by have:=(A (E.f x) (qau.2 ⟨x,qt hi,rfl⟩)).1;rw [E.hcl] at this;exact this
 have I:∀ y∈E.cl x,y.single=true:=by have:=(A (E.f x) (qau.2 ⟨x,qt hi,rfl⟩)).2;rw [E.hcl] at this;exact this
 let cs':=(cs.drop (i.toNat*E.n+q)).take d.size
 have c:cs'.length=d.size:=by show ((cs.drop (i.toNat*E.n+q)).take d.size).length=_;rw [qam,qa7];omega
 have s:∀ (j:Nat) (v:Value),cs'[j]?=some v->j<d.size/\cs[i.toNat*E.n+q+j]?=some v:=fun j v D=>by
  have l:j<d.size:=by rw [<- c];exact (qg.1 D).1
  refine ⟨l,?_⟩;have B:((cs.drop (i.toNat*E.n+q)).take d.size)[j]?=some v:=D;rw [qw,qq l,qad] at B;exact B
 have m:=k;rw [r] at m;have p:=run_loadCells_list (P:=P) w ⟨g,i.toNat*E.n+q,none⟩ cs' fun j v D=>by obtain ⟨l,hc⟩:=s j v D;rw [kb2,World.ownsRow.cellAt m _ (show i.toNat*E.n+q+j<xs.length*E.n by omega),hc]
 rw [c] at p;refine kae (w':=w) (v := .agg cs'.toArray) ?_ ⟨kag _, .fz (.agg ?_ ?_ fun j v y hv hy=>?_)⟩;simp [execOp,M,hp,Instr.loadAt,Instr.sureAddr,loadVar,C.isAgg,hk,C.size,p];rw [List.size_toArray,c,qam,qa7];omega;exact fun y hy=>I y (qaz (qa4 hy))
 ·rw [List.getElem?_toArray] at hv;obtain ⟨l,hc⟩:=s j v hv;rw [qw,qq l,qad] at hy;rw [Nat.add_assoc] at hc;exact (hr i.toNat (E.f x) (q+j) v y (by rw [qv,hi];rfl) hc (by rw [E.hcl];exact hy)).mono fun _ h => .inl h
end
section
variable {P:Program} [t:Tab P] {g:Cfg} {Q:Exit->St->Prop} {β:Type} {r:β}
end
end Go.Proofs.YtpnnpkmjohkgiaaGreatDoor
