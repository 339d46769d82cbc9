import Derived.Test.YtchjomeomabamaaGreatDoorDrz
import Derived.Test.YtchjomeomabamaaGreatDoorMach
import Derived.Lib.ItoaNum
import Derived.Sort.Grow
import Derived.Deep.Draws
import Derived.Lib.ConvBytes
import Derived.Lib.AtoiErrMem
import Derived.Test.YtchjomeomabamaaGreatDoorDrawE
import Derived.Lib.OwnBridge
import Derived.Sort.OwnSortedInts
import Derived.Test.YtchjomeomabamaaGreatDoorXd
import Derived.Test.YtchjomeomabamaaGreatDoorXj
import Derived.Test.YtchjomeomabamaaGreatDoorProg
import Derived.Test.YtchjomeomabamaaGreatDoorRows
import Derived.Lib.LaidTab
import Derived.LaidLaws
import Derived.LaidHandle
import Derived.OpenShut
import Derived.ChangeSame
set_option linter.all false
namespace Go.Proofs.YtchjomeomabamaaGreatDoor
open Go Go.RowKit Go.Proofs.Tryz
structure En (α:Type) where
 f:α->FV
 n:Nat
 cl:α->List FV
 hcl:∀ x,(f x).cells=cl x
 hn:∀ x,(f x).cells.length=n
def nB:En Bool:=⟨eB,1,fun x=>[eB x],fun _=>rfl,fun _=>rfl⟩
def nI:En Int:=⟨eI,1,fun x=>[eI x],fun _=>rfl,fun _=>rfl⟩
def nS:En BA:=⟨eS,1,fun x=>[eS x],fun _=>rfl,fun _=>rfl⟩
def nL {α:Type} (s:Nat) (E:En α):En (List α):=⟨eL s E.f,1,fun x=>[eL s E.f x],fun _=>rfl,fun _=>rfl⟩
def nVaR:En Va:=⟨eVaR,4,fun x=>(eVa x).cells,k6c,k9q⟩
def nTmR:En Tm:=⟨eTmR,2,fun x=>(eTm x).cells,k5e,k96⟩
def nSy:En Sy:=⟨eSy,2,fun x=>(eSy x).cells,fun _=>rfl,fun _=>rfl⟩
def nRu:En Ru:=⟨eRu,9,fun x=>(eRu x).cells,fun _=>rfl,fun _=>rfl⟩
def ksj {γ:Type} (f:Oper->St->Option γ) (g:Cfg):Option γ:=match kp5 g with
 | some p=>f p.1 p.2
 | none=>none
section
variable {P:Program} [t:Tab P] {Q:Exit->St->Prop} {g:Cfg} {β:Type} {r:β}
theorem vst {γ:Type} {f:Oper->St->Option γ} {z:γ} {c:AV} (k:Nat) (hc:ksj f (crun P k g)=some z) (hn:∀ o v,f o v=some z->NStep P o v c) (h:W P (rsm c (crun P k g)) Q):W P g Q:=by
 refine kd4 k ?_;unfold ksj at hc;split at hc;rename_i p hp;exact k18 hp (hn _ _ hc) h
 ·cases hc
def ixOf (T:List (TypeId×TD)) (o:Oper) (st:St):Option (Nat×List FV×Int):=match o.op with
 | .indexAddr t x y=>match kad T t with
  | some d=>match d.kind,kpy (st.eval x),st.eval y with
   | .slice e,some xs, .fz (.atom (.int _ i))=>match kad T e with
    | some de=>some (de.size,xs,i)
    | none=>none
   | _,_,_=>none
  | none=>none
 | _=>none
theorem ix {α:Type} {ys:List α} {i:Int} {K:α->Option β} (E:En α) (k:Nat) (h:Option.bind (idx ys i) K=some r) (c:∀ v,K v=some r->W P (rsm (.fz (.fp (E.cl v))) (crun P k g)) Q) (hc:ksj (ixOf t.T) (crun P k g)=some (E.n,ys.map E.f,i):=by kernel_rfl):W P g Q:=by
 obtain ⟨v,h1,j⟩:=qm.1 h;refine vst k hc (fun o st a=>?_) (c v j);unfold ixOf at a;split at a
 ·rename_i tt x y ho;split at a
  ·rename_i d l;split at a
   ·rename_i e xs k' i' hk m hy;split at a;rename_i de b;simp only [qc,qq] at a;obtain ⟨z1,z2,z3⟩:=a;subst z2 z3;exact kaci E.f h1 t.ok ho l hk b m (fun x=>by rw [E.hn,z1]) hy (E.hcl v)
    ·cases a
   ·cases a
  ·cases a
 ·cases a
def byOf (T:List (TypeId×TD)) (o:Oper) (st:St):Option (BA×Int):=match o.op with
 | .index t x y=>match kad T t with
  | some d=>match d.kind,st.eval x,st.eval y with
   | .str, .fz (.atom (.string s)), .fz (.atom (.int _ i))=>some (s,i)
   | _,_,_=>none
  | none=>none
 | _=>none
theorem byx {s:BA} {i:Int} {K:Int->Option β} (k:Nat) (h:Option.bind (byt s i) K=some r) (b:∀ v,K v=some r->W P (rsm (.fz (eU8 v)) (crun P k g)) Q) (hc:ksj (byOf t.T) (crun P k g)=some (s,i):=by kernel_rfl):W P g Q:=by
 obtain ⟨v,h1,c⟩:=qm.1 h;refine vst k hc (fun o st a=>?_) (b v c);unfold byOf at a;split at a
 ·rename_i tt x y ho;split at a
  ·rename_i d e;split at a;rename_i s' k' i' hk f hy;simp only [qc,qq] at a;obtain ⟨rfl,rfl⟩:=a;exact kagn h1 t.ok ho e hk f hy
   ·cases a
  ·cases a
 ·cases a
def tyCs (T:List (TypeId×TD)):Nat->TypeId->List C0
 | 0,_=>[]
 | n+1,t=>match kad T t with
  | some d=>match d.kind with
   | .slice e=>match kad T e with
    | some de=>[.sl de.size]
    | none=>[.keep]
   | .st fs=>fs.flatMap fun p=>tyCs T n p.1
   | .arr m e=>(List.replicate m e).flatMap fun e=>tyCs T n e
   | _=>[.keep]
  | none=>[.keep]
def tyC (T:List (TypeId×TD)) (t:TypeId):C1:=match kad T t with
 | some d=>match d.kind with
  | .slice e=>match kad T e with
   | some de => .one (.sl de.size)
   | none => .one .keep
  | .st _ => .ag (tyCs T 9 t)
  | .arr _ _ => .ag (tyCs T 9 t)
  | _ => .one .keep
 | none => .one .keep
def clOf (T:List (TypeId×TD)) (o:Oper) (st:St):Option (FuncId×List FV):=match o.op with
 | .call c=>match c.callee with
  | .value (.func f)=>match kro st (c.argTypes.toList.map (tyC T)) c.args.toList with
   | some ys=>some (f,ys)
   | none=>none
  | _=>none
 | _=>none
theorem cl {α:Type} {E:Option α} {K:α->Option β} {f:FuncId} {ys:List FV} {y:α->FV} (k:Nat) (h:Option.bind E K=some r) (hp:∀ v,E=some v->PCall P f ys (y v)) (b:∀ v,K v=some r->W P (rsm (.fz (y v)) (crun P k g)) Q) (hc:ksj (clOf t.T) (crun P k g)=some (f,ys):=by kernel_rfl):W P g Q:=by
 obtain ⟨v,h1,d⟩:=qm.1 h;refine vst k hc (fun o st a=>?_) (b v d);unfold clOf at a;split at a
 ·rename_i c ho;split at a
  ·rename_i f' hf;split at a;rename_i ys' hy;simp only [qc,qq] at a;obtain ⟨rfl,rfl⟩:=a;obtain ⟨cc,as_,ts⟩:=c;simp only at hf;subst hf;exact k8t ho hy (hp v h1)
   ·cases a
  ·cases a
 ·cases a
def hcOf (cs:List C1) (r1 r2:List (Nat×Nat)) (keys ids0 ids1:List Nat) (post:List (Nat×AObj)) (o:Oper) (st:St):Option (FuncId×List AV×List (Nat×AObj)):=match o.op with
 | .call c=>match c.callee with
  | .value x=>match fnOf c.args.size (st.eval x) with
   | some (f,cap)=>match ks9 st r1 (renI r2 ids0) cs c.args.toList,ks8 r1 (renI r2 ids0) cap,preX st r1 r2 (renI r2 ids0) keys with
    | some as1,some as2,some pre=>bif kr6 st r1 r2 keys ids0 ids1 post then some (f,as1++as2,pre) else none
    | _,_,_=>none
   | _=>none
  | _=>none
 | _=>none
theorem hcl {α:Type} {E:Option α} {K:α->Option β} {f:FuncId} {as_:List AV} {pre:List (Nat×AObj)} {ids0 ids1:List Nat} {res:α->AV} {post:α->List (Nat×AObj)} (k:Nat) (cs:List C1) (r1 r2:List (Nat×Nat)) (keys:List Nat) (h:Option.bind E K=some r)
  (hp:∀ v,E=some v->kcx P f as_ pre ids0 (.ret (res v)) (post v) ids1) (hc:∀ v,kxl (hcOf cs r1 r2 keys ids0 ids1 (post v)) (crun P k g)=some (f,as_,pre))
  (i:∀ v,K v=some r->W P (rsmA (renA r2 (res v)) (renH r2 (post v)++kqs (renI r2 ids0) (stOf (crun P k g)).heap) (renI r2 ids1++(stOf (crun P k g)).ids) (crun P k g)) Q):W P g Q:=by
 obtain ⟨v,h1,j⟩:=qm.1 h;obtain ⟨hk,a⟩:=k1v (hc v);refine sst k ?_ (i v j) (hv:=hk);unfold hcOf at a;split at a
 ·rename_i c ho;split at a
  ·rename_i x e;split at a
   ·rename_i f' cap b;split at a
    ·rename_i as1 as2 pre' e1 e2 e3;cases d:kr6 (stOf (crun P k g)) r1 r2 keys ids0 ids1 (post v) with
     | false=>rw [d] at a;cases a
     | true=>
      rw [d] at a;simp only [qe,qc,qq] at a;obtain ⟨rfl,rfl,rfl⟩:=a;obtain ⟨cc,as_,ts⟩:=c;simp only at e;subst e;exact kafz r1 r2 ho b (hp v h1) e1 e2 d e3
    ·cases a
   ·cases a
  ·cases a
 ·cases a
structure ApR where
 id:Nat
 e:TypeId
 size:Nat
 bytes:Nat
 n:Nat
 xs:List FV
 ys:List FV
def k5w (size:Nat):AV->Option (List FV)
 | .fz (.lst s _ ys)=>bif Nat.beq s size then some ys else none
 | .lim s _ ys=>bif Nat.beq s size then some ys else none
 | _=>none
theorem k9e {size:Nat} {x:AV} {ys:List FV} (h:k5w size x=some ys):∃ m,x = .fz (.lst size m ys)\/x = .lim size m ys:=by
 unfold k5w at h;split at h
 ·rename_i s m zs;cases a:Nat.beq s size with
  | false=>rw [a] at h;cases h
  | true=>
   rw [a] at h;obtain rfl:=qk a;obtain rfl:=qaj h;exact ⟨m, .inl rfl⟩
 ·rename_i s m zs;cases a:Nat.beq s size with
  | false=>rw [a] at h;cases h
  | true=>
   rw [a] at h;obtain rfl:=qk a;obtain rfl:=qaj h;exact ⟨m, .inr rfl⟩
 ·cases h
def apOf (T:List (TypeId×TD)) (o:Oper) (st:St):Option ApR:=match o.op with
 | .call c=>match c.callee,c.args.toList,c.argTypes.toList with
  | .builtin .append,[X,Y],[t,u]=>bif Nat.beq u t then (match kad T t with
   | some d=>match d.kind,st.eval X with
    | .slice e, .row id n=>match kad T e,kaa st.heap id with
     | some de,some (.frow e' s xs)=>match k5w de.size (st.eval Y) with
      | some ys=>bif Nat.beq e' e && (Nat.beq s de.size && (Nat.ble 1 de.size && Nat.beq de.zero.length de.size)) then some ⟨id,e,de.size,de.bytes,n,xs,ys⟩ else none
      | none=>none
     | _,_=>none
    | _,_=>none
   | none=>none) else none
  | _,_,_=>none
 | _=>none
theorem k36 {α:Type} {E:En α} {xs ys v:List α} {o:Oper} {st:St} {q:ApR} (a:apOf t.T o st=some q) (h:app q.bytes xs ys=some v) (hn:q.n=xs.length) (j:q.xs=xs.map E.f) (hy:q.ys=ys.map E.f):
  ∃ (X Y:Operand) (ty:TypeId) (d de:TD) (m:Nat),o.op = .call { callee := .builtin .append,args:=#[X,Y],argTypes:=#[ty,ty] }/\kad t.T ty=some d/\d.kind = .slice q.e/\kad t.T q.e=some de/\de.size=q.size/\Nat.ble 1 de.size=true/\de.zero.length=de.size/\de.bytes=q.bytes /\
   st.eval X = .row q.id xs.length/\kaa st.heap q.id=some (.frow q.e de.size (xs.map E.f))/\(st.eval Y = .fz (.lst de.size m (ys.map E.f))\/st.eval Y = .lim de.size m (ys.map E.f)):=by
 unfold apOf at a;split at a
 ·rename_i c ho;split at a
  ·rename_i X Y ty u h1 k l;cases hu:Nat.beq u ty with
   | false=>rw [hu] at a;cases a
   | true=>
    rw [hu] at a;obtain rfl:=qk hu;simp only [qe] at a;split at a
    ·rename_i d p;split at a
     ·rename_i e id n hk r;split at a
      ·rename_i de e' s xs' g i;split at a
       ·rename_i ys' w;cases b:(Nat.beq e' e && (Nat.beq s de.size && (Nat.ble 1 de.size && Nat.beq de.zero.length de.size))) with
        | false=>rw [b] at a;cases a
        | true=>
         rw [b] at a;obtain rfl:=qaj a;simp only [qv] at b;obtain ⟨b1,b2,b3,b4⟩:=b;obtain rfl:=qk b1;obtain rfl:=qk b2;simp only at hn j hy;subst hn j hy;obtain ⟨m,hm⟩:=k9e w;obtain ⟨cc,as_,ts⟩:=c;simp only at h1 k l;rw [h1,kq4 k,kq4 l] at ho;exact ⟨X,Y,_,d,de,m,ho,p,hk,g,rfl,b3,qk b4,rfl,r,i,hm⟩
       ·cases a
      ·cases a
     ·cases a
    ·cases a
  ·cases a
 ·cases a
def apK (q:Option ApR):Option (Nat×Nat×List FV×List FV):=match q with
 | some q=>some (q.bytes,q.n,q.xs,q.ys)
 | none=>none
def apG {α:Type} (T:List (TypeId×TD)) (E:En α) (v:List α) (g:Cfg):Cfg:=match kxl (apOf T) g with
 | some q=>rsmA (.row q.id v.length) ((q.id, .frow q.e q.size (v.map E.f))::(stOf g).heap) (stOf g).ids g
 | none=>⟨.bad,g.ks,g.st⟩
theorem ap {α:Type} {bytes:Nat} {xs ys:List α} {K:List α->Option β} (E:En α) (k:Nat) (h:Option.bind (app bytes xs ys) K=some r) (a:∀ v,K v=some r->W P (apG t.T E v (crun P k g)) Q) (hc:apK (kxl (apOf t.T) (crun P k g))=some (bytes,xs.length,xs.map E.f,ys.map E.f):=by kernel_rfl):W P g Q:=by
 obtain ⟨v,h1,c⟩:=qm.1 h;have a:=a v c;unfold apK at hc;split at hc;rename_i q b;simp only [qc,qq] at hc;obtain ⟨rfl,e1,e2,e3⟩:=hc;unfold apG at a;rw [b] at a;obtain ⟨hk,e⟩:=k1v b;refine sst k ?_ a (hv:=hk);obtain ⟨X,Y,ty,d,de,m,k1,k2,k3,k4,k5,k6,k7,k8,k9,k10,k11⟩:=k36 e h1 e1 e2 e3;rw [<- k5];exact k1j E.f h1 t.ok k1 k2 k3 k4 k6 k7 k8 k9 k10 rfl k11
 ·cases hc
def kuc {γ:Type} (f:Oper->St->Option γ) (g:Cfg):Option γ:=bif okZ g then f (knp g) (krn g) else none
theorem k7p {γ:Type} {f:Oper->St->Option γ} {z:γ} {g:Cfg} (h:kuc f g=some z):okZ g=true/\f (knp g) (krn g)=some z:=by
 unfold kuc at h;cases hk:okZ g with
 | false=>rw [hk] at h;cases h
 | true=>rw [hk] at h;exact ⟨rfl,h⟩
def apZh {α:Type} (T:List (TypeId×TD)) (E:En α) (v:List α) (g:Cfg):List (Nat×AObj):=match kuc (apOf T) g with
 | some q=>(q.id, .frow q.e q.size (v.map E.f))::(krn g).heap
 | none=>[]
def apGZ {α:Type} (T:List (TypeId×TD)) (E:En α) (v:List α) (g:Cfg):Cfg:=match kuc (apOf T) g with
 | some q=>rsmZ (.row q.id v.length) (apZh T E v g) (krn g).ids g
 | none=>⟨.bad,g.ks,g.st⟩
theorem apZ {α:Type} {bytes:Nat} {xs ys:List α} {K:List α->Option β} (E:En α) (k:Nat) (h:Option.bind (app bytes xs ys) K=some r) (a:∀ v,K v=some r->W P (apGZ t.T E v (crun P k g)) Q) (hc:apK (kuc (apOf t.T) (crun P k g))=some (bytes,xs.length,xs.map E.f,ys.map E.f):=by kernel_rfl) (hi:idsZ (krn (crun P k g)).ids (crun P k g)=true:=by kernel_rfl) (hk:∀ v,offZ (crun P k g) (apZh t.T E v (crun P k g))=offZ (crun P k g) (hpZ (crun P k g)):=by intro _;kernel_rfl):W P g Q:=by
 obtain ⟨v,h1,e⟩:=qm.1 h;have a:=a v e;have hk:=hk v;unfold apK at hc;split at hc;rename_i q b;simp only [qc,qq] at hc;obtain ⟨rfl,e1,e2,e3⟩:=hc;unfold apGZ at a;rw [b] at a;obtain ⟨c,i⟩:=k7p b;refine zst k ?_ a (hv:=c) (hi:=hi) (hk:=hk);obtain ⟨X,Y,ty,d,de,m,k1,k2,k3,k4,k5,k6,k7,k8,k9,k10,k11⟩:=k36 i h1 e1 e2 e3;unfold apZh;rw [b];simp only;rw [<- k5];exact k1j E.f h1 t.ok k1 k2 k3 k4 k6 k7 k8 k9 k10 rfl k11
 ·cases hc
theorem clL {α:Type} {E:Option α} {K:α->Option β} {f:FuncId} {ys:List FV} {y:α->FV} (k:Nat) (ls:List LendI) (h:Option.bind E K=some r) (hp:∀ v,E=some v->PCall P f ys (y v)) (hl:∀ l∈ls,l.ok (k0v (crun P k g)))
  (hc:ksj (fun o st=>clOf t.T o (kab1 ls st)) (crun P k g)=some (f,ys)) (ha:∀ v,kabg (y v)=true) (a:∀ v,K v=some r->W P (rsm (.fz (y v)) (crun P k g)) Q):W P g Q:=by
 obtain ⟨v,h1,b⟩:=qm.1 h;refine kd4 k ?_;have a:=a v b;generalize crun P k g=g' at *
 unfold ksj at hc;split at hc
 ·rename_i p hv;obtain ⟨o,st⟩:=p;obtain ⟨e1,e2⟩:=k1p hv;rw [e2] at hl;refine k18 hv (kafe ls hl ?_ (ha v)) a;unfold clOf at hc;simp only at hc;split at hc
  ·rename_i c ho;split at hc
   ·rename_i f' hf;split at hc;rename_i ys' hy;simp only [qc,qq] at hc;obtain ⟨rfl,rfl⟩:=hc;obtain ⟨cc,as_,ts⟩:=c;simp only at hf;subst hf;exact k8t ho hy (hp v h1)
    ·cases hc
   ·cases hc
  ·cases hc
 ·cases hc
end
variable {P:Program} {F S0:Nat->Prop} {N0:Nat} {w w':World} {S S':Nat->Prop} {ψ:Env} {K:Nat->Prop} {T:List (TypeId×TD)} {o:Oper} {a:Act} {st:St} {t:TypeId} {d:TD} {id:Nat}
theorem kr9 {v:Value} {e:TypeId} {size n:Nat} {cs:List Value} (h:w.ownsRow 0 e size v n cs) (hn:0<n:=by omega):∃ g cap,v = .slice (some ⟨g,0,none⟩) n cap:=by
 rcases h.2 with ⟨_,h0⟩ | ⟨g,cap,cur,hv,_⟩;omega
 ·exact ⟨g,cap,hv⟩
theorem ksx (d:TD) (id:Nat) {α:Type} (E:En α) (xs:List α) {x:α} {i:Int} (X Y:Operand) (e:TypeId) (de:TD) (k:IntKind) (n:Nat) (h:idx xs i=some x) (s:TOk P T) (hn:n=xs.length) (hy:st.eval Y = .fz (.atom (.int k i)):=by kernel_rfl) (ho:o.op = .indexAddr t X Y:=by kernel_rfl) (q:kad T t=some d:=by kernel_rfl) (hk:d.kind = .slice e:=by kernel_rfl) (l:kad T e=some de:=by kernel_rfl) (y:de.size=E.n:=by kernel_rfl) (z:st.eval X = .row id n:=by kernel_rfl) (r:kaa st.heap id=some (.frow e E.n (xs.map E.f)):=by kernel_rfl):NStep P o st (.ref id n (i.toNat*E.n+0)):=by
 intro ψ S a w ht A;subst hn;have q:=s.get q;have l:=s.get l;obtain ⟨h0,hi⟩:=ksv h;have B:i.toNat<xs.length:=(qf.1 hi).1;have m:=Sim.eval_tmps ht X;rw [z] at m;have b:=Sim.eval_tmps ht Y;rw [hy] at b;have b:=b.atom;obtain ⟨hl,_,cs,c,_,_⟩:=A id _ r;rw [qaa] at hl c;obtain ⟨g,cap,j⟩:=kr9 c;have hK:id∈st.ids/\a.eval X=ψ.val id:=by
  generalize a.eval X=u at m;cases m with
  | row hK C h1 hv=>exact ⟨hK,hv hl.symm⟩
 refine kaf w (.pointer (some ⟨g,i.toNat*E.n+0,none⟩)) ?_ ⟨kag _, .ref hK.1 (by omega) rfl fun _=>⟨g,by rw [j];rfl,rfl⟩⟩;have p:i<(xs.length:Int):=by omega
 simp [execOp,ho,hK.2,j,b,Instr.indexAt,asIntOf,run_underlying (q.slice hk),h0,p,l.size,y,kcq]
theorem k5i (s:TypeId) (x:Operand) (f:Nat) (fs:List (TypeId×Nat)) (ft:TypeId) (off n p q:Nat) (e:TypeId) (size:Nat) (xs:List FV) (df:TD) (y:TOk P T) (ho:o.op = .fieldAddr s x f) (k:kad T s=some d) (hk:d.kind = .st fs) (hf:fs[f]?=some (ft,off)) (c:kad T ft=some df) (z:Nat.beq df.size 0=false) (A:st.eval x = .ref id n (p+q)) (l:kaa st.heap id=some (.frow e size xs)) (hn:n=xs.length):NStep P o st (.ref id n (p+(q+off))):=by
 intro ψ S a w ht B;have k:=y.get k;have c:=y.get c;have i:=Sim.eval_tmps ht x;rw [A] at i;obtain ⟨hl,_⟩:=B id _ l;obtain ⟨gs,hu,m⟩:=k.strct hk;have j:∃ g:Field,gs[f]?=some g/\g.type=ft/\g.offset=off:=by rw [<- m,qr,qu] at hf;obtain ⟨g,j,r⟩:=hf;simp only [qq] at r;exact ⟨g,by simpa using j,r.1,r.2⟩
 obtain ⟨g,j,rfl,rfl⟩:=j;have t:df.size≠0:=fun h=>by rw [h] at z;cases z
 obtain ⟨b,hv,hr⟩:∃ b,a.eval x = .pointer (some ⟨b,p+q,none⟩)/\RV ψ (·∈st.ids) S w (.pointer (some ⟨b,p+q+g.offset,none⟩)) (.ref id n (p+(q+g.offset))):=by
  generalize a.eval x=u at i;cases i with
  | ref hK v h1 hv=>
   obtain ⟨b,C,rfl⟩:=hv (by rw [hl,hn]);exact ⟨b,rfl, .ref hK v rfl fun _=>⟨b,C,by rw [Nat.add_assoc]⟩⟩
 refine kaf w _ ?_ ⟨kag _,hr.here⟩;simp [execOp,ho,hv,Instr.fieldAt,hu,j,Instr.sureAddr,fieldPlace,c.size,t,kcq]
theorem k57 {α:Type} (E:En α) (xs:List α) (x:α) (i:Int) (X:Operand) (n q:Nat) (e:TypeId) (y:FV) (h:idx xs i=some x) (D:TOk P T) (ho:o.op = .load t X) (r:kad T t=some d) (hk:d.kind.agg=false) (F:st.eval X = .ref id n (i.toNat*E.n+q)) (s:kaa st.heap id=some (.frow e E.n (xs.map E.f))) (hn:n=xs.length) (C:Nat.blt q E.n=true:=by kernel_rfl) (hy:(E.cl x)[q]?=some y:=by kernel_rfl):NStep P o st (.fz y):=by
 intro ψ S a w ht G;subst hn;have r:=D.get r;obtain ⟨h0,hi⟩:=ksv h;have C:q<E.n:=by simpa [Nat.blt_eq] using C
 have z:i.toNat<xs.length:=(qf.1 hi).1;have l:=Sim.eval_tmps ht X;rw [F] at l;obtain ⟨hl,_,cs,c,_,hr⟩:=G id _ s;rw [qaa] at hl c;obtain ⟨g,cap,j⟩:=kr9 c;have hp:a.eval X = .pointer (some ⟨g,i.toNat*E.n+q,none⟩):=by
  generalize a.eval X=u at l;cases l with
  | ref hK H h1 hv=>
   obtain ⟨b,A,rfl⟩:=hv hl.symm;rw [j] at A;simp only [ka3,qc] at A;rw [A]
 have k:i.toNat*E.n+q<xs.length*E.n:=by have:(i.toNat+1)*E.n<=xs.length*E.n:=qbk _ z;rw [qbg,Nat.one_mul] at this;omega
 have B:i.toNat*E.n+q<cs.length:=by rw [c.1];exact k
 have p:cs[i.toNat*E.n+q]?=some cs[i.toNat*E.n+q]:=qa B;have m:w.cell? ⟨g,i.toNat*E.n+q,none⟩=some cs[i.toNat*E.n+q]:=by rw [j] at c;rw [World.ownsRow.cellAt c _ k,p]
 refine kaf w (cs[i.toNat*E.n+q]) ?_ ⟨kag _, .fz ((hr i.toNat (E.f x) q _ y (by rw [qr,hi];rfl) p (by rw [E.hcl];exact hy)).mono fun _ h => .inl h)⟩;simp [execOp,ho,hp,Instr.loadAt,Instr.sureAddr,loadVar,r.isAgg,hk,m]
theorem kxc {α:Type} (E:En α) (xs:List α) (x:α) (i:Int) (X:Operand) (n q:Nat) (e:TypeId) (ys:List FV) (h:idx xs i=some x) (L:TOk P T) (hn:n=xs.length) (J:Nat.ble (q+d.size) E.n=true:=by kernel_rfl) (hy:((E.cl x).drop q).take d.size=ys:=by kernel_rfl) (ho:o.op = .load t X:=by kernel_rfl) (C:kad T t=some d:=by kernel_rfl) (hk:d.kind.agg=true:=by kernel_rfl) (M:st.eval X = .ref id n (i.toNat*E.n+q):=by kernel_rfl) (F:kaa st.heap id=some (.frow e E.n (xs.map E.f)):=by kernel_rfl):NStep P o st (.fz (.agg ys)):=by
 intro ψ S a w ht N;subst hn hy;have C:=L.get C;obtain ⟨h0,hi⟩:=ksv h;have J:q+d.size<=E.n:=qt J;have G:i.toNat<xs.length:=(qf.1 hi).1;have z:=Sim.eval_tmps ht X;rw [M] at z;obtain ⟨hl,_,cs,k,A,hr⟩:=N id _ F;rw [qaa] at hl k;obtain ⟨g,cap,r⟩:=kr9 k;have hp:a.eval X = .pointer (some ⟨g,i.toNat*E.n+q,none⟩):=by
  generalize a.eval X=u at z;cases z with
  | ref hK O h1 hv=>
   obtain ⟨b,H,rfl⟩:=hv hl.symm;rw [r] at H;simp only [ka3,qc] at H;rw [H]
 have K:cs.length=xs.length*E.n:=k.1;have Q:i.toNat*E.n+E.n<=xs.length*E.n:=by have:(i.toNat+1)*E.n<=xs.length*E.n:=qbk _ G;rw [qbg,Nat.one_mul] at this;exact this
 have hcl:(E.cl x).length=E.n:=by have:=(A (E.f x) (qad.2 ⟨x,qo hi,rfl⟩)).1;rw [E.hcl] at this;exact this
 have I:∀ y∈E.cl x,y.single=true:=by have:=(A (E.f x) (qad.2 ⟨x,qo hi,rfl⟩)).2;rw [E.hcl] at this;exact this
 let cs':=(cs.drop (i.toNat*E.n+q)).take d.size
 have c:cs'.length=d.size:=by show ((cs.drop (i.toNat*E.n+q)).take d.size).length=_;rw [qai,qa1];omega
 have s:∀ (j:Nat) (v:Value),cs'[j]?=some v->j<d.size/\cs[i.toNat*E.n+q+j]?=some v:=fun j v D=>by
  have l:j<d.size:=by rw [<- c];exact (qf.1 D).1
  refine ⟨l,?_⟩;have B:((cs.drop (i.toNat*E.n+q)).take d.size)[j]?=some v:=D;rw [qaf,qp l,qao] at B;exact B
 have m:=k;rw [r] at m;have p:=run_loadCells_list (P:=P) w ⟨g,i.toNat*E.n+q,none⟩ cs' fun j v D=>by obtain ⟨l,hc⟩:=s j v D;rw [kcq,World.ownsRow.cellAt m _ (show i.toNat*E.n+q+j<xs.length*E.n by omega),hc]
 rw [c] at p;refine kaf w (.agg cs'.toArray) ?_ ⟨kag _, .fz (.agg ?_ ?_ fun j v y hv hy=>?_)⟩;simp [execOp,ho,hp,Instr.loadAt,Instr.sureAddr,loadVar,C.isAgg,hk,C.size,p];rw [List.size_toArray,c,qai,qa1];omega;exact fun y hy=>I y (qbj (qa7 hy))
 ·rw [List.getElem?_toArray] at hv;obtain ⟨l,hc⟩:=s j v hv;rw [qaf,qp l,qao] at hy;rw [Nat.add_assoc] at hc;exact (hr i.toNat (E.f x) (q+j) v y (by rw [qr,hi];rfl) hc (by rw [E.hcl];exact hy)).mono fun _ h => .inl h
section
variable {P:Program} [t:Tab P] {g:Cfg} {Q:Exit->St->Prop} {β:Type} {r:β}
end
theorem kaes {g m:Nat} {gs:List (Nat×Array Value)} {vs:Array Value} (c:∀ id o,kaa st.heap id=some o->ObR ψ (·∈st.ids) S w id o) (a:kaa st.heap id=some (.glb gs)) (hm:gs[m]?=some (g,vs)) {nm:String} (f:P.globalNamed nm=some g) (h0:0<vs.size):w.var? P nm=some vs:=by obtain ⟨_,_,_,h⟩:=c id _ a;obtain ⟨hS,b⟩:=h (g,vs) (qo hm);obtain ⟨e,d,i⟩:=b.tab h0;simp only [World.var?,f,qb,i]
theorem ko8 {op:BinOp} {x y:Operand} {u v:Option Addr} {n m c d:Nat}:(eqGuard op t x y (.slice u n c) (.slice v m d)).run P w = .ok () w:=by unfold eqGuard;cases op <;> simp
theorem kz9 {u v:Option Addr} {n m c e:Nat} {r:Bool} (h:∀ d:Nat,(Op.equalIn (d+1) t (.slice u n c) (.slice v m e)).run P w = .ok r w):(binOp .eql t (.slice u n c) (.slice v m e)).run P w = .ok (.bool r) w/\(binOp .neq t (.slice u n c) (.slice v m e)).run P w = .ok (.bool !r) w:=by constructor <;> (simp only [binOp];simp [Op.equal,Op.maxDepth,h 9999])
def nonE {α:Type} (xs:List α):Option Unit:=bif List.isEmpty xs then none else some ()
theorem k9u {α:Type} (x y:Operand) (yt te:TypeId) (size:Nat) (enc:α->FV) (xs:List α) {u:Unit} (neg:Bool) (h:nonE xs=some u) (ho:o.op = .binOp (if neg then .neq else .eql) t x y yt:=by kernel_rfl) (ht:P.underlying t=some (.slice te):=by kernel_rfl) (i:st.eval x = .fz (eL size enc xs):=by kernel_rfl) (hy:st.eval y = .fz (.atom (.slice none 0 0)):=by kernel_rfl):
  NStep P o st (.fz (.atom (.bool neg))):=by
 intro ψ S a w f j;have h1:=Sim.eval_tmps f x;rw [i] at h1;have g:=Sim.eval_tmps f y;rw [hy] at g;have g:=g.atom;obtain ⟨z,zs,rfl⟩:∃ z zs,xs=z::zs:=by
  cases xs with
  | nil=>cases h
  | cons z zs=>exact ⟨z,zs,rfl⟩
 generalize hv:a.eval x=v at h1;have h1:RF S w v (.lst size (z::zs).length ((z::zs).map enc)):=by
  cases h1 with
  | fz h=>exact h
 cases h1 with
 | @lst A cap _ _ _ css hn hc hm hs ha hl hr=>
  obtain ⟨b,off,rfl,_,_⟩:=ha 0 (enc z) rfl;refine kaf w (.bool neg) ?_ ⟨kag _, .fz (.atom rfl)⟩;obtain ⟨q1,q2⟩:=kz9 (P:=P) (w:=w) (t:=t) (r:=false) (u:=some ⟨b,off,none⟩) (v:=none) (n:=(z::zs).length) (c:=cap) (m:=0) (e:=0) fun d=>by simp [Op.equalIn,run_underlying ht]
  cases neg;simp [execOp,ho,hv,g,ko8] at q1 ⊢;simp [q1]
  ·simp [execOp,ho,hv,g,ko8] at q2 ⊢;simp [q2]
theorem k6f {f:FuncId} (args:List FV) {vs:Array Value} {gs:List (Nat×Array Value)} {post:List (Nat×AObj)} {ids1:List Nat} (hp:kcx P f (args.map .fz++[]) [(1, .glb gs)] [1] (.ret (fB true)) post ids1) (hs:vs.size=args.length) (hr:∀ (i:Nat) (v:Value) (x:FV),vs[i]?=some v->args[i]?=some x->RF Any w v x) (l:∀ p,p∈gs->GlbR w p.1 p.2):
  Calls P f vs w fun e w'=>e = .returned (.bool true)/\Below w.heap.size w w':=by
 rw [qbw] at hp
 let SB:Nat->Prop:=fun b=>b<w.heap.size
 have n:∀ {v x},RF Any w v x->RF SB w v x:=fun h=>h.bound.mono fun b c=>c.2;refine (hp.2 SB SB w.heap.size ⟨fun _=>0,fun _ => .bool true⟩ SB w vs (by simpa using hs) (fun i v x hv m=>?_) ⟨fun id' o h=>?_,fun id1 id2 o o' b h d g=>?_,fun b h=>h,fun b h => .inl h,qx _,fun b h=>h⟩).mono ?_;simp only [qr,qu] at m;obtain ⟨y,hy,rfl⟩:=m;exact .fz (n (hr i v y hv hy))
 ·rw [kae] at h;split at h
  ·rename_i j;injection h with h;subst h j;refine ⟨qw.2 rfl,⟨rfl,rfl,rfl,fun p hp=>?_⟩,fun b c=>by
    rcases c with c | ⟨u,hu,_⟩;cases c
    ·cases hu⟩
   exact ⟨(l p hp).lt,l p hp⟩
  ·cases h
 ·rw [kae] at h d;split at h
  ·split at d;rename_i p q;exact absurd (p.symm.trans q) g
   ·cases d
  ·cases h
 ·rintro e w' ⟨ψ',S',⟨v,rfl,hv⟩,k,a,_,_,hS,_⟩;rw [hv.atom];exact ⟨rfl,⟨a.os,a.tape,a.output,a.size,fun b c=>a.block b c⟩⟩
theorem kadd {ops:Array Oper} {l:List Oper} (c c':AV) {Q:Exit->St->Prop} (h:∀ (ψ:Env) (S:Nat->Prop) (a:Act) (w:World),(∀ t,RV ψ (·∈st.ids) S w (a.tmps.getD t undef) (st.get t)) ->
   keg P o a w (fun v w'=>Grow w w'/\RV ψ (·∈st.ids) (fun b=>S b\/w.heap.size<=b) w' v c)\/keg P o a w (fun v w'=>Grow w w'/\RV ψ (·∈st.ids) (fun b=>S b\/w.heap.size<=b) w' v c')) (d:kb2 ops st o=some true) (i:∀ t,o.dst=some t->t<st.n) (hn:awpL P ops l (st.put o.dst c) Q) (g:awpL P ops l (st.put o.dst c') Q):awpL P ops (o::l) st Q:=fun F S0 N0 ψ S a w hs=>by
 unfold wpList;rw [kiy hs d];rcases h ψ S a w hs.tmps with hr | hr;refine .inl (kg1 ?_ hr);rintro v w' ⟨d,hv⟩;exact kcu (fun e a' w'' k=>k.pre (Fr.of_grow hs.core.fr d)) _ _ _ (hn F S0 N0 ψ _ _ w' (hs.put (st':=st) rfl rfl rfl (hs.core.grow d) hv.bound Ext.refl (fun _ h=>h) (fun b f=>⟨.inl f,qbm (hs.core.lt b f) d.size⟩) (Same.of_grow d) i))
 ·refine .inl (kg1 ?_ hr);rintro v w' ⟨d,hv⟩;exact kcu (fun e a' w'' k=>k.pre (Fr.of_grow hs.core.fr d)) _ _ _ (g F S0 N0 ψ _ _ w' (hs.put (st':=st) rfl rfl rfl (hs.core.grow d) hv.bound Ext.refl (fun _ h=>h) (fun b f=>⟨.inl f,qbm (hs.core.lt b f) d.size⟩) (Same.of_grow d) i))
theorem nslb {Q:Exit->St->Prop} [Tab P] {g:Cfg} (k:Nat) {α:Type} (x y:Operand) (yt te:TypeId) (size:Nat) (enc:α->FV) (xs:List α) (neg:Bool) (n:List.isEmpty xs=true) (h1:W P (rsmA (.fz (.atom (.bool true))) (stOf (crun P k g)).heap (stOf (crun P k g)).ids (crun P k g)) Q) (j:W P (rsmA (.fz (.atom (.bool false))) (stOf (crun P k g)).heap (stOf (crun P k g)).ids (crun P k g)) Q) (ho:(knp (crun P k g)).op = .binOp (if neg then .neq else .eql) t x y yt:=by kernel_rfl) (ht:P.underlying t=some (.slice te):=by kernel_rfl) (p:(stOf (crun P k g)).eval x = .fz (eL size enc xs):=by kernel_rfl) (hy:(stOf (crun P k g)).eval y = .fz (.atom (.slice none 0 0)):=by kernel_rfl) (hv:okP (crun P k g)=true:=by kernel_rfl):W P g Q:=by
 refine kd4 k ?_;generalize crun P k g=g' at *
 obtain ⟨foc,ks,st⟩:=g';unfold okP at hv;simp only at hv;split at hv
 ·rename_i os o l;split at hv
  ·rename_i q r;have k1:awpL P os l (st.put o.dst (.fz (.atom (.bool true)))) (kif P ks Q):=(by unfold W at h1;exact h1);have k2:awpL P os l (st.put o.dst (.fz (.atom (.bool false)))) (kif P ks Q):=(by unfold W at j;exact j);unfold W;refine kadd (.fz (.atom (.bool true))) (.fz (.atom (.bool false))) (fun ψ S a w e=>?_) q (kpr r) k1 k2;have q1:=Sim.eval_tmps e x;rw [show st.eval x=_ from p] at q1;have q2:=Sim.eval_tmps e y;rw [show st.eval y=_ from hy] at q2;have q2:=q2.atom;have q1:=q1.inv;obtain rfl:xs=[]:=List.isEmpty_iff.1 n;obtain ⟨A,cap,css,f,hn,s,u,hs,ha,z,hr⟩:=q1.lst_inv;have h:∀ b:Bool,keg P o a w (fun v w'=>Grow w w'/\RV ψ (·∈st.ids) (fun b=>S b\/w.heap.size<=b) w' v (.fz (.atom (.bool b))))->keg P o a w (fun v w'=>Grow w w'/\RV ψ (·∈st.ids) (fun b=>S b\/w.heap.size<=b) w' v (.fz (.atom (.bool true))))\/keg P o a w (fun v w'=>Grow w w'/\RV ψ (·∈st.ids) (fun b=>S b\/w.heap.size<=b) w' v (.fz (.atom (.bool false)))):=fun b m=>by
    cases b;exact .inr m
    ·exact .inl m
   have i:∃ b:Bool,∀ d:Nat,(Op.equalIn (d+1) t (.slice A 0 cap) (.slice none 0 0)).run P w = .ok b w:=(by cases A <;> simp [Op.equalIn,run_underlying ht]);obtain ⟨b,i⟩:=i;obtain ⟨p1,p2⟩:=kz9 (P:=P) (w:=w) i;refine h (if neg then !b else b) (kaf w (.bool (if neg then !b else b)) ?_ ⟨kag _, .fz (.atom rfl)⟩);cases neg;simp [execOp,show o.op=_ from ho,f,q2,ko8,p1]
   ·simp [execOp,show o.op=_ from ho,f,q2,ko8,p2]
  ·cases hv
 ·cases hv
section
variable {P:Program} [t:Tab P] {Q:Exit->St->Prop} {g:Cfg}
def k00 (ks ids:List Nat) (st:St):St:=⟨st.n,ks.map fun t=>(t,look .any st.tmps t),ids.filterMap fun i=>(kaa st.heap i).map fun o=>(i,o),ids,st.dfr⟩
theorem wrl (k:Nat) (ks ids:List Nat) (i q m n:Nat) (a:W P (ku2 (crun P k g) (k01 i n (k00 ks ids (stOf (crun P k g))))) Q) (hmn:m=n:=by simp) (hl:coA (stOf (crun P k g)) (k00 ks ids (stOf (crun P k g)))=some (k00 ks ids (stOf (crun P k g))):=by kernel_rfl)
  (hr:kyr i (k00 ks ids (stOf (crun P k g)))=List.replicate q m:=by kernel_rfl) (hc:kt6 (crun P k g)=true:=by kernel_rfl):W P g Q:=wle k ((le_a hl).trans (k9x i hr hmn)) a (hc:=hc)
end
theorem kado {S:Nat->Prop} {w:World} {v:Value} {n:Nat} {xs:List Int} (h:RF S w v (.lst 1 n (xs.map eI))) (d:∀ x∈xs,kgm x):Ints Any w v xs:=by
 cases h with
 | @lst A cap size n ys css hn hc hm hs ha hl hr=>
  subst hn;refine ⟨A,cap,by simp,by simpa using hc,hm,fun i x hi=>?_⟩;have a:(xs.map eI)[i]?=some (eI x):=by rw [qr,hi];rfl
  obtain ⟨b,o,h1,g,e⟩:=ha i _ a;obtain ⟨c,j,k⟩:=hl i _ a;refine ⟨b,o,css i,h1,trivial,e,c,?_,d x (qo hi)⟩;obtain ⟨u,hu⟩:∃ u,css i=[u]:=by
   match f:css i,c with
   | [u],_=>exact ⟨u,rfl⟩
  have:=hr i _ 0 u (.atom (.int .i64 x)) a (by rw [hu];rfl) rfl;cases this;rw [hu]
def inI (x:Int):Bool:=decide (-9223372036854775808<=x) && decide (x<=9223372036854775807)
def keyB (r:Int) (xs:List Int):Option BA:=bif inI r && (Nat.ble xs.length 1000000 && xs.all inI) then some ⟨(keyL r xs).toArray⟩ else none
theorem n_key (f:FuncId) (ts:Array TypeId) (X Y:Operand) (r:Int) (n:Nat) (xs:List Int) (v:BA) (g m:Nat) (gs:List (Nat×Array Value)) (vs:Array Value) {nm:String} (h:keyB r xs=some v) (j:∀ (r:Int) (xs:List Int) (sv:Value) (w:World),Ints Any w sv xs -> -9223372036854775808<=r->r<=9223372036854775807->xs.length<=1000000->w.var? P nm=some vs->Calls P f #[.int .i64 r,sv] w fun e w'=>e = .returned (.string ⟨(keyL r xs).toArray⟩)/\Below w.heap.size w w') (hf: ∃ fn, P.funcs[f]? = some fn /\ fn.body.isNone = false /\ (fn.name == "runtime.NumGoroutine") = false) (s: P.globalNamed nm = some g) (ho:o.op = .call { callee := .value (.func f),args:=#[X,Y],argTypes:=ts }) (k:st.eval X = .fz (.atom (.int .i64 r))) (hy:st.eval Y = .fz (.lst 1 n (xs.map eI))) (l:kaa st.heap id=some (.glb gs)) (hm:gs[m]?=some (g,vs)) (p:Nat.blt 0 vs.size=true):
  NStep P o st (.fz (.atom (.string v))):=by
 unfold keyB at h;cases hc:(inI r && (Nat.ble xs.length 1000000 && xs.all inI)) with
 | false=>rw [hc] at h;cases h
 | true=>
  rw [hc] at h;injection h with h;subst h;simp only [qv,inI,qa6,qs] at hc;obtain ⟨⟨h0,h1⟩,t,u⟩:=hc;intro ψ S a w ht y;have c:=Sim.eval_tmps ht X;rw [k] at c;have d:=Sim.eval_tmps ht Y;rw [hy] at d;unfold keg;rw [kqz ho hf];have hi:Ints Any w (a.eval Y) xs:=kado d.inv fun x k=>u x k;have:=j r xs _ w hi h0 h1 (by simpa using t) (kaes y l hm s (by simpa [Nat.blt_eq] using p));rw [show (#[X,Y].map a.eval)=#[.int .i64 r,a.eval Y] by simp [c.atom]];refine this.mono ?_;rintro e w' ⟨rfl,i⟩;exact ⟨_,rfl,⟨i.os,i.tape,i.output,i.size,fun b q=>i.block b q⟩, .fz (.atom rfl)⟩
theorem kaep {f:FuncId} {ts:Array TypeId} {X:Operand} {e:TypeId} {n:Nat} {xs:List Int}
  (O:∀ (blk off cap:Nat) (zs:List Int) (w:World),Sort.Holds (Value.int .i64) w blk off zs.toArray->blk<w.heap.size->zs.length<4611686018427387904->Calls P f #[.slice (some ⟨blk,off,none⟩) zs.length cap] w fun e w'=>e = .returned (.tuple #[])/\∃ n os,w'=Sort.grow (Sort.putRow (Value.int .i64) (Sort.ahead w n) blk off (zs.mergeSort fun x y=>decide (x<=y)).toArray) os)
  (Q:∀ (p:Option Addr) (cap:Nat) (w:World),Calls P f #[.slice p 0 cap] w fun e w'=>e = .returned (.tuple #[])/\w'=w)
  (hf : ∃ fn, P.funcs[f]? = some fn /\ fn.body.isNone = false /\ (fn.name == "runtime.NumGoroutine") = false)
  (ho:o.op = .call { callee := .value (.func f),args:=#[X],argTypes:=ts }) (hx:st.eval X = .row id n) (B:kaa st.heap id=some (.frow e 1 (xs.map eI))) (hn:n=xs.length) (H:Nat.blt xs.length 4611686018427387904=true):
  kau P o st (.fz (.tup [])) ((id, .frow e 1 ((xs.mergeSort fun x y=>decide (x<=y)).map eI))::st.heap) st.ids:=by
 subst hn;intro F S0 N0 ψ S a w I;have c:=I.core;obtain ⟨af,⟨hl,J,cs,d,ag,hr⟩,ah⟩:=c.obj id _ B;rw [qaa] at hl d;have hcl:cs.length=xs.length:=by rw [d.1,qbn]
 have R:cs=xs.map (Value.int .i64):=by
  apply qbz;intro k;by_cases hk:k<xs.length;have h1:(xs.map eI)[k]?=some (eI xs[k]):=(by simp [hk]);have N:=hr k _ 0 cs[k] (eI xs[k]) h1 (by simp [qa (show k<cs.length by omega)]) rfl;rw [qa (show k<cs.length by omega)];generalize cs[k]=u at N;cases N;simp [hk]
  ·rw [qaq (by omega),qaq (by simp;omega)]
 subst R;have C:=I.eval X;rw [hx] at C;have hp:a.eval X=ψ.val id:=by
  generalize a.eval X=u at C;cases C with
  | row hK ai h1 hv=>exact hv hl.symm
 unfold keg;rw [kqz ho hf];rw [show (#[X].map a.eval)=#[ψ.val id] by simp [hp]];by_cases hv:ψ.val id = .slice none 0 0
 ·have h0:xs=[]:=by
   rcases d.2 with ⟨_,h0⟩ | ⟨g,cap,cur,s,_⟩;exact qaz h0
   ·rw [hv] at s;cases s
  subst h0;rw [hv];refine (Q none 0 w).mono ?_;rintro e' w' ⟨rfl,rfl⟩;have l:∀ i,kaa ((id,AObj.frow e 1 (([]:List Int).mergeSort (fun x y=>decide (x<=y)) |>.map eI))::st.heap) i=kaa st.heap i:=fun i=>by
   rw [kae];split;rename_i hi;rw [<- hi,B];simp
   ·rfl
  refine ⟨_,rfl,ψ,S,⟨fun i ob h=>c.obj i ob (by rw [<- l i];exact h),fun i i' ob ob' b h1 N T=>c.inj i i' ob ob' b (by rw [<- l i];exact h1) (by rw [<- l i'];exact N) T,c.lt,c.s0,c.n0,c.fr⟩, .fz (.tup rfl (fun i v x h=>by simp at h)),Fr.refl,Ext.refl,fun _ h=>h,fun _ h=>h,fun _ _ _=>rfl⟩
 ·obtain ⟨g,cap,r,hb,U,hn,hm,V,hH⟩:=Lib.holds_of_ownsRow d hv;rw [r];refine (O g 0 cap xs w hH U (by simpa [Nat.blt_eq] using H)).mono ?_;rintro e' w' ⟨rfl,q,os,rfl⟩;obtain ⟨ts',K⟩:∃ ts':List Int,ts'=xs.mergeSort fun x y=>decide (x<=y):=⟨_,rfl⟩;rw [<- K];have D:ts'.length=xs.length:=by rw [K,List.length_mergeSort]
  have m:=grownBy_sortedI (w:=w) (g:=g) (n:=q) (os:=os) ts'.toArray;obtain ⟨W,hW⟩:∃ W,W=Sort.grow (Sort.putRow (Value.int .i64) (Sort.ahead w q) g 0 ts'.toArray) os:=⟨_,rfl⟩;have E:W.ownsRow 0 e 1 (ψ.val id) xs.length (ts'.map (Value.int .i64)):=by
   rcases d.2 with ⟨h0,_⟩ | ⟨g',cap',cur,s,Y,Z,hc2,aa,ab,_⟩;exact absurd h0 hv
   ·rw [r] at s;injection s with e1 _ e3;injection e1 with e1;injection e1 with e1;subst e1 e3;rw [hW,r];exact ownsRow_sortedI D Y Z hc2 aa ab
  rw [<- hW] at m ⊢;have L:∀ k,k<w.heap.size->¬ Blk (ψ.val id) k->W.heap[k]?=w.heap[k]?:=fun k ac hk=>m.block k ac fun e=>hk (.of (by rw [r];simp only [qc] at e;rw [e];rfl));have A:ψ.set id xs.length (ψ.val id)=ψ:=by
   unfold Env.set;congr 1
   ·funext j;split;rename_i M;rw [M,hl]
    ·rfl
   ·funext j;split;rename_i M;rw [M]
    ·rfl
  obtain ⟨c1,c2,c3⟩:=c.upd (n:=xs.length) (v:=ψ.val id) (w':=W) (ob' := .frow e 1 (ts'.map eI)) B m.size L (.inr ⟨hl,rfl⟩) (fun b hb => .inl hb) (by
   rw [A];refine ⟨by simp [hl,D],J,ts'.map (Value.int .i64),by rw [qaa,D];exact E,fun z t=>?_,fun k z j v q t hv G=>?_⟩;obtain ⟨z0,_,rfl⟩:=qad.1 t;exact ⟨rfl,fun q G=>by simp [FV.cells,eI] at G;subst G;rfl⟩
   ·obtain ⟨z0,ad,rfl⟩:∃ z0,ts'[k]?=some z0/\eI z0=z:=(by rw [qr,qu] at t;exact t);have M:j=0:=(by have:=(qf.1 G).1;simp [FV.cells,eI] at this;exact this);subst M;have ae:q=eI z0:=(by simp [FV.cells,eI] at G ⊢; exact G.symm);subst ae;simp only [qbn,Nat.add_zero,qr,ad,qax,qc] at hv;subst hv;exact .atom rfl)
  rw [A] at c1;exact ⟨_,rfl,ψ,S,c1, .fz (.tup rfl (fun i v x h=>by simp at h)),⟨m.os,m.tape,m.output,m.size,c3⟩,Ext.refl,fun _ h=>h,fun _ h=>h,c2⟩
theorem k5r {f:FuncId} {ts:Array TypeId} {X:Operand} {e:TypeId} {n:Nat} {xs:List Int}
  (R:∀ (blk off cap:Nat) (zs:List Int) (w:World),Sort.Holds (Value.int .i64) w blk off zs.toArray->zs.length<=9223372036854775807->zs.length<=cap->Calls P f #[.slice (some ⟨blk,off,none⟩) zs.length cap] w fun e w'=>e = .returned (.slice (some ⟨blk,off,none⟩) (Lib.compact zs).length cap)/\∃ q,w'=Sort.putRow (Value.int .i64) (Sort.ahead w q) blk off (Lib.compact zs++List.replicate (zs.length - (Lib.compact zs).length) 0).toArray)
  (T:∀ (p:Option Addr) (cap:Nat) (w:World),Calls P f #[.slice p 0 cap] w fun e w'=>e = .returned (.slice p 0 cap)/\w'=w)
  (hcl:∀ zs:List Int,(Lib.compact zs).length<=zs.length)
  (hf : ∃ fn, P.funcs[f]? = some fn /\ fn.body.isNone = false /\ (fn.name == "runtime.NumGoroutine") = false)
  (ho:o.op = .call { callee := .value (.func f),args:=#[X],argTypes:=ts }) (U:st.eval X = .row id n) (A:kaa st.heap id=some (.frow e 1 (xs.map eI))) (hn:n=xs.length):
  kau P o st (.fz (.lst 1 (Lib.compact xs).length ((Lib.compact xs).map eI))) (kdz id st.heap) st.ids:=by
 subst hn;intro F S0 N0 ψ S a w J;have i:=J.core;have L:=(i.obj id _ A).2.1;obtain ⟨ae,⟨hl,B,cs,d,af,hr⟩,ag⟩:=i.obj id _ A;rw [qaa] at hl d;have ad:cs.length=xs.length:=by rw [d.1,qbn]
 have V:cs=xs.map (Value.int .i64):=by
  apply qbz;intro k;by_cases hk:k<xs.length;have h1:(xs.map eI)[k]?=some (eI xs[k]):=(by simp [hk]);have h2:=hr k _ 0 cs[k] (eI xs[k]) h1 (by simp [qa (show k<cs.length by omega)]) rfl;rw [qa (show k<cs.length by omega)];generalize cs[k]=u at h2;cases h2;simp [hk]
  ·rw [qaq (by omega),qaq (by simp;omega)]
 subst V;have E:=J.eval X;rw [U] at E;have hp:a.eval X=ψ.val id:=by
  generalize a.eval X=u at E;cases E with
  | row hK ah h1 hv=>exact hv hl.symm
 unfold keg;rw [kqz ho hf];rw [show (#[X].map a.eval)=#[ψ.val id] by simp [hp]];by_cases h0:xs=[]
 ·subst h0;obtain ⟨p,cap,hv⟩:∃ p cap,ψ.val id = .slice p 0 cap:=by
   rcases d.2 with ⟨hv,_⟩ | ⟨g,cap,cur,hv,_⟩;exact ⟨_,_,hv⟩
   ·exact ⟨_,_,hv⟩
  rw [hv];refine (T p cap w).mono ?_;rintro e' w' ⟨rfl,rfl⟩;refine ⟨_,rfl,ψ,_,kzq i A,?_,Fr.refl,Ext.refl,fun _ h=>h,fun b h => .inl h,fun _ _ _=>rfl⟩;refine .fz ?_;rw [<- hv];exact kwn L
 ·have hv:ψ.val id ≠ .slice none 0 0:=fun hv=>by
   rcases d.2 with ⟨_,h1⟩ | ⟨g,cap,cur,M,_⟩;exact h0 (qaz h1)
   ·rw [hv] at M;cases M
  obtain ⟨g,cap,m,t,ai,hn,hm,Y,hH⟩:=Lib.holds_of_ownsRow d hv;rw [m];refine (R g 0 cap xs w hH (by unfold maxLen at hm;omega) hn).mono ?_;rintro e' w' ⟨rfl,q,rfl⟩;obtain ⟨c,hc⟩:∃ c,c=Lib.compact xs:=⟨_,rfl⟩;have Z:c.length<=xs.length:=by rw [hc];exact hcl xs
  rw [<- hc];obtain ⟨ys,G⟩:∃ ys,ys=c++List.replicate (xs.length - c.length) (0:Int):=⟨_,rfl⟩;rw [<- G];have s:ys.length=xs.length:=by rw [G];simp;omega
  have aa:ys.take c.length=c:=by rw [G,List.take_left'];rfl
  rw [m] at d;have o1:=Lib.ownsRow_putRow (q:=q) d s (qx _);have o2:=Lib.ownsRow_putRow (q:=q) d s Z;rw [aa] at o2;rw [<- s,qal,s] at o1;obtain ⟨W,H⟩:∃ W,W=Sort.putRow (Value.int .i64) (Sort.ahead w q) g 0 ys.toArray:=⟨_,rfl⟩;rw [<- H] at o1 o2 ⊢;have aj:W.heap.size=w.heap.size:=by rw [H];simp [Sort.ahead]
  have N:∀ k,k<w.heap.size->¬ Blk (ψ.val id) k->W.heap[k]?=w.heap[k]?:=fun k ak hk=>by have:g≠k:=fun e=>hk (.of (by rw [m,e];rfl));rw [H];simp [Sort.putRow,Sort.mapBlock,Sort.ahead,Array.getElem?_modify,this]
  have C:ψ.set id xs.length (ψ.val id)=ψ:=by
   unfold Env.set;congr 1
   ·funext j;split;rename_i O;rw [O,hl]
    ·rfl
   ·funext j;split;rename_i O;rw [O]
    ·rfl
  have r:∀ (l:List Int) (k:Nat) (z:FV) (j:Nat) (v:Value) (q:FV),(l.map eI)[k]?=some z->(l.map (Value.int .i64))[k*1+j]?=some v->z.cells[j]?=some q->RF S W v q:=fun l k z j v q Q hv I=>by obtain ⟨z0,ab,rfl⟩:∃ z0,l[k]?=some z0/\eI z0=z:=(by rw [qr,qu] at Q;exact Q);have O:j=0:=(by have:=(qf.1 I).1;simp [FV.cells,eI] at this;exact this);subst O;have ac:q=eI z0:=(by simp [FV.cells,eI] at I ⊢; exact I.symm);subst ac;simp only [qbn,Nat.add_zero,qr,ab,qax,qc] at hv;subst hv;exact .atom rfl
  have D:∀ (l:List Int),∀ x∈l.map eI,x.cells.length=1/\∀ y∈x.cells,y.single=true:=fun l x U=>by obtain ⟨z0,_,rfl⟩:=qad.1 U;exact ⟨rfl,fun q I=>by simp [FV.cells,eI] at I;subst I;rfl⟩
  obtain ⟨c1,c2,c3⟩:=i.upd (n:=xs.length) (v:=ψ.val id) (w':=W) (ob' := .frow e 1 (ys.map eI)) A (by omega) N (.inr ⟨hl,rfl⟩) (fun b t => .inl t) (by rw [C];exact ⟨by simp [hl,s],B,ys.map (Value.int .i64),by rw [qaa,s,m];exact o1,D ys,r ys⟩);rw [C] at c1;have c4:=kzq c1 (id:=id) (ob := .frow e 1 (ys.map eI)) (by rw [kae,qp rfl]);have e4:kdz id ((id,AObj.frow e 1 (ys.map eI))::st.heap)=kdz id st.heap:=by simp [kdz]
  rw [e4] at c4;have hd:=kwn (ψ:=ψ.set id c.length (.slice (some ⟨g,0,none⟩) c.length cap)) (K:=(·∈st.ids)) (S:=S) (w:=W) (id:=id) (e:=e) (size:=1) (xs:=c.map eI) ⟨by rw [kct,qaa],B,c.map (Value.int .i64),by rw [qaa,kav];exact o2,D c,r c⟩;rw [kav,qaa] at hd;refine ⟨_,rfl,ψ,_,c4, .fz (hd.mono fun b t=>?_),⟨by rw [H];rfl,by rw [H];rfl,by rw [H];rfl,by omega,c3⟩,Ext.refl,fun _ h=>h,fun b h => .inl h,c2⟩;rcases t with t | t;exact .inl t
  ·refine .inr ?_;rw [m];rcases t with t | ⟨u,hu,t⟩;exact .inl t
   ·exact .inr ⟨u,hu,t⟩
def ko6 (xs:List Int):Option (List Int):=bif Nat.blt xs.length 4611686018427387904 then some (xs.mergeSort fun x y=>decide (x<=y)) else none
theorem ks1 {xs v:List Int} (h:ko6 xs=some v):Nat.blt xs.length 4611686018427387904=true/\v=xs.mergeSort fun x y=>decide (x<=y):=by
 unfold ko6 at h;cases hc:Nat.blt xs.length 4611686018427387904 with
 | false=>rw [hc] at h;cases h
 | true=>rw [hc] at h;injection h with h;exact ⟨rfl,h.symm⟩
theorem k76 {xs v:List Int} (h:ko6 xs=some v):xs.length=v.length:=by rw [(ks1 h).2,List.length_mergeSort]
theorem kac2 {f:FuncId} {ts:Array TypeId} {X:Operand} {e:TypeId} {n:Nat} {xs v:List Int} (h:ko6 xs=some v)
  (a:∀ (blk off cap:Nat) (zs:List Int) (w:World),Sort.Holds (Value.int .i64) w blk off zs.toArray->blk<w.heap.size->zs.length<4611686018427387904->Calls P f #[.slice (some ⟨blk,off,none⟩) zs.length cap] w fun e w'=>e = .returned (.tuple #[])/\∃ n os,w'=Sort.grow (Sort.putRow (Value.int .i64) (Sort.ahead w n) blk off (zs.mergeSort fun x y=>decide (x<=y)).toArray) os)
  (b:∀ (p:Option Addr) (cap:Nat) (w:World),Calls P f #[.slice p 0 cap] w fun e w'=>e = .returned (.tuple #[])/\w'=w)
  (hf : ∃ fn, P.funcs[f]? = some fn /\ fn.body.isNone = false /\ (fn.name == "runtime.NumGoroutine") = false)
  (ho:o.op = .call { callee := .value (.func f),args:=#[X],argTypes:=ts }) (d:st.eval X = .row id n) (c:kaa st.heap id=some (.frow e 1 (xs.map eI))) (hn:n=xs.length):
  kau P o st (.fz (.tup [])) ((id, .frow e 1 (v.map eI))::st.heap) st.ids:=by
 obtain ⟨h1,rfl⟩:=ks1 h;exact kaep a b hf ho d c hn h1
theorem k6b (zs:List Int):(Lib.compact zs).length<=zs.length:=by simp only [Lib.compact,Lib.compactUpTo,qaa];exact qav (List.length_filter_le ..) (by simp)
theorem kaff (vs: Array Value) (hv: vs = (Lib.pow10Tab.map fun z => Value.int .u64 z).toArray := by kernel_rfl): ∀ (r : Int) (xs : List Int) (sv : Value) (w : World), Ints Any w sv xs -> -9223372036854775808 <= r -> r <= 9223372036854775807 -> xs.length <= 1000000 -> w.var? prog "internal/strconv.uint64pow10" = some vs -> Calls prog 133 #[.int .i64 r, sv] w fun e w' => e = .returned (.string ⟨(keyL r xs).toArray⟩) /\ Below w.heap.size w w' :=
 fun r xs sv w h1 a b c d=>kadq r xs sv w h1 a b c (by unfold Lib.TabIs;rw [d,hv])
theorem k9s (ts:Array TypeId) (X:Operand) (e:TypeId) (n:Nat) (xs:List Int) {v:List Int} {st:St} {o:Oper} (h:ko6 xs=some v) (ho:o.op = .call { callee := .value (.func 30),args:=#[X],argTypes:=ts }) (b:st.eval X = .row id n) (a:kaa st.heap id=some (.frow e 1 (xs.map eI))) (hn:n=xs.length):
  kau prog o st (.fz (.tup [])) ((id, .frow e 1 (v.map eI))::st.heap) st.ids:=kac2 h kub kql ⟨_,func30,by kernel_rfl,by kernel_rfl⟩ ho b a hn
theorem k3n (ts:Array TypeId) (X:Operand) (e:TypeId) (n:Nat) (xs:List Int) {st:St} {o:Oper} (ho:o.op = .call { callee := .value (.func 31),args:=#[X],argTypes:=ts }) (b:st.eval X = .row id n) (a:kaa st.heap id=some (.frow e 1 (xs.map eI))) (hn:n=xs.length):
  kau prog o st (.fz (.lst 1 (Lib.compact xs).length ((Lib.compact xs).map eI))) (kdz id st.heap) st.ids:=k5r kry koi k6b ⟨_,func31,by kernel_rfl,by kernel_rfl⟩ ho b a hn
variable {ψ':Env} {tx:TypeId}
def tt2:TD:=⟨1,8, .int .i64,[.int .i64 0]⟩
def tt3:TD:=⟨1,8, .int .i64,[.int .i64 0]⟩
def tt4:TD:=⟨1,1, .bool,[.bool false]⟩
def tt5:TD:=⟨1,1, .int .u8,[.int .u8 0]⟩
def tt9:TD:=⟨1,16, .str,[.string ⟨#[]⟩]⟩
def tt20:TD:=⟨1,16, .ifc,[.nilIface]⟩
def tt22:TD:=⟨1,24, .slice 3,[.slice none 0 0]⟩
def tt23:TD:=⟨1,24, .slice 83,[.slice none 0 0]⟩
def tt24:TD:=⟨1,24, .slice 72,[.slice none 0 0]⟩
def tt26:TD:=⟨4,88, .st [(9,0),(22,1),(23,2),(24,3)],[.string ⟨#[]⟩, .slice none 0 0, .slice none 0 0, .slice none 0 0]⟩
def tt27:TD:=⟨1,24, .slice 32,[.slice none 0 0]⟩
def tt32:TD:=⟨2,32, .st [(3,0),(27,1)],[.int .i64 0, .slice none 0 0]⟩
def tt33:TD:=⟨1,24, .slice 52,[.slice none 0 0]⟩
def tt35:TD:=⟨2,48, .st [(33,0),(22,1)],[.slice none 0 0, .slice none 0 0]⟩
def tt36:TD:=⟨1,8, .int .i64,[.int .i64 0]⟩
def tt50:TD:=⟨1,24, .slice 75,[.slice none 0 0]⟩
def tt52:TD:=⟨3,40, .st [(3,0),(3,1),(50,2)],[.int .i64 0, .int .i64 0, .slice none 0 0]⟩
def tt54:TD:=⟨1,8, .fn,[.nilFunc]⟩
def tt61:TD:=⟨1,8, .ptr 67,[.pointer none]⟩
def tt63:TD:=⟨1,8, .fn,[.nilFunc]⟩
def tt64:TD:=⟨1,8, .map 9 3,[.map none]⟩
def tt65:TD:=⟨1,24, .slice 22,[.slice none 0 0]⟩
def tt67:TD:=⟨4,80, .st [(64,0),(22,1),(65,2),(22,3)],[.map none, .slice none 0 0, .slice none 0 0, .slice none 0 0]⟩
def tt68:TD:=⟨1,24, .slice 70,[.slice none 0 0]⟩
def tt70:TD:=⟨4,56, .st [(3,0),(2,1),(9,2),(68,3)],[.int .i64 0, .int .i64 0, .string ⟨#[]⟩, .slice none 0 0]⟩
def tt72:TD:=⟨9,120, .st [(3,0),(3,1),(3,2),(70,3),(9,7),(22,8)],[.int .i64 0, .int .i64 0, .int .i64 0, .int .i64 0, .int .i64 0, .string ⟨#[]⟩, .slice none 0 0, .string ⟨#[]⟩, .slice none 0 0]⟩
def tt75:TD:=⟨2,32, .st [(3,0),(22,1)],[.int .i64 0, .slice none 0 0]⟩
def tt83:TD:=⟨2,24, .st [(9,0),(3,1)],[.string ⟨#[]⟩, .int .i64 0]⟩
def tt84:TD:=⟨1,8, .map 3 4,[.map none]⟩
def tt88:TD:=⟨1,24, .slice 22,[.slice none 0 0]⟩
def tt95:TD:=⟨1,8, .fn,[.nilFunc]⟩
def tt96:TD:=⟨1,24, .slice 4,[.slice none 0 0]⟩
def tt101:TD:=⟨1,24, .slice 3,[.slice none 0 0]⟩
def tt106:TD:=⟨1,8, .fn,[.nilFunc]⟩
def tt110:TD:=⟨1,8, .fn,[.nilFunc]⟩
def k5s:TD:=⟨1,8, .map 9 4,[.map none]⟩
def tt116:TD:=⟨1,8, .fn,[.nilFunc]⟩
def tt120:TD:=⟨1,8, .int .u64,[.int .u64 0]⟩
def k6h:TD:=⟨1,24, .slice 27,[.slice none 0 0]⟩
def tt127:TD:=⟨1,8, .fn,[.nilFunc]⟩
def tt135:TD:=⟨1,8, .ptr 190,[.pointer none]⟩
def tt138:TD:=⟨1,8, .fn,[.nilFunc]⟩
def tt139:TD:=⟨1,8, .fn,[.nilFunc]⟩
def tt142:TD:=⟨1,8, .map 3 101,[.map none]⟩
def tt145:TD:=⟨1,8, .fn,[.nilFunc]⟩
def tt154:TD:=⟨3,48, .st [(9,0),(22,1),(3,2)],[.string ⟨#[]⟩, .slice none 0 0, .int .i64 0]⟩
def tt163:TD:=⟨1,8, .int .i64,[.int .i64 0]⟩
def tt171:TD:=⟨1,4, .int .u32,[.int .u32 0]⟩
def tt173:TD:=⟨1,8, .int .u64,[.int .u64 0]⟩
def tt188:TD:=⟨1,8, .map 9 2,[.map none]⟩
def tt190:TD:=⟨5,96, .st [(26,0),(188,4)],[.string ⟨#[]⟩, .slice none 0 0, .slice none 0 0, .slice none 0 0, .map none]⟩
def tt208:TD:=⟨4,64, .st [(154,0),(9,3)],[.string ⟨#[]⟩, .slice none 0 0, .int .i64 0, .string ⟨#[]⟩]⟩
def tt212:TD:=⟨1,24, .slice 5,[.slice none 0 0]⟩
def tt214:TD:=⟨1,8, .int .u64,[.int .u64 0]⟩
def tt218:TD:=⟨1,8, .ptr 3,[.pointer none]⟩
def tt226:TD:=⟨1,24, .slice 208,[.slice none 0 0]⟩
def tt232:TD:=⟨1,24, .slice 234,[.slice none 0 0]⟩
def tt234:TD:=⟨3,48, .arr 3 9,[.string ⟨#[]⟩, .string ⟨#[]⟩, .string ⟨#[]⟩]⟩
def tt241:TD:=⟨1,24, .slice 226,[.slice none 0 0]⟩
def tt243:TD:=⟨1,24, .slice 9,[.slice none 0 0]⟩
def tt248:TD:=⟨24,24, .arr 24 5,List.replicate 24 (.int .u8 0)⟩
def tt253:TD:=⟨20,160, .arr 20 173,List.replicate 20 (.int .u64 0)⟩
def tt257:TD:=⟨32,32, .arr 32 5,List.replicate 32 (.int .u8 0)⟩
def tt258:TD:=⟨64,64, .arr 64 5,List.replicate 64 (.int .u8 0)⟩
def TT:List (TypeId×TD):=[(2,tt2),(3,tt3),(4,tt4),(5,tt5),(9,tt9),(20,tt20),(22,tt22),(23,tt23),(24,tt24),(26,tt26),(27,tt27),(32,tt32),(33,tt33),(35,tt35),(36,tt36),(50,tt50),(52,tt52),(54,tt54),(61,tt61),(63,tt63),(64,tt64),(65,tt65),(67,tt67),(68,tt68),(70,tt70),(72,tt72),(75,tt75),(83,tt83),(84,tt84),(88,tt88),(95,tt95),(96,tt96),(101,tt101),(106,tt106),(110,tt110),(112,k5s),(116,tt116),(120,tt120),(125,k6h),(127,tt127),(135,tt135),(138,tt138),(139,tt139),(142,tt142),(145,tt145),(154,tt154),(163,tt163),(171,tt171),(173,tt173),(188,tt188),(190,tt190),(208,tt208),(212,tt212),(214,tt214),(218,tt218),(226,tt226),(232,tt232),(234,tt234),(241,tt241),(243,tt243),(248,tt248),(253,tt253),(257,tt257),(258,tt258)]
theorem kak:TOk prog TT:=k7r (by kernel_rfl)
instance tabP:Tab prog:=⟨TT,kak,by kernel_rfl⟩
def gt0:List Int:=[1,10,100,1000,10000,100000,1000000,10000000,100000000,1000000000,10000000000,100000000000,1000000000000,10000000000000,100000000000000,1000000000000000,10000000000000000,100000000000000000,1000000000000000000,10000000000000000000]
def gv0:Array Value:=#[.int .u64 1, .int .u64 10, .int .u64 100, .int .u64 1000, .int .u64 10000, .int .u64 100000, .int .u64 1000000, .int .u64 10000000, .int .u64 100000000, .int .u64 1000000000, .int .u64 10000000000, .int .u64 100000000000, .int .u64 1000000000000, .int .u64 10000000000000, .int .u64 100000000000000, .int .u64 1000000000000000, .int .u64 10000000000000000, .int .u64 100000000000000000, .int .u64 1000000000000000000, .int .u64 10000000000000000000]
def gt2:List Int:=[0,1,28,2,29,14,24,3,30,22,20,15,25,17,4,8,31,27,13,23,21,19,16,7,26,12,18,6,11,5,10,9]
def gv2:Array Value:=#[.int .u8 0, .int .u8 1, .int .u8 28, .int .u8 2, .int .u8 29, .int .u8 14, .int .u8 24, .int .u8 3, .int .u8 30, .int .u8 22, .int .u8 20, .int .u8 15, .int .u8 25, .int .u8 17, .int .u8 4, .int .u8 8, .int .u8 31, .int .u8 27, .int .u8 13, .int .u8 23, .int .u8 21, .int .u8 19, .int .u8 16, .int .u8 7, .int .u8 26, .int .u8 12, .int .u8 18, .int .u8 6, .int .u8 11, .int .u8 5, .int .u8 10, .int .u8 9]
def gt3:List Int:=[0,1,56,2,57,49,28,3,61,58,42,50,38,29,17,4,62,47,59,36,45,43,51,22,53,39,33,30,24,18,12,5,63,55,48,27,60,41,37,16,46,35,44,21,52,32,23,11,54,26,40,15,34,20,31,10,25,14,19,9,13,8,7,6]
def gv3:Array Value:=#[.int .u8 0, .int .u8 1, .int .u8 56, .int .u8 2, .int .u8 57, .int .u8 49, .int .u8 28, .int .u8 3, .int .u8 61, .int .u8 58, .int .u8 42, .int .u8 50, .int .u8 38, .int .u8 29, .int .u8 17, .int .u8 4, .int .u8 62, .int .u8 47, .int .u8 59, .int .u8 36, .int .u8 45, .int .u8 43, .int .u8 51, .int .u8 22, .int .u8 53, .int .u8 39, .int .u8 33, .int .u8 30, .int .u8 24, .int .u8 18, .int .u8 12, .int .u8 5, .int .u8 63, .int .u8 55, .int .u8 48, .int .u8 27, .int .u8 60, .int .u8 41, .int .u8 37, .int .u8 16, .int .u8 46, .int .u8 35, .int .u8 44, .int .u8 21, .int .u8 52, .int .u8 32, .int .u8 23, .int .u8 11, .int .u8 54, .int .u8 26, .int .u8 40, .int .u8 15, .int .u8 34, .int .u8 20, .int .u8 31, .int .u8 10, .int .u8 25, .int .u8 14, .int .u8 19, .int .u8 9, .int .u8 13, .int .u8 8, .int .u8 7, .int .u8 6]
def GV:List (Nat×Array Value):=[(0,gv0),(2,gv2),(3,gv3),(1,#[])]
set_option maxRecDepth 100000
open Go Go.RowKit Go.Proofs Go.Proofs.Tryz
variable {H:Type} {enc:TypeId×Value->H} {base:Nat} {sp:Nat->Bool} {held:Bool}
theorem k2m {nm:String} {cs:Array Value} {g:Nat} (h:w.var? P nm=some cs) (a:P.globalNamed nm=some g):∃ e d,w.heap[g]?=some (.cells cs e d):=by
 unfold World.var? at h;rw [a,qb] at h;split at h;rename_i cs' e d b;injection h with h;subst h;exact ⟨e,d,b⟩
 ·cases h
theorem gl2_n : prog.globalNamed "math/bits.deBruijn32tab" = some 2 := by kernel_rfl
theorem gl2_t:(prog.globals[2]?).map (·.type)=some 257:=by kernel_rfl
theorem gl2_d:(Rows.laid_math_bits_deBruijn32tab:DataW Unit)=Lib.tabData .u8 gt2:=by kernel_rfl
theorem gl2_c:(gt2.map fun z=>Value.int .u8 z).toArray=gv2:=by kernel_rfl
theorem gl2_v {W : World} {cs : Array Value} {fuel : Nat} {p : List MemPlace} (hv : W.var? prog "math/bits.deBruijn32tab" = some cs) (h : DataW.trod (fun _ => ()) prog W 0 (fun _ => true) false fuel 257 cs.toList = some (Rows.laid_math_bits_deBruijn32tab, p)) : ∃ e d, W.heap[2]? = some (.cells gv2 e d) := by
 rw [gl2_d] at h;have:=Lib.cells_of_tab underlying257 underlying5 (by kernel_rfl) (by kernel_rfl) h;have e:cs=gv2:=by rw [<- gl2_c,<- this]
 rw [e] at hv;exact k2m hv gl2_n
theorem gl3_n : prog.globalNamed "math/bits.deBruijn64tab" = some 3 := by kernel_rfl
theorem gl3_t:(prog.globals[3]?).map (·.type)=some 258:=by kernel_rfl
theorem gl3_d:(Rows.laid_math_bits_deBruijn64tab:DataW Unit)=Lib.tabData .u8 gt3:=by kernel_rfl
theorem gl3_c:(gt3.map fun z=>Value.int .u8 z).toArray=gv3:=by kernel_rfl
theorem gl3_v {W : World} {cs : Array Value} {fuel : Nat} {p : List MemPlace} (hv : W.var? prog "math/bits.deBruijn64tab" = some cs) (h : DataW.trod (fun _ => ()) prog W 0 (fun _ => true) false fuel 258 cs.toList = some (Rows.laid_math_bits_deBruijn64tab, p)) : ∃ e d, W.heap[3]? = some (.cells gv3 e d) := by
 rw [gl3_d] at h;have:=Lib.cells_of_tab underlying258 underlying5 (by kernel_rfl) (by kernel_rfl) h;have e:cs=gv3:=by rw [<- gl3_c,<- this]
 rw [e] at hv;exact k2m hv gl3_n
theorem gl0_n : prog.globalNamed "internal/strconv.uint64pow10" = some 0 := by kernel_rfl
theorem gl0_t:(prog.globals[0]?).map (·.type)=some 253:=by kernel_rfl
theorem gl0_d:(Rows.laid_internal_strconv_uint64pow10:DataW Unit)=Lib.tabData .u64 gt0:=by kernel_rfl
theorem gl0_c:(gt0.map fun z=>Value.int .u64 z).toArray=gv0:=by kernel_rfl
theorem gl0_v {W : World} {cs : Array Value} {fuel : Nat} {p : List MemPlace} (hv : W.var? prog "internal/strconv.uint64pow10" = some cs) (h : DataW.trod (fun _ => ()) prog W 0 (fun _ => true) false fuel 253 cs.toList = some (Rows.laid_internal_strconv_uint64pow10, p)) : ∃ e d, W.heap[0]? = some (.cells gv0 e d) := by
 rw [gl0_d] at h;have:=Lib.cells_of_tab underlying253 underlying173 (by kernel_rfl) (by kernel_rfl) h;have e:cs=gv0:=by rw [<- gl0_c,<- this]
 rw [e] at hv;exact k2m hv gl0_n
def kuj : List (String × DataW Unit) := [("math/bits.deBruijn32tab", Rows.laid_math_bits_deBruijn32tab), ("math/bits.deBruijn64tab", Rows.laid_math_bits_deBruijn64tab), ("internal/strconv.uint64pow10", Rows.laid_internal_strconv_uint64pow10)]
theorem kae1 {W:World} (h:W.ShapedOpen prog):GlbR W 1 #[]:=by
 obtain ⟨m,hm⟩:=Go.Proofs.cell_of_shapedOpen_int (zero:=#[.int .i64 0]) (g:=1) (t:=3) (k := .i64) h (qbr (by kernel_rfl)) (by kernel_rfl) rfl (by kernel_rfl) (by kernel_rfl) underlying3;obtain ⟨cs,a,hs,_⟩:=h.1 1 #[.int .i64 0] 3 (qbr (by kernel_rfl)) (by kernel_rfl);refine .inr ⟨rfl,m,3,(0,0),?_⟩;obtain ⟨l⟩:=cs
 match l,hs with
 | [u],_=>
  simp only [World.cell?,a] at hm;have hu:u = .int .i64 m:=by simpa using hm
  rw [a,hu]
theorem kt2 {H:Type} {enc:TypeId×Value->H} {a:Assume} {C:Checked} {os:Os} {f:FuncId} {fn:Func} {s:ChangeSpec} {conds:List PathCond} {apart fresh b again:Bool} {X:World->Array Value->Prop}
  (o:∀ (w w':World) (args:Array Value),w.heap=w'.heap->X w args->X w' args)
  (own:ownKnob C.prog.godebug=none) (started:os.Started) (noInit:C.prog.inits.idxOf? f=none) (k:C.prog.funcs[f]?=some fn)
  (witness:∃ (w:World) (tape:Tape) (i:Input),w.os=os/\(w.forCall tape i).Shaped C.prog/\i.vars=[]/\Input.okWide C.prog (w.forCall tape i) .any w.heap.size f i /\
   ((s.pre enc C.prog fn conds apart (w.forCall tape i).memory i.args/\X (w.forCall tape i).memory i.args)/\sizedMet enc C.prog fn (OpenSpec.ofChange s) apart (w.forCall tape i).memory i.args)/\a.holds C.prog (lone (Frame.enter C.prog f i.args .normal) [] (w.forCall tape i)))
  (contract:∀ (W:World) (base:Nat) (args:Array Value) (ds gs:List (DataW H)) (before:List MemPlace),
   (∀ (j:Nat) t v,fn.params[j]?=some t->args[j]?=some v->Value.okWide C.prog W .any base t v) ->
   DataW.Whole enc C.prog fn.params.toList s.vars apart W args.toList ds gs before->X W args->W.ShapedOpen C.prog ->
   Calls C.prog f args W fun e W'=>∃ v,e = .returned v/\s.post enc C.prog fn apart fresh b again W args v W'):
  ReturnsInHanded a C os f .any (fun w args=>(s.pre enc C.prog fn conds apart w args/\X w args)/\sizedMet enc C.prog fn (OpenSpec.ofChange s) apart w args) (s.post enc C.prog fn apart fresh b again):=by
 refine returnsInHanded_of_calls own started noInit witness ?_;intro w tape i _ l _ m c h;obtain ⟨_,_,_,fn',d,_,_,_,_,g⟩:=m;have e:fn'=fn:=qaj (d.symm.trans k);subst e;obtain ⟨⟨⟨ds,gs,before,p,hc⟩,q⟩,u⟩:=c;have n:=DataW.Whole.of_heap (w':=w.forCall tape i) (by rfl) p;refine (contract (w.forCall tape i) w.heap.size i.args ds gs before g n (o _ _ _ (by rfl) q) l).mono fun e W' ⟨v,r,hp⟩=>?_;subst r;exact ChangeSpec.post_blind hp
theorem kafi {W:World} (h:laidMetH prog kuj W) (a:W.ShapedOpen prog):∀ p,p∈GV->GlbR W p.1 p.2:=by
 have h:laidMet prog kuj W:=h;obtain ⟨ps,hl,_⟩:=h;simp only [kuj,DataW.LaidVars] at hl;obtain ⟨g0,t0,c0,u0,p0,q0,n0,y0,v0,d0,⟨g1,t1,c1,u1,p1,q1,n1,y1,v1,d1,⟨g2,t2,c2,u2,p2,q2,n2,y2,v2,d2,_,_⟩,_⟩,_⟩:=hl;obtain rfl:=qaj (gl2_t.symm.trans (by rw [qaj (gl2_n.symm.trans n0)];exact y0));have z2:=gl2_v v0 d0;obtain rfl:=qaj (gl3_t.symm.trans (by rw [qaj (gl3_n.symm.trans n1)];exact y1));have z3:=gl3_v v1 d1;obtain rfl:=qaj (gl0_t.symm.trans (by rw [qaj (gl0_n.symm.trans n2)];exact y2));have z0:=gl0_v v2 d2;intro p hp;simp only [GV,qam,List.not_mem_nil,or_false] at hp;rcases hp with rfl | rfl | rfl | rfl;exact .inl ⟨qbr (by kernel_rfl),z0⟩;exact .inl ⟨qbr (by kernel_rfl),z2⟩;exact .inl ⟨qbr (by kernel_rfl),z3⟩
 ·exact kae1 a
noncomputable def ky0 (os:Os):World:=
 let w0:=World.holding prog os ⟨#[],#[],[]⟩
 { w0 with heap:=(((w0.heap).modify 0 (fun | Obj.cells _ t fr=>Obj.cells gv0 t fr | o=>o)).modify 2 (fun | Obj.cells _ t fr=>Obj.cells gv2 t fr | o=>o)).modify 3 (fun | Obj.cells _ t fr=>Obj.cells gv3 t fr | o=>o) }
theorem k0d (os:Os) (args:Array Value):laidMetH prog kuj ((ky0 os).forCall (fun _ _=>0) ⟨#[],args,[]⟩).memory:=
 laidMetH_of_parts (laidMet_of_run' 8 (by kernel_rfl) (by kernel_rfl)) (by kernel_rfl)
end Go.Proofs.YtchjomeomabamaaGreatDoor
