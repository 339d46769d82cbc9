import Derived.Test.YtaimpcnpifoidaaGreatDoorOpr
import Derived.Test.YtaimpcnpifoidaaGreatDoorMach
set_option linter.unusedVariables false
set_option linter.unusedSimpArgs false
namespace Go.Proofs.YtaimpcnpifoidaaGreatDoor
open Go Go.RowKit
structure En (α:Type) where
 f:α→FV
 n:Nat
 cl:α→List FV
 hcl:∀ x,(f x).cells=cl x
 hn:∀ x,(f x).cells.length=n
def nI:En Int:=⟨eI,1,fun x=>[eI x],fun _=>rfl,fun _=>rfl⟩
def nS:En BA:=⟨eS,1,fun x=>[eS x],fun _=>rfl,fun _=>rfl⟩
def nU8:En Int:=⟨eU8,1,fun x=>[eU8 x],fun _=>rfl,fun _=>rfl⟩
def nL {α:Type} (s:Nat) (E:En α):En (List α):=⟨eL s E.f,1,fun x=>[eL s E.f x],fun _=>rfl,fun _=>rfl⟩
def nVaR:En Va:=⟨eVaR,4,fun x=>(eVa x).cells,ky8,k3x⟩
def nTmR:En Tm:=⟨eTmR,2,fun x=>(eTm x).cells,k80,kac3⟩
def nSy:En Sy:=⟨eSy,2,fun x=>(eSy x).cells,fun _=>rfl,fun _=>rfl⟩
def nRu:En Ru:=⟨eRu,9,fun x=>(eRu x).cells,fun _=>rfl,fun _=>rfl⟩
def kuu {γ:Type} (f:Oper→St→Option γ) (g:Cfg):Option γ:=match kqq g with
 | some p=>f p.1 p.2
 | none=>none
theorem h_pn {P:Program} {f:FuncId} {cap:List AV} {o:Oper} {st:St} {x:Operand} {args:Array Operand} {ts:Array TypeId} {cs:List C1} {as1 as2 pre:_} {ids0 ids1:List Nat} {v:Value} {post:List (Nat×AObj)} {keys:List Nat} (r1 r2:List (Nat×Nat)) (ho:o.op = .call { callee := .value x,args:=args,argTypes:=ts })
  (hx:fnOf args.size (st.eval x)=some (f,cap)) (hc:kat P f (as1++as2) pre ids0 (.pan v) post ids1) (hargs:kn0 st r1 (renI r2 ids0) cs args.toList=some as1) (hcap:kno r1 (renI r2 ids0) cap=some as2)
  (hfoot:kl2 st r1 r2 keys ids0 ids1 post=true) (hpre:preX st r1 r2 (renI r2 ids0) keys=some pre):k3m P o st v (renH r2 post++kji (renI r2 ids0) st.heap) (renI r2 ids1++st.ids):=by
 intro F S0 N0 ψ S a w hs next Q' hQ
 obtain ⟨vs,hrun,hcall⟩:=kyk r1 r2 ho hx hc hargs hcap hfoot hpre hs
 unfold Oper.wp
 rw [hrun]
 refine hcall.mono ?_
 rintro e w' ⟨ψ',S',he,h1,h2,_⟩
 simp only [HEnd.ren,HEnd.is] at he
 subst he
 exact hQ w' ⟨ψ',S',h1,h2⟩
section
variable {P:Program} [t:Tab P] {Q:Exit→St→Prop} {g:Cfg} {β:Type} {r:β}
theorem vst {γ:Type} {f:Oper→St→Option γ} {z:γ} {c:AV} (k:Nat) (hc:kuu f (crun P k g)=some z) (hn:∀ o v,f o v=some z→NStep P o v c) (h:W P (rsm c (crun P k g)) Q):W P g Q:=by
 refine kck (k:=k) ?_
 unfold kuu at hc
 split at hc
 ·rename_i p hp
  exact k3v hp (hn _ _ hc) h
 ·cases hc
def ixOf (T:List (TypeId×TD)) (o:Oper) (st:St):Option (Nat×List FV×Int):=match o.op with
 | .indexAddr t x y=>match ka3 T t with
  | some d=>match d.kind,ksm (st.eval x),st.eval y with
   | .slice e,some xs, .fz (.atom (.int _ i))=>match ka3 T e with
    | some de=>some (de.size,xs,i)
    | none=>none
   | _,_,_=>none
  | none=>none
 | _=>none
theorem ix {α:Type} {ys:List α} {i:Int} {K:α→Option β} (E:En α) (k:Nat) (h:Option.bind (idx ys i) K=some r) (hw:∀ v,K v=some r→W P (rsm (.fz (.fp (E.cl v))) (crun P k g)) Q) (hc:kuu (ixOf t.T) (crun P k g)=some (E.n,ys.map E.f,i):=by kernel_rfl):W P g Q:=by
 obtain ⟨v,h1,h2⟩:=qi.1 h
 refine vst k hc (fun o st hz=>?_) (hw v h2)
 unfold ixOf at hz
 split at hz
 ·rename_i tt x y ho
  split at hz
  ·rename_i d hd
   split at hz
   ·rename_i e xs k' i' hk hx hy
    split at hz
    ·rename_i de hde
     simp only [qh,qad] at hz
     obtain ⟨z1,z2,z3⟩:=hz
     subst z2 z3
     exact kaiq (enc:=E.f) h1 t.ok ho hd hk hde hx (fun x=>by rw [E.hn,z1]) hy (E.hcl v)
    ·cases hz
   ·cases hz
  ·cases hz
 ·cases hz
def byOf (T:List (TypeId×TD)) (o:Oper) (st:St):Option (BA×Int):=match o.op with
 | .index t x y=>match ka3 T t with
  | some d=>match d.kind,st.eval x,st.eval y with
   | .str, .fz (.atom (.string s)), .fz (.atom (.int _ i))=>some (s,i)
   | _,_,_=>none
  | none=>none
 | _=>none
theorem byx {s:BA} {i:Int} {K:Int→Option β} (k:Nat) (h:Option.bind (byt s i) K=some r) (hw:∀ v,K v=some r→W P (rsm (.fz (eU8 v)) (crun P k g)) Q) (hc:kuu (byOf t.T) (crun P k g)=some (s,i):=by kernel_rfl):W P g Q:=by
 obtain ⟨v,h1,h2⟩:=qi.1 h
 refine vst k hc (fun o st hz=>?_) (hw v h2)
 unfold byOf at hz
 split at hz
 ·rename_i tt x y ho
  split at hz
  ·rename_i d hd
   split at hz
   ·rename_i s' k' i' hk hx hy
    simp only [qh,qad] at hz
    obtain ⟨rfl,rfl⟩:=hz
    exact kaj0 h1 t.ok ho hd hk hx hy
   ·cases hz
  ·cases hz
 ·cases hz
def tyCs (T:List (TypeId×TD)):Nat→TypeId→List C0
 | 0,_=>[]
 | n+1,t=>match ka3 T t with
  | some d=>match d.kind with
   | .slice e=>match ka3 T e with
    | some de=>[.sl de.size]
    | none=>[.keep]
   | .st fs=>fs.flatMap fun p=>tyCs T n p.1
   | .arr m e=>(List.replicate m e).flatMap fun e=>tyCs T n e
   | _=>[.keep]
  | none=>[.keep]
def tyC (T:List (TypeId×TD)) (t:TypeId):C1:=match ka3 T t with
 | some d=>match d.kind with
  | .slice e=>match ka3 T e with
   | some de => .one (.sl de.size)
   | none => .one .keep
  | .st _ => .ag (tyCs T 9 t)
  | .arr _ _ => .ag (tyCs T 9 t)
  | _ => .one .keep
 | none => .one .keep
def clOf (T:List (TypeId×TD)) (o:Oper) (st:St):Option (FuncId×List FV):=match o.op with
 | .call c=>match c.callee with
  | .value (.func f)=>match ks7 st (c.argTypes.toList.map (tyC T)) c.args.toList with
   | some ys=>some (f,ys)
   | none=>none
  | _=>none
 | _=>none
theorem cl {α:Type} {E:Option α} {K:α→Option β} {f:FuncId} {ys:List FV} {y:α→FV} (k:Nat) (h:Option.bind E K=some r) (hp:∀ v,E=some v→kae P f ys (y v)) (hc:kuu (clOf t.T) (crun P k g)=some (f,ys)) (hw:∀ v,K v=some r→W P (rsm (.fz (y v)) (crun P k g)) Q):W P g Q:=by
 obtain ⟨v,h1,h2⟩:=qi.1 h
 refine vst k hc (fun o st hz=>?_) (hw v h2)
 unfold clOf at hz
 split at hz
 ·rename_i c ho
  split at hz
  ·rename_i f' hf
   split at hz
   ·rename_i ys' hy
    simp only [qh,qad] at hz
    obtain ⟨rfl,rfl⟩:=hz
    obtain ⟨cc,as_,ts⟩:=c
    simp only at hf
    subst hf
    exact kaaz ho hy (hp v h1)
   ·cases hz
  ·cases hz
 ·cases hz
def hcOf (cs:List C1) (r1 r2:List (Nat×Nat)) (keys ids0 ids1:List Nat) (post:List (Nat×AObj)) (o:Oper) (st:St):Option (FuncId×List AV×List (Nat×AObj)):=match o.op with
 | .call c=>match c.callee with
  | .value x=>match fnOf c.args.size (st.eval x) with
   | some (f,cap)=>match kn0 st r1 (renI r2 ids0) cs c.args.toList,kno r1 (renI r2 ids0) cap,preX st r1 r2 (renI r2 ids0) keys with
    | some as1,some as2,some pre=>bif kl2 st r1 r2 keys ids0 ids1 post then some (f,as1++as2,pre) else none
    | _,_,_=>none
   | _=>none
  | _=>none
 | _=>none
theorem hcl {α:Type} {E:Option α} {K:α→Option β} {f:FuncId} {as_:List AV} {pre:List (Nat×AObj)} {ids0 ids1:List Nat} {res:α→AV} {post:α→List (Nat×AObj)} (k:Nat) (cs:List C1) (r1 r2:List (Nat×Nat)) (keys:List Nat) (h:Option.bind E K=some r)
  (hp:∀ v,E=some v→kat P f as_ pre ids0 (.ret (res v)) (post v) ids1) (hc:∀ v,kt9 (hcOf cs r1 r2 keys ids0 ids1 (post v)) (crun P k g)=some (f,as_,pre))
  (hw:∀ v,K v=some r→W P (rsmA (renA r2 (res v)) (renH r2 (post v)++kji (renI r2 ids0) (stOf (crun P k g)).heap) (renI r2 ids1++(stOf (crun P k g)).ids) (crun P k g)) Q):W P g Q:=by
 obtain ⟨v,h1,h2⟩:=qi.1 h
 obtain ⟨hk,hz⟩:=kys (hc v)
 refine sst k ?_ hk (hw v h2)
 unfold hcOf at hz
 split at hz
 ·rename_i c ho
  split at hz
  ·rename_i x hx
   split at hz
   ·rename_i f' cap hcap
    split at hz
    ·rename_i as1 as2 pre' e1 e2 e3
     cases hb:kl2 (stOf (crun P k g)) r1 r2 keys ids0 ids1 (post v) with
     | false=>rw [hb] at hz;cases hz
     | true=>
      rw [hb] at hz
      simp only [qd,qh,qad] at hz
      obtain ⟨rfl,rfl,rfl⟩:=hz
      obtain ⟨cc,as_,ts⟩:=c
      simp only at hx
      subst hx
      exact kaak r1 r2 ho hcap (hp v h1) e1 e2 hb e3
    ·cases hz
   ·cases hz
  ·cases hz
 ·cases hz
theorem k0y {cs:List C1} {r1 r2:List (Nat×Nat)} {keys ids0 ids1:List Nat} {post:List (Nat×AObj)} {o:Oper} {st:St} {f:FuncId} {as_:List AV} {pre:List (Nat×AObj)} (hz:hcOf cs r1 r2 keys ids0 ids1 post o st=some (f,as_,pre)):
  ∃ x args ts cap as1 as2,o.op = .call { callee := .value x,args:=args,argTypes:=ts }∧fnOf args.size (st.eval x)=some (f,cap)∧kn0 st r1 (renI r2 ids0) cs args.toList=some as1∧kno r1 (renI r2 ids0) cap=some as2∧as_=as1++as2∧kl2 st r1 r2 keys ids0 ids1 post=true∧preX st r1 r2 (renI r2 ids0) keys=some pre:=by
 unfold hcOf at hz
 split at hz
 ·rename_i c ho
  split at hz
  ·rename_i x hx
   split at hz
   ·rename_i f' cap hcap
    split at hz
    ·rename_i as1 as2 pre' e1 e2 e3
     cases hb:kl2 st r1 r2 keys ids0 ids1 post with
     | false=>rw [hb] at hz;cases hz
     | true=>
      rw [hb] at hz
      simp only [qd,qh,qad] at hz
      obtain ⟨rfl,rfl,rfl⟩:=hz
      obtain ⟨cc,as_,ts⟩:=c
      simp only at hx
      subst hx
      exact ⟨x,as_,ts,cap,as1,as2,ho,hcap,e1,e2,rfl,rfl,e3⟩
    ·cases hz
   ·cases hz
  ·cases hz
 ·cases hz
theorem hclS {α α':Type} {E:Option (α ⊕ α')} {K1:α→Option β} {K2:α'→Option β} {f:FuncId} {as_:List AV} {pre:List (Nat×AObj)} {ids0 ids1 ids2:List Nat} {res:α→AV} {post:α→List (Nat×AObj)} {pv:α'→Value} {post2:α'→List (Nat×AObj)} (k:Nat) (cs:List C1) (r1 r2:List (Nat×Nat)) (keys:List Nat)
  (h:Option.bind E (fun v=>Sum.elim K1 K2 v)=some r) (hp:∀ v,E=some v→Sum.elim (fun v=>kat P f as_ pre ids0 (.ret (res v)) (post v) ids1) (fun v=>kat P f as_ pre ids0 (.pan (pv v)) (post2 v) ids2) v)
  (hc:∀ v,kt9 (hcOf cs r1 r2 keys ids0 ids1 (post v)) (crun P k g)=some (f,as_,pre)) (hc2:∀ v,kt9 (hcOf cs r1 r2 keys ids0 ids2 (post2 v)) (crun P k g)=some (f,as_,pre))
  (hw2:∀ v,K2 v=some r→W P ⟨.fin (.panic [pnE (pv v)]),[],{ stOf (crun P k g) with heap:=renH r2 (post2 v)++kji (renI r2 ids0) (stOf (crun P k g)).heap,ids:=renI r2 ids2++(stOf (crun P k g)).ids }⟩ Q)
  (hw:∀ v,K1 v=some r→W P (rsmA (renA r2 (res v)) (renH r2 (post v)++kji (renI r2 ids0) (stOf (crun P k g)).heap) (renI r2 ids1++(stOf (crun P k g)).ids) (crun P k g)) Q):W P g Q:=by
 obtain ⟨v,h1,h2⟩:=qi.1 h
 have hp:=hp v h1
 cases v with
 | inl v=>exact hcl k cs r1 r2 keys (E:=some v) (K:=fun v=>K1 v) h2 (res:=res) (post:=post) (fun v' hv=>by injection hv with hv;subst hv;exact hp) hc hw
 | inr v=>
  obtain ⟨hk,hz⟩:=kys (hc2 v)
  obtain ⟨x,args,ts,cap,as1,as2,e1,e2,e3,e4,rfl,e5,e6⟩:=k0y hz
  exact hpan k r1 r2 hk e1 e2 hp e3 e4 e5 e6 (hw2 v h2)
structure ApR where
 id:Nat
 e:TypeId
 size:Nat
 bytes:Nat
 n:Nat
 xs:List FV
 ys:List FV
def k91 (size:Nat):AV→Option (List FV)
 | .fz (.lst s _ ys)=>bif Nat.beq s size then some ys else none
 | .lim s _ ys=>bif Nat.beq s size then some ys else none
 | _=>none
theorem kae9 {size:Nat} {x:AV} {ys:List FV} (h:k91 size x=some ys):∃ m,x = .fz (.lst size m ys)∨x = .lim size m ys:=by
 unfold k91 at h
 split at h
 ·rename_i s m zs
  cases hb:Nat.beq s size with
  | false=>rw [hb] at h;cases h
  | true=>
   rw [hb] at h
   obtain rfl:=qr hb
   obtain rfl:=qp h
   exact ⟨m, .inl rfl⟩
 ·rename_i s m zs
  cases hb:Nat.beq s size with
  | false=>rw [hb] at h;cases h
  | true=>
   rw [hb] at h
   obtain rfl:=qr hb
   obtain rfl:=qp h
   exact ⟨m, .inr rfl⟩
 ·cases h
def apOf (T:List (TypeId×TD)) (o:Oper) (st:St):Option ApR:=match o.op with
 | .call c=>match c.callee,c.args.toList,c.argTypes.toList with
  | .builtin .append,[X,Y],[t,u]=>bif Nat.beq u t then (match ka3 T t with
   | some d=>match d.kind,st.eval X with
    | .slice e, .row id n=>match ka3 T e,kab st.heap id with
     | some de,some (.frow e' s xs)=>match k91 de.size (st.eval Y) with
      | some ys=>bif Nat.beq e' e && (Nat.beq s de.size && (Nat.ble 1 de.size && Nat.beq de.zero.length de.size)) then some ⟨id,e,de.size,de.bytes,n,xs,ys⟩ else none
      | none=>none
     | _,_=>none
    | _,_=>none
   | none=>none) else none
  | _,_,_=>none
 | _=>none
theorem k7h {α:Type} {E:En α} {xs ys v:List α} {o:Oper} {st:St} {q:ApR} (hz:apOf t.T o st=some q) (h:app q.bytes xs ys=some v) (hn:q.n=xs.length) (hx:q.xs=xs.map E.f) (hy:q.ys=ys.map E.f):
  ∃ (X Y:Operand) (ty:TypeId) (d de:TD) (m:Nat),o.op = .call { callee := .builtin .append,args:=#[X,Y],argTypes:=#[ty,ty] }∧ka3 t.T ty=some d∧d.kind = .slice q.e∧ka3 t.T q.e=some de∧de.size=q.size∧Nat.ble 1 de.size=true∧de.zero.length=de.size∧de.bytes=q.bytes ∧
   st.eval X = .row q.id xs.length∧kab st.heap q.id=some (.frow q.e de.size (xs.map E.f))∧(st.eval Y = .fz (.lst de.size m (ys.map E.f))∨st.eval Y = .lim de.size m (ys.map E.f)):=by
 unfold apOf at hz
 split at hz
 ·rename_i c ho
  split at hz
  ·rename_i X Y ty u h1 h2 h3
   cases hu:Nat.beq u ty with
   | false=>rw [hu] at hz;cases hz
   | true=>
    rw [hu] at hz
    obtain rfl:=qr hu
    simp only [qd] at hz
    split at hz
    ·rename_i d hd
     split at hz
     ·rename_i e id n hk hX
      split at hz
      ·rename_i de e' s xs' hde hob
       split at hz
       ·rename_i ys' hY
        cases hb:(Nat.beq e' e && (Nat.beq s de.size && (Nat.ble 1 de.size && Nat.beq de.zero.length de.size))) with
        | false=>rw [hb] at hz;cases hz
        | true=>
         rw [hb] at hz
         obtain rfl:=qp hz
         simp only [qu] at hb
         obtain ⟨b1,b2,b3,b4⟩:=hb
         obtain rfl:=qr b1
         obtain rfl:=qr b2
         simp only at hn hx hy
         subst hn hx hy
         obtain ⟨m,hm⟩:=kae9 hY
         obtain ⟨cc,as_,ts⟩:=c
         simp only at h1 h2 h3
         rw [h1,kr0 h2,kr0 h3] at ho
         exact ⟨X,Y,_,d,de,m,ho,hd,hk,hde,rfl,b3,qr b4,rfl,hX,hob,hm⟩
       ·cases hz
      ·cases hz
     ·cases hz
    ·cases hz
  ·cases hz
 ·cases hz
def apK (q:Option ApR):Option (Nat×Nat×List FV×List FV):=match q with
 | some q=>some (q.bytes,q.n,q.xs,q.ys)
 | none=>none
def apG {α:Type} (T:List (TypeId×TD)) (E:En α) (v:List α) (g:Cfg):Cfg:=match kt9 (apOf T) g with
 | some q=>rsmA (.row q.id v.length) ((q.id, .frow q.e q.size (v.map E.f))::(stOf g).heap) (stOf g).ids g
 | none=>⟨.bad,g.ks,g.st⟩
theorem ap {α:Type} {bytes:Nat} {xs ys:List α} {K:List α→Option β} (E:En α) (k:Nat) (h:Option.bind (app bytes xs ys) K=some r) (hw:∀ v,K v=some r→W P (apG t.T E v (crun P k g)) Q) (hc:apK (kt9 (apOf t.T) (crun P k g))=some (bytes,xs.length,xs.map E.f,ys.map E.f):=by kernel_rfl):W P g Q:=by
 obtain ⟨v,h1,h2⟩:=qi.1 h
 have hw:=hw v h2
 unfold apK at hc
 split at hc
 ·rename_i q hq
  simp only [qh,qad] at hc
  obtain ⟨rfl,e1,e2,e3⟩:=hc
  unfold apG at hw
  rw [hq] at hw
  obtain ⟨hk,hz⟩:=kys hq
  refine sst k ?_ hk hw
  obtain ⟨X,Y,ty,d,de,m,k1,k2,k3,k4,k5,k6,k7,k8,k9,k10,k11⟩:=k7h hz h1 e1 e2 e3
  rw [← k5]
  exact k5o (enc:=E.f) h1 t.ok k1 k2 k3 k4 k6 k7 k8 k9 k10 rfl k11
 ·cases hc
def ko9 {γ:Type} (f:Oper→St→Option γ) (g:Cfg):Option γ:=bif okZ g then f (knx g) (kh0 g) else none
theorem kvy {γ:Type} {f:Oper→St→Option γ} {z:γ} {g:Cfg} (h:ko9 f g=some z):okZ g=true∧f (knx g) (kh0 g)=some z:=by
 unfold ko9 at h
 cases hk:okZ g with
 | false=>rw [hk] at h;cases h
 | true=>rw [hk] at h;exact ⟨rfl,h⟩
def apZh {α:Type} (T:List (TypeId×TD)) (E:En α) (v:List α) (g:Cfg):List (Nat×AObj):=match ko9 (apOf T) g with
 | some q=>(q.id, .frow q.e q.size (v.map E.f))::(kh0 g).heap
 | none=>[]
def apGZ {α:Type} (T:List (TypeId×TD)) (E:En α) (v:List α) (g:Cfg):Cfg:=match ko9 (apOf T) g with
 | some q=>rsmZ (.row q.id v.length) (apZh T E v g) (kh0 g).ids g
 | none=>⟨.bad,g.ks,g.st⟩
theorem apZ {α:Type} {bytes:Nat} {xs ys:List α} {K:List α→Option β} (E:En α) (k:Nat) (h:Option.bind (app bytes xs ys) K=some r) (hc:apK (ko9 (apOf t.T) (crun P k g))=some (bytes,xs.length,xs.map E.f,ys.map E.f))
  (hi:idsZ (kh0 (crun P k g)).ids (crun P k g)=true) (hk:∀ v,offZ (crun P k g) (apZh t.T E v (crun P k g))=offZ (crun P k g) (hpZ (crun P k g))) (hw:∀ v,K v=some r→W P (apGZ t.T E v (crun P k g)) Q):W P g Q:=by
 obtain ⟨v,h1,h2⟩:=qi.1 h
 have hw:=hw v h2
 have hk:=hk v
 unfold apK at hc
 split at hc
 ·rename_i q hq
  simp only [qh,qad] at hc
  obtain ⟨rfl,e1,e2,e3⟩:=hc
  unfold apGZ at hw
  rw [hq] at hw
  obtain ⟨hok,hz⟩:=kvy hq
  refine zst k ?_ hok hi hk hw
  obtain ⟨X,Y,ty,d,de,m,k1,k2,k3,k4,k5,k6,k7,k8,k9,k10,k11⟩:=k7h hz h1 e1 e2 e3
  unfold apZh
  rw [hq]
  simp only
  rw [← k5]
  exact k5o (enc:=E.f) h1 t.ok k1 k2 k3 k4 k6 k7 k8 k9 k10 rfl k11
 ·cases hc
theorem hclZ {α:Type} {E:Option α} {K:α→Option β} {f:FuncId} {as_:List AV} {pre:List (Nat×AObj)} {ids0 ids1:List Nat} {res:α→AV} {post:α→List (Nat×AObj)} (k:Nat) (cs:List C1) (r1 r2:List (Nat×Nat)) (keys:List Nat) (h:Option.bind E K=some r)
  (hp:∀ v,E=some v→kat P f as_ pre ids0 (.ret (res v)) (post v) ids1) (hc:∀ v,ko9 (hcOf cs r1 r2 keys ids0 ids1 (post v)) (crun P k g)=some (f,as_,pre)) (hi:idsZ (renI r2 ids1++(kh0 (crun P k g)).ids) (crun P k g)=true)
  (hk:∀ v,offZ (crun P k g) (renH r2 (post v)++kji (renI r2 ids0) (kh0 (crun P k g)).heap)=offZ (crun P k g) (hpZ (crun P k g)))
  (hw:∀ v,K v=some r→W P (rsmZ (renA r2 (res v)) (renH r2 (post v)++kji (renI r2 ids0) (kh0 (crun P k g)).heap) (renI r2 ids1++(kh0 (crun P k g)).ids) (crun P k g)) Q):W P g Q:=by
 obtain ⟨v,h1,h2⟩:=qi.1 h
 obtain ⟨hok,hz⟩:=kvy (hc v)
 obtain ⟨x,args,ts,cap,as1,as2,e1,e2,e3,e4,rfl,e5,e6⟩:=k0y hz
 exact zst k (kaak r1 r2 e1 e2 (hp v h1) e3 e4 e5 e6) hok hi (hk v) (hw v h2)
theorem hclSZ {α α':Type} {E:Option (α ⊕ α')} {K1:α→Option β} {K2:α'→Option β} {f:FuncId} {as_:List AV} {pre:List (Nat×AObj)} {ids0 ids1 ids2:List Nat} {res:α→AV} {post:α→List (Nat×AObj)} {pv:α'→Value} {post2:α'→List (Nat×AObj)} (k:Nat) (cs:List C1) (r1 r2:List (Nat×Nat)) (keys:List Nat)
  (h:Option.bind E (fun v=>Sum.elim K1 K2 v)=some r) (hp:∀ v,E=some v→Sum.elim (fun v=>kat P f as_ pre ids0 (.ret (res v)) (post v) ids1) (fun v=>kat P f as_ pre ids0 (.pan (pv v)) (post2 v) ids2) v)
  (hc:∀ v,ko9 (hcOf cs r1 r2 keys ids0 ids1 (post v)) (crun P k g)=some (f,as_,pre)) (hc2:∀ v,ko9 (hcOf cs r1 r2 keys ids0 ids2 (post2 v)) (crun P k g)=some (f,as_,pre)) (hi:idsZ (renI r2 ids1++(kh0 (crun P k g)).ids) (crun P k g)=true)
  (hk:∀ v,offZ (crun P k g) (renH r2 (post v)++kji (renI r2 ids0) (kh0 (crun P k g)).heap)=offZ (crun P k g) (hpZ (crun P k g)))
  (hw2:∀ v,K2 v=some r→W P ⟨.fin (.panic [pnE (pv v)]),[],{ stOf (crun P k g) with tmps:=[],heap:=renH r2 (post2 v)++kji (renI r2 ids0) (kh0 (crun P k g)).heap,ids:=renI r2 ids2++(kh0 (crun P k g)).ids }⟩ Q)
  (hd:∀ v,K2 v=some r→W P (rsmP (crun P k g)) Q)
  (hw:∀ v,K1 v=some r→W P (rsmZ (renA r2 (res v)) (renH r2 (post v)++kji (renI r2 ids0) (kh0 (crun P k g)).heap) (renI r2 ids1++(kh0 (crun P k g)).ids) (crun P k g)) Q):W P g Q:=by
 obtain ⟨v,h1,h2⟩:=qi.1 h
 have hp:=hp v h1
 cases v with
 | inl v=>exact hclZ k cs r1 r2 keys (E:=some v) (K:=fun v=>K1 v) h2 (res:=res) (post:=post) (fun v' hv=>by injection hv with hv;subst hv;exact hp) hc hi hk hw
 | inr v=>
  obtain ⟨hok,hz⟩:=kvy (hc2 v)
  obtain ⟨x,args,ts,cap,as1,as2,e1,e2,e3,e4,rfl,e5,e6⟩:=k0y hz
  exact zpn k (h_pn r1 r2 e1 e2 hp e3 e4 e5 e6) hok (hw2 v h2) (hd v h2)
theorem clL {α:Type} {E:Option α} {K:α→Option β} {f:FuncId} {ys:List FV} {y:α→FV} (k:Nat) (ls:List LendI) (h:Option.bind E K=some r) (hp:∀ v,E=some v→kae P f ys (y v)) (hl:∀ l∈ls,l.ok (k2z (crun P k g)))
  (hc:kuu (fun o st=>clOf t.T o (kag0 ls st)) (crun P k g)=some (f,ys)) (ha:∀ v,kagp (y v)=true) (hw:∀ v,K v=some r→W P (rsm (.fz (y v)) (crun P k g)) Q):W P g Q:=by
 obtain ⟨v,h1,h2⟩:=qi.1 h
 refine kck (k:=k) ?_
 have hw:=hw v h2
 generalize crun P k g=g' at *
 unfold kuu at hc
 split at hc
 ·rename_i p hv
  obtain ⟨o,st⟩:=p
  obtain ⟨e1,e2⟩:=k5a hv
  rw [e2] at hl
  refine k3v hv (kaky ls hl ?_ (ha v)) hw
  unfold clOf at hc
  simp only at hc
  split at hc
  ·rename_i c ho
   split at hc
   ·rename_i f' hf
    split at hc
    ·rename_i ys' hy
     simp only [qh,qad] at hc
     obtain ⟨rfl,rfl⟩:=hc
     obtain ⟨cc,as_,ts⟩:=c
     simp only at hf
     subst hf
     exact kaaz ho hy (hp v h1)
    ·cases hc
   ·cases hc
  ·cases hc
 ·cases hc
end
end Go.Proofs.YtaimpcnpifoidaaGreatDoor
