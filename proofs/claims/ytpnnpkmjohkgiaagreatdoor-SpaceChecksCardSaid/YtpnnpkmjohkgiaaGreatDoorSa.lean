import Derived.Test.YtpnnpkmjohkgiaaGreatDoorDd
import Derived.Test.YtpnnpkmjohkgiaaGreatDoorXm
set_option linter.all false
set_option maxRecDepth 100000
namespace Go.Proofs.YtpnnpkmjohkgiaaGreatDoor
open Go Go.RowKit
def ilk {α:Type} (m:List (Int×α)) (k:Int):Option α:=(imf k m 0).map (·.2)
theorem k1e {α:Type} (m:List (Int×α)) (k:Int):ihas m k=(ilk m k).isSome:=by unfold ihas ilk;cases imf k m 0 <;> rfl
theorem k19 {α:Type} (m:List (Int×α)) (k:Int) (z:α):iget m k z=(ilk m k).getD z:=by unfold iget ilk;cases imf k m 0 <;> rfl
theorem kpm {α:Type} (k:Int):∀ (m:List (Int×α)) (i:Nat),imf k m (i+1)=(imf k m i).map fun p=>(p.1+1,p.2)
 | [],_=>rfl
 | (k',x)::l,i=>by
  simp only [imf];cases k == k' with
  | true=>rfl
  | false=>exact kpm k l (i+1)
theorem kj3 {α:Type} (k':Int) (x:α) (l:List (Int×α)) (k:Int):ilk ((k',x)::l) k=if k=k' then some x else ilk l k:=by
 unfold ilk;simp only [imf];by_cases h:k=k';subst h;simp
 ·rw [ql h,show (k == k')=false by simp [h],qe,kpm];cases imf k l 0 <;> rfl
theorem kza {α:Type} (k':Int) (x:α) (l:List (Int×α)) (k:Int) (y:α):iput ((k',x)::l) k y=if k=k' then (k,y)::l else (k',x)::iput l k y:=by
 unfold iput;simp only [imf];by_cases h:k=k';subst h;simp
 ·rw [ql h,show (k == k')=false by simp [h],qe,kpm];cases imf k l 0 <;> rfl
theorem kpl {α:Type} (k:Int) (y:α) (r:Int):∀ m:List (Int×α),ilk (iput m k y) r=if r=k then some y else ilk m r
 | []=>by show ilk [(k,y)] r=_;rw [kj3]
 | (k',x)::l=>by
  rw [kza];by_cases h:k=k'
  ·rw [qq h,kj3,kj3];subst h;by_cases a:r=k;rw [qq a,qq a]
   ·rw [ql a,ql a,ql a]
  ·rw [ql h,kj3,kj3,kpl k y r l];by_cases a:r=k';subst a;rw [qq rfl,ql (fun e=>h e.symm),qq rfl]
   ·rw [ql a,ql a]
theorem cmpN (a b:Int):ke4 a b=some (if a<b then -1 else if b<a then 1 else 0):=by
 simp only [ke4,kgn,bne_self_eq_false,qb,qe];by_cases h1:a<b;rw [qk h1,qq h1];rfl
 ·rw [qi h1,ql h1];by_cases c:b<a;rw [qk c,qq c];rfl
  ·rw [qi c,ql c];rfl
theorem k7g (x y:Int):kig [x,y]=some (if x≠0 then x else y):=by
 unfold kig;have h:kac (kfo [x,y]) fuel 0=some (if x≠0 then .inr x else if y≠0 then .inr y else .inl ()):=by
  have h0:kfo [x,y] 0=if x≠0 then some (.inr (.inr x)) else some (.inl 1):=by
   have e:idx [x,y] 0=some x:=kaj [x,y] 0;show (bif decide ((0:Int)<(([x,y]:List Int).length:Int)) then _ else _)=_;rw [show decide ((0:Int)<(([x,y]:List Int).length:Int))=true from rfl,qd,e,qb];by_cases a:x=0;subst a;rfl
   ·rw [show (x != 0)=true by rw [bne_iff_ne];exact a,qq a];rfl
  have h1:kfo [x,y] 1=if y≠0 then some (.inr (.inr y)) else some (.inl 2):=by
   have e:idx [x,y] 1=some y:=kaj [x,y] 1;show (bif decide ((1:Int)<(([x,y]:List Int).length:Int)) then _ else _)=_;rw [show decide ((1:Int)<(([x,y]:List Int).length:Int))=true from rfl,qd,e,qb];by_cases hy:y=0;subst hy;rfl
   ·rw [show (y != 0)=true by rw [bne_iff_ne];exact hy,qq hy];rfl
  have b:kfo [x,y] 2=some (.inr (.inl ())):=rfl;rw [show fuel=18446744073709551613+1+1+1 from rfl,kac,h0];by_cases a:x=0
  ·rw [ql (by simpa using a),ql (by simpa using a)];simp only;rw [kac,h1];by_cases hy:y=0;rw [ql (by simpa using hy),ql (by simpa using hy)];simp only;rw [kac,b]
   ·rw [qq hy,qq hy]
  ·rw [qq a,qq a]
 rw [h,qb];by_cases a:x=0 <;> by_cases hy:y=0 <;> simp [a,hy]
def lexQ:List Int->List Int->Unit ⊕ Int
 | x::xs,y::ys=>if x<y then .inr (-1) else if y<x then .inr 1 else lexQ xs ys
 | _::_,[] => .inr 1
 | [],_ => .inl ()
theorem kr9:∀ xs ys:List Int,cmpI xs ys=Sum.elim (fun _=>if xs.length<ys.length then -1 else 0) id (lexQ xs ys)
 | [],[]=>rfl
 | [],_::_=>by simp [cmpI,lexQ]
 | _::_,[]=>by simp [cmpI,lexQ]
 | x::xs,y::ys=>by
  simp only [cmpI,lexQ];split;rfl
  ·split;rfl
   ·rw [kr9 xs ys];congr 1;funext u;simp
theorem k8c (x y:List Int) (e:x.length<=9223372036854775807):kdl x y=some (cmpI x y):=by
 unfold kdl;have h:=kgb (step:=kb9 x y) x.length (by omega) (fun i=>(i:Int)) (fun i=>lexQ (x.drop i) (y.drop i)) (fun i a=>by
  simp only [kb9,kdf a,qd,kaj,qa a,qb,kbs a e,qak a];by_cases b:i<y.length
  ·rw [qi (show ¬ (y.length:Int)<=(i:Int) by omega),qe];simp only [qa b,qb,qak b,lexQ,cmpN];by_cases h1:x[i]<y[i];simp only [qq h1];exact .inr rfl
   ·simp only [ql h1];by_cases d:y[i]<x[i];simp only [qq d];exact .inr rfl
    ·simp only [ql d];first | exact .inl ⟨rfl,rfl⟩ | exact .inl ⟨rfl,trivial⟩
  ·rw [qk (show (y.length:Int)<=(i:Int) by omega),qd,qa5 (show y.length<=i by omega)];exact .inr rfl) (by
  simp only [kb9,kcn,qe,List.drop_length,lexQ])
 have f:kac (kb9 x y) fuel 0=some (lexQ x y):=by simpa using h
 rw [f,qb,kr9];cases lexQ x y with
 | inr c=>rfl
 | inl u=>
  simp only [qf];by_cases h1:x.length<y.length;rw [qk (by omega),qq h1];rfl
  ·rw [qi (by omega),ql h1];rfl
theorem k57 (a b:Opn) (ha:a.f_Args.length<=9223372036854775807):kdc a b=some (kge a b):=by
 unfold kdc kge;rw [cmpN,qb,k8c _ _ ha,qb,k7g,qb];congr 1;by_cases h1:a.f_Rule<b.f_Rule;rw [qq h1,qq (by omega),qq (by omega)];simp [cmpI,h1]
 ·by_cases c:b.f_Rule<a.f_Rule;rw [ql h1,qq c,qq (by omega),qq (by omega)];simp [cmpI,h1,c]
  ·rw [ql h1,ql c,ql (by omega),ql (by omega)]
theorem asc_p (l:List Int) (n:Nat) (hl:l.length<=9223372036854775807):Ev (kfp l (n:Int)) fun b=>b=true↔AscP l n:=by
 have h:kfr l (n:Int)=ka4 l (n:Int):=by
  funext v;simp only [kfr,ka4];cases decide (v<(l.length:Int)) with
  | false=>rfl
  | true=>cases idx l v <;> rfl
 unfold kfp;rw [h];exact kvu l n hl
theorem krk (x y:List Int) (c:x.length<=9223372036854775807):ka2 x y=some (decide (x=y)):=by
 unfold ka2;by_cases hl:x.length=y.length
 ·rw [show ((x.length:Int) != (y.length:Int))=false by simp [hl],qe];rcases kji (step:=kbz x y) x.length (by omega) (fun i=>decide (x[i]?≠y[i]?)) (fun _ => .inr false) (.inl ()) (fun i hi=>by
   have b:i<y.length:=(by omega);simp only [kbz,kdf hi,qd,kaj,qa hi,qa b,qb,kbs hi c];by_cases h:x[i]=y[i];rw [show (x[i] != y[i])=false by simp [h],ql (by simp [h])];rfl
   ·rw [show (x[i] != y[i])=true by simp [h],qq (by simp [h])];rfl) (by simp only [kbz,kcn,qe]) with ⟨i,hi,a,_,hr⟩ | ⟨a,hr⟩
  rw [hr];rw [qa3] at a;rw [qi (fun e=>a (by rw [e]))];rfl
  ·rw [hr];have:x=y:=List.ext_getElem? fun i=>by
    by_cases hi:i<x.length;have:=a i hi;simpa using this
    ·rw [qax (by omega),qax (by omega)]
   rw [qk this];rfl
 ·rw [show ((x.length:Int) != (y.length:Int))=true by simp;omega,qd,qi (fun e=>hl (by rw [e]))]
def shp (ns:List Nod) (i:Nat) (o:Opn):List Int:=syAt ns (i:Int)::o.f_Args.map (syAt ns)
theorem shp_sgn {ns:List Nod} {i k:Nat} {o p:Opn}:shp ns i o=shp ns k p↔sgn ns i o=sgn ns k p:=by unfold shp sgn;simp
theorem kv5 {s:Spa} {i:Nat} {n:Nod} {o:Opn} (hn:s.f_Nodes[i]?=some n) (b:∀ a∈o.f_Args,0<=a/\a<(s.f_Nodes.length:Int)) (hl:o.f_Args.length<=1000):kfn s n o=some (shp s.f_Nodes i o):=by
 unfold kfn;have h:=kmc (step:=kem s o) o.f_Args.length (by omega) (fun k=>((k:Int),n.f_Symbol::(o.f_Args.take k).map (syAt s.f_Nodes))) (shp s.f_Nodes i o) (fun k hk=>by
  obtain ⟨m,e1,e2,_,e3⟩:=khv (ns:=s.f_Nodes) (b _ (qs hk)).1 (b _ (qs hk)).2;simp only [kem,kdf hk,qd,kaj,qa hk,qb,e1,kbs hk (show o.f_Args.length<=9223372036854775807 by omega)];rw [kpz (by simp;omega),qb,List.take_succ_eq_append_getElem hk,List.map_append];simp [e3]) (by
  simp only [kem,kcn,qe,List.take_length];unfold shp;rw [kgh hn])
 have c:kac (kem s o) fuel (0,([n.f_Symbol]:List Int))=some (shp s.f_Nodes i o):=by simpa using h
 rw [c,qb]
theorem k7t {s:Spa} {i:Nat} {n:Nod} {o:Opn} (v4:Int×Int×List (Int×List Int)) (hv:v4.2.1=(i:Int)) (hn:s.f_Nodes[i]?=some n) (g:∀ (k:Nat) (m:Nod),k<=i->s.f_Nodes[k]?=some m->1<=m.f_Size/\m.f_Size<=24) (p:o.f_Args.length<=9223372036854775807):
  Ev (kac (ke0 s v4 o) fuel (1,0)) fun r=>(∃ z,r = .inl z/\o.f_Args.length<=48/\(∀ a∈o.f_Args,0<=a/\a<(i:Int))/\z=1+(o.f_Args.map (szAt s.f_Nodes)).sum)\/(r = .inr false/\¬ OptP s.f_Nodes i n o):=by
 have hi:=(qg.1 hn).1;have q:=g i n (qy _) hn;have b:∀ a:Int,0<=a->a<(i:Int)->∃ m,idx s.f_Nodes a=some m/\szAt s.f_Nodes a=m.f_Size/\1<=m.f_Size/\m.f_Size<=24:=fun a h0 h1=>by obtain ⟨m,e1,e2,e3,_⟩:=khv (ns:=s.f_Nodes) h0 (by omega);have:=g a.toNat m (by omega) e2;exact ⟨m,e1,e3,this.1,this.2⟩
 refine kfx (xs:=o.f_Args) (step:=ke0 s v4 o) (Q:=fun r=>(∃ z,r = .inl z/\o.f_Args.length<=48/\(∀ a∈o.f_Args,0<=a/\a<(i:Int))/\z=1+(o.f_Args.map (szAt s.f_Nodes)).sum)\/(r = .inr false/\¬ OptP s.f_Nodes i n o))
  (fun (j:Nat) (z:Int)=>(z,(j:Int))) (fun j z=>(∀ a∈o.f_Args.take j,0<=a/\a<(i:Int))/\z=1+((o.f_Args.take j).map (szAt s.f_Nodes)).sum/\(j:Int)+1<=z/\z<=48) p ⟨by simp,by simp,by omega,by omega⟩ (fun j z c ⟨h1,l,t,u⟩=>?_) (fun z ⟨h1,l,t,u⟩=>?_)
 ·simp only [ke0,kdf c,qd,kaj,qa c,qb,kbs c p,hv];by_cases b1:o.f_Args[j]<0;refine ⟨.inr (.inr false),by simp [b1], .inr ⟨rfl,fun d=>?_⟩⟩;have:=(d.args _ (qs c)).1;omega
  ·by_cases b2:(i:Int)<=o.f_Args[j];refine ⟨.inr (.inr false),by simp [b1,b2], .inr ⟨rfl,fun d=>?_⟩⟩;have:=(d.args _ (qs c)).2;omega
   ·by_cases b3:24<z;refine ⟨.inr (.inr false),by simp [b1,b2,b3], .inr ⟨rfl,fun d=>?_⟩⟩;have v:=d.size;rw [ksd _ _ j] at v;have x:=kmf (f:=szAt s.f_Nodes) (o.f_Args.drop j) fun a ha=>(by have h:=d.args a (qaz ha);obtain ⟨m,_,e,w,_⟩:=b a h.1 h.2;omega);omega
    ·obtain ⟨m,e1,e2,w,y⟩:=b o.f_Args[j] (by omega) (by omega);have e3:w64 (z+m.f_Size)=z+m.f_Size:=kje (by omega) (by omega);refine ⟨.inl (z+m.f_Size,((j+1:Nat):Int)),by simp [b1,b2,b3,e1,e3],z+m.f_Size,rfl,fun a ha=>?_,?_,by omega,by omega⟩
     ·rw [List.take_succ_eq_append_getElem c,qao,qbb] at ha;rcases ha with ha | rfl;exact h1 a ha
      ·omega
     ·rw [ktb _ c];omega
 ·refine ⟨_,by simp only [ke0,kcn,qe],_,rfl, .inl ⟨z,rfl,by omega,?_,?_⟩⟩;rw [List.take_length] at h1;exact h1
  ·rw [List.take_length] at l;exact l
structure MI (ns:List Nod) (vis:Nat->Opn->Prop) (m:List (Int×List Int)):Prop where
 here:∀ r x,ilk m r=some x->∃ i o,vis i o/\o.f_Rule=r/\x=shp ns i o
 all:∀ i o,vis i o->ilk m o.f_Rule=some (shp ns i o)
theorem MI.congr {ns:List Nod} {v v':Nat->Opn->Prop} {m:List (Int×List Int)} (h:MI ns v m) (hv:∀ i o,v i o↔v' i o):MI ns v' m:=
 ⟨fun r x a=>let ⟨i,o,h1,b⟩:=h.here r x a;⟨i,o,(hv _ _).1 h1,b⟩,fun i o c=>h.all i o ((hv _ _).2 c)⟩
theorem k4t {ns:List Nod} {i:Nat} {n:Nod} (hn:ns[i]?=some n) (i':Nat) (o:Opn):visO ns i n.f_Options.length i' o↔visO ns (i+1) 0 i' o:=by
 constructor;rintro ⟨m,k',h1,b,a⟩;refine ⟨m,k',h1,b, .inl ?_⟩;rcases a with a | ⟨a,_⟩ <;> omega
 ·rintro ⟨m,k',h1,b,a⟩;refine ⟨m,k',h1,b,?_⟩;rcases a with a | ⟨_,a⟩
  ·by_cases c:i'=i;subst c;rw [hn] at h1;cases h1;exact .inr ⟨rfl,keu b⟩
   ·exact .inl (by omega)
  ·omega
theorem k7k {s:Spa} (J:kn4 s) {i:Nat} {n:Nod} (v4:Int×Int×List (Int×List Int)) (hv:v4.2.1=(i:Int)) (hn:s.f_Nodes[i]?=some n) (K:∀ (k:Nat) (m:Nod),k<=i->s.f_Nodes[k]?=some m->1<=m.f_Size/\m.f_Size<=24) {m:List (Int×List Int)} (hm:MI s.f_Nodes (visO s.f_Nodes i 0) m):
  Ev (kac (kex s v4 n) fuel (0,m)) fun r=>(∃ m',r = .inl m'/\MI s.f_Nodes (visO s.f_Nodes (i+1) 0) m'/\(∀ o∈n.f_Options,OptP s.f_Nodes i n o)/\∀ (k:Nat) (o p:Opn),n.f_Options[k]?=some o->n.f_Options[k+1]?=some p->kge o p<0)\/(r = .inr false/\¬ kgd s):=by
 have e:=qt hn;have hi:=(qg.1 hn).1;have T:=J.opts n e;refine kfx (xs:=n.f_Options) (step:=kex s v4 n) (Q:=fun r=>(∃ m',r = .inl m'/\MI s.f_Nodes (visO s.f_Nodes (i+1) 0) m'/\(∀ o∈n.f_Options,OptP s.f_Nodes i n o)/\∀ (k:Nat) (o p:Opn),n.f_Options[k]?=some o->n.f_Options[k+1]?=some p->kge o p<0)\/(r = .inr false/\¬ kgd s))
  (fun (k:Nat) (m:List (Int×List Int))=>((k:Int),m)) (fun k m=>MI s.f_Nodes (visO s.f_Nodes i k) m/\(∀ (j:Nat) (o:Opn),j<k->n.f_Options[j]?=some o->OptP s.f_Nodes i n o)/\∀ (j:Nat) (o p:Opn),j+1<k->n.f_Options[j]?=some o->n.f_Options[j+1]?=some p->kge o p<0) (t0:=m) (by omega) ⟨hm,fun j o h=>by omega,fun j o p h=>by omega⟩ (fun k m hk ⟨h0,h1,L⟩=>?_) (fun m ⟨h0,h1,L⟩=>?_)
 ·have f:=qa hk;have l:=qs hk;have U:=J.args n e _ l;simp only [kex,kdf hk,qd,kaj,f,qb,kbs hk (show n.f_Options.length<=9223372036854775807 by omega)];by_cases b1:n.f_Options[k].f_Rule<0;simp only [qk b1,qd,qb];refine ⟨_,rfl, .inr ⟨rfl,fun h=>?_⟩⟩;have:=((h.node i n hn).opt _ l).rule;omega
  ·simp only [qi b1,qe]
   -- the order
   have D:Ev (bif decide ((0:Int)<(k:Int)) then Option.bind (idx n.f_Options (w64 ((k:Int) - 1))) fun v10=>Option.bind (kdc v10 n.f_Options[k]) fun v11=>some (decide (0<=v11)) else some false) fun b=>(b=false/\(∀ (j:Nat) (o p:Opn),j+1<k+1->n.f_Options[j]?=some o->n.f_Options[j+1]?=some p->kge o p<0))\/(b=true/\¬ kgd s):=by
    by_cases h0:0<k
    ·have E:k - 1<n.f_Options.length:=(by omega);have e1:w64 ((k:Int) - 1)=((k - 1:Nat):Int):=(by rw [kje (by omega) (by omega)];omega);have w:=qa E;have P:=J.args n e _ (qs E);simp only [qk (show (0:Int)<(k:Int) by omega),qd,e1,kaj,w,qb];rw [k57 _ _ (by omega),qb];by_cases R:kge n.f_Options[k - 1] n.f_Options[k]<0
     ·refine ⟨_,rfl, .inl ⟨qi (by omega),fun j o p F c y=>?_⟩⟩;by_cases A:j+1=k;have M:j=k - 1:=(by omega);subst M;rw [w] at c;cases c;rw [A,f] at y;cases y;exact R
      ·exact L j o p (by omega) c y
     ·refine ⟨_,rfl, .inr ⟨qk (by omega),fun h=>?_⟩⟩;exact R ((h.node i n hn).asc (k - 1) _ _ w (by rw [show k - 1+1=k by omega];exact f))
    ·simp only [qi (show ¬ (0:Int)<(k:Int) by omega),qe];exact ⟨false,rfl, .inl ⟨rfl,fun j o p F=>by omega⟩⟩
   refine kgp (Ev.mono D ?_);rintro b (⟨rfl,G⟩ | ⟨rfl,q⟩)
   ·simp only [qe];refine kgp (Ev.mono (k7t v4 hv hn K (o:=n.f_Options[k]) (by omega)) ?_);rintro r (⟨z,rfl,V,ha,S⟩ | ⟨rfl,q⟩)
    ·simp only [qf];have N:∀ a∈n.f_Options[k].f_Args,0<=a/\a<(s.f_Nodes.length:Int):=fun a h=>(by have:=ha a h;omega);rw [kv5 hn N (by omega),qb];by_cases t:z=n.f_Size
     ·have X:OptP s.f_Nodes i n n.f_Options[k]:=⟨by omega,ha,by rw [<- S];exact t⟩;rw [show (z != n.f_Size)=false by simp [t],qe];have fin:∀ m',MI s.f_Nodes (visO s.f_Nodes i (k+1)) m'->m'=iput m n.f_Options[k].f_Rule (shp s.f_Nodes i n.f_Options[k])->∃ t',(((k+1:Nat):Int),m')=(((k+1:Nat):Int),t')/\MI s.f_Nodes (visO s.f_Nodes i (k+1)) t'/\(∀ (j:Nat) (o:Opn),j<k+1->n.f_Options[j]?=some o->OptP s.f_Nodes i n o)/\∀ (j:Nat) (o p:Opn),j+1<k+1->n.f_Options[j]?=some o->n.f_Options[j+1]?=some p->kge o p<0:=fun m' Y _=>by
       refine ⟨m',rfl,Y,fun j o F c=>?_,G⟩;by_cases A:j=k;subst A;rw [f] at c;cases c;exact X
       ·exact h1 j o (by omega) c
      have u:(∀ x,ilk m n.f_Options[k].f_Rule=some x->x=shp s.f_Nodes i n.f_Options[k])->MI s.f_Nodes (visO s.f_Nodes i (k+1)) (iput m n.f_Options[k].f_Rule (shp s.f_Nodes i n.f_Options[k])):=fun B=>by
       refine ⟨fun r x d=>?_,fun i' o' C=>?_⟩
       ·rw [kpl] at d;by_cases hr:r=n.f_Options[k].f_Rule;rw [qq hr] at d;injection d with d;exact ⟨i,_,(kg1 hn f i _).2 (.inr ⟨rfl,rfl⟩),hr.symm,d.symm⟩
        ·rw [ql hr] at d;obtain ⟨i',o',g1,g2,g3⟩:=h0.here r x d;exact ⟨i',o',(kg1 hn f i' o').2 (.inl g1),g2,g3⟩
       ·rw [kpl];rcases (kg1 hn f i' o').1 C with C | ⟨rfl,rfl⟩
        ·have g:=h0.all i' o' C;by_cases hr:o'.f_Rule=n.f_Options[k].f_Rule;rw [qq hr];rw [hr] at g;rw [B _ g]
         ·rw [ql hr];exact g
        ·rw [qq rfl]
      rw [k1e,k19];cases hl:ilk m n.f_Options[k].f_Rule with
      | none=>
       simp only [Option.isSome_none,qe,qb];refine ⟨_,rfl,fin _ (u fun x d=>by rw [hl] at d;cases d) rfl⟩
      | some x=>
       simp only [Option.isSome_some,qd,qaf];obtain ⟨i',o',g1,g2,g3⟩:=h0.here _ _ hl;obtain ⟨n',H,v⟩:=kvz g1;have O:x.length<=9223372036854775807:=(by rw [g3];unfold shp;have:=J.args n' (qt H) o' v;simp;omega);rw [krk _ _ O,qb,qb];by_cases d:x=shp s.f_Nodes i n.f_Options[k];rw [qk d];refine ⟨_,rfl,fin _ (u fun x' I=>by rw [hl] at I;cases I;exact d) rfl⟩
       ·rw [qi d];refine ⟨_,rfl, .inr ⟨rfl,fun h=>d ?_⟩⟩;rw [g3,shp_sgn];exact conP_iff.1 h.con i' i n' n o' _ H hn v l g2
     ·rw [show (z != n.f_Size)=true by simp [t],qd,qb];refine ⟨_,rfl, .inr ⟨rfl,fun h=>t ?_⟩⟩;rw [S];exact ((h.node i n hn).opt _ l).size
    ·exact ⟨_,rfl, .inr ⟨rfl,fun h=>q ((h.node i n hn).opt _ l)⟩⟩
   ·exact ⟨_,rfl, .inr ⟨rfl,q⟩⟩
 ·refine ⟨_,by simp only [kex,kcn,qe],_,rfl, .inl ⟨m,rfl,h0.congr (k4t hn),fun o f=>?_,fun k o p f hp=>L k o p (keu hp) f hp⟩⟩;obtain ⟨j,F⟩:=qaj.1 f;exact h1 j o (keu F) F
theorem k7d {s:Spa} (g:kn4 s):Ev (kgy s) fun b=>b=true↔kgd s:=by
 unfold kgy;have t:=g.nodes;by_cases h1:s.f_Nodes.length<=4096
 ·have e1:decide ((4096:Int)<(s.f_Nodes.length:Int))=false:=qi (by omega);obtain ⟨b,l,f⟩:=asc_p s.f_Roots s.f_Nodes.length (by have:=g.roots;omega);simp only [e1,qe,l,qb];cases b with
  | false=>exact ⟨false,rfl,⟨fun h=>absurd h qah,fun h=>absurd (f.2 h.roots) qah⟩⟩
  | true=>
   have d:=f.1 rfl;simp only [qa9,qe];refine kgp (Ev.mono (kfx (xs:=s.f_Nodes) (step:=kfu s) (Q:=fun r=>(r = .inl ()/\kgd s)\/(r = .inr false/\¬ kgd s))
    (fun (i:Nat) (c:Int×List (Int×List Int))=>(c.1,(i:Int),c.2)) (fun i c=>c.1=(optN (s.f_Nodes.take i):Int)/\optN (s.f_Nodes.take i)<=32768/\MI s.f_Nodes (visO s.f_Nodes i 0) c.2/\∀ (k:Nat) (n:Nod),k<i->s.f_Nodes[k]?=some n->NodP s.f_Nodes k n) (t0:=(0,[])) (by omega) ⟨by simp [optN],by simp [optN],⟨fun r x h=>(by cases h),fun i o h=>?_⟩,fun k n h=>by omega⟩ (fun i c hi ⟨c1,c2,c3,c4⟩=>?_) (fun c ⟨c1,c2,c3,c4⟩=>?_)) ?_)
   obtain ⟨n,k',_,_,h | ⟨_,h⟩⟩:=h <;> omega
   ·obtain ⟨c0,m⟩:=c;simp only at c1 c3;subst c1;have hn:=qa hi;have u:=g.opts _ (qs hi);have e2:w64 ((optN (s.f_Nodes.take i):Int)+(s.f_Nodes[i].f_Options.length:Int))=(optN (s.f_Nodes.take (i+1)):Int):=(by rw [ki2 hi,kje (by omega) (by omega)];omega);simp only [kfu,kdf hi,qd,kaj,hn,qb,e2,kbs hi (show s.f_Nodes.length<=9223372036854775807 by omega)];by_cases b2:s.f_Nodes[i].f_Symbol<0;simp only [qk b2,qd,qb];refine ⟨_,rfl, .inr ⟨rfl,fun h=>?_⟩⟩;have:=(h.node i _ hn).sym;omega
    ·simp only [qi b2,qe];by_cases b3:s.f_Nodes[i].f_Size<1;simp only [qk b3,qd,qb];refine ⟨_,rfl, .inr ⟨rfl,fun h=>?_⟩⟩;have:=(h.node i _ hn).size;omega
     ·simp only [qi b3,qe];by_cases b4:24<s.f_Nodes[i].f_Size;simp only [qk b4,qd,qb];refine ⟨_,rfl, .inr ⟨rfl,fun h=>?_⟩⟩;have:=(h.node i _ hn).size;omega
      ·simp only [qi b4,qe,qb];by_cases b1:(32768:Int)<(optN (s.f_Nodes.take (i+1)):Int);simp only [qk b1,qd];refine ⟨_,rfl, .inr ⟨rfl,fun h=>?_⟩⟩;have j:=h.opts;have q:=kif s.f_Nodes (i+1);omega
       ·simp only [qi b1,qe];refine kgp (Ev.mono (k7k g _ rfl hn (fun k m hk hm=>?_) c3) ?_)
        ·by_cases e:k=i;subst e;rw [hn] at hm;cases hm;omega
         ·exact (c4 k m (by omega) hm).size
        ·rintro r (⟨m',rfl,j,q,v⟩ | ⟨rfl,j⟩)
         ·refine ⟨_,rfl,(_,m'),rfl,rfl,by omega,j,fun k m hk hm=>?_⟩;by_cases e:k=i;subst e;rw [hn] at hm;cases hm;exact ⟨by omega,by omega,q,v⟩
          ·exact c4 k m (by omega) hm
         ·exact ⟨_,rfl, .inr ⟨rfl,j⟩⟩
   refine ⟨_,by simp only [kfu,kcn,qe],_,rfl, .inl ⟨rfl,h1,d,fun i n hn=>c4 i n (keu hn) hn,by rw [List.take_length] at c2;exact c2,conP_iff.2 fun i k n m o p hn hm w hp hr=>?_⟩⟩;obtain ⟨a,ha⟩:=qaj.1 w;obtain ⟨b,l⟩:=qaj.1 hp;have g1:=c3.all i o ⟨n,a,hn,ha, .inl (keu hn)⟩;have g2:=c3.all k p ⟨m,b,hm,l, .inl (keu hm)⟩;rw [hr,g2] at g1;exact (shp_sgn.1 (qab g1)).symm
   ·rintro r (⟨rfl,h⟩ | ⟨rfl,h⟩);exact ⟨true,rfl,⟨fun _=>h,fun _=>rfl⟩⟩
    ·exact ⟨false,rfl,⟨fun h=>absurd h qah,fun y=>absurd y h⟩⟩
 ·have e1:decide ((4096:Int)<(s.f_Nodes.length:Int))=true:=qk (by omega);simp only [e1,qd,qb];exact ⟨false,rfl,⟨fun h=>absurd h qah,fun h=>absurd h.nodes h1⟩⟩
end Go.Proofs.YtpnnpkmjohkgiaaGreatDoor
