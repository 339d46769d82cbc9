import Derived.Test.YtpnnpkmjohkgiaaGreatDoorDc
set_option linter.all false
set_option maxRecDepth 100000
namespace Go.Proofs.YtpnnpkmjohkgiaaGreatDoor
open Go Go.RowKit
def sgn (ns:List Nod) (i:Nat) (o:Opn):Int×List Int:=(syAt ns (i:Int),o.f_Args.map (syAt ns))
theorem kgh {ns:List Nod} {i:Nat} {n:Nod} (h:ns[i]?=some n):syAt ns (i:Int)=n.f_Symbol:=by unfold syAt;rw [Int.toNat_natCast,h];rfl
theorem conP_iff {ns:List Nod}:ConP ns↔∀ (i k:Nat) (n m:Nod) (o p:Opn),ns[i]?=some n->ns[k]?=some m->o∈n.f_Options->p∈m.f_Options->o.f_Rule=p.f_Rule->sgn ns i o=sgn ns k p:=by
 constructor;intro h i k n m o p hn hm a hp hr;obtain ⟨h1,b⟩:=h i k n m o p hn hm a hp hr;unfold sgn;rw [kgh hn,kgh hm,h1,b]
 ·intro h i k n m o p hn hm a hp hr;have h1:=h i k n m o p hn hm a hp hr;unfold sgn at h1;rw [kgh hn,kgh hm,qm] at h1;exact h1
theorem ki2 {ns:List Nod} {i:Nat} (h:i<ns.length):optN (ns.take (i+1))=optN (ns.take i)+ns[i].f_Options.length:=by unfold optN;rw [List.take_succ_eq_append_getElem h,List.map_append,List.sum_append];simp
theorem kif (ns:List Nod):∀ i,optN (ns.take i)<=optN ns:=fun i=>by
 have:optN ns=optN (ns.take i)+optN (ns.drop i):=by unfold optN;rw [<- List.sum_append,<- List.map_append,List.take_append_drop]
 omega
def visO (ns:List Nod) (i k i':Nat) (o:Opn):Prop:=∃ n k',ns[i']?=some n/\n.f_Options[k']?=some o/\(i'<i\/(i'=i/\k'<k))
structure CInv (ns:List Nod) (vis:Nat->Opn->Prop) (c:Nat) (F:List Opn) (W:List Int):Prop where
 len:F.length=W.length
 here:∀ (j:Nat) (f:Opn),F[j]?=some f->∃ i':Nat,W[j]?=some (i':Int)/\vis i' f
 all:∀ (i':Nat) (o:Opn),vis i' o->∃ (j:Nat) (f:Opn) (i'':Nat),F[j]?=some f/\W[j]?=some (i'':Int)/\f.f_Rule=o.f_Rule/\sgn ns i' o=sgn ns i'' f
 dist:∀ (j j':Nat) (f f':Opn),F[j]?=some f->F[j']?=some f'->f.f_Rule=f'.f_Rule->j=j'
 cnt:F.length<=c
theorem CInv.congr {ns:List Nod} {v v':Nat->Opn->Prop} {c c':Nat} {F:List Opn} {W:List Int} (h:CInv ns v c F W) (hv:∀ i o,v i o↔v' i o) (hc:c<=c'):CInv ns v' c' F W:=
 ⟨h.len,fun j f a=>let ⟨i',h1,b⟩:=h.here j f a;⟨i',h1,(hv _ _).1 b⟩,fun i' o d=>h.all i' o ((hv _ _).2 d),h.dist,qap h.cnt hc⟩
structure ConH (ns:List Nod):Prop where
 nodes:ns.length<=4096
 opts:optN ns<=32768
 args:∀ (i:Nat) (n:Nod) (o:Opn),ns[i]?=some n->o∈n.f_Options->(∀ a∈o.f_Args,0<=a/\a<(ns.length:Int))/\o.f_Args.length<=9223372036854775807
theorem kn9 {ns:List Nod} {i:Nat} {n:Nod} (h:ns[i]?=some n):n.f_Options.length<=optN ns:=by obtain ⟨hi,rfl⟩:=qg.1 h;have h1:=ki2 hi;have a:=kif ns (i+1);omega
theorem kwy (F:List Opn) (o:Opn) (x:Int×List Opn×List Int) (d:x.2.1=F) (k:F.length<=32768):
  (∃ (j:Nat) (f:Opn),F[j]?=some f/\f.f_Rule=o.f_Rule/\kac (ka0 x o) fuel 0=some (j:Int))\/((∀ f∈F,f.f_Rule≠o.f_Rule)/\kac (ka0 x o) fuel 0=some (F.length:Int)):=by
 subst d
 let bad:Nat->Bool:=fun j=>decide (∃ f,x.2.1[j]?=some f/\f.f_Rule=o.f_Rule)
 have b:∀ j (a:j<x.2.1.length),bad j=decide (x.2.1[j].f_Rule=o.f_Rule):=fun j a=>by show decide _=decide _;congr 1;rw [qa a];exact propext ⟨fun ⟨f,h1,e⟩=>by cases h1;exact e,fun h=>⟨_,rfl,h⟩⟩
 have hs:∀ j,j<x.2.1.length->ka0 x o (j:Int)=if bad j=true then some (.inr (j:Int)) else some (.inl ((j+1:Nat):Int)):=fun j a=>by
  rw [b j a];simp only [ka0,kdf a,qd,kaj,qa a,qb,kbs a (show x.2.1.length<=9223372036854775807 by omega)];by_cases h:x.2.1[j].f_Rule=o.f_Rule;rw [show (x.2.1[j].f_Rule != o.f_Rule)=false by simp [h],qe,qk h,qq rfl]
  ·rw [show (x.2.1[j].f_Rule != o.f_Rule)=true by simp [h],qd,qi h,ql (by simp)]
 have g:ka0 x o (x.2.1.length:Int)=some (.inr (x.2.1.length:Int)):=by simp only [ka0,kcn,qe,qb]
 rcases kji (step:=ka0 x o) x.2.1.length (by omega) bad (fun j=>(j:Int)) (x.2.1.length:Int) hs g with ⟨j,a,c,_,hr⟩ | ⟨c,hr⟩;rw [b j a,qa3] at c;exact .inl ⟨j,x.2.1[j],qa a,c,hr⟩
 ·refine .inr ⟨fun f i=>?_,hr⟩;obtain ⟨j,a,rfl⟩:=qac.1 i;have:=c j a;rw [b j a,qbe] at this;exact this
theorem kg1 {ns:List Nod} {i k:Nat} {n:Nod} {o:Opn} (hn:ns[i]?=some n) (c:n.f_Options[k]?=some o) (i':Nat) (o':Opn):visO ns i (k+1) i' o'↔visO ns i k i' o'\/(i'=i/\o'=o):=by
 constructor
 ·rintro ⟨m,k',h1,b,a⟩;rcases a with a | ⟨rfl,a⟩;exact .inl ⟨m,k',h1,b, .inl a⟩
  ·by_cases hk:k'=k;subst hk;rw [hn] at h1;cases h1;rw [c] at b;cases b;exact .inr ⟨rfl,rfl⟩
   ·exact .inl ⟨m,k',h1,b, .inr ⟨rfl,by omega⟩⟩
 ·rintro (⟨m,k',h1,b,a⟩ | ⟨rfl,rfl⟩)
  ·refine ⟨m,k',h1,b,?_⟩;rcases a with a | ⟨a,d⟩;exact .inl a
   ·exact .inr ⟨a,by omega⟩
  ·exact ⟨n,k,hn,c, .inr ⟨rfl,by omega⟩⟩
theorem kvz {ns:List Nod} {i k i':Nat} {o:Opn} (h:visO ns i k i' o):∃ n,ns[i']?=some n/\o∈n.f_Options:=by obtain ⟨n,k',h1,a,_⟩:=h;exact ⟨n,h1,qt a⟩
theorem k1k {ns:List Nod} (H:ConH ns) {i k:Nat} {n:Nod} (hn:ns[i]?=some n) (hk:k<n.f_Options.length) {F:List Opn} {W:List Int} (v1:Int×List Opn×List Int) (hv:v1.1=(i:Int)) (d:CInv ns (visO ns i k) (optN (ns.take i)+k) F W):
  Ev (kbu ns v1 ((k:Int),F,W)) (Sum.elim (fun s=>∃ t:List Opn×List Int,s=(((k+1:Nat):Int),t.1,t.2)/\CInv ns (visO ns i (k+1)) (optN (ns.take i)+(k+1)) t.1 t.2) fun r=>r = .inr false/\¬ ConP ns):=by
 have hi:=(qg.1 hn).1;have q:=qa hk;have h:=qs hk;have hc:optN (ns.take i)+n.f_Options.length<=32768:=by
  have h1:=ki2 hi;have c:=kif ns (i+1);have u:=H.opts;have D:ns[i]=n:=by have:=qa hi;rw [hn] at this;exact (qab this).symm
  rw [D] at h1;omega
 have K:=d.cnt;obtain ⟨l,v⟩:=H.args i n _ hn h;simp only [kbu,hv,kaj,hn,q,qb,kdf hk,qd,kbs hk (show n.f_Options.length<=9223372036854775807 by omega)];generalize L:n.f_Options[k]=o at *
 rcases kwy F o ((k:Int),F,W) rfl (by omega) with ⟨j,f,a,hr,hs⟩ | ⟨w,hs⟩
 ·rw [hs,qb];have g:j<F.length:=keu a;have e1:((j:Int) == (F.length:Int))=false:=by rw [qar];omega
  obtain ⟨i',J,x⟩:=d.here j f a;obtain ⟨m,hm,y⟩:=kvz x;simp only [e1,qe,qb,kaj,a,J];obtain ⟨b,E,p⟩:=ksf hn hm l (H.args i' m f hm y).1 v;rw [E,qb];have z:b=true↔sgn ns i o=sgn ns i' f:=by rw [p];unfold sgn;rw [kgh hn,kgh hm,qm]
  cases b with
  | true=>
   refine ⟨_,rfl,(F,W),rfl,d.len,fun j f a=>?_,fun i2 o2 c=>?_,d.dist,qap K (by omega)⟩;obtain ⟨i',h1,c⟩:=d.here j f a;exact ⟨i',h1,(kg1 hn q _ _).2 (.inl c)⟩
   ·rcases (kg1 hn q i2 o2).1 c with c | ⟨rfl,rfl⟩;exact d.all i2 o2 c
    ·exact ⟨j,f,i',a,J,hr,z.1 rfl⟩
  | false=>
   refine ⟨_,rfl,rfl,fun A=>?_⟩;have:=conP_iff.1 A i i' n m o f hn hm h y hr.symm;have:=z.2 this;cases this
 ·rw [hs,qb];have e1:((F.length:Int) == (F.length:Int))=true:=by simp
  simp only [e1,qd];rw [kpz (show (F.length+[o].length)*(32+1)<=140737488355328 by simp;omega),qb,kpz (show (W.length+[(i:Int)].length)*(8+1)<=140737488355328 by rw [<- d.len];simp;omega),qb,qb];have G:(W++[(i:Int)])[F.length]?=some (i:Int):=by rw [d.len];simp
  have B:(F++[o])[F.length]?=some o:=by simp
  simp only [kaj,G,B,qb];obtain ⟨b,E,p⟩:=ksf hn hn l l v;rw [E,qb];obtain rfl:b=true:=p.2 ⟨rfl,rfl⟩;have e:∀ (j:Nat) (f:Opn),(F++[o])[j]?=some f->(F[j]?=some f/\j<F.length)\/(j=F.length/\f=o):=fun j f a=>by
   by_cases g:j<F.length;rw [qaa g] at a;exact .inl ⟨a,g⟩
   ·rw [qae (by omega)] at a;have h0:j - F.length=0:=(by have:=(qg.1 a).1;simpa using this);rw [h0] at a;simp at a;exact .inr ⟨by omega,a.symm⟩
  refine ⟨_,rfl,(F++[o],W++[(i:Int)]),rfl,by simp [d.len],fun j f a=>?_,fun i2 o2 c=>?_,fun j j' f f' a C hr=>?_,by simp;omega⟩
  ·rcases e j f a with ⟨h1,g⟩ | ⟨rfl,rfl⟩;obtain ⟨i',c,u⟩:=d.here j f h1;exact ⟨i',by rw [qaa (by rw [<- d.len];exact g)];exact c,(kg1 hn q _ _).2 (.inl u)⟩
   ·exact ⟨i,G,(kg1 hn q _ _).2 (.inr ⟨rfl,rfl⟩)⟩
  ·rcases (kg1 hn q i2 o2).1 c with c | ⟨rfl,rfl⟩;obtain ⟨j,f,i'',u,D,M⟩:=d.all i2 o2 c;have g:=keu u;exact ⟨j,f,i'',by rw [qaa g];exact u,by rw [qaa (by rw [<- d.len];exact g)];exact D,M⟩
   ·exact ⟨F.length,o2,i2,B,G,rfl,rfl⟩
  ·rcases e j f a with ⟨h1,g⟩ | ⟨rfl,rfl⟩
   ·rcases e j' f' C with ⟨c,I⟩ | ⟨rfl,rfl⟩;exact d.dist j j' f f' h1 c hr
    ·exact absurd hr (w f (qt h1))
   ·rcases e j' f' C with ⟨c,I⟩ | ⟨rfl,rfl⟩;exact absurd hr.symm (w f' (qt c))
    ·rfl
theorem k5x {ns:List Nod} (H:ConH ns):Ev (kc3 ns) fun b=>b=true↔ConP ns:=by
 unfold kc3;have x:=H.nodes;refine kgp (Ev.mono (kfx (xs:=ns) (step:=kcg ns) (Q:=fun r=>(r = .inl ()/\ConP ns)\/(r = .inr false/\¬ ConP ns)) (fun (i:Nat) (t:List Opn×List Int)=>((i:Int),t.1,t.2)) (fun i t=>CInv ns (visO ns i 0) (optN (ns.take i)) t.1 t.2) (t0:=([],[])) (by omega) ?_ (fun i t hi c=>?_) (fun t c=>?_)) ?_)
 ·refine ⟨rfl,fun j f h=>by simp at h,fun i' o h=>?_,fun j j' f f' h=>by simp at h,by simp⟩;obtain ⟨n,k',_,_,h | ⟨_,h⟩⟩:=h;omega
  ·omega
 ·simp only [kcg,kdf hi,qd];have hn:=qa hi;refine kgp (Ev.mono (kfx (xs:=ns[i].f_Options) (step:=kbu ns ((i:Int),t.1,t.2)) (Q:=fun r=>(∃ t:List Opn×List Int,r = .inl t/\CInv ns (visO ns i ns[i].f_Options.length) (optN (ns.take i)+ns[i].f_Options.length) t.1 t.2)\/(r = .inr false/\¬ ConP ns)) (fun (k:Nat) (t:List Opn×List Int)=>((k:Int),t.1,t.2)) (fun k t=>CInv ns (visO ns i k) (optN (ns.take i)+k) t.1 t.2) (t0:=t) ?_ c (fun k t hk c=>?_) (fun t c=>?_)) ?_);have:=kn9 hn;have:=H.opts;omega
  ·refine Ev.mono (k1k H hn hk _ rfl c) ?_;rintro (s | r) h;exact h
   ·exact .inr h
  exact ⟨_,by simp only [kbu,kaj,hn,qb,kcn,qe],_,rfl, .inl ⟨t,rfl,c⟩⟩
  ·rintro r (⟨t',rfl,q⟩ | ⟨rfl,hc⟩)
   ·simp only [qf,kbs hi (show ns.length<=9223372036854775807 by omega)];refine ⟨_,rfl,t',rfl,q.congr (fun i' o=>⟨?_,?_⟩) (by rw [ki2 hi];exact qy _)⟩;rintro ⟨m,k',h1,g,d⟩;refine ⟨m,k',h1,g, .inl ?_⟩;rcases d with d | ⟨d,_⟩ <;> omega
    ·rintro ⟨m,k',h1,g,d⟩;refine ⟨m,k',h1,g,?_⟩;rcases d with d | ⟨_,d⟩
     ·by_cases u:i'=i;subst u;rw [hn] at h1;cases h1;exact .inr ⟨rfl,keu g⟩
      ·exact .inl (by omega)
     ·omega
   ·exact ⟨_,rfl, .inr ⟨rfl,hc⟩⟩
 ·refine ⟨_,by simp only [kcg,kcn,qe],_,rfl, .inl ⟨rfl,?_⟩⟩;refine conP_iff.2 fun i k n m o p hn hm y hp hr=>?_;obtain ⟨a,ha⟩:=qaj.1 y;obtain ⟨b,z⟩:=qaj.1 hp;obtain ⟨j,f,i1,h1,g,d,A⟩:=c.all i o ⟨n,a,hn,ha, .inl (keu hn)⟩;obtain ⟨j',f',i2,e,l,v,w⟩:=c.all k p ⟨m,b,hm,z, .inl (keu hm)⟩;have B:=c.dist j j' f f' h1 e (by rw [d,v,hr]);subst B;rw [h1] at e;cases e;rw [g] at l;have:i1=i2:=by have:=qab l;omega
  subst this;rw [A,w]
 ·rintro r (⟨rfl,hc⟩ | ⟨rfl,hc⟩);exact ⟨true,rfl,⟨fun _=>hc,fun _=>rfl⟩⟩
  ·exact ⟨false,rfl,⟨fun h=>absurd h qah,fun h=>absurd h hc⟩⟩
structure kn4 (s:Spa):Prop where
 nodes:s.f_Nodes.length<=4611686018427387904
 roots:s.f_Roots.length<=4611686018427387904
 opts:∀ n∈s.f_Nodes,n.f_Options.length<=4611686018427387904
 args:∀ n∈s.f_Nodes,∀ o∈n.f_Options,o.f_Args.length<=4611686018427387904
theorem k2o {s:Spa} (u:kn4 s) {i:Nat} {n:Nod} (x:Int×Int) (D:x.2=(i:Int)) (hn:s.f_Nodes[i]?=some n) (v:∀ (k:Nat) (m:Nod),k<=i->s.f_Nodes[k]?=some m->1<=m.f_Size/\m.f_Size<=24):
  Ev (kac (kcl s x n) fuel 0) fun r=>(r = .inl ()/\(∀ o∈n.f_Options,OptP s.f_Nodes i n o)/\∀ (k:Nat) (o p:Opn),n.f_Options[k]?=some o->n.f_Options[k+1]?=some p->kge o p<0)\/(r = .inr false/\¬ NodP s.f_Nodes i n):=by
 have c:=qt hn;have E:=u.opts n c;refine Ev.mono (kfx (xs:=n.f_Options) (step:=kcl s x n) (Q:=fun r=>(r = .inl ()/\(∀ o∈n.f_Options,OptP s.f_Nodes i n o)/\∀ (k:Nat) (o p:Opn),n.f_Options[k]?=some o->n.f_Options[k+1]?=some p->kge o p<0)\/(r = .inr false/\¬ NodP s.f_Nodes i n))
  (fun (k:Nat) (_:Unit)=>(k:Int)) (fun k _=>(∀ (j:Nat) (o:Opn),j<k->n.f_Options[j]?=some o->OptP s.f_Nodes i n o)/\∀ (j:Nat) (o p:Opn),j+1<k->n.f_Options[j]?=some o->n.f_Options[j+1]?=some p->kge o p<0) (t0:=()) (by omega) ⟨fun j o h=>by omega,fun j o p h=>by omega⟩ (fun k _ hk ⟨h1,w⟩=>?_) (fun _ ⟨h1,w⟩=>?_)) (fun r h=>h)
 ·have d:=qa hk;have F:=u.args n c _ (qs hk);simp only [kcl,kdf hk,qd,kaj,d,qb,D,kbs hk (show n.f_Options.length<=9223372036854775807 by omega)];obtain ⟨b,G,q⟩:=kyr hn v (o:=n.f_Options[k]) (by omega);rw [G,qb];cases b with
  | false=>
   refine ⟨.inr (.inr false),rfl, .inr ⟨rfl,fun y=>?_⟩⟩;have:=q.2 (y.opt _ (qs hk));cases this
  | true=>
   have A:=q.1 rfl;by_cases h0:0<k
   ·have t:k - 1<n.f_Options.length:=(by omega);have e1:w64 ((k:Int) - 1)=((k - 1:Nat):Int):=(by rw [kje (by omega) (by omega)];omega);have e2:decide ((0:Int)<(k:Int))=true:=qk (by omega);have e:=qa t;have B:=u.args n c _ (qs t);simp only [qa9,qe,e2,qd,e1,kaj,e,qb];rw [ky6 _ _ (by omega) (by omega),qb,qb];by_cases C:kge n.f_Options[k - 1] n.f_Options[k]<0
    ·rw [qi (by omega),qe];refine ⟨_,rfl,(),rfl,fun j o l a=>?_,fun j o p l a f=>?_⟩
     ·by_cases g:j=k;subst g;rw [d] at a;cases a;exact A
      ·exact h1 j o (by omega) a
     ·by_cases g:j+1=k;have z:j=k - 1:=(by omega);subst z;rw [e] at a;cases a;rw [g,d] at f;cases f;exact C
      ·exact w j o p (by omega) a f
    ·rw [qk (by omega),qd];refine ⟨.inr (.inr false),rfl, .inr ⟨rfl,fun y=>?_⟩⟩;exact C (y.asc (k - 1) _ _ e (by rw [show k - 1+1=k by omega];exact d))
   ·have e2:decide ((0:Int)<(k:Int))=false:=qi (by omega);simp only [qa9,qe,e2,qb];refine ⟨_,rfl,(),rfl,fun j o l a=>?_,fun j o p l=>by omega⟩;obtain rfl:j=k:=(by omega);rw [d] at a;cases a;exact A
 ·refine ⟨_,by simp only [kcl,kcn,qe],_,rfl, .inl ⟨rfl,fun o d=>?_,fun k o p d hp=>w k o p (keu hp) d hp⟩⟩;obtain ⟨j,l⟩:=qaj.1 d;exact h1 j o (keu l) l
theorem k1t {s:Spa} (j:kn4 s):Ev (kdr s) fun b=>b=true↔kgd s:=by
 unfold kdr;have t:=j.nodes;by_cases h1:s.f_Nodes.length<=4096
 ·have e1:decide ((4096:Int)<(s.f_Nodes.length:Int))=false:=qi (by omega);obtain ⟨b,p,d⟩:=kvu s.f_Roots s.f_Nodes.length (by have:=j.roots;omega);simp only [e1,qe,p,qb];cases b with
  | false=>exact ⟨false,rfl,⟨fun h=>absurd h qah,fun h=>absurd (d.2 h.roots) qah⟩⟩
  | true=>
   have e:=d.1 rfl;simp only [qa9,qe];refine kgp (Ev.mono (kfx (xs:=s.f_Nodes) (step:=kc6 s) (Q:=fun r=>(r = .inl ()/\optN s.f_Nodes<=32768/\∀ (i:Nat) (n:Nod),s.f_Nodes[i]?=some n->NodP s.f_Nodes i n)\/(r = .inr false/\¬ kgd s))
    (fun (i:Nat) (c:Int)=>(c,(i:Int))) (fun i c=>c=(optN (s.f_Nodes.take i):Int)/\optN (s.f_Nodes.take i)<=32768/\∀ (k:Nat) (n:Nod),k<i->s.f_Nodes[k]?=some n->NodP s.f_Nodes k n) (t0:=0) (by omega) ⟨by simp [optN],by simp [optN],fun k n h=>by omega⟩ (fun i c hi ⟨c1,c2,c3⟩=>?_) (fun c ⟨c1,c2,c3⟩=>?_)) ?_)
   ·subst c1;have hn:=qa hi;have u:=j.opts _ (qs hi);have e2:w64 ((optN (s.f_Nodes.take i):Int)+(s.f_Nodes[i].f_Options.length:Int))=(optN (s.f_Nodes.take (i+1)):Int):=(by rw [ki2 hi,kje (by omega) (by omega)];omega);simp only [kc6,kdf hi,qd,kaj,hn,qb,e2,kbs hi (show s.f_Nodes.length<=9223372036854775807 by omega)];by_cases b1:(32768:Int)<(optN (s.f_Nodes.take (i+1)):Int);simp only [qk b1,qd,qb];refine ⟨_,rfl, .inr ⟨rfl,fun h=>?_⟩⟩;have f:=h.opts;have l:=kif s.f_Nodes (i+1);omega
    ·simp only [qi b1,qe];by_cases b2:s.f_Nodes[i].f_Symbol<0;simp only [qk b2,qd,qb];refine ⟨_,rfl, .inr ⟨rfl,fun h=>?_⟩⟩;have:=(h.node i _ hn).sym;omega
     ·simp only [qi b2,qe];by_cases b3:s.f_Nodes[i].f_Size<1;simp only [qk b3,qd,qb];refine ⟨_,rfl, .inr ⟨rfl,fun h=>?_⟩⟩;have:=(h.node i _ hn).size;omega
      ·simp only [qi b3,qe,qb];by_cases b4:24<s.f_Nodes[i].f_Size;simp only [qk b4,qd];refine ⟨_,rfl, .inr ⟨rfl,fun h=>?_⟩⟩;have:=(h.node i _ hn).size;omega
       ·simp only [qi b4,qe];refine kgp (Ev.mono (k2o j _ rfl hn fun k m hk hm=>?_) ?_)
        ·by_cases g:k=i;subst g;rw [hn] at hm;cases hm;omega
         ·exact (c3 k m (by omega) hm).size
        ·rintro r (⟨rfl,f,l⟩ | ⟨rfl,f⟩)
         ·refine ⟨_,rfl,_,rfl,rfl,by omega,fun k m hk hm=>?_⟩;by_cases g:k=i;subst g;rw [hn] at hm;cases hm;exact ⟨by omega,by omega,f,l⟩
          ·exact c3 k m (by omega) hm
         ·exact ⟨_,rfl, .inr ⟨rfl,fun h=>f (h.node i _ hn)⟩⟩
   refine ⟨_,by simp only [kc6,kcn,qe],_,rfl, .inl ⟨rfl,?_,fun i n hn=>c3 i n (keu hn) hn⟩⟩;rw [List.take_length] at c2;exact c2
   ·rintro r (⟨rfl,f,l⟩ | ⟨rfl,f⟩);simp only [qf];have H:ConH s.f_Nodes:=⟨h1,f,fun i n o hn q=>⟨fun a ha=>by have v:=((l i n hn).opt o q).args a ha;have w:=keu hn;omega,by have:=j.args n (qt hn) o q;omega⟩⟩;obtain ⟨b,p,d⟩:=k5x H;rw [p];refine ⟨b,rfl,?_⟩;show b=true↔_;rw [d];exact ⟨fun h=>⟨h1,e,l,f,h⟩,fun h=>h.con⟩
    ·exact ⟨false,rfl,⟨fun h=>absurd h qah,fun h=>absurd h f⟩⟩
 ·have e1:decide ((4096:Int)<(s.f_Nodes.length:Int))=true:=qk (by omega);simp only [e1,qd,qb];exact ⟨false,rfl,⟨fun h=>absurd h qah,fun h=>absurd h.nodes h1⟩⟩
end Go.Proofs.YtpnnpkmjohkgiaaGreatDoor
