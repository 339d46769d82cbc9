import Derived.Test.YtpnnpkmjohkgiaaGreatDoorDc
set_option linter.all false
set_option maxRecDepth 100000
namespace Go.Proofs.YtpnnpkmjohkgiaaGreatDoor
open Go Go.RowKit
def sgn (ns:List Nod) (i:Nat) (o:Opn):Int×List Int:=(syAt ns (i:Int),o.f_Args.map (syAt ns))
theorem kfm {ns:List Nod} {i:Nat} {n:Nod} (h:ns[i]?=some n):syAt ns (i:Int)=n.f_Symbol:=by unfold syAt;rw [Int.toNat_natCast,h];rfl
theorem conP_iff {ns:List Nod}:ConP ns↔∀ (i k:Nat) (n m:Nod) (o p:Opn),ns[i]?=some n->ns[k]?=some m->o∈n.f_Options->p∈m.f_Options->o.f_Rule=p.f_Rule->sgn ns i o=sgn ns k p:=by
 constructor;intro h i k n m o p hn hm ho hp hr;obtain ⟨h1,a⟩:=h i k n m o p hn hm ho hp hr;unfold sgn;rw [kfm hn,kfm hm,h1,a]
 ·intro h i k n m o p hn hm ho hp hr;have h1:=h i k n m o p hn hm ho hp hr;unfold sgn at h1;rw [kfm hn,kfm hm,qj] at h1;exact h1
theorem kgi {ns:List Nod} {i:Nat} (h:i<ns.length):optN (ns.take (i+1))=optN (ns.take i)+ns[i].f_Options.length:=by unfold optN;rw [qab h,qa0,List.sum_append];simp
theorem kf0 (ns:List Nod):∀ i,optN (ns.take i)<=optN ns:=fun i=>by
 have:optN ns=optN (ns.take i)+optN (ns.drop i):=by unfold optN;rw [<- List.sum_append,<- qa0,List.take_append_drop]
 omega
def visO (ns:List Nod) (i k i':Nat) (o:Opn):Prop:=∃ n k',ns[i']?=some n/\n.f_Options[k']?=some o/\(i'<i\/(i'=i/\k'<k))
structure CInv (ns:List Nod) (vis:Nat->Opn->Prop) (c:Nat) (F:List Opn) (W:List Int):Prop where
 len:F.length=W.length
 here:∀ (j:Nat) (f:Opn),F[j]?=some f->∃ i':Nat,W[j]?=some (i':Int)/\vis i' f
 all:∀ (i':Nat) (o:Opn),vis i' o->∃ (j:Nat) (f:Opn) (i'':Nat),F[j]?=some f/\W[j]?=some (i'':Int)/\f.f_Rule=o.f_Rule/\sgn ns i' o=sgn ns i'' f
 dist:∀ (j j':Nat) (f f':Opn),F[j]?=some f->F[j']?=some f'->f.f_Rule=f'.f_Rule->j=j'
 cnt:F.length<=c
theorem CInv.congr {ns:List Nod} {v v':Nat->Opn->Prop} {c c':Nat} {F:List Opn} {W:List Int} (h:CInv ns v c F W) (hv:∀ i o,v i o↔v' i o) (hc:c<=c'):CInv ns v' c' F W:=
 ⟨h.len,fun j f hf=>let ⟨i',h1,a⟩:=h.here j f hf;⟨i',h1,(hv _ _).1 a⟩,fun i' o ho=>h.all i' o ((hv _ _).2 ho),h.dist,qat h.cnt hc⟩
structure ConH (ns:List Nod):Prop where
 nodes:ns.length<=4096
 opts:optN ns<=32768
 args:∀ (i:Nat) (n:Nod) (o:Opn),ns[i]?=some n->o∈n.f_Options->(∀ a∈o.f_Args,0<=a/\a<(ns.length:Int))/\o.f_Args.length<=9223372036854775807
theorem kmz {ns:List Nod} {i:Nat} {n:Nod} (h:ns[i]?=some n):n.f_Options.length<=optN ns:=by obtain ⟨hi,rfl⟩:=qd.1 h;have h1:=kgi hi;have a:=kf0 ns (i+1);omega
theorem krv (F:List Opn) (o:Opn) (x:Int×List Opn×List Int) (d:x.2.1=F) (i:F.length<=32768):
  (∃ (j:Nat) (f:Opn),F[j]?=some f/\f.f_Rule=o.f_Rule/\kah (kau x o) fuel 0=some (j:Int))\/((∀ f∈F,f.f_Rule≠o.f_Rule)/\kah (kau x o) fuel 0=some (F.length:Int)):=by
 subst d
 let bad:Nat->Bool:=fun j=>decide (∃ f,x.2.1[j]?=some f/\f.f_Rule=o.f_Rule)
 have b:∀ j (a:j<x.2.1.length),bad j=decide (x.2.1[j].f_Rule=o.f_Rule):=fun j a=>by show decide _=decide _;congr 1;rw [qa a];exact propext ⟨fun ⟨f,h1,e⟩=>by cases h1;exact e,fun h=>⟨_,rfl,h⟩⟩
 have hs:∀ j,j<x.2.1.length->kau x o (j:Int)=if bad j=true then some (.inr (j:Int)) else some (.inl ((j+1:Nat):Int)):=fun j a=>by
  rw [b j a];simp only [kau,ka0 a,qe,kaj,qa a,qc,kal a (show x.2.1.length<=9223372036854775807 by omega)];by_cases h:x.2.1[j].f_Rule=o.f_Rule;rw [show (x.2.1[j].f_Rule != o.f_Rule)=false by simp [h],qg,qaa h,qq rfl]
  ·rw [show (x.2.1[j].f_Rule != o.f_Rule)=true by simp [h],qe,q9 h,qh (by simp)]
 have g:kau x o (x.2.1.length:Int)=some (.inr (x.2.1.length:Int)):=by simp only [kau,kap,qg,qc]
 rcases kfu (step:=kau x o) x.2.1.length (by omega) bad (fun j=>(j:Int)) (x.2.1.length:Int) hs g with ⟨j,a,c,_,hr⟩ | ⟨c,hr⟩;rw [b j a,qbb] at c;exact .inl ⟨j,x.2.1[j],qa a,c,hr⟩
 ·refine .inr ⟨fun f hf=>?_,hr⟩;obtain ⟨j,a,rfl⟩:=qak.1 hf;have:=c j a;rw [b j a,decide_eq_false_iff_not] at this;exact this
theorem ke0 {ns:List Nod} {i k:Nat} {n:Nod} {o:Opn} (hn:ns[i]?=some n) (ho:n.f_Options[k]?=some o) (i':Nat) (o':Opn):visO ns i (k+1) i' o'↔visO ns i k i' o'\/(i'=i/\o'=o):=by
 constructor
 ·rintro ⟨m,k',h1,b,a⟩;rcases a with a | ⟨rfl,a⟩;exact .inl ⟨m,k',h1,b, .inl a⟩
  ·by_cases hk:k'=k;subst hk;rw [hn] at h1;cases h1;rw [ho] at b;cases b;exact .inr ⟨rfl,rfl⟩
   ·exact .inl ⟨m,k',h1,b, .inr ⟨rfl,by omega⟩⟩
 ·rintro (⟨m,k',h1,b,a⟩ | ⟨rfl,rfl⟩)
  ·refine ⟨m,k',h1,b,?_⟩;rcases a with a | ⟨a,c⟩;exact .inl a
   ·exact .inr ⟨a,by omega⟩
  ·exact ⟨n,k,hn,ho, .inr ⟨rfl,by omega⟩⟩
theorem kq2 {ns:List Nod} {i k i':Nat} {o:Opn} (h:visO ns i k i' o):∃ n,ns[i']?=some n/\o∈n.f_Options:=by obtain ⟨n,k',h1,a,_⟩:=h;exact ⟨n,h1,qm a⟩
theorem kvr {ns:List Nod} (H:ConH ns) {i k:Nat} {n:Nod} (hn:ns[i]?=some n) (hk:k<n.f_Options.length) {F:List Opn} {W:List Int} (v1:Int×List Opn×List Int) (hv:v1.1=(i:Int)) (c:CInv ns (visO ns i k) (optN (ns.take i)+k) F W):
  Ev (kbg ns v1 ((k:Int),F,W)) (Sum.elim (fun s=>∃ t:List Opn×List Int,s=(((k+1:Nat):Int),t.1,t.2)/\CInv ns (visO ns i (k+1)) (optN (ns.take i)+(k+1)) t.1 t.2) fun r=>r = .inr false/\¬ ConP ns):=by
 have hi:=(qd.1 hn).1;have ho:=qa hk;have g:=qo hk;have hc:optN (ns.take i)+n.f_Options.length<=32768:=by
  have h1:=kgi hi;have a:=kf0 ns (i+1);have p:=H.opts;have B:ns[i]=n:=by have:=qa hi;rw [hn] at this;exact (qag this).symm
  rw [B] at h1;omega
 have I:=c.cnt;obtain ⟨h,q⟩:=H.args i n _ hn g;simp only [kbg,hv,kaj,hn,ho,qc,ka0 hk,qe,kal hk (show n.f_Options.length<=9223372036854775807 by omega)];generalize J:n.f_Options[k]=o at *
 rcases krv F o ((k:Int),F,W) rfl (by omega) with ⟨j,f,hf,hr,hs⟩ | ⟨u,hs⟩
 ·rw [hs,qc];have e:j<F.length:=kbe hf;have e1:((j:Int) == (F.length:Int))=false:=by rw [beq_eq_false_iff_ne];omega
  obtain ⟨i',G,v⟩:=c.here j f hf;obtain ⟨m,hm,w⟩:=kq2 v;simp only [e1,qg,qc,kaj,hf,G];obtain ⟨b,C,l⟩:=knu hn hm h (H.args i' m f hm w).1 q;rw [C,qc];have x:b=true↔sgn ns i o=sgn ns i' f:=by rw [l];unfold sgn;rw [kfm hn,kfm hm,qj]
  cases b with
  | true=>
   refine ⟨_,rfl,(F,W),rfl,c.len,fun j f hf=>?_,fun i2 o2 a=>?_,c.dist,qat I (by omega)⟩;obtain ⟨i',h1,a⟩:=c.here j f hf;exact ⟨i',h1,(ke0 hn ho _ _).2 (.inl a)⟩
   ·rcases (ke0 hn ho i2 o2).1 a with a | ⟨rfl,rfl⟩;exact c.all i2 o2 a
    ·exact ⟨j,f,i',hf,G,hr,x.1 rfl⟩
  | false=>
   refine ⟨_,rfl,rfl,fun y=>?_⟩;have:=conP_iff.1 y i i' n m o f hn hm g w hr.symm;have:=x.2 this;cases this
 ·rw [hs,qc];have e1:((F.length:Int) == (F.length:Int))=true:=by simp
  simp only [e1,qe];rw [keu (show (F.length+[o].length)*(32+1)<=140737488355328 by simp;omega),qc,keu (show (W.length+[(i:Int)].length)*(8+1)<=140737488355328 by rw [<- c.len];simp;omega),qc,qc];have D:(W++[(i:Int)])[F.length]?=some (i:Int):=by rw [c.len];simp
  have z:(F++[o])[F.length]?=some o:=by simp
  simp only [kaj,D,z,qc];obtain ⟨b,C,l⟩:=knu hn hn h h q;rw [C,qc];obtain rfl:b=true:=l.2 ⟨rfl,rfl⟩;have d:∀ (j:Nat) (f:Opn),(F++[o])[j]?=some f->(F[j]?=some f/\j<F.length)\/(j=F.length/\f=o):=fun j f hf=>by
   by_cases e:j<F.length;rw [qy e] at hf;exact .inl ⟨hf,e⟩
   ·rw [qac (by omega)] at hf;have h0:j - F.length=0:=(by have:=(qd.1 hf).1;simpa using this);rw [h0] at hf;simp at hf;exact .inr ⟨by omega,hf.symm⟩
  refine ⟨_,rfl,(F++[o],W++[(i:Int)]),rfl,by simp [c.len],fun j f hf=>?_,fun i2 o2 a=>?_,fun j j' f f' hf A hr=>?_,by simp;omega⟩
  ·rcases d j f hf with ⟨h1,e⟩ | ⟨rfl,rfl⟩;obtain ⟨i',a,p⟩:=c.here j f h1;exact ⟨i',by rw [qy (by rw [<- c.len];exact e)];exact a,(ke0 hn ho _ _).2 (.inl p)⟩
   ·exact ⟨i,D,(ke0 hn ho _ _).2 (.inr ⟨rfl,rfl⟩)⟩
  ·rcases (ke0 hn ho i2 o2).1 a with a | ⟨rfl,rfl⟩;obtain ⟨j,f,i'',p,B,K⟩:=c.all i2 o2 a;have e:=kbe p;exact ⟨j,f,i'',by rw [qy e];exact p,by rw [qy (by rw [<- c.len];exact e)];exact B,K⟩
   ·exact ⟨F.length,o2,i2,z,D,rfl,rfl⟩
  ·rcases d j f hf with ⟨h1,e⟩ | ⟨rfl,rfl⟩
   ·rcases d j' f' A with ⟨a,E⟩ | ⟨rfl,rfl⟩;exact c.dist j j' f f' h1 a hr
    ·exact absurd hr (u f (qm h1))
   ·rcases d j' f' A with ⟨a,E⟩ | ⟨rfl,rfl⟩;exact absurd hr.symm (u f' (qm a))
    ·rfl
theorem kz0 {ns:List Nod} (H:ConH ns):Ev (kb5 ns) fun b=>b=true↔ConP ns:=by
 unfold kb5;have x:=H.nodes;refine kcd (Ev.mono (ka3 (xs:=ns) (step:=kbq ns) (Q:=fun r=>(r = .inl ()/\ConP ns)\/(r = .inr false/\¬ ConP ns)) (fun (i:Nat) (t:List Opn×List Int)=>((i:Int),t.1,t.2)) (fun i t=>CInv ns (visO ns i 0) (optN (ns.take i)) t.1 t.2) (t0:=([],[])) (by omega) ?_ (fun i t hi c=>?_) (fun t c=>?_)) ?_)
 ·refine ⟨rfl,fun j f h=>by simp at h,fun i' o h=>?_,fun j j' f f' h=>by simp at h,by simp⟩;obtain ⟨n,k',_,_,h | ⟨_,h⟩⟩:=h;omega
  ·omega
 ·simp only [kbq,ka0 hi,qe];have hn:=qa hi;refine kcd (Ev.mono (ka3 (xs:=ns[i].f_Options) (step:=kbg ns ((i:Int),t.1,t.2)) (Q:=fun r=>(∃ t:List Opn×List Int,r = .inl t/\CInv ns (visO ns i ns[i].f_Options.length) (optN (ns.take i)+ns[i].f_Options.length) t.1 t.2)\/(r = .inr false/\¬ ConP ns)) (fun (k:Nat) (t:List Opn×List Int)=>((k:Int),t.1,t.2)) (fun k t=>CInv ns (visO ns i k) (optN (ns.take i)+k) t.1 t.2) (t0:=t) ?_ c (fun k t hk c=>?_) (fun t c=>?_)) ?_);have:=kmz hn;have:=H.opts;omega
  ·refine Ev.mono (kvr H hn hk _ rfl c) ?_;rintro (s | r) h;exact h
   ·exact .inr h
  exact ⟨_,by simp only [kbg,kaj,hn,qc,kap,qg],_,rfl, .inl ⟨t,rfl,c⟩⟩
  ·rintro r (⟨t',rfl,q⟩ | ⟨rfl,hc⟩)
   ·simp only [qu,kal hi (show ns.length<=9223372036854775807 by omega)];refine ⟨_,rfl,t',rfl,q.congr (fun i' o=>⟨?_,?_⟩) (by rw [kgi hi];exact qt _)⟩;rintro ⟨m,k',h1,g,d⟩;refine ⟨m,k',h1,g, .inl ?_⟩;rcases d with d | ⟨d,_⟩ <;> omega
    ·rintro ⟨m,k',h1,g,d⟩;refine ⟨m,k',h1,g,?_⟩;rcases d with d | ⟨_,d⟩
     ·by_cases u:i'=i;subst u;rw [hn] at h1;cases h1;exact .inr ⟨rfl,kbe g⟩
      ·exact .inl (by omega)
     ·omega
   ·exact ⟨_,rfl, .inr ⟨rfl,hc⟩⟩
 ·refine ⟨_,by simp only [kbq,kap,qg],_,rfl, .inl ⟨rfl,?_⟩⟩;refine conP_iff.2 fun i k n m o p hn hm ho hp hr=>?_;obtain ⟨a,ha⟩:=qaq.1 ho;obtain ⟨b,y⟩:=qaq.1 hp;obtain ⟨j,f,i1,h1,g,d,z⟩:=c.all i o ⟨n,a,hn,ha, .inl (kbe hn)⟩;obtain ⟨j',f',i2,e,l,v,w⟩:=c.all k p ⟨m,b,hm,y, .inl (kbe hm)⟩;have A:=c.dist j j' f f' h1 e (by rw [d,v,hr]);subst A;rw [h1] at e;cases e;rw [g] at l;have:i1=i2:=by have:=qag l;omega
  subst this;rw [z,w]
 ·rintro r (⟨rfl,hc⟩ | ⟨rfl,hc⟩);exact ⟨true,rfl,⟨fun _=>hc,fun _=>rfl⟩⟩
  ·exact ⟨false,rfl,⟨fun h=>absurd h qah,fun h=>absurd h hc⟩⟩
structure kgu (s:Spa):Prop where
 nodes:s.f_Nodes.length<=4611686018427387904
 roots:s.f_Roots.length<=4611686018427387904
 opts:∀ n∈s.f_Nodes,n.f_Options.length<=4611686018427387904
 args:∀ n∈s.f_Nodes,∀ o∈n.f_Options,o.f_Args.length<=4611686018427387904
theorem kwp {s:Spa} (t:kgu s) {i:Nat} {n:Nod} (x:Int×Int) (C:x.2=(i:Int)) (hn:s.f_Nodes[i]?=some n) (u:∀ (k:Nat) (m:Nod),k<=i->s.f_Nodes[k]?=some m->1<=m.f_Size/\m.f_Size<=24):
  Ev (kah (kbt s x n) fuel 0) fun r=>(r = .inl ()/\(∀ o∈n.f_Options,OptP s.f_Nodes i n o)/\∀ (k:Nat) (o p:Opn),n.f_Options[k]?=some o->n.f_Options[k+1]?=some p->kcx o p<0)\/(r = .inr false/\¬ NodP s.f_Nodes i n):=by
 have c:=qm hn;have D:=t.opts n c;refine Ev.mono (ka3 (xs:=n.f_Options) (step:=kbt s x n) (Q:=fun r=>(r = .inl ()/\(∀ o∈n.f_Options,OptP s.f_Nodes i n o)/\∀ (k:Nat) (o p:Opn),n.f_Options[k]?=some o->n.f_Options[k+1]?=some p->kcx o p<0)\/(r = .inr false/\¬ NodP s.f_Nodes i n))
  (fun (k:Nat) (_:Unit)=>(k:Int)) (fun k _=>(∀ (j:Nat) (o:Opn),j<k->n.f_Options[j]?=some o->OptP s.f_Nodes i n o)/\∀ (j:Nat) (o p:Opn),j+1<k->n.f_Options[j]?=some o->n.f_Options[j+1]?=some p->kcx o p<0) (t0:=()) (by omega) ⟨fun j o h=>by omega,fun j o p h=>by omega⟩ (fun k _ hk ⟨h1,v⟩=>?_) (fun _ ⟨h1,v⟩=>?_)) (fun r h=>h)
 ·have ho:=qa hk;have E:=t.args n c _ (qo hk);simp only [kbt,ka0 hk,qe,kaj,ho,qc,C,kal hk (show n.f_Options.length<=9223372036854775807 by omega)];obtain ⟨b,F,l⟩:=ktk hn u (o:=n.f_Options[k]) (by omega);rw [F,qc];cases b with
  | false=>
   refine ⟨.inr (.inr false),rfl, .inr ⟨rfl,fun w=>?_⟩⟩;have:=l.2 (w.opt _ (qo hk));cases this
  | true=>
   have z:=l.1 rfl;by_cases h0:0<k
   ·have q:k - 1<n.f_Options.length:=(by omega);have e1:w64 ((k:Int) - 1)=((k - 1:Nat):Int):=(by rw [kd8 (by omega) (by omega)];omega);have e2:decide ((0:Int)<(k:Int))=true:=qaa (by omega);have d:=qa q;have A:=t.args n c _ (qo q);simp only [qbe,qg,e2,qe,e1,kaj,d,qc];rw [ktx _ _ (by omega) (by omega),qc,qc];by_cases B:kcx n.f_Options[k - 1] n.f_Options[k]<0
    ·rw [q9 (by omega),qg];refine ⟨_,rfl,(),rfl,fun j o g a=>?_,fun j o p g a e=>?_⟩
     ·by_cases f:j=k;subst f;rw [ho] at a;cases a;exact z
      ·exact h1 j o (by omega) a
     ·by_cases f:j+1=k;have y:j=k - 1:=(by omega);subst y;rw [d] at a;cases a;rw [f,ho] at e;cases e;exact B
      ·exact v j o p (by omega) a e
    ·rw [qaa (by omega),qe];refine ⟨.inr (.inr false),rfl, .inr ⟨rfl,fun w=>?_⟩⟩;exact B (w.asc (k - 1) _ _ d (by rw [show k - 1+1=k by omega];exact ho))
   ·have e2:decide ((0:Int)<(k:Int))=false:=q9 (by omega);simp only [qbe,qg,e2,qc];refine ⟨_,rfl,(),rfl,fun j o g a=>?_,fun j o p g=>by omega⟩;obtain rfl:j=k:=(by omega);rw [ho] at a;cases a;exact z
 ·refine ⟨_,by simp only [kbt,kap,qg],_,rfl, .inl ⟨rfl,fun o ho=>?_,fun k o p ho hp=>v k o p (kbe hp) ho hp⟩⟩;obtain ⟨j,g⟩:=qaq.1 ho;exact h1 j o (kbe g) g
theorem kv1 {s:Spa} (j:kgu s):Ev (kcl s) fun b=>b=true↔kcg s:=by
 unfold kcl;have q:=j.nodes;by_cases h1:s.f_Nodes.length<=4096
 ·have e1:decide ((4096:Int)<(s.f_Nodes.length:Int))=false:=q9 (by omega);obtain ⟨b,p,d⟩:=kqv s.f_Roots s.f_Nodes.length (by have:=j.roots;omega);simp only [e1,qg,p,qc];cases b with
  | false=>exact ⟨false,rfl,⟨fun h=>absurd h qah,fun h=>absurd (d.2 h.roots) qah⟩⟩
  | true=>
   have e:=d.1 rfl;simp only [qbe,qg];refine kcd (Ev.mono (ka3 (xs:=s.f_Nodes) (step:=kb8 s) (Q:=fun r=>(r = .inl ()/\optN s.f_Nodes<=32768/\∀ (i:Nat) (n:Nod),s.f_Nodes[i]?=some n->NodP s.f_Nodes i n)\/(r = .inr false/\¬ kcg s))
    (fun (i:Nat) (c:Int)=>(c,(i:Int))) (fun i c=>c=(optN (s.f_Nodes.take i):Int)/\optN (s.f_Nodes.take i)<=32768/\∀ (k:Nat) (n:Nod),k<i->s.f_Nodes[k]?=some n->NodP s.f_Nodes k n) (t0:=0) (by omega) ⟨by simp [optN],by simp [optN],fun k n h=>by omega⟩ (fun i c hi ⟨c1,c2,c3⟩=>?_) (fun c ⟨c1,c2,c3⟩=>?_)) ?_)
   ·subst c1;have hn:=qa hi;have t:=j.opts _ (qo hi);have e2:w64 ((optN (s.f_Nodes.take i):Int)+(s.f_Nodes[i].f_Options.length:Int))=(optN (s.f_Nodes.take (i+1)):Int):=(by rw [kgi hi,kd8 (by omega) (by omega)];omega);simp only [kb8,ka0 hi,qe,kaj,hn,qc,e2,kal hi (show s.f_Nodes.length<=9223372036854775807 by omega)];by_cases b1:(32768:Int)<(optN (s.f_Nodes.take (i+1)):Int);simp only [qaa b1,qe,qc];refine ⟨_,rfl, .inr ⟨rfl,fun h=>?_⟩⟩;have f:=h.opts;have l:=kf0 s.f_Nodes (i+1);omega
    ·simp only [q9 b1,qg];by_cases b2:s.f_Nodes[i].f_Symbol<0;simp only [qaa b2,qe,qc];refine ⟨_,rfl, .inr ⟨rfl,fun h=>?_⟩⟩;have:=(h.node i _ hn).sym;omega
     ·simp only [q9 b2,qg];by_cases b3:s.f_Nodes[i].f_Size<1;simp only [qaa b3,qe,qc];refine ⟨_,rfl, .inr ⟨rfl,fun h=>?_⟩⟩;have:=(h.node i _ hn).size;omega
      ·simp only [q9 b3,qg,qc];by_cases b4:24<s.f_Nodes[i].f_Size;simp only [qaa b4,qe];refine ⟨_,rfl, .inr ⟨rfl,fun h=>?_⟩⟩;have:=(h.node i _ hn).size;omega
       ·simp only [q9 b4,qg];refine kcd (Ev.mono (kwp j _ rfl hn fun k m hk hm=>?_) ?_)
        ·by_cases g:k=i;subst g;rw [hn] at hm;cases hm;omega
         ·exact (c3 k m (by omega) hm).size
        ·rintro r (⟨rfl,f,l⟩ | ⟨rfl,f⟩)
         ·refine ⟨_,rfl,_,rfl,rfl,by omega,fun k m hk hm=>?_⟩;by_cases g:k=i;subst g;rw [hn] at hm;cases hm;exact ⟨by omega,by omega,f,l⟩
          ·exact c3 k m (by omega) hm
         ·exact ⟨_,rfl, .inr ⟨rfl,fun h=>f (h.node i _ hn)⟩⟩
   refine ⟨_,by simp only [kb8,kap,qg],_,rfl, .inl ⟨rfl,?_,fun i n hn=>c3 i n (kbe hn) hn⟩⟩;rw [qal] at c2;exact c2
   ·rintro r (⟨rfl,f,l⟩ | ⟨rfl,f⟩);simp only [qu];have H:ConH s.f_Nodes:=⟨h1,f,fun i n o hn ho=>⟨fun a ha=>by have u:=((l i n hn).opt o ho).args a ha;have v:=kbe hn;omega,by have:=j.args n (qm hn) o ho;omega⟩⟩;obtain ⟨b,p,d⟩:=kz0 H;rw [p];refine ⟨b,rfl,?_⟩;show b=true↔_;rw [d];exact ⟨fun h=>⟨h1,e,l,f,h⟩,fun h=>h.con⟩
    ·exact ⟨false,rfl,⟨fun h=>absurd h qah,fun h=>absurd h f⟩⟩
 ·have e1:decide ((4096:Int)<(s.f_Nodes.length:Int))=true:=qaa (by omega);simp only [e1,qe,qc];exact ⟨false,rfl,⟨fun h=>absurd h qah,fun h=>absurd h.nodes h1⟩⟩
end Go.Proofs.YtpnnpkmjohkgiaaGreatDoor
