import Derived.Test.YtpnnpkmjohkgiaaGreatDoorDd
set_option linter.all false
set_option maxRecDepth 100000
namespace Go.Proofs.YtpnnpkmjohkgiaaGreatDoor
open Go Go.RowKit
def fg (l:List Bool) (i:Nat):Bool:=(l[i]?).getD false
theorem keo {l:List Bool} {a:Int} (h0:0<=a) (h1:a<(l.length:Int)):idx l a=some (fg l a.toNat):=by
 have b:a.toNat<l.length:=by omega
 unfold idx fg;rw [qq h0,qa b];rfl
theorem ket {l:List Bool} {i:Nat} (h:i<l.length):l[i]?=some (fg l i):=by unfold fg;rw [qa h];rfl
theorem kdo {l:List Bool} {i:Nat} (h:i<l.length) (b:Bool) (j:Nat):fg (l.set i b) j=if j=i then b else fg l j:=by
 unfold fg;by_cases a:j=i;subst a;rw [qq rfl,List.getElem?_set_self h];rfl
 ·rw [qh a,List.getElem?_set_ne (by omega)]
theorem koo (n i:Nat):fg (List.replicate n false) i=false:=by unfold fg;rw [List.getElem?_replicate];split <;> rfl
theorem kg6 {l:List Int} {n:Nat} (h:AscP l n):l.length<=n:=by
 have key:∀ (i:Nat) (x:Int),l[i]?=some x->(i:Int)<=x:=by
  intro i
  induction i with
  | zero=>intro x a;exact (h.1 x (qm a)).1
  | succ i ih=>
   intro x a;have hi:=kbe a;have hy:=qa (l:=l) (i:=i) (by omega);have:=h.2 i _ x hy a;have:=ih _ hy;omega
 by_cases h0:l.length=0;omega
 ·have a:=qa (l:=l) (i:=l.length - 1) (by omega);have h1:=key _ _ a;have b:=(h.1 _ (qm a)).2;omega
theorem kc7 {s:Spa} (hf:kcg s) {i:Nat} {n:Nod} {o:Opn} (hn:s.f_Nodes[i]?=some n) (ho:o∈n.f_Options):o.f_Args.length<=24:=by
 have c:=hf.node i n hn;have d:=c.opt o ho;have key:∀ l:List Int,(∀ a∈l,0<=a/\a<(i:Int))->(l.length:Int)<=(l.map (szAt s.f_Nodes)).sum:=by
  intro l
  induction l with
  | nil=>intro _;simp
  | cons a l ih=>
   intro h;have h1:=ih fun b f=>h b (qs _ f);have e:=h a (qv ..);have g:=kbe hn;obtain ⟨m,_,e2,e3,_⟩:=kfl (ns:=s.f_Nodes) e.1 (by omega);have j:=(hf.node _ m e2).size;simp only [List.length_cons,qa3,List.sum_cons];omega
 have h1:=key _ d.args;have e:=d.size;have g:=c.size;omega
theorem kgh {f g:Nat->Bool} {o:Opn} (h:∀ a∈o.f_Args,f a.toNat=g a.toNat):kak f o=kak g o:=by unfold kak;rw [Bool.eq_iff_iff,ql,ql];exact ⟨fun k a ha=>by rw [<- h a ha];exact k a ha,fun k a ha=>by rw [h a ha];exact k a ha⟩
theorem kjr {o:Opn} {l:List Bool} (h:∀ a∈o.f_Args,0<=a/\a<(l.length:Int)) (g:o.f_Args.length<=9223372036854775807):ka6 o l=some (kak (fg l) o):=by
 unfold ka6
 let bad:Nat->Bool:=fun j=>!fg l ((o.f_Args[j]?).getD 0).toNat
 have hs:∀ j,j<o.f_Args.length->kbs o l (j:Int)=if bad j=true then some (.inr (.inr false)) else some (.inl ((j+1:Nat):Int)):=fun j c=>by
  have ha:=h _ (qo c);have e:bad j=!fg l o.f_Args[j].toNat:=by show (!fg l ((o.f_Args[j]?).getD 0).toNat)=_;rw [qa c,qai]
  rw [e];simp only [kbs,ka0 c,qe,kaj,qa c,qc,kal c g,keo ha.1 ha.2];cases fg l o.f_Args[j].toNat <;> rfl
 have i:kbs o l (o.f_Args.length:Int)=some (.inr (.inl ())):=by simp only [kbs,kap,qg]
 rcases kfu (step:=kbs o l) o.f_Args.length (by omega) bad (fun _ => .inr false) (.inl ()) hs i with ⟨j,c,f,_,hr⟩ | ⟨f,hr⟩
 ·rw [hr];have b:(!fg l ((o.f_Args[j]?).getD 0).toNat)=true:=f;rw [qa c,qai] at b;have:kak (fg l) o=false:=by rw [Bool.eq_false_iff];intro d;have:=ql.1 d _ (qo c);rw [this] at b;cases b
  rw [this];rfl
 ·rw [hr];have:kak (fg l) o=true:=ql.2 fun a ha=>by
   obtain ⟨j,c,rfl⟩:=qak.1 ha;have b:(!fg l ((o.f_Args[j]?).getD 0).toNat)=false:=f j c;rw [qa c,qai] at b;cases k:fg l o.f_Args[j].toNat with
   | true=>rfl
   | false=>rw [k] at b;cases b
  rw [this];rfl
section
variable {s:Spa} (hf:kcg s)
include hf
theorem olen {i:Nat} {n:Nod} (hn:s.f_Nodes[i]?=some n):n.f_Options.length<=32768:=qat (kmz hn) hf.opts
theorem keh {i:Nat} {n:Nod} {o:Opn} (hn:s.f_Nodes[i]?=some n) (ho:o∈n.f_Options) {a:Int} (ha:a∈o.f_Args):0<=a/\a<(i:Int)/\a<(s.f_Nodes.length:Int):=by have h1:=((hf.node i n hn).opt o ho).args a ha;have b:=kbe hn;omega
def kfb (s:Spa) (l:List Bool) (i:Nat):Prop:=∀ n,s.f_Nodes[i]?=some n->(fg l i=true↔∃ o∈n.f_Options,kak (fg l) o=true)
theorem kww:Ev (kc1 s) fun l=>l.length=s.f_Nodes.length/\∀ i,i<s.f_Nodes.length->kfb s l i:=by
 have v:=hf.nodes;unfold kc1;rw [kig 1 false s.f_Nodes.length (by omega),qc];refine kcd (Ev.mono (ka3 (xs:=s.f_Nodes) (step:=kci s) (Q:=fun l=>l.length=s.f_Nodes.length/\∀ i,i<s.f_Nodes.length->kfb s l i) (fun (i:Nat) (l:List Bool)=>((i:Int),l))
  (fun i l=>l.length=s.f_Nodes.length/\(∀ k,k<i->kfb s l k)/\∀ k,i<=k->fg l k=false) (t0:=List.replicate s.f_Nodes.length false) (by omega) ⟨List.length_replicate,fun k h=>by omega,fun k _=>koo _ _⟩ (fun i l hi ⟨h1,d,t⟩=>?_) (fun l ⟨h1,d,t⟩=>?_)) ?_)
 ·have hn:=qa hi;have w:=olen hf hn;simp only [kci,ka0 hi,qe,kal hi (show s.f_Nodes.length<=9223372036854775807 by omega)];refine kcd (Ev.mono (ka3 (xs:=s.f_Nodes[i].f_Options) (step:=kch s ((i:Int),l)) (Q:=fun l'=>l'.length=s.f_Nodes.length/\(∀ k,k≠i->fg l' k=fg l k)/\(fg l' i=true↔∃ o∈s.f_Nodes[i].f_Options,kak (fg l) o=true)) (fun (k:Nat) (l':List Bool)=>((k:Int),l'))
   (fun k l'=>l'.length=s.f_Nodes.length/\(∀ k,k≠i->fg l' k=fg l k)/\(fg l' i=true↔∃ o∈s.f_Nodes[i].f_Options.take k,kak (fg l) o=true)) (t0:=l) (by omega) ⟨h1,fun _ _=>rfl,by simp [t i (qt _)]⟩ (fun k l' hk ⟨g1,g2,g3⟩=>?_) (fun l' ⟨g1,g2,g3⟩=>?_)) ?_)
  rotate_left
  ·have ho:=qa hk;have hm:=qo hk;have g:i<l'.length:=(by omega);have p:ka6 s.f_Nodes[i].f_Options[k] l'=some (kak (fg l) s.f_Nodes[i].f_Options[k]):=(by rw [kjr (fun a ha=>by have:=keh hf hn hm ha;omega) (by have:=kc7 hf hn hm;omega)];congr 1;exact kgh fun a ha=>g2 _ (by have:=keh hf hn hm ha;omega));have hst:∀ b:Bool,(b=true↔(fg l' i=true\/kak (fg l) s.f_Nodes[i].f_Options[k]=true))->(l'.set i b).length=s.f_Nodes.length/\(∀ k,k≠i->fg (l'.set i b) k=fg l k)/\(fg (l'.set i b) i=true↔∃ o∈s.f_Nodes[i].f_Options.take (k+1),kak (fg l) o=true):=fun b r=>by
    refine ⟨by rw [qbc];exact g1,fun j u=>by rw [kdo g,qh u];exact g2 j u,?_⟩;rw [kdo g,qq rfl,r,g3,qab hk];simp only [qad,qao];constructor
    ·rintro (⟨o,h1,d⟩ | d);exact ⟨o, .inl h1,d⟩
     ·exact ⟨_, .inr rfl,d⟩
    ·rintro ⟨o,h1 | rfl,d⟩;exact .inl ⟨o,h1,d⟩
     ·exact .inr d
   simp only [kch,kaj,hn,qc,ka0 hk,qe,ket g,kal hk (show s.f_Nodes[i].f_Options.length<=9223372036854775807 by omega),ho,p,Int.toNat_natCast];cases r:fg l' i with
   | true=>
    simp only [qe,qc];exact ⟨_,rfl,_,rfl,hst true (by simp [r])⟩
   | false=>
    simp only [qg,qc];exact ⟨_,rfl,_,rfl,hst _ (by simp [r])⟩
  refine ⟨_,by simp only [kch,kaj,hn,qc,kap,qg],_,rfl,g1,g2,?_⟩;rw [qal] at g3;exact g3
  ·rintro l' ⟨g1,g2,g3⟩;refine ⟨_,rfl,_,rfl,g1,fun k hk n e=>?_,fun k hk=>?_⟩
   ·have f:∀ o∈n.f_Options,kak (fg l') o=kak (fg l) o:=fun o ho=>kgh fun a ha=>g2 _ (by have:=keh hf e ho ha;omega);by_cases q:k=i;subst q;rw [hn] at e;cases e;rw [g3];exact ⟨fun ⟨o,c,m⟩=>⟨o,c,by rw [f o c];exact m⟩,fun ⟨o,c,m⟩=>⟨o,c,by rw [<- f o c];exact m⟩⟩
    ·rw [g2 k q,d k (by omega) n e];exact ⟨fun ⟨o,c,m⟩=>⟨o,c,by rw [f o c];exact m⟩,fun ⟨o,c,m⟩=>⟨o,c,by rw [<- f o c];exact m⟩⟩
   ·rw [g2 k (by omega)];exact t k (by omega)
 exact ⟨_,by simp only [kci,kap,qg],_,rfl,h1,d⟩
 ·intro l h;exact ⟨l,rfl,h⟩
omit hf in
theorem kyx {l:List Bool} (h:∀ i,i<s.f_Nodes.length->kfb s l i):∀ (t:Tm) (i:Nat),Bt s.f_Nodes i t->fg l i=true:=by
 intro t
 induction t using Tm.ind with
 | h r ts ih=>
  intro i d;obtain ⟨n,o,ts',hn,ho,e,hs⟩:=d.inv;injection e with b c;subst b c;refine (h i (kbe hn) n hn).2 ⟨o,ho,ql.2 fun a ha=>?_⟩;have key:∀ {vs:List Int} {ts:List Tm},Bts s.f_Nodes vs ts->(∀ t∈ts,∀ i,Bt s.f_Nodes i t->fg l i=true)->∀ a∈vs,fg l a.toNat=true:=by
   intro vs
   induction vs with
   | nil=>intro ts _ _ a ha;simp at ha
   | cons v vs ih2=>
    intro ts hs hi a ha;cases hs with
    | cons h0 ht hs=>
     rcases qaw.1 ha with rfl | ha;exact hi _ (qv ..) _ ht
     ·exact ih2 hs (fun t ht=>hi t (qs _ ht)) a ha
  exact key hs ih a ha
theorem krm {l:List Bool} (hl:l.length=s.f_Nodes.length):Ev (kah (ka2 s l) fuel (0,List.replicate s.f_Nodes.length false)) fun p=>p.length=s.f_Nodes.length/\∀ r∈s.f_Roots,fg p r.toNat=fg l r.toNat:=by
 have e:=kg6 hf.roots;have f:=hf.nodes;refine ka3 (xs:=s.f_Roots) (step:=ka2 s l) (fun (j:Nat) (p:List Bool)=>((j:Int),p)) (fun j p=>p.length=s.f_Nodes.length/\∀ r∈s.f_Roots.take j,fg p r.toNat=fg l r.toNat) (by omega) ⟨List.length_replicate,by simp⟩ (fun j p b ⟨h1,d⟩=>?_) (fun p ⟨h1,d⟩=>?_)
 ·have hr:=qa b;have c:=hf.roots.1 _ (qo b);simp only [ka2,ka0 b,qe,kaj,hr,qc,keo (l:=l) c.1 (by omega),keo (l:=p) c.1 (by omega),kal b (show s.f_Roots.length<=9223372036854775807 by omega)];refine ⟨_,rfl,_,rfl,by rw [qbc];exact h1,fun r a=>?_⟩;rw [kdo (by omega)];split;rename_i h;rw [h]
  ·rename_i h;rw [qab b,qad,qao] at a;rcases a with a | rfl;exact d r a
   ·exact absurd rfl h
 ·refine ⟨_,by simp only [ka2,kap,qg],_,rfl,h1,fun r hr=>d r ?_⟩;rw [qal];exact hr
theorem kpb {l p:List Bool} {i:Nat} {n:Nod} {o:Opn} (hl:l.length=s.f_Nodes.length) (hp:p.length=s.f_Nodes.length) (hn:s.f_Nodes[i]?=some n) (ho:o∈n.f_Options):Ev (kah (kas l o) fuel (0,p)) fun q=>
  q.length=s.f_Nodes.length/\(∀ k,fg p k=true->fg q k=true)/\(∀ k,i<=k->fg q k=fg p k)/\(kak (fg l) o=true->∀ a∈o.f_Args,fg q a.toNat=true):=by
 have t:=kc7 hf hn ho;have u:=hf.nodes;have b:ka6 o l=some (kak (fg l) o):=kjr (fun a ha=>by have:=keh hf hn ho ha;omega) (by omega);cases r:kak (fg l) o with
 | false=>
  rw [r] at b;refine ⟨p,?_,hp,fun k h=>h,fun k _=>rfl,fun h=>by cases h⟩;show kah _ fuel _=_;rw [show fuel=18446744073709551615+1 from rfl,kah];have:kas l o (0,p)=some (.inr p):=by
   simp only [kas];by_cases h0:(0:Int)<(o.f_Args.length:Int);rw [qaa h0,qe,b];rfl
   ·rw [q9 h0];rfl
  rw [this]
 | true=>
  rw [r] at b;refine Ev.mono (ka3 (xs:=o.f_Args) (step:=kas l o) (Q:=fun q=>q.length=s.f_Nodes.length/\(∀ k,fg p k=true->fg q k=true)/\(∀ k,i<=k->fg q k=fg p k)/\∀ a∈o.f_Args,fg q a.toNat=true) (fun (j:Nat) (q:List Bool)=>((j:Int),q))
   (fun j q=>q.length=s.f_Nodes.length/\(∀ k,fg p k=true->fg q k=true)/\(∀ k,i<=k->fg q k=fg p k)/\∀ a∈o.f_Args.take j,fg q a.toNat=true) (t0:=p) (by omega) ⟨hp,fun k h=>h,fun k _=>rfl,by simp⟩ (fun j q e ⟨h1,f,g,d⟩=>?_) (fun q ⟨h1,f,g,d⟩=>?_)) (fun q ⟨h1,f,g,d⟩=>⟨h1,f,g,fun _=>d⟩)
  ·have ha:=qa e;have m:=keh hf hn ho (qo e);simp only [kas,ka0 e,qe,b,qc,kaj,ha,keo (l:=q) m.1 (by omega),kal e (show o.f_Args.length<=9223372036854775807 by omega)];refine ⟨_,rfl,_,rfl,by rw [qbc];exact h1,fun k hk=>?_,fun k hk=>?_,fun a c=>?_⟩
   ·rw [kdo (by omega)];split;rfl
    ·exact f k hk
   rw [kdo (by omega),qh (by omega)];exact g k hk
   ·rw [kdo (by omega)];split;rfl
    ·rename_i h;rw [qab e,qad,qao] at c;rcases c with c | rfl;exact d a c
     ·exact absurd rfl h
  ·refine ⟨_,by simp only [kas,kap,qg,qc],_,rfl,h1,f,g,?_⟩;rw [qal] at d;exact d
theorem knn {l p:List Bool} {i:Nat} {n:Nod} (hl:l.length=s.f_Nodes.length) (hp:p.length=s.f_Nodes.length) (hn:s.f_Nodes[i]?=some n) (x:Int×List Bool) (m:x.1=(i:Int)):Ev (kah (ka1 s l x) fuel (0,p)) fun q=>
  q.length=s.f_Nodes.length/\(∀ k,fg p k=true->fg q k=true)/\(∀ k,i<=k->fg q k=fg p k)/\(fg p i=true->∀ o∈n.f_Options,kak (fg l) o=true->∀ a∈o.f_Args,fg q a.toNat=true):=by
 have r:=olen hf hn;have hi:=kbe hn;refine ka3 (xs:=n.f_Options) (step:=ka1 s l x) (fun (j:Nat) (q:List Bool)=>((j:Int),q))
  (fun j q=>q.length=s.f_Nodes.length/\(∀ k,fg p k=true->fg q k=true)/\(∀ k,i<=k->fg q k=fg p k)/\(fg p i=true->∀ o∈n.f_Options.take j,kak (fg l) o=true->∀ a∈o.f_Args,fg q a.toNat=true)) (by omega) ⟨hp,fun k h=>h,fun k _=>rfl,by simp⟩ (fun j q c ⟨h1,e,d,f⟩=>?_) (fun q ⟨h1,e,d,f⟩=>?_)
 ·have ho:=qa c;have hm:=qo c;simp only [ka1,m,kaj,hn,qc,ka0 c,qe,ket (show i<q.length by omega),d i (qt _),ho,kal c (show n.f_Options.length<=9223372036854775807 by omega)];cases g:fg p i with
  | false=>
   simp only [qg];exact ⟨_,rfl,h1,e,d,fun h=>absurd h (by simp)⟩
  | true=>
   simp only [qe];refine kcd (Ev.mono (kpb hf hl h1 hn hm) fun q' ⟨g1,g2,g3,g4⟩=>?_);refine ⟨_,rfl,_,rfl,g1,fun k hk=>g2 k (e k hk),fun k hk=>by rw [g3 k hk,d k hk],fun _ o b hfo a ha=>?_⟩;rw [qab c,qad,qao] at b;rcases b with b | rfl;exact g2 _ (f g o b hfo a ha)
   ·exact g4 hfo a ha
 ·refine ⟨_,by simp only [ka1,m,kaj,hn,qc,kap,qg],_,rfl,h1,e,d,?_⟩;rw [qal] at f;exact f
theorem kwt {l p:List Bool} (hl:l.length=s.f_Nodes.length) (hp:p.length=s.f_Nodes.length):Ev (kah (kbf s l) fuel (w64 ((s.f_Nodes.length:Int) - 1),p)) fun q=>
  q.length=s.f_Nodes.length/\(∀ k,fg p k=true->fg q k=true)/\∀ (i:Nat) (n:Nod),s.f_Nodes[i]?=some n->fg q i=true->∀ o∈n.f_Options,kak (fg l) o=true->∀ a∈o.f_Args,fg q a.toNat=true:=by
 have j:=hf.nodes;have e0:w64 ((s.f_Nodes.length:Int) - 1)=(s.f_Nodes.length:Int) - 1:=kd8 (by omega) (by omega);rw [e0];refine kle (fun (x:Int×List Bool) => -1<=x.1/\x.1<(s.f_Nodes.length:Int)/\x.2.length=s.f_Nodes.length/\(∀ k,fg p k=true->fg x.2 k=true)/\∀ (i:Nat) (n:Nod),x.1<(i:Int)->s.f_Nodes[i]?=some n->fg x.2 i=true->∀ o∈n.f_Options,kak (fg l) o=true->∀ a∈o.f_Args,fg x.2 a.toNat=true)
  (fun x=>(x.1+1).toNat) (by show ((s.f_Nodes.length:Int) - 1+1).toNat<_;omega) ⟨by show (-1:Int)<=(s.f_Nodes.length:Int) - 1;omega,by show (s.f_Nodes.length:Int) - 1<_;omega,hp,fun k h=>h,fun i n h hn=>by have:=kbe hn;have u:(s.f_Nodes.length:Int) - 1<(i:Int):=h;omega⟩ ?_
 rintro ⟨z,q⟩ ⟨h0,h1,d,e,f⟩;simp only at h0 h1 d e f;by_cases m:0<=z
 ·obtain ⟨i,rfl⟩:∃ i:Nat,z=(i:Int):=⟨z.toNat,by omega⟩;have hi:i<s.f_Nodes.length:=by omega
  have hn:=qa hi;have e1:w64 ((i:Int) - 1)=(i:Int) - 1:=kd8 (by omega) (by omega);simp only [kbf,qaa m,qe,e1];refine kcd (Ev.mono (knn hf hl d hn _ rfl) fun q' ⟨g1,g2,g3,g4⟩=>?_);refine ⟨_,rfl,⟨by show (-1:Int)<=(i:Int) - 1;omega,by show (i:Int) - 1<_;omega,g1,fun k hk=>g2 k (e k hk),fun k n hk b r o ho hfo a ha=>?_⟩,by show ((i:Int) - 1+1).toNat<((i:Int)+1).toNat;omega⟩;have t:(i:Int) - 1<(k:Int):=hk;have c:fg q k=true:=by rw [<- g3 k (by omega)];exact r
  by_cases g:k=i;subst g;rw [hn] at b;cases b;exact g4 c o ho hfo a ha
  ·exact g2 _ (f k n (by omega) b c o ho hfo a ha)
 ·obtain rfl:z = -1:=by omega
  refine ⟨.inr q,by simp only [kbf];rfl,d,e,fun i n hn=>f i n (by omega) hn⟩
end
end Go.Proofs.YtpnnpkmjohkgiaaGreatDoor
