import Derived.Test.YtpcfkflhnkfjjaaGreatDd
set_option linter.all false
set_option maxRecDepth 100000
namespace Go.Proofs.YtpcfkflhnkfjjaaGreat
open Go Go.RowKit
def fg (l:List Bool) (i:Nat):Bool:=(l[i]?).getD false
theorem kse {l:List Bool} {a:Int} (h0:0<=a) (h1:a<(l.length:Int)):idx l a=some (fg l a.toNat):=by
 have b:a.toNat<l.length:=by omega
 unfold idx fg;rw [qn h0,qb b];rfl
theorem kyi {l:List Bool} {i:Nat} (h:i<l.length):l[i]?=some (fg l i):=by unfold fg;rw [qb h];rfl
theorem kp1 {l:List Bool} {i:Nat} (h:i<l.length) (b:Bool) (j:Nat):fg (l.set i b) j=if j=i then b else fg l j:=by
 unfold fg;by_cases a:j=i;subst a;rw [qn rfl,qbk h];rfl
 ·rw [qk a,List.getElem?_set_ne (by omega)]
theorem kaax (n i:Nat):fg (List.replicate n false) i=false:=by unfold fg;rw [qbc];split <;> rfl
theorem kte {l:List Int} {n:Nat} (h:AscP l n):l.length<=n:=by
 have key:∀ (i:Nat) (x:Int),l[i]?=some x->(i:Int)<=x:=by
  intro i
  induction i with
  | zero=>intro x a;exact (h.1 x (qm a)).1
  | succ i ih=>
   intro x a;have hi:=kc6 a;have b:=qb (l:=l) (i:=i) (by omega);have:=h.2 i _ x b a;have:=ih _ b;omega
 by_cases h0:l.length=0;omega
 ·have a:=qb (l:=l) (i:=l.length - 1) (by omega);have h1:=key _ _ a;have c:=(h.1 _ (qm a)).2;omega
theorem kh6 {s:Spa} (hf:kgy s) {i:Nat} {n:Nod} {o:Opn} (hn:s.f_Nodes[i]?=some n) (ho:o∈n.f_Options):o.f_Args.length<=24:=by
 have c:=hf.node i n hn;have d:=c.opt o ho;have key:∀ l:List Int,(∀ a∈l,0<=a/\a<(i:Int))->(l.length:Int)<=(l.map (szAt s.f_Nodes)).sum:=by
  intro l
  induction l with
  | nil=>intro _;simp
  | cons a l ih=>
   intro h;have h1:=ih fun b f=>h b (qo _ f);have e:=h a (qs ..);have g:=kc6 hn;obtain ⟨m,_,e2,e3,_⟩:=kqs (ns:=s.f_Nodes) e.1 (by omega);have j:=(hf.node _ m e2).size;simp only [qax,qbi,List.sum_cons];omega
 have h1:=key _ d.args;have e:=d.size;have g:=c.size;omega
theorem ktt {f g:Nat->Bool} {o:Opn} (h:∀ a∈o.f_Args,f a.toNat=g a.toNat):kcj f o=kcj g o:=by unfold kcj;rw [Bool.eq_iff_iff,qr,qr];exact ⟨fun k a ha=>by rw [<- h a ha];exact k a ha,fun k a ha=>by rw [h a ha];exact k a ha⟩
theorem kze {o:Opn} {l:List Bool} (h:∀ a∈o.f_Args,0<=a/\a<(l.length:Int)) (g:o.f_Args.length<=9223372036854775807):kb3 o l=some (kcj (fg l) o):=by
 unfold kb3
 let bad:Nat->Bool:=fun j=>!fg l ((o.f_Args[j]?).getD 0).toNat
 have hs:∀ j,j<o.f_Args.length->kc0 o l (j:Int)=if bad j=true then some (.inr (.inr false)) else some (.inl ((j+1:Nat):Int)):=fun j c=>by
  have ha:=h _ (qq c);have e:bad j=!fg l o.f_Args[j].toNat:=by show (!fg l ((o.f_Args[j]?).getD 0).toNat)=_;rw [qb c,qw]
  rw [e];simp only [kc0,kav c,qf,kaf,qb c,qa,kal c g,kse ha.1 ha.2];cases fg l o.f_Args[j].toNat <;> rfl
 have i:kc0 o l (o.f_Args.length:Int)=some (.inr (.inl ())):=by simp only [kc0,kaq,qc]
 rcases kjm (step:=kc0 o l) o.f_Args.length (by omega) bad (fun _ => .inr false) (.inl ()) hs i with ⟨j,c,f,_,hr⟩ | ⟨f,hr⟩
 ·rw [hr];have b:(!fg l ((o.f_Args[j]?).getD 0).toNat)=true:=f;rw [qb c,qw] at b;have:kcj (fg l) o=false:=by rw [Bool.eq_false_iff];intro d;have:=qr.1 d _ (qq c);rw [this] at b;cases b
  rw [this];rfl
 ·rw [hr];have:kcj (fg l) o=true:=qr.2 fun a ha=>by
   obtain ⟨j,c,rfl⟩:=qaa.1 ha;have b:(!fg l ((o.f_Args[j]?).getD 0).toNat)=false:=f j c;rw [qb c,qw] at b;cases k:fg l o.f_Args[j].toNat with
   | true=>rfl
   | false=>rw [k] at b;cases b
  rw [this];rfl
section
variable {s:Spa} (hf:kgy s)
include hf
theorem olen {i:Nat} {n:Nod} (hn:s.f_Nodes[i]?=some n):n.f_Options.length<=32768:=qaf (kwd hn) hf.opts
theorem kmw {i:Nat} {n:Nod} {o:Opn} (hn:s.f_Nodes[i]?=some n) (ho:o∈n.f_Options) {a:Int} (ha:a∈o.f_Args):0<=a/\a<(i:Int)/\a<(s.f_Nodes.length:Int):=by have h1:=((hf.node i n hn).opt o ho).args a ha;have b:=kc6 hn;omega
def kvp (s:Spa) (l:List Bool) (i:Nat):Prop:=∀ n,s.f_Nodes[i]?=some n->(fg l i=true↔∃ o∈n.f_Options,kcj (fg l) o=true)
theorem k7a:Ev (kge s) fun l=>l.length=s.f_Nodes.length/\∀ i,i<s.f_Nodes.length->kvp s l i:=by
 have v:=hf.nodes;unfold kge;rw [kmp 1 false s.f_Nodes.length (by omega),qa];refine kds (Ev.mono (kb9 (xs:=s.f_Nodes) (step:=ke9 s) (Q:=fun l=>l.length=s.f_Nodes.length/\∀ i,i<s.f_Nodes.length->kvp s l i) (fun (i:Nat) (l:List Bool)=>((i:Int),l))
  (fun i l=>l.length=s.f_Nodes.length/\(∀ k,k<i->kvp s l k)/\∀ k,i<=k->fg l k=false) (t0:=List.replicate s.f_Nodes.length false) (by omega) ⟨qap,fun k h=>by omega,fun k _=>kaax _ _⟩ (fun i l hi ⟨h1,d,t⟩=>?_) (fun l ⟨h1,d,t⟩=>?_)) ?_)
 ·have hn:=qb hi;have w:=olen hf hn;simp only [ke9,kav hi,qf,kal hi (show s.f_Nodes.length<=9223372036854775807 by omega)];refine kds (Ev.mono (kb9 (xs:=s.f_Nodes[i].f_Options) (step:=ke8 s ((i:Int),l)) (Q:=fun l'=>l'.length=s.f_Nodes.length/\(∀ k,k≠i->fg l' k=fg l k)/\(fg l' i=true↔∃ o∈s.f_Nodes[i].f_Options,kcj (fg l) o=true)) (fun (k:Nat) (l':List Bool)=>((k:Int),l'))
   (fun k l'=>l'.length=s.f_Nodes.length/\(∀ k,k≠i->fg l' k=fg l k)/\(fg l' i=true↔∃ o∈s.f_Nodes[i].f_Options.take k,kcj (fg l) o=true)) (t0:=l) (by omega) ⟨h1,fun _ _=>rfl,by simp [t i (qx _)]⟩ (fun k l' hk ⟨g1,g2,g3⟩=>?_) (fun l' ⟨g1,g2,g3⟩=>?_)) ?_)
  rotate_left
  ·have ho:=qb hk;have hm:=qq hk;have g:i<l'.length:=(by omega);have p:kb3 s.f_Nodes[i].f_Options[k] l'=some (kcj (fg l) s.f_Nodes[i].f_Options[k]):=(by rw [kze (fun a ha=>by have:=kmw hf hn hm ha;omega) (by have:=kh6 hf hn hm;omega)];congr 1;exact ktt fun a ha=>g2 _ (by have:=kmw hf hn hm ha;omega));have hst:∀ b:Bool,(b=true↔(fg l' i=true\/kcj (fg l) s.f_Nodes[i].f_Options[k]=true))->(l'.set i b).length=s.f_Nodes.length/\(∀ k,k≠i->fg (l'.set i b) k=fg l k)/\(fg (l'.set i b) i=true↔∃ o∈s.f_Nodes[i].f_Options.take (k+1),kcj (fg l) o=true):=fun b r=>by
    refine ⟨by rw [qbp];exact g1,fun j u=>by rw [kp1 g,qk u];exact g2 j u,?_⟩;rw [kp1 g,qn rfl,r,g3,qz hk];simp only [qac,qas];constructor
    ·rintro (⟨o,h1,d⟩ | d);exact ⟨o, .inl h1,d⟩
     ·exact ⟨_, .inr rfl,d⟩
    ·rintro ⟨o,h1 | rfl,d⟩;exact .inl ⟨o,h1,d⟩
     ·exact .inr d
   simp only [ke8,kaf,hn,qa,kav hk,qf,kyi g,kal hk (show s.f_Nodes[i].f_Options.length<=9223372036854775807 by omega),ho,p,q8];cases r:fg l' i with
   | true=>
    simp only [qf,qa];exact ⟨_,rfl,_,rfl,hst true (by simp [r])⟩
   | false=>
    simp only [qc,qa];exact ⟨_,rfl,_,rfl,hst _ (by simp [r])⟩
  refine ⟨_,by simp only [ke8,kaf,hn,qa,kaq,qc],_,rfl,g1,g2,?_⟩;rw [qaw] at g3;exact g3
  ·rintro l' ⟨g1,g2,g3⟩;refine ⟨_,rfl,_,rfl,g1,fun k hk n e=>?_,fun k hk=>?_⟩
   ·have f:∀ o∈n.f_Options,kcj (fg l') o=kcj (fg l) o:=fun o ho=>ktt fun a ha=>g2 _ (by have:=kmw hf e ho ha;omega);by_cases q:k=i;subst q;rw [hn] at e;cases e;rw [g3];exact ⟨fun ⟨o,c,m⟩=>⟨o,c,by rw [f o c];exact m⟩,fun ⟨o,c,m⟩=>⟨o,c,by rw [<- f o c];exact m⟩⟩
    ·rw [g2 k q,d k (by omega) n e];exact ⟨fun ⟨o,c,m⟩=>⟨o,c,by rw [f o c];exact m⟩,fun ⟨o,c,m⟩=>⟨o,c,by rw [<- f o c];exact m⟩⟩
   ·rw [g2 k (by omega)];exact t k (by omega)
 exact ⟨_,by simp only [ke9,kaq,qc],_,rfl,h1,d⟩
 ·intro l h;exact ⟨l,rfl,h⟩
omit hf in
theorem k85 {l:List Bool} (h:∀ i,i<s.f_Nodes.length->kvp s l i):∀ (t:Tm) (i:Nat),Bt s.f_Nodes i t->fg l i=true:=by
 intro t
 induction t using Tm.ind with
 | h r ts ih=>
  intro i d;obtain ⟨n,o,ts',hn,ho,e,hs⟩:=d.inv;injection e with b c;subst b c;refine (h i (kc6 hn) n hn).2 ⟨o,ho,qr.2 fun a ha=>?_⟩;have key:∀ {vs:List Int} {ts:List Tm},Bts s.f_Nodes vs ts->(∀ t∈ts,∀ i,Bt s.f_Nodes i t->fg l i=true)->∀ a∈vs,fg l a.toNat=true:=by
   intro vs
   induction vs with
   | nil=>intro ts _ _ a ha;simp at ha
   | cons v vs ih2=>
    intro ts hs hi a ha;cases hs with
    | cons h0 ht hs=>
     rcases qar.1 ha with rfl | ha;exact hi _ (qs ..) _ ht
     ·exact ih2 hs (fun t ht=>hi t (qo _ ht)) a ha
  exact key hs ih a ha
theorem k1w {l:List Bool} (hl:l.length=s.f_Nodes.length):Ev (kab (kdx s l) fuel (0,List.replicate s.f_Nodes.length false)) fun p=>p.length=s.f_Nodes.length/\∀ r∈s.f_Roots,fg p r.toNat=fg l r.toNat:=by
 have e:=kte hf.roots;have f:=hf.nodes;refine kb9 (xs:=s.f_Roots) (step:=kdx s l) (fun (j:Nat) (p:List Bool)=>((j:Int),p)) (fun j p=>p.length=s.f_Nodes.length/\∀ r∈s.f_Roots.take j,fg p r.toNat=fg l r.toNat) (by omega) ⟨qap,by simp⟩ (fun j p b ⟨h1,d⟩=>?_) (fun p ⟨h1,d⟩=>?_)
 ·have hr:=qb b;have c:=hf.roots.1 _ (qq b);simp only [kdx,kav b,qf,kaf,hr,qa,kse (l:=l) c.1 (by omega),kse (l:=p) c.1 (by omega),kal b (show s.f_Roots.length<=9223372036854775807 by omega)];refine ⟨_,rfl,_,rfl,by rw [qbp];exact h1,fun r a=>?_⟩;rw [kp1 (by omega)];split;rename_i h;rw [h]
  ·rename_i h;rw [qz b,qac,qas] at a;rcases a with a | rfl;exact d r a
   ·exact absurd rfl h
 ·refine ⟨_,by simp only [kdx,kaq,qc],_,rfl,h1,fun r hr=>d r ?_⟩;rw [qaw];exact hr
theorem k6e {l p:List Bool} {i:Nat} {n:Nod} {o:Opn} (hl:l.length=s.f_Nodes.length) (hp:p.length=s.f_Nodes.length) (hn:s.f_Nodes[i]?=some n) (ho:o∈n.f_Options):Ev (kab (kb0 l o) fuel (0,p)) fun q=>
  q.length=s.f_Nodes.length/\(∀ k,fg p k=true->fg q k=true)/\(∀ k,i<=k->fg q k=fg p k)/\(kcj (fg l) o=true->∀ a∈o.f_Args,fg q a.toNat=true):=by
 have t:=kh6 hf hn ho;have u:=hf.nodes;have b:kb3 o l=some (kcj (fg l) o):=kze (fun a ha=>by have:=kmw hf hn ho ha;omega) (by omega);cases r:kcj (fg l) o with
 | false=>
  rw [r] at b;refine ⟨p,?_,hp,fun k h=>h,fun k _=>rfl,fun h=>by cases h⟩;show kab _ fuel _=_;rw [show fuel=18446744073709551615+1 from rfl,kab];have:kb0 l o (0,p)=some (.inr p):=by
   simp only [kb0];by_cases h0:(0:Int)<(o.f_Args.length:Int);rw [qh h0,qf,b];rfl
   ·rw [qe h0];rfl
  rw [this]
 | true=>
  rw [r] at b;refine Ev.mono (kb9 (xs:=o.f_Args) (step:=kb0 l o) (Q:=fun q=>q.length=s.f_Nodes.length/\(∀ k,fg p k=true->fg q k=true)/\(∀ k,i<=k->fg q k=fg p k)/\∀ a∈o.f_Args,fg q a.toNat=true) (fun (j:Nat) (q:List Bool)=>((j:Int),q))
   (fun j q=>q.length=s.f_Nodes.length/\(∀ k,fg p k=true->fg q k=true)/\(∀ k,i<=k->fg q k=fg p k)/\∀ a∈o.f_Args.take j,fg q a.toNat=true) (t0:=p) (by omega) ⟨hp,fun k h=>h,fun k _=>rfl,by simp⟩ (fun j q e ⟨h1,f,g,d⟩=>?_) (fun q ⟨h1,f,g,d⟩=>?_)) (fun q ⟨h1,f,g,d⟩=>⟨h1,f,g,fun _=>d⟩)
  ·have ha:=qb e;have m:=kmw hf hn ho (qq e);simp only [kb0,kav e,qf,b,qa,kaf,ha,kse (l:=q) m.1 (by omega),kal e (show o.f_Args.length<=9223372036854775807 by omega)];refine ⟨_,rfl,_,rfl,by rw [qbp];exact h1,fun k hk=>?_,fun k hk=>?_,fun a c=>?_⟩
   ·rw [kp1 (by omega)];split;rfl
    ·exact f k hk
   rw [kp1 (by omega),qk (by omega)];exact g k hk
   ·rw [kp1 (by omega)];split;rfl
    ·rename_i h;rw [qz e,qac,qas] at c;rcases c with c | rfl;exact d a c
     ·exact absurd rfl h
  ·refine ⟨_,by simp only [kb0,kaq,qc,qa],_,rfl,h1,f,g,?_⟩;rw [qaw] at d;exact d
theorem k4k {l p:List Bool} {i:Nat} {n:Nod} (hl:l.length=s.f_Nodes.length) (hp:p.length=s.f_Nodes.length) (hn:s.f_Nodes[i]?=some n) (x:Int×List Bool) (r:x.1=(i:Int)):Ev (kab (kdu s l x) fuel (0,p)) fun q=>
  q.length=s.f_Nodes.length/\(∀ k,fg p k=true->fg q k=true)/\(∀ k,i<=k->fg q k=fg p k)/\(fg p i=true->∀ o∈n.f_Options,kcj (fg l) o=true->∀ a∈o.f_Args,fg q a.toNat=true):=by
 have t:=olen hf hn;have hi:=kc6 hn;refine kb9 (xs:=n.f_Options) (step:=kdu s l x) (fun (j:Nat) (q:List Bool)=>((j:Int),q))
  (fun j q=>q.length=s.f_Nodes.length/\(∀ k,fg p k=true->fg q k=true)/\(∀ k,i<=k->fg q k=fg p k)/\(fg p i=true->∀ o∈n.f_Options.take j,kcj (fg l) o=true->∀ a∈o.f_Args,fg q a.toNat=true)) (by omega) ⟨hp,fun k h=>h,fun k _=>rfl,by simp⟩ (fun j q c ⟨h1,f,d,g⟩=>?_) (fun q ⟨h1,f,d,g⟩=>?_)
 ·have ho:=qb c;have hm:=qq c;simp only [kdu,r,kaf,hn,qa,kav c,qf,kyi (show i<q.length by omega),d i (qx _),ho,kal c (show n.f_Options.length<=9223372036854775807 by omega)];cases m:fg p i with
  | false=>
   simp only [qc];exact ⟨_,rfl,h1,f,d,fun h=>absurd h (by simp)⟩
  | true=>
   simp only [qf];refine kds (Ev.mono (k6e hf hl h1 hn hm) fun q' ⟨g1,g2,g3,g4⟩=>?_);refine ⟨_,rfl,_,rfl,g1,fun k hk=>g2 k (f k hk),fun k hk=>by rw [g3 k hk,d k hk],fun _ o b e a ha=>?_⟩;rw [qz c,qac,qas] at b;rcases b with b | rfl;exact g2 _ (g m o b e a ha)
   ·exact g4 e a ha
 ·refine ⟨_,by simp only [kdu,r,kaf,hn,qa,kaq,qc],_,rfl,h1,f,d,?_⟩;rw [qaw] at g;exact g
theorem k69 {l p:List Bool} (hl:l.length=s.f_Nodes.length) (hp:p.length=s.f_Nodes.length):Ev (kab (kfd s l) fuel (w64 ((s.f_Nodes.length:Int) - 1),p)) fun q=>
  q.length=s.f_Nodes.length/\(∀ k,fg p k=true->fg q k=true)/\∀ (i:Nat) (n:Nod),s.f_Nodes[i]?=some n->fg q i=true->∀ o∈n.f_Options,kcj (fg l) o=true->∀ a∈o.f_Args,fg q a.toNat=true:=by
 have m:=hf.nodes;have e0:w64 ((s.f_Nodes.length:Int) - 1)=(s.f_Nodes.length:Int) - 1:=kbq (by omega) (by omega);rw [e0];refine kt9 (fun (x:Int×List Bool) => -1<=x.1/\x.1<(s.f_Nodes.length:Int)/\x.2.length=s.f_Nodes.length/\(∀ k,fg p k=true->fg x.2 k=true)/\∀ (i:Nat) (n:Nod),x.1<(i:Int)->s.f_Nodes[i]?=some n->fg x.2 i=true->∀ o∈n.f_Options,kcj (fg l) o=true->∀ a∈o.f_Args,fg x.2 a.toNat=true)
  (fun x=>(x.1+1).toNat) (by show ((s.f_Nodes.length:Int) - 1+1).toNat<_;omega) ⟨by show (-1:Int)<=(s.f_Nodes.length:Int) - 1;omega,by show (s.f_Nodes.length:Int) - 1<_;omega,hp,fun k h=>h,fun i n h hn=>by have:=kc6 hn;have v:(s.f_Nodes.length:Int) - 1<(i:Int):=h;omega⟩ ?_
 rintro ⟨z,q⟩ ⟨h0,h1,e,f,g⟩;simp only at h0 h1 e f g;by_cases r:0<=z
 ·obtain ⟨i,rfl⟩:∃ i:Nat,z=(i:Int):=⟨z.toNat,by omega⟩;have hi:i<s.f_Nodes.length:=by omega
  have hn:=qb hi;have e1:w64 ((i:Int) - 1)=(i:Int) - 1:=kbq (by omega) (by omega);simp only [kfd,qh r,qf,e1];refine kds (Ev.mono (k4k hf hl e hn _ rfl) fun q' ⟨g1,g2,g3,g4⟩=>?_);refine ⟨_,rfl,⟨by show (-1:Int)<=(i:Int) - 1;omega,by show (i:Int) - 1<_;omega,g1,fun k hk=>g2 k (f k hk),fun k n hk b t o ho c a ha=>?_⟩,by show ((i:Int) - 1+1).toNat<((i:Int)+1).toNat;omega⟩;have u:(i:Int) - 1<(k:Int):=hk;have d:fg q k=true:=by rw [<- g3 k (by omega)];exact t
  by_cases j:k=i;subst j;rw [hn] at b;cases b;exact g4 d o ho c a ha
  ·exact g2 _ (g k n (by omega) b d o ho c a ha)
 ·obtain rfl:z = -1:=by omega
  refine ⟨.inr q,by simp only [kfd];rfl,e,f,fun i n hn=>g i n (by omega) hn⟩
end
end Go.Proofs.YtpcfkflhnkfjjaaGreat
