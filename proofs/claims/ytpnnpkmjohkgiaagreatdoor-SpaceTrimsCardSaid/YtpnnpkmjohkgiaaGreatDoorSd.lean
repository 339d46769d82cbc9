import Derived.Test.YtpnnpkmjohkgiaaGreatDoorSc
import Derived.Test.YtpnnpkmjohkgiaaGreatDoorDf
set_option linter.all false
set_option maxRecDepth 100000
namespace Go.Proofs.YtpnnpkmjohkgiaaGreatDoor
open Go Go.RowKit
inductive Nd (s:Spa) (f:Nat->Bool):Nat->Prop where
 | root {r:Int} (hr:r∈s.f_Roots) (hf:f r.toNat=true):Nd s f r.toNat
 | arg {i:Nat} {n:Nod} {o:Opn} {a:Int} (hi:Nd s f i) (hn:s.f_Nodes[i]?=some n) (ho:o∈n.f_Options) (hfo:kak f o=true) (ha:a∈o.f_Args):Nd s f a.toNat
theorem kmi {α:Type} {x:Option α} {P Q:α->Prop} (h:Ev x P) (k:Ev x Q):Ev x fun v=>P v/\Q v:=by obtain ⟨v,h1,a⟩:=h;obtain ⟨u,k1,k2⟩:=k;rw [h1] at k1;cases k1;exact ⟨v,h1,a,k2⟩
structure ki4 (s:Spa) (l q:List Bool):Prop where
 len:l.length=s.f_Nodes.length
 full:∀ i,i<s.f_Nodes.length->kfb s l i
 qlen:q.length=s.f_Nodes.length
 need:∀ k,fg q k=true↔Nd s (fg l) k
section
variable {s:Spa} (hf:kcg s)
include hf
theorem kut {l q l' q':List Bool} (h:ki4 s l q) (a:ki4 s l' q'):l=l'/\q=q':=by
 obtain rfl:=ktq hf h.len h.full a.len a.full;refine ⟨rfl,List.ext_getElem? fun i=>?_⟩;have h1:=h.qlen;have b:=a.qlen;by_cases hi:i<s.f_Nodes.length;rw [ket (by omega),ket (by omega)];congr 1;rw [Bool.eq_iff_iff,h.need,a.need]
 ·rw [qan (by omega),qan (by omega)]
theorem kv2 {l:List Bool} (hl:l.length=s.f_Nodes.length):Ev (kah (ka2 s l) fuel (0,List.replicate s.f_Nodes.length false)) fun p=>∀ k,fg p k=true->Nd s (fg l) k:=by
 have d:=kg6 hf.roots;have e:=hf.nodes;refine ka3 (xs:=s.f_Roots) (step:=ka2 s l) (fun (j:Nat) (p:List Bool)=>((j:Int),p)) (fun j p=>p.length=s.f_Nodes.length/\∀ k,fg p k=true->Nd s (fg l) k) (by omega) ⟨List.length_replicate,fun k h=>by rw [koo] at h;cases h⟩ (fun j p a ⟨h1,c⟩=>?_) (fun p ⟨h1,c⟩=>?_)
 ·have hr:=qa a;have b:=hf.roots.1 _ (qo a);simp only [ka2,ka0 a,qe,kaj,hr,qc,keo (l:=l) b.1 (by omega),keo (l:=p) b.1 (by omega),kal a (show s.f_Roots.length<=9223372036854775807 by omega)];refine ⟨_,rfl,_,rfl,by rw [qbc];exact h1,fun k hk=>?_⟩;rw [kdo (by omega)] at hk;split at hk;rename_i h;subst h;exact .root (qo a) hk
  ·exact c k hk
 ·exact ⟨_,by simp only [ka2,kap,qg],_,rfl,c⟩
theorem k2i {S:Nat->Prop} {l p:List Bool} {i:Nat} {n:Nod} {o:Opn} (hl:l.length=s.f_Nodes.length) (hp:p.length=s.f_Nodes.length) (hn:s.f_Nodes[i]?=some n) (ho:o∈n.f_Options) (hS:∀ k,fg p k=true->S k) (hA:kak (fg l) o=true->∀ a∈o.f_Args,S a.toNat):
  Ev (kah (kas l o) fuel (0,p)) fun q=>∀ k,fg q k=true->S k:=by
 have f:=kc7 hf hn ho;have g:=hf.nodes;have b:ka6 o l=some (kak (fg l) o):=kjr (fun a ha=>by have:=keh hf hn ho ha;omega) (by omega);refine ka3 (xs:=o.f_Args) (step:=kas l o) (fun (j:Nat) (q:List Bool)=>((j:Int),q)) (fun j q=>q.length=s.f_Nodes.length/\∀ k,fg q k=true->S k) (by omega) ⟨hp,hS⟩ (fun j q c ⟨h1,d⟩=>?_) (fun q ⟨h1,d⟩=>?_)
 ·have ha:=qa c;have e:=keh hf hn ho (qo c);simp only [kas,ka0 c,qe,b,qc,kaj,ha,keo (l:=q) e.1 (by omega),kal c (show o.f_Args.length<=9223372036854775807 by omega)];cases m:kak (fg l) o with
  | false=>exact ⟨_,rfl,d⟩
  | true=>
   refine ⟨_,rfl,_,rfl,by rw [qbc];exact h1,fun k hk=>?_⟩;rw [kdo (by omega)] at hk;split at hk;rename_i h;subst h;exact hA m _ (qo c)
   ·exact d k hk
 ·exact ⟨_,by simp only [kas,kap,qg,qc],_,rfl,d⟩
theorem kyb {S:Nat->Prop} {l p:List Bool} {i:Nat} {n:Nod} (hl:l.length=s.f_Nodes.length) (hp:p.length=s.f_Nodes.length) (hn:s.f_Nodes[i]?=some n) (x:Int×List Bool) (f:x.1=(i:Int)) (hS:∀ k,fg p k=true->S k) (hA:fg p i=true->∀ o∈n.f_Options,kak (fg l) o=true->∀ a∈o.f_Args,S a.toNat):
  Ev (kah (ka1 s l x) fuel (0,p)) fun q=>∀ k,fg q k=true->S k:=by
 have g:=olen hf hn;have hi:=kbe hn;refine ka3 (xs:=n.f_Options) (step:=ka1 s l x) (fun (j:Nat) (q:List Bool)=>((j:Int),q)) (fun j q=>q.length=s.f_Nodes.length/\(∀ k,i<=k->fg q k=fg p k)/\∀ k,fg q k=true->S k) (by omega) ⟨hp,fun k _=>rfl,hS⟩ (fun j q b ⟨h1,d,c⟩=>?_) (fun q ⟨h1,d,c⟩=>?_)
 ·have ho:=qa b;have hm:=qo b;simp only [ka1,f,kaj,hn,qc,ka0 b,qe,ket (show i<q.length by omega),d i (qt _),ho,kal b (show n.f_Options.length<=9223372036854775807 by omega)];cases e:fg p i with
  | false=>exact ⟨_,rfl,c⟩
  | true=>
   simp only [qe];refine kcd (Ev.mono (kmi (kpb hf hl h1 hn hm) (k2i hf hl h1 hn hm c (hA e _ hm))) fun q' ⟨⟨g1,g2,g3,g4⟩,g5⟩=>?_);exact ⟨_,rfl,_,rfl,g1,fun k hk=>by rw [g3 k hk,d k hk],g5⟩
 ·exact ⟨_,by simp only [ka1,f,kaj,hn,qc,kap,qg],_,rfl,c⟩
theorem k02 {l p:List Bool} (hl:l.length=s.f_Nodes.length) (hp:p.length=s.f_Nodes.length) (hS:∀ k,fg p k=true->Nd s (fg l) k):Ev (kah (kbf s l) fuel (w64 ((s.f_Nodes.length:Int) - 1),p)) fun q=>∀ k,fg q k=true->Nd s (fg l) k:=by
 have d:=hf.nodes;have e0:w64 ((s.f_Nodes.length:Int) - 1)=(s.f_Nodes.length:Int) - 1:=kd8 (by omega) (by omega);rw [e0];refine kle (fun (x:Int×List Bool) => -1<=x.1/\x.1<(s.f_Nodes.length:Int)/\x.2.length=s.f_Nodes.length/\∀ k,fg x.2 k=true->Nd s (fg l) k)
  (fun x=>(x.1+1).toNat) (by show ((s.f_Nodes.length:Int) - 1+1).toNat<_;omega) ⟨by show (-1:Int)<=(s.f_Nodes.length:Int) - 1;omega,by show (s.f_Nodes.length:Int) - 1<_;omega,hp,hS⟩ ?_
 rintro ⟨z,q⟩ ⟨h0,h1,c,b⟩;simp only at h0 h1 c b;by_cases e:0<=z
 ·obtain ⟨i,rfl⟩:∃ i:Nat,z=(i:Int):=⟨z.toNat,by omega⟩;have hi:i<s.f_Nodes.length:=by omega
  have hn:=qa hi;have e1:w64 ((i:Int) - 1)=(i:Int) - 1:=kd8 (by omega) (by omega);simp only [kbf,qaa e,qe,e1];refine kcd (Ev.mono (kmi (knn hf hl c hn _ rfl) (kyb hf hl c hn _ rfl b fun f o ho hfo a ha => .arg (b _ f) hn ho hfo ha)) fun q' ⟨⟨g1,g2,g3,g4⟩,g5⟩=>?_);exact ⟨_,rfl,⟨by show (-1:Int)<=(i:Int) - 1;omega,by show (i:Int) - 1<_;omega,g1,g5⟩,by show ((i:Int) - 1+1).toNat<((i:Int)+1).toNat;omega⟩
 ·obtain rfl:z = -1:=by omega
  exact ⟨.inr q,by simp only [kbf];rfl,b⟩
theorem kvf {l:List Bool} (hl:l.length=s.f_Nodes.length):Ev (kah (kd0 s l) fuel (0,List.replicate s.f_Nodes.length false)) fun p=>p.length=s.f_Nodes.length/\(∀ r∈s.f_Roots,fg p r.toNat=fg l r.toNat)/\∀ k,fg p k=true->Nd s (fg l) k:=by
 have f:=kg6 hf.roots;have g:=hf.nodes;refine ka3 (xs:=s.f_Roots) (step:=kd0 s l) (fun (j:Nat) (p:List Bool)=>((j:Int),p)) (fun j p=>p.length=s.f_Nodes.length/\(∀ r∈s.f_Roots.take j,fg p r.toNat=fg l r.toNat)/\∀ k,fg p k=true->Nd s (fg l) k) (by omega) ⟨List.length_replicate,by simp,fun k h=>by rw [koo] at h;cases h⟩ (fun j p b ⟨h1,d,e⟩=>?_) (fun p ⟨h1,d,e⟩=>?_)
 ·have hr:=qa b;have c:=hf.roots.1 _ (qo b);simp only [kd0,ka0 b,qe,kaj,hr,qc,keo (l:=l) c.1 (by omega),keo (l:=p) c.1 (by omega),kal b (show s.f_Roots.length<=9223372036854775807 by omega)];refine ⟨_,rfl,_,rfl,by rw [qbc];exact h1,fun r a=>?_,fun k hk=>?_⟩
  ·rw [kdo (by omega)];split;rename_i h;rw [h]
   ·rename_i h;rw [qab b,qad,qao] at a;rcases a with a | rfl;exact d r a
    ·exact absurd rfl h
  ·rw [kdo (by omega)] at hk;split at hk;rename_i h;subst h;exact .root (qo b) hk
   ·exact e k hk
 ·refine ⟨_,by simp only [kd0,kap,qg],_,rfl,h1,fun r hr=>d r ?_,e⟩;rw [qal];exact hr
theorem k0x {S:Nat->Prop} {l p:List Bool} {i:Nat} {n:Nod} {o:Opn} (hl:l.length=s.f_Nodes.length) (hp:p.length=s.f_Nodes.length) (hn:s.f_Nodes[i]?=some n) (ho:o∈n.f_Options) (x:Int×List Bool) (A:x.1=(i:Int)) (hS:∀ k,fg p k=true->S k) (hA:fg p i=true->kak (fg l) o=true->∀ a∈o.f_Args,S a.toNat):
  Ev (kah (kdj l x o) fuel (0,p)) fun q=>q.length=s.f_Nodes.length/\(∀ k,fg p k=true->fg q k=true)/\(∀ k,i<=k->fg q k=fg p k)/\(fg p i=true->kak (fg l) o=true->∀ a∈o.f_Args,fg q a.toNat=true)/\∀ k,fg q k=true->S k:=by
 have B:=kc7 hf hn ho;have C:=hf.nodes;have hi:=kbe hn;have f:kdn l o=some (kak (fg l) o):=kmw (fun a ha=>by have:=keh hf hn ho ha;omega) (by omega);refine Ev.mono (ka3 (xs:=o.f_Args) (step:=kdj l x o) (Q:=fun q=>q.length=s.f_Nodes.length/\(∀ k,fg p k=true->fg q k=true)/\(∀ k,i<=k->fg q k=fg p k)/\(fg p i=true->kak (fg l) o=true->∀ a∈o.f_Args,fg q a.toNat=true)/\∀ k,fg q k=true->S k) (fun (j:Nat) (q:List Bool)=>((j:Int),q))
  (fun j q=>q.length=s.f_Nodes.length/\(∀ k,fg p k=true->fg q k=true)/\(∀ k,i<=k->fg q k=fg p k)/\(fg p i=true->kak (fg l) o=true->∀ a∈o.f_Args.take j,fg q a.toNat=true)/\∀ k,fg q k=true->S k) (t0:=p) (by omega) ⟨hp,fun k h=>h,fun k _=>rfl,by simp,hS⟩ (fun j q e ⟨h1,t,g,u,v⟩=>?_) (fun q ⟨h1,t,g,u,v⟩=>?_)) (fun q h=>h)
 ·have ha:=qa e;have w:=keh hf hn ho (qo e);have m:=keo (l:=q) w.1 (by omega);have D:idx q (i:Int)=some (fg p i):=by rw [kaj,ket (by omega),g i (qt _)]
  have fin:∀ b:Bool,(fg q o.f_Args[j].toNat=true->b=true)->(fg p i=true->kak (fg l) o=true->b=true)->(b=true->fg q o.f_Args[j].toNat=true\/(fg p i=true/\kak (fg l) o=true))->∃ t',(((j+1:Nat):Int),List.set q (Int.toNat o.f_Args[j]) b)=(((j+1:Nat):Int),t') /\
    t'.length=s.f_Nodes.length/\(∀ k,fg p k=true->fg t' k=true)/\(∀ k,i<=k->fg t' k=fg p k)/\(fg p i=true->kak (fg l) o=true->∀ a∈o.f_Args.take (j+1),fg t' a.toNat=true)/\∀ k,fg t' k=true->S k:=fun b b1 b2 b3=>by
   refine ⟨_,rfl,by rw [qbc];exact h1,fun k hk=>?_,fun k hk=>?_,fun r hfo a c=>?_,fun k hk=>?_⟩
   ·rw [kdo (by omega)];split;rename_i h;subst h;exact b1 (t _ hk)
    ·exact t k hk
   rw [kdo (by omega),qh (by omega)];exact g k hk
   ·rw [kdo (by omega)];split;exact b2 r hfo
    ·rename_i h;rw [qab e,qad,qao] at c;rcases c with c | rfl;exact u r hfo a c
     ·exact absurd rfl h
   ·rw [kdo (by omega)] at hk;split at hk
    ·rename_i h;subst h;rcases b3 hk with h | ⟨h,y⟩;exact v _ h
     ·exact hA h y _ (qo e)
    ·exact v k hk
  have z:q[i]?=some (fg p i):=by rw [ket (by omega),g i (qt _)]
  have d:kdj l x o ((j:Int),q)=some (.inl (((j+1:Nat):Int),List.set q (Int.toNat o.f_Args[j]) (fg q o.f_Args[j].toNat || (fg p i && kak (fg l) o)))):=by
   simp only [kdj,ka0 e,qe,kaj,ha,qc,m,kal e (show o.f_Args.length<=9223372036854775807 by omega),A,z,f];cases fg q o.f_Args[j].toNat with
   | true=>rfl
   | false=>cases fg p i <;> rfl
  refine ⟨_,d,fin _ (fun h=>by rw [h];rfl) (fun h y=>by rw [h,y];simp) fun h=>?_⟩;cases E:fg q o.f_Args[j].toNat with
  | true=>exact .inl rfl
  | false=>
   rw [E,Bool.false_or,qn] at h;exact .inr h
 ·refine ⟨_,by simp only [kdj,kap,qg,qc],_,rfl,h1,t,g,?_,v⟩;rw [qal] at u;exact u
theorem kz1 {S:Nat->Prop} {l p:List Bool} {i:Nat} {n:Nod} (hl:l.length=s.f_Nodes.length) (hp:p.length=s.f_Nodes.length) (hn:s.f_Nodes[i]?=some n) (x:Int×List Bool) (r:x.1=(i:Int)) (hS:∀ k,fg p k=true->S k) (hA:fg p i=true->∀ o∈n.f_Options,kak (fg l) o=true->∀ a∈o.f_Args,S a.toNat):
  Ev (kah (kd1 l x n) fuel (0,p)) fun q=>q.length=s.f_Nodes.length/\(∀ k,fg p k=true->fg q k=true)/\(∀ k,i<=k->fg q k=fg p k)/\(fg p i=true->∀ o∈n.f_Options,kak (fg l) o=true->∀ a∈o.f_Args,fg q a.toNat=true)/\∀ k,fg q k=true->S k:=by
 have t:=olen hf hn;have hi:=kbe hn;refine ka3 (xs:=n.f_Options) (step:=kd1 l x n) (fun (j:Nat) (q:List Bool)=>((j:Int),q))
  (fun j q=>q.length=s.f_Nodes.length/\(∀ k,fg p k=true->fg q k=true)/\(∀ k,i<=k->fg q k=fg p k)/\(fg p i=true->∀ o∈n.f_Options.take j,kak (fg l) o=true->∀ a∈o.f_Args,fg q a.toNat=true)/\∀ k,fg q k=true->S k) (by omega) ⟨hp,fun k h=>h,fun k _=>rfl,by simp,hS⟩ (fun j q c ⟨h1,g,d,f,m⟩=>?_) (fun q ⟨h1,g,d,f,m⟩=>?_)
 ·have ho:=qa c;have hm:=qo c;simp only [kd1,kaj,qc,ka0 c,qe,ho,kal c (show n.f_Options.length<=9223372036854775807 by omega)];refine kcd (Ev.mono (k0x (S:=S) hf hl h1 hn hm x r m fun u hfo a ha=>hA (by rw [<- d i (qt _)];exact u) _ hm hfo a ha) fun q' ⟨g1,g2,g3,g4,g5⟩=>?_);refine ⟨_,rfl,_,rfl,g1,fun k hk=>g2 k (g k hk),fun k hk=>by rw [g3 k hk,d k hk],fun e o b hfo a ha=>?_,g5⟩;rw [qab c,qad,qao] at b;rcases b with b | rfl;exact g2 _ (f e o b hfo a ha)
  ·exact g4 (by rw [d i (qt _)];exact e) hfo a ha
 ·refine ⟨_,by simp only [kd1,kap,qg],_,rfl,h1,g,d,?_,m⟩;rw [qal] at f;exact f
theorem k1q {l p:List Bool} (hl:l.length=s.f_Nodes.length) (hp:p.length=s.f_Nodes.length) (hS:∀ k,fg p k=true->Nd s (fg l) k):Ev (kah (ker s l) fuel (w64 ((s.f_Nodes.length:Int) - 1),p)) fun q=>
  q.length=s.f_Nodes.length/\(∀ k,fg p k=true->fg q k=true)/\(∀ (i:Nat) (n:Nod),s.f_Nodes[i]?=some n->fg q i=true->∀ o∈n.f_Options,kak (fg l) o=true->∀ a∈o.f_Args,fg q a.toNat=true)/\∀ k,fg q k=true->Nd s (fg l) k:=by
 have r:=hf.nodes;have e0:w64 ((s.f_Nodes.length:Int) - 1)=(s.f_Nodes.length:Int) - 1:=kd8 (by omega) (by omega);rw [e0];refine kle (fun (x:Int×List Bool) => -1<=x.1/\x.1<(s.f_Nodes.length:Int)/\x.2.length=s.f_Nodes.length/\(∀ k,fg p k=true->fg x.2 k=true)/\(∀ (i:Nat) (n:Nod),x.1<(i:Int)->s.f_Nodes[i]?=some n->fg x.2 i=true->∀ o∈n.f_Options,kak (fg l) o=true->∀ a∈o.f_Args,fg x.2 a.toNat=true)/\∀ k,fg x.2 k=true->Nd s (fg l) k)
  (fun x=>(x.1+1).toNat) (by show ((s.f_Nodes.length:Int) - 1+1).toNat<_;omega) ⟨by show (-1:Int)<=(s.f_Nodes.length:Int) - 1;omega,by show (s.f_Nodes.length:Int) - 1<_;omega,hp,fun k h=>h,fun i n h hn=>by have:=kbe hn;have v:(s.f_Nodes.length:Int) - 1<(i:Int):=h;omega,hS⟩ ?_
 rintro ⟨z,q⟩ ⟨h0,h1,e,f,g,d⟩;simp only at h0 h1 e f g d;by_cases t:0<=z
 ·obtain ⟨i,rfl⟩:∃ i:Nat,z=(i:Int):=⟨z.toNat,by omega⟩;have hi:i<s.f_Nodes.length:=by omega
  have hn:=qa hi;have e1:w64 ((i:Int) - 1)=(i:Int) - 1:=kd8 (by omega) (by omega);simp only [ker,qaa t,qe,e1,kaj,hn,qc];refine kcd (Ev.mono (kz1 (S:=Nd s (fg l)) hf hl e hn _ rfl d fun j o ho hfo a ha => .arg (d _ j) hn ho hfo ha) fun q' ⟨g1,g2,g3,g4,g5⟩=>?_);refine ⟨_,rfl,⟨by show (-1:Int)<=(i:Int) - 1;omega,by show (i:Int) - 1<_;omega,g1,fun k hk=>g2 k (f k hk),fun k n hk b j o ho hfo a ha=>?_,g5⟩,by show ((i:Int) - 1+1).toNat<((i:Int)+1).toNat;omega⟩;have u:(i:Int) - 1<(k:Int):=hk;have c:fg q k=true:=by rw [<- g3 k (by omega)];exact j
  by_cases m:k=i;subst m;rw [hn] at b;cases b;exact g4 c o ho hfo a ha
  ·exact g2 _ (g k n (by omega) b c o ho hfo a ha)
 ·obtain rfl:z = -1:=by omega
  exact ⟨.inr q,by simp only [ker];rfl,e,f,fun i n hn=>g i n (by omega) hn,d⟩
def NumQ (s:Spa) (p:Nat->Bool) (i:Nat) (num:List Int):Prop:=num.length=s.f_Nodes.length/\∀ k,k<i->p k=true->num[k]?=some (cntP p k:Int)
omit hf in
theorem NumQ.idx {p:Nat->Bool} {i:Nat} {num:List Int} (h:NumQ s p i num) {a:Int} (h0:0<=a) (h1:a<(i:Int)) (hp:p a.toNat=true):Go.Proofs.YtpnnpkmjohkgiaaGreatDoor.idx num a=some (numI p a):=by unfold Go.Proofs.YtpnnpkmjohkgiaaGreatDoor.idx;rw [qq h0,h.2 a.toNat (by omega) hp];rfl
omit hf in
theorem kyz {f:Int->Int} {num args:List Int} (hl:args.length<=1000) (h:∀ a∈args,idx num a=some (f a)):kc9 num args=some (args.map f):=by
 unfold kc9;have k:=kik (step:=kb7 num args) args.length (by omega) (fun j=>((j:Int),(args.take j).map f)) (args.map f) (fun j b=>by
  simp only [kb7,ka0 b,qe,kaj,qa b,qc,h _ (qo b),kal b (show args.length<=9223372036854775807 by omega)];rw [keu (by simp;omega),qc,kpw _ b]) (by
  simp only [kb7,kap,qg,qal])
 have k':kah (kb7 num args) fuel (0,([]:List Int))=some (args.map f):=by simpa using k
 rw [k',qc]
theorem popts {l:List Bool} {p:Nat->Bool} (hl:l.length=s.f_Nodes.length) {i:Nat} {n:Nod} (hn:s.f_Nodes[i]?=some n) (c:∀ o∈n.f_Options,kak (fg l) o=true->∀ a∈o.f_Args,p a.toNat=true) (x:Int×List Int×List Nod) (num:List Int) (k:List.set x.2.1 (Int.toNat x.1) (List.length (x.2.2):Int)=num) (d:NumQ s p (i+1) num):
  Ev (kah (kd3 l x n) fuel (0,([]:List Opn))) fun v=>v=(n.f_Options.filter (kak (fg l))).map (kdm p):=by
 have m:=olen hf hn;have hi:=kbe hn;refine ka3 (xs:=n.f_Options) (step:=kd3 l x n) (fun (j:Nat) (q:List Opn)=>((j:Int),q)) (fun j q=>q=((n.f_Options.take j).filter (kak (fg l))).map (kdm p)) (by omega) (by simp) (fun j q b h1=>?_) (fun q h1=>?_)
 ·subst h1;have ho:=qa b;have hm:=qo b;have e:kdn l n.f_Options[j]=some (kak (fg l) n.f_Options[j]):=kmw (fun a ha=>by have:=keh hf hn hm ha;omega) (by have:=kc7 hf hn hm;omega);simp only [kd3,kaj,qc,ka0 b,qe,ho,e,kal b (show n.f_Options.length<=9223372036854775807 by omega),k];cases g:kak (fg l) n.f_Options[j] with
  | false=>
   simp only [qg,qc];refine ⟨_,rfl,_,rfl,?_⟩;rw [kei _ b,qh (by rw [g];simp),List.append_nil]
  | true=>
   simp only [qe];have h:(((n.f_Options.take j).filter (kak (fg l))).map (kdm p)).length<=j:=(by rw [qaj];refine qat (List.length_filter_le _ _) ?_;rw [qam];omega);rw [kyz (f:=numI p) (by have:=kc7 hf hn hm;omega) (fun a ha=>by have:=keh hf hn hm ha;exact d.idx this.1 (by omega) (c _ hm g a ha)),qc,keu (by rw [List.length_singleton];omega)];simp only [qc];refine ⟨_,rfl,_,rfl,?_⟩;rw [kei _ b,qq g,qa0];rfl
 ·subst h1;rw [qal];exact ⟨_,by simp only [kd3,kap,qg],_,rfl,rfl⟩
theorem k2g {l q:List Bool} (hl:l.length=s.f_Nodes.length) (r:q.length=s.f_Nodes.length) (e:∀ (i:Nat) (n:Nod),s.f_Nodes[i]?=some n->fg q i=true->∀ o∈n.f_Options,kak (fg l) o=true->∀ a∈o.f_Args,fg q a.toNat=true):
  Ev (kah (kdz s l q) fuel (0,List.replicate s.f_Nodes.length 0,([]:List Nod))) fun v=>NumQ s (fg q) s.f_Nodes.length v.1/\v.2=kept s (fg l) (fg q) s.f_Nodes.length:=by
 have p:=hf.nodes;refine ka3 (xs:=s.f_Nodes) (step:=kdz s l q) (fun (j:Nat) (v:List Int×List Nod)=>((j:Int),v.1,v.2)) (fun j v=>NumQ s (fg q) j v.1/\v.2=kept s (fg l) (fg q) j) (t0:=(List.replicate s.f_Nodes.length 0,[])) (by omega) ⟨⟨List.length_replicate,fun k h=>by omega⟩,rfl⟩ (fun i v hi ⟨h1,g⟩=>?_) (fun v ⟨h1,g⟩=>?_)
 ·obtain ⟨num,nds⟩:=v;simp only at h1 g;subst g;have hn:=qa hi;have f:i<num.length:=by rw [h1.1];exact hi
  have e1:num[i]?=some num[i]:=qa f;simp only [kdz,ka0 hi,qe,kaj,e1,hn,qc,ket (show i<q.length by omega),Int.toNat_natCast,kf8,kal hi (show s.f_Nodes.length<=9223372036854775807 by omega)];cases m:fg q i with
  | false=>
   simp only [Bool.not_false,qe,qc,qx];refine ⟨_,rfl,(_,_),rfl,⟨h1.1,fun k hk b=>?_⟩,?_⟩
   ·by_cases d:k=i;subst d;rw [m] at b;cases b
    ·exact h1.2 k (by omega) b
   ·rw [khv hn,qh (by rw [m];simp),List.append_nil];rfl
  | true=>
   have c:NumQ s (fg q) (i+1) (List.set num i (cntP (fg q) i:Int)):=by
    refine ⟨by rw [qbc];exact h1.1,fun k hk b=>?_⟩;by_cases d:k=i;subst d;rw [List.getElem?_set_self f]
    ·rw [List.getElem?_set_ne (by omega)];exact h1.2 k (by omega) b
   simp only [qbe,qg];obtain ⟨v,hv,rfl⟩:=popts hf hl hn (e i _ hn m) ((i:Int),num,kept s (fg l) (fg q) i) (List.set num i (cntP (fg q) i:Int)) (by simp [kf8]) c;have:=km2 (fg q) i;rw [hv,qc,keu (by rw [kf8,List.length_singleton];omega)];simp only [qc,qu];refine ⟨_,rfl,(_,_),rfl,c,?_⟩;rw [khv hn,qq m];rfl
 ·exact ⟨_,by simp only [kdz,kap,qg],_,rfl,h1,g⟩
theorem k1n {l:List Bool} {p:Nat->Bool} (hl:l.length=s.f_Nodes.length) (c:∀ r∈s.f_Roots,fg l r.toNat=true->p r.toNat=true) (x:List Int×List Nod) (f:NumQ s p s.f_Nodes.length x.1):Ev (kah (kd2 s l x) fuel (0,([]:List Int))) fun v=>v=(s.f_Roots.filter fun r=>fg l r.toNat).map (numI p):=by
 have g:=kg6 hf.roots;have h:=hf.nodes;refine ka3 (xs:=s.f_Roots) (step:=kd2 s l x) (fun (j:Nat) (q:List Int)=>((j:Int),q)) (fun j q=>q=((s.f_Roots.take j).filter fun r=>fg l r.toNat).map (numI p)) (by omega) (by simp) (fun j q b h1=>?_) (fun q h1=>?_)
 ·subst h1;have hr:=qa b;have hm:=qo b;have a:=hf.roots.1 _ hm;simp only [kd2,ka0 b,qe,kaj,hr,qc,keo (l:=l) a.1 (by omega),kal b (show s.f_Roots.length<=9223372036854775807 by omega)];cases d:fg l s.f_Roots[j].toNat with
  | false=>
   simp only [qg,qc];refine ⟨_,rfl,_,rfl,?_⟩;rw [kei _ b,qh (by rw [d];simp),List.append_nil]
  | true=>
   simp only [qe,f.idx a.1 a.2 (c _ hm d),qc];have e:(((s.f_Roots.take j).filter fun r=>fg l r.toNat).map (numI p)).length<=j:=(by rw [qaj];refine qat (List.length_filter_le _ _) ?_;rw [qam];omega);rw [keu (by rw [List.length_singleton];omega)];simp only [qc];refine ⟨_,rfl,_,rfl,?_⟩;rw [kei _ b,qq d,qa0];rfl
 ·subst h1;rw [qal];exact ⟨_,by simp only [kd2,kap,qg],_,rfl,rfl⟩
omit hf in
theorem kuf {l q:List Bool} (h:ki4 s l q):kxb s (fg l) (fg q):=
 ⟨fun i t c=>kyx h.full t i c,fun r hr b=>(h.need _).2 (.root hr b),fun i n o d hn ho hfo a ha=>(h.need _).2 (.arg ((h.need _).1 d) hn ho hfo ha)⟩
end
theorem k2d {s:Spa} (d:kgu s):Ev (kc0 s) fun r=>(¬ kcg s/\r=(⟨[],[]⟩,4))\/(kcg s/\∃ l q,ki4 s l q/\r=(kdg (fg l) (fg q) s,0)):=by
 unfold kc0;obtain ⟨b,e,a⟩:=kv1 d;rw [e,qc];cases b with
 | false=>exact ⟨_,rfl, .inl ⟨fun h=>absurd (a.2 h) qah,rfl⟩⟩
 | true=>
  have hf:=a.1 rfl;have f:=hf.nodes;simp only [qbe,qg];obtain ⟨l,hl,l1,l2⟩:=kww hf;rw [hl,qc,kig 1 false s.f_Nodes.length (by omega),qc];obtain ⟨p,hp,⟨p1,p2⟩,p3⟩:=kmi (krm hf l1) (kv2 hf l1);rw [hp,qc];obtain ⟨q,g,⟨q1,q2,q3⟩,q4⟩:=kmi (kwt hf l1 p1) (k02 hf l1 p1 p3);rw [g,qc,kig 8 0 s.f_Nodes.length (by omega),qc];obtain ⟨v,hv,v1,v2⟩:=ktp hf l1 q1;rw [hv,qc];obtain ⟨u,i,rfl⟩:=kt2 hf l1 v v1;rw [i,qc];refine ⟨_,rfl, .inr ⟨hf,l,q,⟨l1,l2,q1,fun k=>⟨q4 k,fun h=>?_⟩⟩,?_⟩⟩
  ·induction h with
   | root hr c=>exact q2 _ (by rw [p2 _ hr];exact c)
   | arg _ hn ho hfo ha ih=>exact q3 _ _ hn ih _ ho hfo _ ha
  ·rw [v2];rfl
theorem ktc {s:Spa} (d:kgu s):Ev (ke1 s) fun r=>(¬ kcg s/\r=(⟨[],[]⟩,4))\/(kcg s/\∃ l q,ki4 s l q/\r=(kdg (fg l) (fg q) s,0)):=by
 unfold ke1;obtain ⟨b,e,c⟩:=k1g d;rw [e,qc];cases b with
 | false=>exact ⟨_,rfl, .inl ⟨fun h=>absurd (c.2 h) qah,rfl⟩⟩
 | true=>
  have hf:=c.1 rfl;have f:=hf.nodes;simp only [qbe,qg];obtain ⟨l,hl,l1,l2⟩:=kwr hf;rw [hl,qc,kig 1 false s.f_Nodes.length (by omega),qc];obtain ⟨p,hp,p1,p2,p3⟩:=kvf hf l1;rw [hp,qc];obtain ⟨q,g,q1,q2,q3,q4⟩:=k1q hf l1 p1 p3;rw [g,qc,kig 8 0 s.f_Nodes.length (by omega),qc];obtain ⟨v,hv,v1,v2⟩:=k2g hf l1 q1 q3;rw [hv,qc];obtain ⟨u,i,rfl⟩:=k1n (p:=fg q) hf l1 (fun r hr a=>q2 _ (by rw [p2 r hr];exact a)) v v1;rw [i,qc];refine ⟨_,rfl, .inr ⟨hf,l,q,⟨l1,l2,q1,fun k=>⟨q4 k,fun h=>?_⟩⟩,?_⟩⟩
  ·induction h with
   | root hr a=>exact q2 _ (by rw [p2 _ hr];exact a)
   | arg _ hn ho hfo ha ih=>exact q3 _ _ hn ih _ ho hfo _ ha
  ·rw [v2];rfl
theorem ki3 {α:Type} {p:α->Bool} {l:List α} (h:∀ x∈l,p x=true):l.filter p=l:=List.filter_eq_self.2 h
theorem kwe {p:Nat->Bool} {n:Nat} (h:∀ i,i<n->p i=true):cntP p n=n:=by unfold cntP;rw [ki3 fun x a=>h x (by simpa using a),List.length_range]
section
variable {s:Spa} (hf:kcg s)
include hf
theorem kx6 {f p:Nat->Bool} (h1:∀ i,i<s.f_Nodes.length->f i=true) (d:∀ i,i<s.f_Nodes.length->p i=true):kdg f p s=s:=by
 have b:∀ a:Int,0<=a->a<(s.f_Nodes.length:Int)->numI p a=a:=fun a h0 e=>by unfold numI;rw [kwe fun i hi=>d i (by omega)];omega
 obtain ⟨ns,rs⟩:=s;unfold kdg;congr 1
 ·rw [ki3 fun i hi=>d i (by simpa using hi)];refine List.ext_getElem? fun i=>?_;rw [qr];by_cases hi:i<ns.length;have hn:=qa hi;rw [List.getElem?_range hi,qa9,hn,qai];congr 1;unfold kf5;have c:∀ o∈ns[i].f_Options,kak f o=true:=fun o ho=>ql.2 fun a ha=>(by have:=kl1 hf hn ho a ha;exact h1 _ (by have h:a<(ns.length:Int):=this.2;show a.toNat<ns.length;omega));rw [ki3 c];have hk:ns[i].f_Options.map (kdm p)=ns[i].f_Options:=(by refine (List.map_congr_left fun o ho=>?_).trans (List.map_id _);unfold kdm;have:o.f_Args.map (numI p)=o.f_Args:=(by refine (List.map_congr_left fun a ha=>?_).trans (List.map_id _);have:=kl1 hf hn ho a ha;exact b a this.1 this.2);rw [this];rfl);rw [hk]
  ·rw [qan (l:=List.range _) (by rw [List.length_range];show ns.length<=i;omega),qan (l:=ns) (by omega)];rfl
 ·rw [ki3 fun r hr=>by have:=hf.roots.1 r hr;exact h1 _ (by have h:r<(ns.length:Int):=this.2;show r.toNat<ns.length;omega)];refine (List.map_congr_left fun r hr=>?_).trans (List.map_id _);have:=hf.roots.1 r hr;exact b r this.1 this.2
theorem ksj {l q l' q':List Bool} (h:ki4 s l q) (I:ki4 (kdg (fg l) (fg q) s) l' q'):kdg (fg l') (fg q') (kdg (fg l) (fg q) s)=kdg (fg l) (fg q) s:=by
 have hk:=kuf h;have d:=knp hf hk
 -- what is needed J terms
 have m:∀ k,Nd s (fg l) k->fg l k=true:=fun k C=>by
  cases C with
  | root hr e=>exact e
  | arg hi hn ho hfo ha=>exact ql.1 hfo _ ha
 have node:∀ j,j<(kdg (fg l) (fg q) s).f_Nodes.length->∃ i n,s.f_Nodes[i]?=some n/\fg q i=true/\cntP (fg q) i=j/\(kdg (fg l) (fg q) s).f_Nodes[j]?=some (kf5 (fg l) (fg q) n):=fun j p=>by obtain ⟨i,n,h1,v,w,B⟩:=ki5 (qa p);exact ⟨i,n,h1,v,w,by rw [qa p,B]⟩
 have t:∀ j,j<(kdg (fg l) (fg q) s).f_Nodes.length->fg l' j=true:=fun j=>by
  induction j using Nat.strongRecOn with
  | _ j ih=>
   intro p;obtain ⟨i,n,h1,v,w,B⟩:=node j p;have hi:=kbe h1;obtain ⟨o,ho,hfo⟩:=(h.full i hi n h1).1 (m i ((h.need i).1 v));refine (I.full j p _ B).2 ⟨kdm (fg q) o,qaf.2 ⟨o,qa1.2 ⟨ho,hfo⟩,rfl⟩,ql.2 fun b D=>?_⟩;obtain ⟨a,ha,rfl⟩:=qaf.1 (show b∈o.f_Args.map (numI (fg q)) from D);have x:=((hf.node i n h1).opt o ho).args a ha;have u:=(h.need a.toNat).2 (.arg ((h.need i).1 v) h1 ho hfo ha);have E:cntP (fg q) a.toNat<j:=(by rw [<- w];exact kko (by omega) u);have:(numI (fg q) a).toNat=cntP (fg q) a.toNat:=(by unfold numI;omega);rw [this];exact ih _ E (by omega)
 have F:∀ i,Nd s (fg l) i->Nd (kdg (fg l) (fg q) s) (fg l') (cntP (fg q) i):=fun i C=>by
  induction C with
  | @root r hr e=>
   have x:=hf.roots.1 r hr;have u:=(h.need r.toNat).2 (.root hr e);have hn:=qa (show r.toNat<s.f_Nodes.length by omega);have g:=km4 (f:=fg l) hn u;have y:numI (fg q) r∈(kdg (fg l) (fg q) s).f_Roots:=qaf.2 ⟨r,qa1.2 ⟨hr,e⟩,rfl⟩;have c:(numI (fg q) r).toNat=cntP (fg q) r.toNat:=(by unfold numI;omega);have:=Nd.root (f:=fg l') y (by rw [c];exact t _ (kbe g))
   rwa [c] at this
  | @arg i n o a hi hn ho hfo ha ih=>
   have G:=(h.need i).2 hi;have x:=((hf.node i n hn).opt o ho).args a ha;have g:=km4 (f:=fg l) hn G;have z:kdm (fg q) o∈(kf5 (fg l) (fg q) n).f_Options:=qaf.2 ⟨o,qa1.2 ⟨ho,hfo⟩,rfl⟩;have H:numI (fg q) a∈(kdm (fg q) o).f_Args:=qaf.2 ⟨a,ha,rfl⟩;have c:(numI (fg q) a).toNat=cntP (fg q) a.toNat:=(by unfold numI;omega);have A:kak (fg l') (kdm (fg q) o)=true:=ql.2 fun b D=>(by have:=kl1 d g z b D;exact t _ (by omega));have:=Nd.arg (f:=fg l') ih g z A H
   rwa [c] at this
 refine kx6 d t fun j p=>?_;obtain ⟨i,n,h1,v,w,B⟩:=node j p;have:=F i ((h.need i).1 v);rw [w] at this;exact (I.need j).2 this
end
theorem kju:∀ l:List Int,cmpI l l=0
 | []=>rfl
 | x::l=>by simp [cmpI,kju l]
theorem kze (a:Opn) (ha:a.f_Args.length<=9223372036854775807):kbn a a=some 0:=by unfold kbn;rw [show (a.f_Rule != a.f_Rule)=false by simp,qg,kio _ _ ha ha,kju];rfl
theorem kmj {s:Spa} (a:kgu s):kby s s=some true:=by
 have hn:=a.nodes;have hr:=a.roots;unfold kby;rw [show ((s.f_Nodes.length:Int) != (s.f_Nodes.length:Int))=false by simp,qg,kio _ _ (by omega) (by omega),kju];have:kah (kbx s s) fuel 0=some (.inl ()):=by have:=kik (step:=kbx s s) s.f_Nodes.length (by omega) (fun k=>(k:Int)) (.inl ()) (fun k hk=>by have c:=qa hk;have d:=a.opts _ (qo hk);have inner:kah (kbw s.f_Nodes[k] s.f_Nodes[k]) fuel 0=some (.inl ()):=(by have:=kik (step:=kbw s.f_Nodes[k] s.f_Nodes[k]) s.f_Nodes[k].f_Options.length (by omega) (fun j=>(j:Int)) (.inl ()) (fun j b=>by have e:=a.args _ (qo hk) _ (qo b);simp only [kbw,ka0 b,qe,kaj,qa b,qc,kze _ (show s.f_Nodes[k].f_Options[j].f_Args.length<=9223372036854775807 by omega),kal b (show s.f_Nodes[k].f_Options.length<=9223372036854775807 by omega)];rfl) (by simp only [kbw,kap,qg]);simpa using this);simp only [kbx,ka0 hk,qe,kaj,c,qc,inner,bne_self_eq_false,qg,kal hk (show s.f_Nodes.length<=9223372036854775807 by omega)];rfl) (by simp only [kbx,kap,qg]);simpa using this
 rw [this];rfl
theorem kmq (s:Spa) (hs:SpW s):kcm s=some true:=by
 unfold kcm;obtain ⟨b',d⟩:=kum hs;rw [d,qc];cases b' with
 | false=>rfl
 | true=>
  simp only [qbe,qg];obtain ⟨r,hr,h⟩:=ktc hs.wide;obtain ⟨r',e,j⟩:=k2d hs.wide;rw [hr,e,qc,qc];rcases h with ⟨hn,rfl⟩ | ⟨hf,l,q,ht,rfl⟩
  ·rcases j with ⟨_,rfl⟩ | ⟨hf,_⟩;have:kby ⟨[],[]⟩ ⟨[],[]⟩=some true:=kmj ⟨by simp,by simp,by simp,by simp⟩;rw [this];rfl
   ·exact absurd hf hn
  ·rcases j with ⟨hn,_⟩ | ⟨_,l2,q2,f,rfl⟩;exact absurd hf hn
   ·obtain ⟨rfl,rfl⟩:=kut hf ht f;have a:=knp hf (kuf ht);have b:=kte a;have c:=kmj b;obtain ⟨r3,g,k⟩:=ktc b;simp only [c,qc,qbe,qg,bne_self_eq_false];rw [g,qc];rcases k with ⟨hn,_⟩ | ⟨_,l3,q3,i,rfl⟩;exact absurd a hn
    ·rw [ksj hf ht i];simp only [beq_self_eq_true,qe,c,qc];rfl
end Go.Proofs.YtpnnpkmjohkgiaaGreatDoor
