import Derived.Test.YtpnnpkmjohkgiaaGreatDoorZE
import Derived.Test.YtpnnpkmjohkgiaaGreatDoorGv
set_option linter.all false
namespace Go.Proofs.YtpnnpkmjohkgiaaGreatDoor
open Go Go.RowKit
abbrev Opn:=Sab
abbrev Nod:=Saa
abbrev Spa:=Sac
mutual
inductive Bt (ns:List Nod):Nat->Tm->Prop where
 | mk {i:Nat} {n:Nod} {o:Opn} {ts:List Tm} (hn:ns[i]?=some n) (ho:o∈n.f_Options) (hs:Bts ns o.f_Args ts):Bt ns i (Tm.mk o.f_Rule ts)
inductive Bts (ns:List Nod):List Int->List Tm->Prop where
 | nil:Bts ns [] []
 | cons {a:Int} {vs:List Int} {t:Tm} {ts:List Tm} (h0:0<=a) (ht:Bt ns a.toNat t) (hs:Bts ns vs ts):Bts ns (a::vs) (t::ts)
end
theorem Bt.inv {ns:List Nod} {i:Nat} {t:Tm} (h:Bt ns i t):∃ n o ts,ns[i]?=some n/\o∈n.f_Options/\t=Tm.mk o.f_Rule ts/\Bts ns o.f_Args ts:=by
 cases h with
 | mk hn ho hs=>exact ⟨_,_,_,hn,ho,rfl,hs⟩
def cmpI:List Int->List Int->Int
 | [],[]=>0
 | [],_::_ => -1
 | _::_,[]=>1
 | x::xs,y::ys=>if x<y then -1 else if y<x then 1 else cmpI xs ys
def kcx (a b:Opn):Int:=if a.f_Rule≠b.f_Rule then cmpI [a.f_Rule] [b.f_Rule] else cmpI a.f_Args b.f_Args
theorem koz {f:Int->Int} {p:Int->Prop} (hf:∀ a b,p a->p b->a<b->f a<f b):∀ (xs ys:List Int),(∀ x∈xs,p x)->(∀ y∈ys,p y)->cmpI (xs.map f) (ys.map f)=cmpI xs ys
 | [],[],_,_=>rfl
 | [],_::_,_,_=>rfl
 | _::_,[],_,_=>rfl
 | x::xs,y::ys,c,hy=>by
  have px:=c x (qv ..);have py:=hy y (qv ..);simp only [qa3,cmpI];rcases Int.lt_trichotomy x y with h | h | h;rw [qq h,qq (hf x y px py h)];subst h;rw [qh (Int.lt_irrefl _),qh (Int.lt_irrefl _),qh (Int.lt_irrefl _),qh (Int.lt_irrefl _)];exact koz hf xs ys (fun a ha=>c a (qs _ ha)) fun a ha=>hy a (qs _ ha)
  ·have:=hf y x py px h;rw [qh (show ¬ f x<f y by omega),qq this,qh (show ¬ x<y by omega),qq h]
def AscP (l:List Int) (n:Nat):Prop:=(∀ x∈l,0<=x/\x<(n:Int))/\∀ (i:Nat) (x y:Int),l[i]?=some x->l[i+1]?=some y->x<y
def szAt (ns:List Nod) (a:Int):Int:=((ns[a.toNat]?).map (·.f_Size)).getD 0
def syAt (ns:List Nod) (a:Int):Int:=((ns[a.toNat]?).map (·.f_Symbol)).getD 0
structure OptP (ns:List Nod) (i:Nat) (n:Nod) (o:Opn):Prop where
 rule:0<=o.f_Rule
 args:∀ a∈o.f_Args,0<=a/\a<(i:Int)
 size:1+(o.f_Args.map (szAt ns)).sum=n.f_Size
structure NodP (ns:List Nod) (i:Nat) (n:Nod):Prop where
 sym:0<=n.f_Symbol
 size:1<=n.f_Size/\n.f_Size<=24
 opt:∀ o∈n.f_Options,OptP ns i n o
 asc:∀ (k:Nat) (o p:Opn),n.f_Options[k]?=some o->n.f_Options[k+1]?=some p->kcx o p<0
def optN (ns:List Nod):Nat:=(ns.map fun n=>n.f_Options.length).sum
def ConP (ns:List Nod):Prop:=∀ (i k:Nat) (n m:Nod) (o p:Opn),ns[i]?=some n->ns[k]?=some m->o∈n.f_Options->p∈m.f_Options->o.f_Rule=p.f_Rule ->
 n.f_Symbol=m.f_Symbol/\o.f_Args.map (syAt ns)=p.f_Args.map (syAt ns)
structure kcg (s:Spa):Prop where
 nodes:s.f_Nodes.length<=4096
 roots:AscP s.f_Roots s.f_Nodes.length
 node:∀ (i:Nat) (n:Nod),s.f_Nodes[i]?=some n->NodP s.f_Nodes i n
 opts:optN s.f_Nodes<=32768
 con:ConP s.f_Nodes
def cntP (p:Nat->Bool) (n:Nat):Nat:=((List.range n).filter p).length
theorem knw (p:Nat->Bool) (n:Nat):cntP p (n+1)=cntP p n+(if p n=true then 1 else 0):=by
 unfold cntP;rw [List.range_succ,List.filter_append,List.length_append];congr 1;by_cases h:p n=true;simp [h]
 ·simp [h]
theorem ktn {p:Nat->Bool} {m n:Nat} (h:m<=n):cntP p m<=cntP p n:=by
 induction n with
 | zero=>rw [show m=0 by omega];exact qt _
 | succ n ih=>
  by_cases hm:m=n+1;rw [hm];exact qt _
  ·have:=ih (by omega);rw [knw];omega
theorem kko {p:Nat->Bool} {m n:Nat} (h:m<n) (hp:p m=true):cntP p m<cntP p n:=by have:=ktn (p:=p) (m:=m+1) (n:=n) h;rw [knw,qq hp] at this;omega
theorem km2 (p:Nat->Bool) (n:Nat):cntP p n<=n:=by unfold cntP;have:=List.length_filter_le p (List.range n);rw [List.length_range] at this;exact this
theorem k2l {p:Nat->Bool} {n i:Nat} (h:i<n) (hp:p i=true):((List.range n).filter p)[cntP p i]?=some i:=by
 induction n with
 | zero=>omega
 | succ n ih=>
  rw [List.range_succ,List.filter_append];by_cases hi:i=n;subst hi;show (List.filter p (List.range i)++List.filter p [i])[(List.filter p (List.range i)).length]?=some i;rw [qac (qt _),Nat.sub_self];simp [hp]
  ·have h1:=ih (by omega);rw [qy (by exact (qd.1 h1).1)];exact h1
theorem kzy {p:Nat->Bool} {n j i:Nat} (h:((List.range n).filter p)[j]?=some i):i<n/\p i=true/\cntP p i=j:=by
 induction n with
 | zero=>simp at h
 | succ n ih=>
  rw [List.range_succ,List.filter_append] at h;by_cases a:j<((List.range n).filter p).length;rw [qy a] at h;obtain ⟨h1,b,c⟩:=ih h;exact ⟨by omega,b,c⟩
  ·rw [qac (by omega)] at h;by_cases hp:p n=true;rw [List.filter_cons_of_pos hp,List.filter_nil] at h;have d:j - ((List.range n).filter p).length=0:=(by have:=(qd.1 h).1;simpa using this);rw [d] at h;simp at h;subst h;refine ⟨by omega,hp,?_⟩;unfold cntP;omega
   ·rw [List.filter_cons_of_neg (by simpa using hp),List.filter_nil] at h;simp at h
def numI (p:Nat->Bool) (a:Int):Int:=(cntP p a.toNat:Int)
def kdm (p:Nat->Bool) (o:Opn):Opn:=⟨o.f_Rule,o.f_Args.map (numI p)⟩
def kak (f:Nat->Bool) (o:Opn):Bool:=o.f_Args.all fun a=>f a.toNat
def kf5 (f p:Nat->Bool) (n:Nod):Nod:=⟨n.f_Symbol,n.f_Size,(n.f_Options.filter (kak f)).map (kdm p)⟩
def nodD:Nod:=⟨0,0,[]⟩
def kdg (f p:Nat->Bool) (s:Spa):Spa:=⟨((List.range s.f_Nodes.length).filter p).map fun i=>kf5 f p ((s.f_Nodes[i]?).getD nodD),(s.f_Roots.filter fun r=>f r.toNat).map (numI p)⟩
structure kxb (s:Spa) (f p:Nat->Bool):Prop where
 full:∀ (i:Nat) (t:Tm),Bt s.f_Nodes i t->f i=true
 root:∀ r∈s.f_Roots,f r.toNat=true->p r.toNat=true
 arg:∀ (i:Nat) (n:Nod) (o:Opn),p i=true->s.f_Nodes[i]?=some n->o∈n.f_Options->kak f o=true->∀ a∈o.f_Args,p a.toNat=true
section
variable {s:Spa} {f p:Nat->Bool}
theorem km4 {i:Nat} {n:Nod} (hn:s.f_Nodes[i]?=some n) (hp:p i=true):(kdg f p s).f_Nodes[cntP p i]?=some (kf5 f p n):=by have hi:=(qd.1 hn).1;show (List.map _ _)[_]?=_;rw [qr,k2l hi hp,qa9,hn,qai]
theorem ki5 {j:Nat} {m:Nod} (h:(kdg f p s).f_Nodes[j]?=some m):∃ i n,s.f_Nodes[i]?=some n/\p i=true/\cntP p i=j/\m=kf5 f p n:=by have a:(List.map (fun i=>kf5 f p ((s.f_Nodes[i]?).getD nodD)) ((List.range s.f_Nodes.length).filter p))[j]?=some m:=h;rw [qr,qp] at a;obtain ⟨i,h1,rfl⟩:=a;obtain ⟨b,c,d⟩:=kzy h1;exact ⟨i,s.f_Nodes[i],qa b,c,d,by rw [qa b,qai]⟩
theorem kz3 (hf:kcg s) {i:Nat} {n:Nod} {o:Opn} (hn:s.f_Nodes[i]?=some n) (ho:o∈n.f_Options):∀ a∈o.f_Args,0<=a/\a<(i:Int):=((hf.node i n hn).opt o ho).args
theorem kql (hf:kcg s) {a:Int} (h0:0<=a) (h1:a<(s.f_Nodes.length:Int)) (hp:p a.toNat=true):szAt (kdg f p s).f_Nodes (numI p a)=szAt s.f_Nodes a/\syAt (kdg f p s).f_Nodes (numI p a)=syAt s.f_Nodes a:=by have hn:=qa (l:=s.f_Nodes) (i:=a.toNat) (by omega);have:=km4 (f:=f) hn hp;unfold szAt syAt numI;rw [Int.toNat_natCast,this,hn];exact ⟨rfl,rfl⟩
theorem kkx {α:Type} {R:α->α->Prop} (ht:∀ a b c,R a b->R b c->R a c) (q:α->Bool):∀ (l:List α),(∀ (k:Nat) (o p:α),l[k]?=some o->l[k+1]?=some p->R o p)->∀ (k:Nat) (o p:α),(l.filter q)[k]?=some o->(l.filter q)[k+1]?=some p->R o p:=by
 intro l h;have hp:l.Pairwise R:=by
  induction l with
  | nil=>exact .nil
  | cons x l ih=>
   have hl:=ih fun k o p h1 d=>h (k+1) o p (by simpa using h1) (by simpa using d);refine List.pairwise_cons.2 ⟨fun y hy=>?_,hl⟩;cases l with
   | nil=>simp at hy
   | cons z l=>
    have e:R x z:=h 0 x z rfl rfl;rcases qaw.1 hy with rfl | hy;exact e
    ·exact ht _ _ _ e ((List.pairwise_cons.1 hl).1 y hy)
 have f:=hp.filter q;intro k o p h1 d;obtain ⟨k1,e1⟩:=qd.1 h1;obtain ⟨k2,e2⟩:=qd.1 d;have:=(List.pairwise_iff_getElem.1 f) k (k+1) k1 k2 (by omega);rw [e1,e2] at this;exact this
theorem klw:∀ (xs ys zs:List Int),cmpI xs ys<0->cmpI ys zs<0->cmpI xs zs<0
 | [],[],_,h,_=>by simp [cmpI] at h
 | [],_::_,[],_,h=>by simp [cmpI] at h
 | [],_::_,_::_,_,_=>by simp [cmpI]
 | _::_,[],_,h,_=>by simp [cmpI] at h
 | _::_,_::_,[],_,h=>by simp [cmpI] at h
 | x::xs,y::ys,z::zs,h,k=>by
  simp only [cmpI] at h k ⊢;split at h
  ·split at k;rw [qq (by omega)];omega
   ·split at k;omega
    ·rw [qq (by omega)];omega
  ·split at h;omega
   ·split at k;rw [qq (by omega)];omega
    ·split at k;omega
     ·rw [qh (by omega),qh (by omega)];exact klw xs ys zs h k
theorem koq {a b:Opn}:kcx a b<0↔a.f_Rule<b.f_Rule\/(a.f_Rule=b.f_Rule/\cmpI a.f_Args b.f_Args<0):=by
 unfold kcx;split
 ·rename_i h;simp only [cmpI];constructor
  ·intro h1;split at h1;rename_i c;exact .inl c
   ·split at h1 <;> omega
  ·rintro (h1 | h1);rw [qq h1];omega
   ·exact absurd h1.1 h
 ·rename_i h;have h:a.f_Rule=b.f_Rule:=by simpa using h
  exact ⟨fun h1 => .inr ⟨h,h1⟩,fun h1=>by
   rcases h1 with h1 | h1;omega
   ·exact h1.2⟩
theorem kp5 {a b c:Opn} (h:kcx a b<0) (k:kcx b c<0):kcx a c<0:=by
 rw [koq] at h k ⊢;rcases h with h | ⟨h1,d⟩
 ·rcases k with k | ⟨k1,k2⟩;exact .inl (by omega)
  ·exact .inl (by omega)
 ·rcases k with k | ⟨k1,k2⟩;exact .inl (by omega)
  ·exact .inr ⟨by omega,klw _ _ _ d k2⟩
theorem knp (hf:kcg s) (hk:kxb s f p):kcg (kdg f p s):=by
 have l:(kdg f p s).f_Nodes.length=cntP p s.f_Nodes.length:=by show (List.map _ _).length=_;rw [qaj];rfl
 have mono:∀ a b:Int,(0<=a/\p a.toNat=true)->(0<=b/\p b.toNat=true)->a<b->numI p a<numI p b:=fun a b ha H h=>by have:=kko (p:=p) (m:=a.toNat) (n:=b.toNat) (by omega) ha.2;unfold numI;omega
 refine ⟨?_,⟨?_,?_⟩,?_,?_,?_⟩;rw [l];exact qat (km2 _ _) hf.nodes;intro x I;have e:x∈(s.f_Roots.filter fun r=>f r.toNat).map (numI p):=I;obtain ⟨r,g,rfl⟩:=qaf.1 e;obtain ⟨g,J⟩:=qa1.1 g;have h1:=hf.roots.1 r g;have:=kko (p:=p) (m:=r.toNat) (n:=s.f_Nodes.length) (by omega) (hk.root r g J);rw [l];unfold numI;omega;intro i x y I hy;have e:((s.f_Roots.filter fun r=>f r.toNat).map (numI p))[i]?=some x:=I;have z:((s.f_Roots.filter fun r=>f r.toNat).map (numI p))[i+1]?=some y:=hy;rw [qr,qp] at e z;obtain ⟨a,ha,rfl⟩:=e;obtain ⟨b,H,rfl⟩:=z;have K:a<b:=kkx (R:=fun a b:Int=>a<b) (fun a b c h1 t=>by omega) _ s.f_Roots hf.roots.2 i a b ha H;have pa:=qa1.1 (qm ha);have pb:=qa1.1 (qm H);exact mono a b ⟨(hf.roots.1 a pa.1).1,hk.root a pa.1 pa.2⟩ ⟨(hf.roots.1 b pb.1).1,hk.root b pb.1 pb.2⟩ K
 ·intro j m hm;obtain ⟨i,n,hn,hp,rfl,rfl⟩:=ki5 hm;have hi:=(qd.1 hn).1;have v:=hf.node i n hn;refine ⟨v.sym,v.size,fun o' L=>?_,fun k o' p' h1 t=>?_⟩
  ·have u:o'∈(n.f_Options.filter (kak f)).map (kdm p):=L;obtain ⟨o,ho,rfl⟩:=qaf.1 u;obtain ⟨ho,A⟩:=qa1.1 ho;have G:=v.opt o ho;have ha:=hk.arg i n o hp hn ho A;refine ⟨G.rule,fun a' M=>?_,?_⟩;have N:a'∈o.f_Args.map (numI p):=M;obtain ⟨a,d,rfl⟩:=qaf.1 N;have h1:=G.args a d;have:=kko (p:=p) (m:=a.toNat) (n:=i) (by omega) (ha a d);unfold numI;omega
   ·rw [<- show n.f_Size=(kf5 f p n).f_Size from rfl,<- G.size];congr 1;show ((o.f_Args.map (numI p)).map _).sum=_;rw [List.map_map];congr 1;refine List.map_congr_left fun a d=>?_;have h1:=G.args a d;exact (kql hf h1.1 (by omega) (ha a d)).1
  ·have B:((n.f_Options.filter (kak f)).map (kdm p))[k]?=some o':=h1;have C:((n.f_Options.filter (kak f)).map (kdm p))[k+1]?=some p':=t;rw [qr,qp] at B C;obtain ⟨o,S,rfl⟩:=B;obtain ⟨q,T,rfl⟩:=C;have w:kcx o q<0:=kkx (R:=fun a b:Opn=>kcx a b<0) (fun a b c h1 t=>kp5 h1 t) _ n.f_Options v.asc k o q S T;obtain ⟨m1,a1⟩:=qa1.1 (qm S);obtain ⟨m2,a2⟩:=qa1.1 (qm T);rw [koq] at w ⊢;rcases w with w | ⟨w,U⟩;exact .inl w
   ·refine .inr ⟨w,?_⟩;show cmpI (o.f_Args.map (numI p)) (q.f_Args.map (numI p))<0;rw [koz (p:=fun a=>0<=a/\p a.toNat=true) mono _ _ (fun a ha=>⟨((v.opt o m1).args a ha).1,hk.arg i n o hp hn m1 a1 a ha⟩) fun a ha=>⟨((v.opt q m2).args a ha).1,hk.arg i n q hp hn m2 a2 a ha⟩];exact U
 ·refine qat ?_ hf.opts;have:∀ (m:Nat),m<=s.f_Nodes.length->((((List.range m).filter p).map fun i=>kf5 f p ((s.f_Nodes[i]?).getD nodD)).map fun n=>n.f_Options.length).sum<=optN (s.f_Nodes.take m):=by
   intro m
   induction m with
   | zero=>intro _;exact qar _
   | succ m ih=>
    intro hm;have h1:=ih (by omega);rw [List.range_succ,List.filter_append,qa0,qa0,List.sum_append,qab (by omega)];unfold optN at h1 ⊢;rw [qa0,List.sum_append];refine Nat.add_le_add h1 ?_;by_cases hp:p m=true;rw [List.filter_cons_of_pos hp];simp only [List.filter_nil,qa3,List.map_nil,List.sum_cons,List.sum_nil,Nat.add_zero,qa (show m<s.f_Nodes.length by omega),qai];show (List.map _ _).length<=_;rw [qaj];exact List.length_filter_le _ _
    ·rw [List.filter_cons_of_neg (by simpa using hp)];exact qar _
  have t:=this s.f_Nodes.length (qt _);rw [qal] at t;exact t
 ·intro i k n' m' o' q' hn hm ho D hr;obtain ⟨i,n,E,O,rfl,rfl⟩:=ki5 hn;obtain ⟨k,m,F,P,rfl,rfl⟩:=ki5 hm;clear hn hm;have u:o'∈(n.f_Options.filter (kak f)).map (kdm p):=ho;have Q:q'∈(m.f_Options.filter (kak f)).map (kdm p):=D;clear ho D;obtain ⟨o,V,rfl⟩:=qaf.1 u;obtain ⟨q,hy,rfl⟩:=qaf.1 Q;obtain ⟨ho,a1⟩:=qa1.1 V;obtain ⟨D,a2⟩:=qa1.1 hy;obtain ⟨c1,c2⟩:=hf.con i k n m o q E F ho D hr;refine ⟨c1,?_⟩;have sy:∀ (i:Nat) (n:Nod) (o:Opn),s.f_Nodes[i]?=some n->p i=true->o∈n.f_Options->kak f o=true->(kdm p o).f_Args.map (syAt (kdg f p s).f_Nodes)=o.f_Args.map (syAt s.f_Nodes):=fun i n o hn hp ho ha=>by show (o.f_Args.map (numI p)).map _=_;rw [List.map_map];refine List.map_congr_left fun a d=>?_;have h1:=kz3 hf hn ho a d;have t:=(qd.1 hn).1;exact (kql hf h1.1 (by omega) (hk.arg i n o hp hn ho ha a d)).2
  rw [sy i n o E O ho a1,sy k m q F P D a2,c2]
end
end Go.Proofs.YtpnnpkmjohkgiaaGreatDoor
