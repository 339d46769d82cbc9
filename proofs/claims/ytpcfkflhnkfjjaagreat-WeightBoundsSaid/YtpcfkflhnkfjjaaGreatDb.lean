import Derived.Test.YtpcfkflhnkfjjaaGreatDa
import Derived.Test.YtpcfkflhnkfjjaaGreatZE
import Derived.Test.YtpcfkflhnkfjjaaGreatEv
set_option linter.all false
namespace Go.Proofs.YtpcfkflhnkfjjaaGreat
open Go Go.RowKit
abbrev Opn:=Sac
abbrev Nod:=Saa
abbrev Spa:=Sad
mutual
inductive Bt (ns:List Nod):Nat->Tm->Prop where
 | mk {i:Nat} {n:Nod} {o:Opn} {ts:List Tm} (hn:ns[i]?=some n) (ho:o∈n.f_Options) (hs:Bts ns o.f_Args ts):Bt ns i (Tm.mk o.f_Rule ts)
inductive Bts (ns:List Nod):List Int->List Tm->Prop where
 | nil:Bts ns [] []
 | cons {a:Int} {vs:List Int} {t:Tm} {ts:List Tm} (h0:0<=a) (ht:Bt ns a.toNat t) (hs:Bts ns vs ts):Bts ns (a::vs) (t::ts)
end
theorem Bt.inv {ns:List Nod} {i:Nat} {t:Tm} (h:Bt ns i t):∃ n o ts,ns[i]?=some n/\o∈n.f_Options/\t=Tm.mk o.f_Rule ts/\Bts ns o.f_Args ts:=by
 cases h with
 | mk hn ho hs=>exact ⟨_,_,_,hn,ho,rfl,hs⟩
theorem Bts.len {ns:List Nod}:∀ {vs:List Int} {ts:List Tm},Bts ns vs ts->vs.length=ts.length
 | _,_, .nil=>rfl
 | _,_, .cons _ _ hs=>by rw [qax,qax,hs.len]
theorem Bts.get {ns:List Nod}:∀ {vs:List Int} {ts:List Tm},Bts ns vs ts->∀ (j:Nat) (a:Int) (t:Tm),vs[j]?=some a->ts[j]?=some t->0<=a/\Bt ns a.toNat t
 | _,_, .nil,j,a,t,h,_=>by simp at h
 | _,_, .cons h0 ht hs,j,a,t,h,b=>by
  cases j with
  | zero=>simp at h b;subst h b;exact ⟨h0,ht⟩
  | succ j=>simp at h b;exact hs.get j a t h b
theorem Bts.mem {ns:List Nod}:∀ {vs:List Int} {ts:List Tm},Bts ns vs ts->∀ a∈vs,0<=a/\∃ t,Bt ns a.toNat t
 | _,_, .nil,a,h=>by simp at h
 | _,_, .cons h0 ht hs,a,h=>by
  rcases qar.1 h with rfl | h;exact ⟨h0,_,ht⟩
  ·exact hs.mem a h
theorem Bts.map {ns ns':List Nod} {f:Int->Int}:∀ {vs:List Int} {ts:List Tm},Bts ns vs ts->(∀ a∈vs,0<=f a)->(∀ a∈vs,∀ t∈ts,Bt ns a.toNat t->Bt ns' (f a).toNat t)->Bts ns' (vs.map f) ts
 | _,_, .nil,_,_ => .nil
 | _,_, .cons h0 ht hs,hf,hm => .cons (hf _ (qs ..)) (hm _ (qs ..) _ (qs ..) ht) (hs.map (fun a ha=>hf a (qo _ ha)) fun a ha t b=>hm a (qo _ ha) t (qo _ b))
theorem Bts.unmap {ns ns':List Nod} {f:Int->Int}:∀ {vs:List Int} {ts:List Tm},Bts ns' (vs.map f) ts->(∀ a∈vs,0<=a)->(∀ a∈vs,∀ t∈ts,Bt ns' (f a).toNat t->Bt ns a.toNat t)->Bts ns vs ts
 | [],_,h,_,_=>by cases h;exact .nil
 | a::vs,_,h,hf,hm=>by
  cases h with
  | cons h0 ht hs=>exact .cons (hf _ (qs ..)) (hm _ (qs ..) _ (qs ..) ht) (Bts.unmap hs (fun a ha=>hf a (qo _ ha)) fun a ha t b=>hm a (qo _ ha) t (qo _ b))
theorem Bts.of {ns:List Nod}:∀ {vs:List Int} {ts:List Tm},vs.length=ts.length->(∀ (j:Nat) (a:Int) (t:Tm),vs[j]?=some a->ts[j]?=some t->0<=a/\Bt ns a.toNat t)->Bts ns vs ts
 | [],[],_,_ => .nil
 | [],_::_,h,_=>by simp at h
 | _::_,[],h,_=>by simp at h
 | a::vs,t::ts,h,b => .cons (b 0 a t rfl rfl).1 (b 0 a t rfl rfl).2 (Bts.of (by simpa using h) fun j a' t' ha ht=>b (j+1) a' t' (by simpa using ha) (by simpa using ht))
def cmpI:List Int->List Int->Int
 | [],[]=>0
 | [],_::_ => -1
 | _::_,[]=>1
 | x::xs,y::ys=>if x<y then -1 else if y<x then 1 else cmpI xs ys
def ki5 (a b:Opn):Int:=if a.f_Rule≠b.f_Rule then cmpI [a.f_Rule] [b.f_Rule] else cmpI a.f_Args b.f_Args
theorem kyp {f:Int->Int} {p:Int->Prop} (hf:∀ a b,p a->p b->a<b->f a<f b):∀ (xs ys:List Int),(∀ x∈xs,p x)->(∀ y∈ys,p y)->cmpI (xs.map f) (ys.map f)=cmpI xs ys
 | [],[],_,_=>rfl
 | [],_::_,_,_=>rfl
 | _::_,[],_,_=>rfl
 | x::xs,y::ys,c,d=>by
  have px:=c x (qs ..);have py:=d y (qs ..);simp only [qbi,cmpI];rcases Int.lt_trichotomy x y with h | h | h;rw [qn h,qn (hf x y px py h)];subst h;rw [qk (Int.lt_irrefl _),qk (Int.lt_irrefl _),qk (Int.lt_irrefl _),qk (Int.lt_irrefl _)];exact kyp hf xs ys (fun a ha=>c a (qo _ ha)) fun a ha=>d a (qo _ ha)
  ·have:=hf y x py px h;rw [qk (show ¬ f x<f y by omega),qn this,qk (show ¬ x<y by omega),qn h]
def AscP (l:List Int) (n:Nat):Prop:=(∀ x∈l,0<=x/\x<(n:Int))/\∀ (i:Nat) (x y:Int),l[i]?=some x->l[i+1]?=some y->x<y
def szAt (ns:List Nod) (a:Int):Int:=((ns[a.toNat]?).map (·.f_Size)).getD 0
def syAt (ns:List Nod) (a:Int):Int:=((ns[a.toNat]?).map (·.f_Symbol)).getD 0
structure OptP (ns:List Nod) (i:Nat) (n:Nod) (o:Opn):Prop where
 rule:0<=o.f_Rule
 args:∀ a∈o.f_Args,0<=a/\a<(i:Int)
 size:1+(o.f_Args.map (szAt ns)).sum=n.f_Size
structure NodP (ns:List Nod) (i:Nat) (n:Nod):Prop where
 sym:0<=n.f_Symbol
 size:1<=n.f_Size/\n.f_Size<=24
 opt:∀ o∈n.f_Options,OptP ns i n o
 asc:∀ (k:Nat) (o p:Opn),n.f_Options[k]?=some o->n.f_Options[k+1]?=some p->ki5 o p<0
def optN (ns:List Nod):Nat:=(ns.map fun n=>n.f_Options.length).sum
def ConP (ns:List Nod):Prop:=∀ (i k:Nat) (n m:Nod) (o p:Opn),ns[i]?=some n->ns[k]?=some m->o∈n.f_Options->p∈m.f_Options->o.f_Rule=p.f_Rule ->
 n.f_Symbol=m.f_Symbol/\o.f_Args.map (syAt ns)=p.f_Args.map (syAt ns)
structure kgy (s:Spa):Prop where
 nodes:s.f_Nodes.length<=4096
 roots:AscP s.f_Roots s.f_Nodes.length
 node:∀ (i:Nat) (n:Nod),s.f_Nodes[i]?=some n->NodP s.f_Nodes i n
 opts:optN s.f_Nodes<=32768
 con:ConP s.f_Nodes
theorem k7t {ns:List Nod} {i:Nat} {t:Tm} (h:Bt ns i t):i<ns.length:=by obtain ⟨n,o,ts,hn,_⟩:=h.inv;exact (qj.1 hn).1
def InS (s:Spa) (t:Tm):Prop:=∃ r∈s.f_Roots,0<=r/\Bt s.f_Nodes r.toNat t
def cntP (p:Nat->Bool) (n:Nat):Nat:=((List.range n).filter p).length
theorem kxm (p:Nat->Bool) (n:Nat):cntP p (n+1)=cntP p n+(if p n=true then 1 else 0):=by
 unfold cntP;rw [List.range_succ,List.filter_append,qab];congr 1;by_cases h:p n=true;simp [h]
 ·simp [h]
theorem k3n {p:Nat->Bool} {m n:Nat} (h:m<=n):cntP p m<=cntP p n:=by
 induction n with
 | zero=>rw [show m=0 by omega];exact qx _
 | succ n ih=>
  by_cases hm:m=n+1;rw [hm];exact qx _
  ·have:=ih (by omega);rw [kxm];omega
theorem kwn {p:Nat->Bool} {m n:Nat} (h:m<n) (hp:p m=true):cntP p m<cntP p n:=by have:=k3n (p:=p) (m:=m+1) (n:=n) h;rw [kxm,qn hp] at this;omega
theorem k01 (p:Nat->Bool) (n:Nat):cntP p n<=n:=by unfold cntP;have:=List.length_filter_le p (List.range n);rw [List.length_range] at this;exact this
theorem kabj {p:Nat->Bool} {n i:Nat} (h:i<n) (hp:p i=true):((List.range n).filter p)[cntP p i]?=some i:=by
 induction n with
 | zero=>omega
 | succ n ih=>
  rw [List.range_succ,List.filter_append];by_cases hi:i=n;subst hi;show (List.filter p (List.range i)++List.filter p [i])[(List.filter p (List.range i)).length]?=some i;rw [qai (qx _),Nat.sub_self];simp [hp]
  ·have h1:=ih (by omega);rw [q9 (by exact (qj.1 h1).1)];exact h1
theorem k9z {p:Nat->Bool} {n j i:Nat} (h:((List.range n).filter p)[j]?=some i):i<n/\p i=true/\cntP p i=j:=by
 induction n with
 | zero=>simp at h
 | succ n ih=>
  rw [List.range_succ,List.filter_append] at h;by_cases a:j<((List.range n).filter p).length;rw [q9 a] at h;obtain ⟨h1,b,c⟩:=ih h;exact ⟨by omega,b,c⟩
  ·rw [qai (by omega)] at h;by_cases hp:p n=true;rw [List.filter_cons_of_pos hp,List.filter_nil] at h;have d:j - ((List.range n).filter p).length=0:=(by have:=(qj.1 h).1;simpa using this);rw [d] at h;simp at h;subst h;refine ⟨by omega,hp,?_⟩;unfold cntP;omega
   ·rw [List.filter_cons_of_neg (by simpa using hp),List.filter_nil] at h;simp at h
def numI (p:Nat->Bool) (a:Int):Int:=(cntP p a.toNat:Int)
def kjq (p:Nat->Bool) (o:Opn):Opn:=⟨o.f_Rule,o.f_Args.map (numI p)⟩
def kcj (f:Nat->Bool) (o:Opn):Bool:=o.f_Args.all fun a=>f a.toNat
def kni (f p:Nat->Bool) (n:Nod):Nod:=⟨n.f_Symbol,n.f_Size,(n.f_Options.filter (kcj f)).map (kjq p)⟩
def nodD:Nod:=⟨0,0,[]⟩
def kh1 (f p:Nat->Bool) (s:Spa):Spa:=⟨((List.range s.f_Nodes.length).filter p).map fun i=>kni f p ((s.f_Nodes[i]?).getD nodD),(s.f_Roots.filter fun r=>f r.toNat).map (numI p)⟩
structure kqo (s:Spa) (f p:Nat->Bool):Prop where
 full:∀ (i:Nat) (t:Tm),Bt s.f_Nodes i t->f i=true
 root:∀ r∈s.f_Roots,f r.toNat=true->p r.toNat=true
 arg:∀ (i:Nat) (n:Nod) (o:Opn),p i=true->s.f_Nodes[i]?=some n->o∈n.f_Options->kcj f o=true->∀ a∈o.f_Args,p a.toNat=true
section
variable {s:Spa} {f p:Nat->Bool}
theorem kwg {i:Nat} {n:Nod} (hn:s.f_Nodes[i]?=some n) (hp:p i=true):(kh1 f p s).f_Nodes[cntP p i]?=some (kni f p n):=by have hi:=(qj.1 hn).1;show (List.map _ _)[_]?=_;rw [qp,kabj hi hp,qbf,hn,qw]
theorem krf {j:Nat} {m:Nod} (h:(kh1 f p s).f_Nodes[j]?=some m):∃ i n,s.f_Nodes[i]?=some n/\p i=true/\cntP p i=j/\m=kni f p n:=by have a:(List.map (fun i=>kni f p ((s.f_Nodes[i]?).getD nodD)) ((List.range s.f_Nodes.length).filter p))[j]?=some m:=h;rw [qp,qt] at a;obtain ⟨i,h1,rfl⟩:=a;obtain ⟨b,c,d⟩:=k9z h1;exact ⟨i,s.f_Nodes[i],qb b,c,d,by rw [qb b,qw]⟩
theorem kwk (hf:kgy s) {i:Nat} {n:Nod} {o:Opn} (hn:s.f_Nodes[i]?=some n) (ho:o∈n.f_Options):∀ a∈o.f_Args,0<=a/\a<(i:Int):=((hf.node i n hn).opt o ho).args
theorem k5n (hf:kgy s) (hk:kqo s f p):∀ (t:Tm) (i:Nat),p i=true->Bt s.f_Nodes i t->Bt (kh1 f p s).f_Nodes (cntP p i) t:=by
 intro t
 induction t using Tm.ind with
 | h r l ih=>
  intro i hp h;obtain ⟨n,o,ts,hn,ho,e,hs⟩:=h.inv;injection e with c d;subst c d;have b:kcj f o=true:=qr.2 fun a ha=>by obtain ⟨_,t,ht⟩:=hs.mem a ha;exact hk.full _ t ht
  have hm:kjq p o∈(kni f p n).f_Options:=qae.2 ⟨o,qbj.2 ⟨ho,b⟩,rfl⟩;have g:Bts (kh1 f p s).f_Nodes (kjq p o).f_Args l:=hs.map (fun a _=>Int.natCast_nonneg _) fun a ha t ht j=>ih t ht a.toNat (hk.arg i n o hp hn ho b a ha) j;show Bt _ _ (Tm.mk (kjq p o).f_Rule l);exact .mk (kwg hn hp) hm g
theorem kzl (hf:kgy s) (hk:kqo s f p):∀ (t:Tm) (i:Nat),p i=true->i<s.f_Nodes.length->Bt (kh1 f p s).f_Nodes (cntP p i) t->Bt s.f_Nodes i t:=by
 intro t
 induction t using Tm.ind with
 | h r l ih=>
  intro i hp hi h;obtain ⟨m,o',ts,hm,c,g,hs⟩:=h.inv;injection g with d e;have hn:=qb hi;rw [kwg hn hp] at hm;injection hm with hm;subst hm;obtain ⟨o,j,rfl⟩:=qae.1 c;obtain ⟨ho,b⟩:=qbj.1 j;subst d e;have k:Bts s.f_Nodes o.f_Args l:=Bts.unmap (f:=numI p) hs (fun a ha=>(kwk hf hn ho a ha).1) fun a ha t ht n=>by have q:=kwk hf hn ho a ha;exact ih t ht a.toNat (hk.arg i _ o hp hn ho b a ha) (by omega) n
  show Bt _ _ (Tm.mk o.f_Rule l);exact .mk hn ho k
theorem kx7 (hf:kgy s) (hk:kqo s f p) (t:Tm):InS (kh1 f p s) t↔InS s t:=by
 constructor;rintro ⟨r',hr,h0,c⟩;have d:r'∈(s.f_Roots.filter fun r=>f r.toNat).map (numI p):=hr;obtain ⟨r,a,rfl⟩:=qae.1 d;obtain ⟨a,e⟩:=qbj.1 a;have h1:=hf.roots.1 r a;exact ⟨r,a,h1.1,kzl hf hk t r.toNat (hk.root r a e) (by omega) c⟩
 ·rintro ⟨r,hr,h0,c⟩;have b:=hk.full _ t c;exact ⟨numI p r,qae.2 ⟨r,qbj.2 ⟨hr,b⟩,rfl⟩,Int.natCast_nonneg _,k5n hf hk t r.toNat (hk.root r hr b) c⟩
theorem k30 (hf:kgy s) (hk:kqo s f p) {j:Nat} {m:Nod} (hm:(kh1 f p s).f_Nodes[j]?=some m):∃ i n,s.f_Nodes[i]?=some n/\n.f_Symbol=m.f_Symbol/\n.f_Size=m.f_Size/\∀ t,Bt (kh1 f p s).f_Nodes j t->Bt s.f_Nodes i t:=by obtain ⟨i,n,hn,hp,rfl,rfl⟩:=krf hm;exact ⟨i,n,hn,rfl,rfl,fun t h=>kzl hf hk t i hp (qj.1 hn).1 h⟩
theorem k0y (hf:kgy s) {a:Int} (h0:0<=a) (h1:a<(s.f_Nodes.length:Int)) (hp:p a.toNat=true):szAt (kh1 f p s).f_Nodes (numI p a)=szAt s.f_Nodes a/\syAt (kh1 f p s).f_Nodes (numI p a)=syAt s.f_Nodes a:=by have hn:=qb (l:=s.f_Nodes) (i:=a.toNat) (by omega);have:=kwg (f:=f) hn hp;unfold szAt syAt numI;rw [q8,this,hn];exact ⟨rfl,rfl⟩
theorem ktl {α:Type} {R:α->α->Prop} (ht:∀ a b c,R a b->R b c->R a c) (q:α->Bool):∀ (l:List α),(∀ (k:Nat) (o p:α),l[k]?=some o->l[k+1]?=some p->R o p)->∀ (k:Nat) (o p:α),(l.filter q)[k]?=some o->(l.filter q)[k+1]?=some p->R o p:=by
 intro l h;have hp:l.Pairwise R:=by
  induction l with
  | nil=>exact .nil
  | cons x l ih=>
   have hl:=ih fun k o p h1 e=>h (k+1) o p (by simpa using h1) (by simpa using e);refine List.pairwise_cons.2 ⟨fun y d=>?_,hl⟩;cases l with
   | nil=>simp at d
   | cons z l=>
    have f:R x z:=h 0 x z rfl rfl;rcases qar.1 d with rfl | d;exact f
    ·exact ht _ _ _ f ((List.pairwise_cons.1 hl).1 y d)
 have g:=hp.filter q;intro k o p h1 e;obtain ⟨k1,e1⟩:=qj.1 h1;obtain ⟨k2,e2⟩:=qj.1 e;have:=(List.pairwise_iff_getElem.1 g) k (k+1) k1 k2 (by omega);rw [e1,e2] at this;exact this
theorem ku2:∀ (xs ys zs:List Int),cmpI xs ys<0->cmpI ys zs<0->cmpI xs zs<0
 | [],[],_,h,_=>by simp [cmpI] at h
 | [],_::_,[],_,h=>by simp [cmpI] at h
 | [],_::_,_::_,_,_=>by simp [cmpI]
 | _::_,[],_,h,_=>by simp [cmpI] at h
 | _::_,_::_,[],_,h=>by simp [cmpI] at h
 | x::xs,y::ys,z::zs,h,k=>by
  simp only [cmpI] at h k ⊢;split at h
  ·split at k;rw [qn (by omega)];omega
   ·split at k;omega
    ·rw [qn (by omega)];omega
  ·split at h;omega
   ·split at k;rw [qn (by omega)];omega
    ·split at k;omega
     ·rw [qk (by omega),qk (by omega)];exact ku2 xs ys zs h k
theorem kyc {a b:Opn}:ki5 a b<0↔a.f_Rule<b.f_Rule\/(a.f_Rule=b.f_Rule/\cmpI a.f_Args b.f_Args<0):=by
 unfold ki5;split
 ·rename_i h;simp only [cmpI];constructor
  ·intro h1;split at h1;rename_i c;exact .inl c
   ·split at h1 <;> omega
  ·rintro (h1 | h1);rw [qn h1];omega
   ·exact absurd h1.1 h
 ·rename_i h;have h:a.f_Rule=b.f_Rule:=by simpa using h
  exact ⟨fun h1 => .inr ⟨h,h1⟩,fun h1=>by
   rcases h1 with h1 | h1;omega
   ·exact h1.2⟩
theorem kz7 {a b c:Opn} (h:ki5 a b<0) (k:ki5 b c<0):ki5 a c<0:=by
 rw [kyc] at h k ⊢;rcases h with h | ⟨h1,d⟩
 ·rcases k with k | ⟨k1,k2⟩;exact .inl (by omega)
  ·exact .inl (by omega)
 ·rcases k with k | ⟨k1,k2⟩;exact .inl (by omega)
  ·exact .inr ⟨by omega,ku2 _ _ _ d k2⟩
theorem kxg (hf:kgy s) (hk:kqo s f p):kgy (kh1 f p s):=by
 have l:(kh1 f p s).f_Nodes.length=cntP p s.f_Nodes.length:=by show (List.map _ _).length=_;rw [qu];rfl
 have mono:∀ a b:Int,(0<=a/\p a.toNat=true)->(0<=b/\p b.toNat=true)->a<b->numI p a<numI p b:=fun a b ha H h=>by have:=kwn (p:=p) (m:=a.toNat) (n:=b.toNat) (by omega) ha.2;unfold numI;omega
 refine ⟨?_,⟨?_,?_⟩,?_,?_,?_⟩;rw [l];exact qaf (k01 _ _) hf.nodes;intro x I;have e:x∈(s.f_Roots.filter fun r=>f r.toNat).map (numI p):=I;obtain ⟨r,g,rfl⟩:=qae.1 e;obtain ⟨g,J⟩:=qbj.1 g;have h1:=hf.roots.1 r g;have:=kwn (p:=p) (m:=r.toNat) (n:=s.f_Nodes.length) (by omega) (hk.root r g J);rw [l];unfold numI;omega;intro i x y I K;have e:((s.f_Roots.filter fun r=>f r.toNat).map (numI p))[i]?=some x:=I;have z:((s.f_Roots.filter fun r=>f r.toNat).map (numI p))[i+1]?=some y:=K;rw [qp,qt] at e z;obtain ⟨a,ha,rfl⟩:=e;obtain ⟨b,H,rfl⟩:=z;have L:a<b:=ktl (R:=fun a b:Int=>a<b) (fun a b c h1 t=>by omega) _ s.f_Roots hf.roots.2 i a b ha H;have pa:=qbj.1 (qm ha);have pb:=qbj.1 (qm H);exact mono a b ⟨(hf.roots.1 a pa.1).1,hk.root a pa.1 pa.2⟩ ⟨(hf.roots.1 b pb.1).1,hk.root b pb.1 pb.2⟩ L
 ·intro j m hm;obtain ⟨i,n,hn,hp,rfl,rfl⟩:=krf hm;have hi:=(qj.1 hn).1;have v:=hf.node i n hn;refine ⟨v.sym,v.size,fun o' M=>?_,fun k o' p' h1 t=>?_⟩
  ·have u:o'∈(n.f_Options.filter (kcj f)).map (kjq p):=M;obtain ⟨o,ho,rfl⟩:=qae.1 u;obtain ⟨ho,A⟩:=qbj.1 ho;have G:=v.opt o ho;have ha:=hk.arg i n o hp hn ho A;refine ⟨G.rule,fun a' N=>?_,?_⟩;have O:a'∈o.f_Args.map (numI p):=N;obtain ⟨a,d,rfl⟩:=qae.1 O;have h1:=G.args a d;have:=kwn (p:=p) (m:=a.toNat) (n:=i) (by omega) (ha a d);unfold numI;omega
   ·rw [<- show n.f_Size=(kni f p n).f_Size from rfl,<- G.size];congr 1;show ((o.f_Args.map (numI p)).map _).sum=_;rw [List.map_map];congr 1;refine List.map_congr_left fun a d=>?_;have h1:=G.args a d;exact (k0y hf h1.1 (by omega) (ha a d)).1
  ·have B:((n.f_Options.filter (kcj f)).map (kjq p))[k]?=some o':=h1;have C:((n.f_Options.filter (kcj f)).map (kjq p))[k+1]?=some p':=t;rw [qp,qt] at B C;obtain ⟨o,T,rfl⟩:=B;obtain ⟨q,U,rfl⟩:=C;have w:ki5 o q<0:=ktl (R:=fun a b:Opn=>ki5 a b<0) (fun a b c h1 t=>kz7 h1 t) _ n.f_Options v.asc k o q T U;obtain ⟨m1,a1⟩:=qbj.1 (qm T);obtain ⟨m2,a2⟩:=qbj.1 (qm U);rw [kyc] at w ⊢;rcases w with w | ⟨w,V⟩;exact .inl w
   ·refine .inr ⟨w,?_⟩;show cmpI (o.f_Args.map (numI p)) (q.f_Args.map (numI p))<0;rw [kyp (p:=fun a=>0<=a/\p a.toNat=true) mono _ _ (fun a ha=>⟨((v.opt o m1).args a ha).1,hk.arg i n o hp hn m1 a1 a ha⟩) fun a ha=>⟨((v.opt q m2).args a ha).1,hk.arg i n q hp hn m2 a2 a ha⟩];exact V
 ·refine qaf ?_ hf.opts;have:∀ (m:Nat),m<=s.f_Nodes.length->((((List.range m).filter p).map fun i=>kni f p ((s.f_Nodes[i]?).getD nodD)).map fun n=>n.f_Options.length).sum<=optN (s.f_Nodes.take m):=by
   intro m
   induction m with
   | zero=>intro _;exact qaj _
   | succ m ih=>
    intro hm;have h1:=ih (by omega);rw [List.range_succ,List.filter_append,qa5,qa5,List.sum_append,qz (by omega)];unfold optN at h1 ⊢;rw [qa5,List.sum_append];refine Nat.add_le_add h1 ?_;by_cases hp:p m=true;rw [List.filter_cons_of_pos hp];simp only [List.filter_nil,qbi,List.map_nil,List.sum_cons,List.sum_nil,Nat.add_zero,qb (show m<s.f_Nodes.length by omega),qw];show (List.map _ _).length<=_;rw [qu];exact List.length_filter_le _ _
    ·rw [List.filter_cons_of_neg (by simpa using hp)];exact qaj _
  have t:=this s.f_Nodes.length (qx _);rw [qaw] at t;exact t
 ·intro i k n' m' o' q' hn hm ho D hr;obtain ⟨i,n,E,P,rfl,rfl⟩:=krf hn;obtain ⟨k,m,F,Q,rfl,rfl⟩:=krf hm;clear hn hm;have u:o'∈(n.f_Options.filter (kcj f)).map (kjq p):=ho;have S:q'∈(m.f_Options.filter (kcj f)).map (kjq p):=D;clear ho D;obtain ⟨o,X,rfl⟩:=qae.1 u;obtain ⟨q,K,rfl⟩:=qae.1 S;obtain ⟨ho,a1⟩:=qbj.1 X;obtain ⟨D,a2⟩:=qbj.1 K;obtain ⟨c1,c2⟩:=hf.con i k n m o q E F ho D hr;refine ⟨c1,?_⟩;have sy:∀ (i:Nat) (n:Nod) (o:Opn),s.f_Nodes[i]?=some n->p i=true->o∈n.f_Options->kcj f o=true->(kjq p o).f_Args.map (syAt (kh1 f p s).f_Nodes)=o.f_Args.map (syAt s.f_Nodes):=fun i n o hn hp ho ha=>by show (o.f_Args.map (numI p)).map _=_;rw [List.map_map];refine List.map_congr_left fun a d=>?_;have h1:=kwk hf hn ho a d;have t:=(qj.1 hn).1;exact (k0y hf h1.1 (by omega) (hk.arg i n o hp hn ho ha a d)).2
  rw [sy i n o E P ho a1,sy k m q F Q D a2,c2]
end
end Go.Proofs.YtpcfkflhnkfjjaaGreat
