import Derived.Test.YtnlhjbnpjefjgaaGreatDoorZE
import Derived.Test.YtnlhjbnpjefjgaaGreatDoorSk
set_option linter.all false
namespace Go.Proofs.YtnlhjbnpjefjgaaGreatDoor
open Go Go.RowKit
abbrev Opn:=Sab
abbrev Nod:=Saa
abbrev Spa:=Sac
mutual
inductive Bt (ns:List Nod):Nat->Tm->Prop where
 | mk {i:Nat} {n:Nod} {o:Opn} {ts:List Tm} (hn:ns[i]?=some n) (ho:o∈n.yc) (hs:Bts ns o.yb ts):Bt ns i (Tm.mk o.yd ts)
inductive Bts (ns:List Nod):List Int->List Tm->Prop where
 | nil:Bts ns [] []
 | cons {a:Int} {vs:List Int} {t:Tm} {ts:List Tm} (h0:0<=a) (ht:Bt ns a.toNat t) (hs:Bts ns vs ts):Bts ns (a::vs) (t::ts)
end
theorem Bt.inv {ns:List Nod} {i:Nat} {t:Tm} (h:Bt ns i t):∃ n o ts,ns[i]?=some n/\o∈n.yc/\t=Tm.mk o.yd ts/\Bts ns o.yb ts:=by
 cases h with
 | mk hn ho hs=>exact ⟨_,_,_,hn,ho,rfl,hs⟩
theorem Bts.len {ns:List Nod}:∀ {vs:List Int} {ts:List Tm},Bts ns vs ts->vs.length=ts.length
 | _,_, .nil=>rfl
 | _,_, .cons _ _ hs=>by rw [qbq,qbq,hs.len]
theorem Bts.get {ns:List Nod}:∀ {vs:List Int} {ts:List Tm},Bts ns vs ts->∀ (j:Nat) (a:Int) (t:Tm),vs[j]?=some a->ts[j]?=some t->0<=a/\Bt ns a.toNat t
 | _,_, .nil,j,a,t,h,_=>by simp at h
 | _,_, .cons h0 ht hs,j,a,t,h,b=>by
  cases j with
  | zero=>simp at h b;subst h b;exact ⟨h0,ht⟩
  | succ j=>simp at h b;exact hs.get j a t h b
theorem Bts.mem {ns:List Nod}:∀ {vs:List Int} {ts:List Tm},Bts ns vs ts->∀ a∈vs,0<=a/\∃ t,Bt ns a.toNat t
 | _,_, .nil,a,h=>by simp at h
 | _,_, .cons h0 ht hs,a,h=>by
  rcases qat.1 h with rfl | h;exact ⟨h0,_,ht⟩
  ·exact hs.mem a h
theorem Bts.map {ns ns':List Nod} {f:Int->Int}:∀ {vs:List Int} {ts:List Tm},Bts ns vs ts->(∀ a∈vs,0<=f a)->(∀ a∈vs,∀ t∈ts,Bt ns a.toNat t->Bt ns' (f a).toNat t)->Bts ns' (vs.map f) ts
 | _,_, .nil,_,_ => .nil
 | _,_, .cons h0 ht hs,hf,hm => .cons (hf _ (qq ..)) (hm _ (qq ..) _ (qq ..) ht) (hs.map (fun a ha=>hf a (qh _ ha)) fun a ha t b=>hm a (qh _ ha) t (qh _ b))
theorem Bts.unmap {ns ns':List Nod} {f:Int->Int}:∀ {vs:List Int} {ts:List Tm},Bts ns' (vs.map f) ts->(∀ a∈vs,0<=a)->(∀ a∈vs,∀ t∈ts,Bt ns' (f a).toNat t->Bt ns a.toNat t)->Bts ns vs ts
 | [],_,h,_,_=>by cases h;exact .nil
 | a::vs,_,h,hf,hm=>by
  cases h with
  | cons h0 ht hs=>exact .cons (hf _ (qq ..)) (hm _ (qq ..) _ (qq ..) ht) (Bts.unmap hs (fun a ha=>hf a (qh _ ha)) fun a ha t b=>hm a (qh _ ha) t (qh _ b))
theorem Bts.of {ns:List Nod}:∀ {vs:List Int} {ts:List Tm},vs.length=ts.length->(∀ (j:Nat) (a:Int) (t:Tm),vs[j]?=some a->ts[j]?=some t->0<=a/\Bt ns a.toNat t)->Bts ns vs ts
 | [],[],_,_ => .nil
 | [],_::_,h,_=>by simp at h
 | _::_,[],h,_=>by simp at h
 | a::vs,t::ts,h,b => .cons (b 0 a t rfl rfl).1 (b 0 a t rfl rfl).2 (Bts.of (by simpa using h) fun j a' t' ha ht=>b (j+1) a' t' (by simpa using ha) (by simpa using ht))
def cmpI:List Int->List Int->Int
 | [],[]=>0
 | [],_::_ => -1
 | _::_,[]=>1
 | x::xs,y::ys=>if x<y then -1 else if y<x then 1 else cmpI xs ys
def kfb (a b:Opn):Int:=if a.yd≠b.yd then cmpI [a.yd] [b.yd] else cmpI a.yb b.yb
theorem kxf {f:Int->Int} {p:Int->Prop} (hf:∀ a b,p a->p b->a<b->f a<f b):∀ (xs ys:List Int),(∀ x∈xs,p x)->(∀ y∈ys,p y)->cmpI (xs.map f) (ys.map f)=cmpI xs ys
 | [],[],_,_=>rfl
 | [],_::_,_,_=>rfl
 | _::_,[],_,_=>rfl
 | x::xs,y::ys,c,hy=>by
  have px:=c x (qq ..);have py:=hy y (qq ..);simp only [qao,cmpI];rcases Int.lt_trichotomy x y with h | h | h;rw [qn h,qn (hf x y px py h)];subst h;rw [qj (Int.lt_irrefl _),qj (Int.lt_irrefl _),qj (Int.lt_irrefl _),qj (Int.lt_irrefl _)];exact kxf hf xs ys (fun a ha=>c a (qh _ ha)) fun a ha=>hy a (qh _ ha)
  ·have:=hf y x py px h;rw [qj (show ¬ f x<f y by omega),qn this,qj (show ¬ x<y by omega),qn h]
def AscP (l:List Int) (n:Nat):Prop:=(∀ x∈l,0<=x/\x<(n:Int))/\∀ (i:Nat) (x y:Int),l[i]?=some x->l[i+1]?=some y->x<y
def szAt (ns:List Nod) (a:Int):Int:=((ns[a.toNat]?).map (·.yf)).getD 0
def syAt (ns:List Nod) (a:Int):Int:=((ns[a.toNat]?).map (·.yg)).getD 0
structure OptP (ns:List Nod) (i:Nat) (n:Nod) (o:Opn):Prop where
 rule:0<=o.yd
 args:∀ a∈o.yb,0<=a/\a<(i:Int)
 size:1+(o.yb.map (szAt ns)).sum=n.yf
structure NodP (ns:List Nod) (i:Nat) (n:Nod):Prop where
 sym:0<=n.yg
 size:1<=n.yf/\n.yf<=24
 opt:∀ o∈n.yc,OptP ns i n o
 asc:∀ (k:Nat) (o p:Opn),n.yc[k]?=some o->n.yc[k+1]?=some p->kfb o p<0
def optN (ns:List Nod):Nat:=(ns.map fun n=>n.yc.length).sum
def ConP (ns:List Nod):Prop:=∀ (i k:Nat) (n m:Nod) (o p:Opn),ns[i]?=some n->ns[k]?=some m->o∈n.yc->p∈m.yc->o.yd=p.yd ->
 n.yg=m.yg/\o.yb.map (syAt ns)=p.yb.map (syAt ns)
structure kbh (s:Spa):Prop where
 nodes:s.ya.length<=4096
 roots:AscP s.ye s.ya.length
 node:∀ (i:Nat) (n:Nod),s.ya[i]?=some n->NodP s.ya i n
 opts:optN s.ya<=32768
 con:ConP s.ya
theorem kpj {ns:List Nod} {i:Nat} {t:Tm} (h:Bt ns i t):i<ns.length:=by obtain ⟨n,o,ts,hn,_⟩:=h.inv;exact (qd.1 hn).1
def InS (s:Spa) (t:Tm):Prop:=∃ r∈s.ye,0<=r/\Bt s.ya r.toNat t
def cntP (p:Nat->Bool) (n:Nat):Nat:=((List.range n).filter p).length
theorem kv1 (p:Nat->Bool) (n:Nat):cntP p (n+1)=cntP p n+(if p n=true then 1 else 0):=by
 unfold cntP;rw [List.range_succ,List.filter_append,qaj];congr 1;by_cases h:p n=true;simp [h]
 ·simp [h]
theorem k2q (p:Nat->Bool) (m n:Nat) (h:m<=n):cntP p m<=cntP p n:=by
 induction n with
 | zero=>rw [show m=0 by omega];exact qy _
 | succ n ih=>
  by_cases hm:m=n+1;rw [hm];exact qy _
  ·have:=ih (by omega);rw [kv1];omega
theorem ku2 (p:Nat->Bool) (m n:Nat) (hp:p m=true) (h:m<n:=by omega):cntP p m<cntP p n:=by have:=k2q p (m+1) n h;rw [kv1,qn hp] at this;omega
theorem kur (p:Nat->Bool) (n:Nat):cntP p n<=n:=by unfold cntP;have:=List.length_filter_le p (List.range n);rw [List.length_range] at this;exact this
theorem kabz {p:Nat->Bool} {n i:Nat} (h:i<n) (hp:p i=true):((List.range n).filter p)[cntP p i]?=some i:=by
 induction n with
 | zero=>omega
 | succ n ih=>
  rw [List.range_succ,List.filter_append];by_cases hi:i=n;subst hi;show (List.filter p (List.range i)++List.filter p [i])[(List.filter p (List.range i)).length]?=some i;rw [qai (qy _),Nat.sub_self];simp [hp]
  ·have h1:=ih (by omega);rw [qac (by exact (qd.1 h1).1)];exact h1
theorem k87 {p:Nat->Bool} {n j i:Nat} (h:((List.range n).filter p)[j]?=some i):i<n/\p i=true/\cntP p i=j:=by
 induction n with
 | zero=>simp at h
 | succ n ih=>
  rw [List.range_succ,List.filter_append] at h;by_cases a:j<((List.range n).filter p).length;rw [qac a] at h;obtain ⟨h1,b,c⟩:=ih h;exact ⟨by omega,b,c⟩
  ·rw [qai (by omega)] at h;by_cases hp:p n=true;rw [List.filter_cons_of_pos hp,List.filter_nil] at h;have d:j - ((List.range n).filter p).length=0:=(by have:=(qd.1 h).1;simpa using this);rw [d] at h;simp at h;subst h;refine ⟨by omega,hp,?_⟩;unfold cntP;omega
   ·rw [List.filter_cons_of_neg (by simpa using hp),List.filter_nil] at h;simp at h
def numI (p:Nat->Bool) (a:Int):Int:=(cntP p a.toNat:Int)
def khr (p:Nat->Bool) (o:Opn):Opn:=⟨o.yd,o.yb.map (numI p)⟩
def kat (f:Nat->Bool) (o:Opn):Bool:=o.yb.all fun a=>f a.toNat
def kld (f p:Nat->Bool) (n:Nod):Nod:=⟨n.yg,n.yf,(n.yc.filter (kat f)).map (khr p)⟩
def nodD:Nod:=⟨0,0,[]⟩
def kep (f p:Nat->Bool) (s:Spa):Spa:=⟨((List.range s.ya.length).filter p).map fun i=>kld f p ((s.ya[i]?).getD nodD),(s.ye.filter fun r=>f r.toNat).map (numI p)⟩
structure knn (s:Spa) (f p:Nat->Bool):Prop where
 full:∀ (i:Nat) (t:Tm),Bt s.ya i t->f i=true
 root:∀ r∈s.ye,f r.toNat=true->p r.toNat=true
 arg:∀ (i:Nat) (n:Nod) (o:Opn),p i=true->s.ya[i]?=some n->o∈n.yc->kat f o=true->∀ a∈o.yb,p a.toNat=true
section
variable {s:Spa} {f p:Nat->Bool}
theorem kut {i:Nat} {n:Nod} (hn:s.ya[i]?=some n) (hp:p i=true):(kep f p s).ya[cntP p i]?=some (kld f p n):=by have hi:=(qd.1 hn).1;show (List.map _ _)[_]?=_;rw [ql,kabz hi hp,qaw,hn,qam]
theorem kpv {j:Nat} {m:Nod} (h:(kep f p s).ya[j]?=some m):∃ i n,s.ya[i]?=some n/\p i=true/\cntP p i=j/\m=kld f p n:=by have a:(List.map (fun i=>kld f p ((s.ya[i]?).getD nodD)) ((List.range s.ya.length).filter p))[j]?=some m:=h;rw [ql,qw] at a;obtain ⟨i,h1,rfl⟩:=a;obtain ⟨b,c,d⟩:=k87 h1;exact ⟨i,s.ya[i],qa b,c,d,by rw [qa b,qam]⟩
theorem ki9 (hf:kbh s) {i:Nat} {n:Nod} {o:Opn} (hn:s.ya[i]?=some n) (ho:o∈n.yc):∀ a∈o.yb,0<=a/\a<(i:Int):=((hf.node i n hn).opt o ho).args
theorem k4p (hf:kbh s) (hk:knn s f p):∀ (t:Tm) (i:Nat),p i=true->Bt s.ya i t->Bt (kep f p s).ya (cntP p i) t:=by
 intro t
 induction t using Tm.ind with
 | h r l ih=>
  intro i hp h;obtain ⟨n,o,ts,hn,ho,e,hs⟩:=h.inv;injection e with c d;subst c d;have b:kat f o=true:=qu.2 fun a ha=>by obtain ⟨_,t,ht⟩:=hs.mem a ha;exact hk.full _ t ht
  have hm:khr p o∈(kld f p n).yc:=qaf.2 ⟨o,qbc.2 ⟨ho,b⟩,rfl⟩;have g:Bts (kep f p s).ya (khr p o).yb l:=hs.map (fun a _=>Int.natCast_nonneg _) fun a ha t ht j=>ih t ht a.toNat (hk.arg i n o hp hn ho b a ha) j;show Bt _ _ (Tm.mk (khr p o).yd l);exact .mk (kut hn hp) hm g
theorem kyj (hf:kbh s) (hk:knn s f p):∀ (t:Tm) (i:Nat),p i=true->i<s.ya.length->Bt (kep f p s).ya (cntP p i) t->Bt s.ya i t:=by
 intro t
 induction t using Tm.ind with
 | h r l ih=>
  intro i hp hi h;obtain ⟨m,o',ts,hm,c,g,hs⟩:=h.inv;injection g with d e;have hn:=qa hi;rw [kut hn hp] at hm;injection hm with hm;subst hm;obtain ⟨o,j,rfl⟩:=qaf.1 c;obtain ⟨ho,b⟩:=qbc.1 j;subst d e;have k:Bts s.ya o.yb l:=Bts.unmap (f:=numI p) hs (fun a ha=>(ki9 hf hn ho a ha).1) fun a ha t ht n=>by have q:=ki9 hf hn ho a ha;exact ih t ht a.toNat (hk.arg i _ o hp hn ho b a ha) (by omega) n
  show Bt _ _ (Tm.mk o.yd l);exact .mk hn ho k
theorem kwz (hf:kbh s) (hk:knn s f p) (t:Tm):InS (kep f p s) t↔InS s t:=by
 constructor;rintro ⟨r',hr,h0,c⟩;have d:r'∈(s.ye.filter fun r=>f r.toNat).map (numI p):=hr;obtain ⟨r,a,rfl⟩:=qaf.1 d;obtain ⟨a,e⟩:=qbc.1 a;have h1:=hf.roots.1 r a;exact ⟨r,a,h1.1,kyj hf hk t r.toNat (hk.root r a e) (by omega) c⟩
 ·rintro ⟨r,hr,h0,c⟩;have b:=hk.full _ t c;exact ⟨numI p r,qaf.2 ⟨r,qbc.2 ⟨hr,b⟩,rfl⟩,Int.natCast_nonneg _,k4p hf hk t r.toNat (hk.root r hr b) c⟩
theorem kvl (hf:kbh s) (hk:knn s f p) {j:Nat} {m:Nod} (hm:(kep f p s).ya[j]?=some m):∃ i n,s.ya[i]?=some n/\n.yg=m.yg/\n.yf=m.yf/\∀ t,Bt (kep f p s).ya j t->Bt s.ya i t:=by obtain ⟨i,n,hn,hp,rfl,rfl⟩:=kpv hm;exact ⟨i,n,hn,rfl,rfl,fun t h=>kyj hf hk t i hp (qd.1 hn).1 h⟩
theorem kzv (hf:kbh s) {a:Int} (h0:0<=a) (hp:p a.toNat=true) (h1:a<(s.ya.length:Int):=by omega):szAt (kep f p s).ya (numI p a)=szAt s.ya a/\syAt (kep f p s).ya (numI p a)=syAt s.ya a:=by have hn:=qa (l:=s.ya) (i:=a.toNat) (by omega);have:=kut (f:=f) hn hp;unfold szAt syAt numI;rw [qbw,this,hn];exact ⟨rfl,rfl⟩
theorem ksa {α:Type} {R:α->α->Prop} (ht:∀ a b c,R a b->R b c->R a c) (q:α->Bool):∀ (l:List α),(∀ (k:Nat) (o p:α),l[k]?=some o->l[k+1]?=some p->R o p)->∀ (k:Nat) (o p:α),(l.filter q)[k]?=some o->(l.filter q)[k+1]?=some p->R o p:=by
 intro l h;have hp:l.Pairwise R:=by
  induction l with
  | nil=>exact .nil
  | cons x l ih=>
   have hl:=ih fun k o p h1 d=>h (k+1) o p (by simpa using h1) (by simpa using d);refine List.pairwise_cons.2 ⟨fun y hy=>?_,hl⟩;cases l with
   | nil=>simp at hy
   | cons z l=>
    have e:R x z:=h 0 x z rfl rfl;rcases qat.1 hy with rfl | hy;exact e
    ·exact ht _ _ _ e ((List.pairwise_cons.1 hl).1 y hy)
 have f:=hp.filter q;intro k o p h1 d;obtain ⟨k1,e1⟩:=qd.1 h1;obtain ⟨k2,e2⟩:=qd.1 d;have:=(List.pairwise_iff_getElem.1 f) k (k+1) k1 k2 (by omega);rw [e1,e2] at this;exact this
theorem ktn:∀ (xs ys zs:List Int),cmpI xs ys<0->cmpI ys zs<0->cmpI xs zs<0
 | [],[],_,h,_=>by simp [cmpI] at h
 | [],_::_,[],_,h=>by simp [cmpI] at h
 | [],_::_,_::_,_,_=>by simp [cmpI]
 | _::_,[],_,h,_=>by simp [cmpI] at h
 | _::_,_::_,[],_,h=>by simp [cmpI] at h
 | x::xs,y::ys,z::zs,h,k=>by
  simp only [cmpI] at h k ⊢;split at h
  ·split at k;rw [qn (by omega)];omega
   ·split at k;omega
    ·rw [qn (by omega)];omega
  ·split at h;omega
   ·split at k;rw [qn (by omega)];omega
    ·split at k;omega
     ·rw [qj (by omega),qj (by omega)];exact ktn xs ys zs h k
theorem kw5 {a b:Opn}:kfb a b<0↔a.yd<b.yd\/(a.yd=b.yd/\cmpI a.yb b.yb<0):=by
 unfold kfb;split
 ·rename_i h;simp only [cmpI];constructor
  ·intro h1;split at h1;rename_i c;exact .inl c
   ·split at h1 <;> omega
  ·rintro (h1 | h1);rw [qn h1];omega
   ·exact absurd h1.1 h
 ·rename_i h;have h:a.yd=b.yd:=by simpa using h
  exact ⟨fun h1 => .inr ⟨h,h1⟩,fun h1=>by
   rcases h1 with h1 | h1;omega
   ·exact h1.2⟩
theorem ky2 {a b c:Opn} (h:kfb a b<0) (k:kfb b c<0):kfb a c<0:=by
 rw [kw5] at h k ⊢;rcases h with h | ⟨h1,d⟩
 ·rcases k with k | ⟨k1,k2⟩;exact .inl (by omega)
  ·exact .inl (by omega)
 ·rcases k with k | ⟨k1,k2⟩;exact .inl (by omega)
  ·exact .inr ⟨by omega,ktn _ _ _ d k2⟩
theorem kvt (hf:kbh s) (hk:knn s f p):kbh (kep f p s):=by
 have l:(kep f p s).ya.length=cntP p s.ya.length:=by show (List.map _ _).length=_;rw [qaa];rfl
 have mono:∀ a b:Int,(0<=a/\p a.toNat=true)->(0<=b/\p b.toNat=true)->a<b->numI p a<numI p b:=fun a b ha G h=>by have:=ku2 p a.toNat b.toNat ha.2;unfold numI;omega
 refine ⟨?_,⟨?_,?_⟩,?_,?_,?_⟩;rw [l];exact qap (kur _ _) hf.nodes;intro x H;have e:x∈(s.ye.filter fun r=>f r.toNat).map (numI p):=H;obtain ⟨r,g,rfl⟩:=qaf.1 e;obtain ⟨g,I⟩:=qbc.1 g;have h1:=hf.roots.1 r g;have:=ku2 p r.toNat s.ya.length (hk.root r g I);rw [l];unfold numI;omega;intro i x y H hy;have e:((s.ye.filter fun r=>f r.toNat).map (numI p))[i]?=some x:=H;have w:((s.ye.filter fun r=>f r.toNat).map (numI p))[i+1]?=some y:=hy;rw [ql,qw] at e w;obtain ⟨a,ha,rfl⟩:=e;obtain ⟨b,G,rfl⟩:=w;have J:a<b:=ksa (R:=fun a b:Int=>a<b) (fun a b c h1 t=>by omega) _ s.ye hf.roots.2 i a b ha G;have pa:=qbc.1 (qk ha);have pb:=qbc.1 (qk G);exact mono a b ⟨(hf.roots.1 a pa.1).1,hk.root a pa.1 pa.2⟩ ⟨(hf.roots.1 b pb.1).1,hk.root b pb.1 pb.2⟩ J
 ·intro j m hm;obtain ⟨i,n,hn,hp,rfl,rfl⟩:=kpv hm;have hi:=(qd.1 hn).1;have hN:=hf.node i n hn;refine ⟨hN.sym,hN.size,fun o' K=>?_,fun k o' p' h1 t=>?_⟩
  ·have u:o'∈(n.yc.filter (kat f)).map (khr p):=K;obtain ⟨o,ho,rfl⟩:=qaf.1 u;obtain ⟨ho,z⟩:=qbc.1 ho;have F:=hN.opt o ho;have ha:=hk.arg i n o hp hn ho z;refine ⟨F.rule,fun a' L=>?_,?_⟩;have M:a'∈o.yb.map (numI p):=L;obtain ⟨a,d,rfl⟩:=qaf.1 M;have h1:=F.args a d;have:=ku2 p a.toNat i (ha a d);unfold numI;omega
   ·rw [<- show n.yf=(kld f p n).yf from rfl,<- F.size];congr 1;show ((o.yb.map (numI p)).map _).sum=_;rw [List.map_map];congr 1;refine List.map_congr_left fun a d=>?_;have h1:=F.args a d;exact (kzv hf h1.1 (ha a d)).1
  ·have A:((n.yc.filter (kat f)).map (khr p))[k]?=some o':=h1;have B:((n.yc.filter (kat f)).map (khr p))[k+1]?=some p':=t;rw [ql,qw] at A B;obtain ⟨o,Q,rfl⟩:=A;obtain ⟨q,S,rfl⟩:=B;have v:kfb o q<0:=ksa (R:=fun a b:Opn=>kfb a b<0) (fun a b c h1 t=>ky2 h1 t) _ n.yc hN.asc k o q Q S;obtain ⟨m1,a1⟩:=qbc.1 (qk Q);obtain ⟨m2,a2⟩:=qbc.1 (qk S);rw [kw5] at v ⊢;rcases v with v | ⟨v,T⟩;exact .inl v
   ·refine .inr ⟨v,?_⟩;show cmpI (o.yb.map (numI p)) (q.yb.map (numI p))<0;rw [kxf (p:=fun a=>0<=a/\p a.toNat=true) mono _ _ (fun a ha=>⟨((hN.opt o m1).args a ha).1,hk.arg i n o hp hn m1 a1 a ha⟩) fun a ha=>⟨((hN.opt q m2).args a ha).1,hk.arg i n q hp hn m2 a2 a ha⟩];exact T
 ·refine qap ?_ hf.opts;have:∀ (m:Nat),m<=s.ya.length->((((List.range m).filter p).map fun i=>kld f p ((s.ya[i]?).getD nodD)).map fun n=>n.yc.length).sum<=optN (s.ya.take m):=by
   intro m
   induction m with
   | zero=>intro _;exact qar _
   | succ m ih=>
    intro hm;have h1:=ih (by omega);rw [List.range_succ,List.filter_append,qas,qas,List.sum_append,qx (by omega)];unfold optN at h1 ⊢;rw [qas,List.sum_append];refine Nat.add_le_add h1 ?_;by_cases hp:p m=true;rw [List.filter_cons_of_pos hp];simp only [List.filter_nil,qao,List.map_nil,List.sum_cons,List.sum_nil,Nat.add_zero,qa (show m<s.ya.length by omega),qam];show (List.map _ _).length<=_;rw [qaa];exact List.length_filter_le _ _
    ·rw [List.filter_cons_of_neg (by simpa using hp)];exact qar _
  have t:=this s.ya.length (qy _);rw [qae] at t;exact t
 ·intro i k n' m' o' q' hn hm ho C hr;obtain ⟨i,n,D,N,rfl,rfl⟩:=kpv hn;obtain ⟨k,m,E,O,rfl,rfl⟩:=kpv hm;clear hn hm;have u:o'∈(n.yc.filter (kat f)).map (khr p):=ho;have P:q'∈(m.yc.filter (kat f)).map (khr p):=C;clear ho C;obtain ⟨o,U,rfl⟩:=qaf.1 u;obtain ⟨q,hy,rfl⟩:=qaf.1 P;obtain ⟨ho,a1⟩:=qbc.1 U;obtain ⟨C,a2⟩:=qbc.1 hy;obtain ⟨c1,c2⟩:=hf.con i k n m o q D E ho C hr;refine ⟨c1,?_⟩;have sy:∀ (i:Nat) (n:Nod) (o:Opn),s.ya[i]?=some n->p i=true->o∈n.yc->kat f o=true->(khr p o).yb.map (syAt (kep f p s).ya)=o.yb.map (syAt s.ya):=fun i n o hn hp ho ha=>by show (o.yb.map (numI p)).map _=_;rw [List.map_map];refine List.map_congr_left fun a d=>?_;have h1:=ki9 hf hn ho a d;have t:=(qd.1 hn).1;exact (kzv hf h1.1 (hk.arg i n o hp hn ho ha a d)).2
  rw [sy i n o D N ho a1,sy k m q E O C a2,c2]
end
set_option maxRecDepth 100000
def lexP:List Int->List Int->Unit ⊕ Int
 | x::xs,y::ys=>if x<y then .inr (-1) else if y<x then .inr 1 else lexP xs ys
 | _,_ => .inl ()
theorem kvq:∀ xs ys:List Int,cmpI xs ys=Sum.elim (fun _=>if xs.length<ys.length then -1 else if ys.length<xs.length then 1 else 0) id (lexP xs ys)
 | [],[]=>rfl
 | [],_::_=>by simp [cmpI,lexP]
 | _::_,[]=>by simp [cmpI,lexP]
 | x::xs,y::ys=>by
  simp only [cmpI,lexP];split;rfl
  ·split;rfl
   ·rw [kvq xs ys];congr 1;funext u;simp
theorem kw4 (x y:List Int) (f:x.length<=9223372036854775807) (hy:y.length<=9223372036854775807):kas x y=some (cmpI x y):=by
 unfold kas;have h:=kle (kav x y) (min x.length y.length) (fun i=>(i:Int)) (fun i=>lexP (x.drop i) (y.drop i)) (fun i hi=>by
  have a:i<x.length:=by omega
  have b:i<y.length:=by omega
  simp only [kav,kan a,kan b,qe,kag,qa a,qa b,qb,kak a f,qbb a,qbb b,lexP];by_cases h1:x[i]<y[i];rw [qs h1,qn h1];exact .inr rfl
  ·rw [qp h1,qj h1];by_cases d:y[i]<x[i];rw [qs d,qn d];exact .inr rfl
   ·rw [qp d,qj d];exact .inl ⟨rfl,rfl⟩) (by
  by_cases hc:x.length<=y.length;have e:min x.length y.length=x.length:=(by omega);rw [e];simp only [kav,kal,qf,List.drop_length,lexP,qb]
  ·have e:min x.length y.length=y.length:=(by omega);have e2:decide (((y.length:Nat):Int)<(x.length:Int))=true:=qs (by omega);rw [e];simp only [kav,e2,qe,kal,qb,qf,List.drop_length];cases List.drop y.length x <;> simp [lexP])
 have g:kac (kav x y) fuel 0=some (lexP x y):=by simpa using h
 rw [g,qb,kvq];cases lexP x y with
 | inr c=>rfl
 | inl u=>
  simp only [qaq];unfold kcz;by_cases h1:x.length<y.length;rw [qs (by omega),qn h1];rfl
  ·rw [qp (by omega),qj h1];by_cases d:y.length<x.length;rw [qs (by omega),qn d];rfl
   ·rw [qp (by omega),qj d];rfl
theorem k21 (a b:Opn) (ha:a.yb.length<=9223372036854775807) (c:b.yb.length<=9223372036854775807):kck a b=some (kfb a b):=by
 unfold kck kfb;by_cases h:a.yd=b.yd;rw [show (a.yd != b.yd)=false by simp [h],qj (by simp [h])];rw [qf,kw4 _ _ ha c];rfl
 ·rw [show (a.yd != b.yd)=true by simp [h],qn h];rw [qe,kw4 _ _ (by simp) (by simp)];rfl
theorem kz9 (l:List Int) (n:Nat) (hl:l.length<=9223372036854775807):Ev (kdo l (n:Int)) fun b=>b=true↔AscP l n:=by
 let bad:Nat->Bool:=fun i=>decide ((l[i]?).getD 0<0) || (decide ((n:Int)<=(l[i]?).getD 0) || (decide (0<i) && decide ((l[i]?).getD 0<=(l[i - 1]?).getD 0)))
 have hs:∀ i,i<l.length->ka5 l (n:Int) (i:Int)=if bad i=true then some (.inr (.inr false)) else some (.inl ((i+1:Nat):Int)):=fun i hi=>by
  have e:bad i=(decide (l[i]<0) || (decide ((n:Int)<=l[i]) || (decide (0<i) && decide (l[i]<=(l[i - 1]?).getD 0)))):=by show (decide ((l[i]?).getD 0<0) || _)=_;rw [qa hi];rfl
  rw [e];simp only [ka5,kan hi,qe,kag,qa hi,qb,kak hi hl];by_cases h1:l[i]<0;simp [h1]
  ·by_cases d:(n:Int)<=l[i];simp [h1,d]
   ·by_cases f:0<i
    ·have c:i - 1<l.length:=(by omega);have e1:w64 ((i:Int) - 1)=((i - 1:Nat):Int):=(by rw [kdf];omega);have e2:decide ((0:Int)<(i:Int))=true:=qs (by omega);simp only [qp h1,qp d,e2,qe,qf,e1,kag,qa c,qb,qs f,Bool.false_or,Bool.true_and,qam];by_cases k:l[i]<=l[i - 1];simp [k]
     ·simp [k]
    ·have e2:decide ((0:Int)<(i:Int))=false:=qp (by omega);simp [h1,d,f,e2]
 have m:ka5 l (n:Int) (l.length:Int)=some (.inr (.inl ())):=by simp only [ka5,kal,qf]
 unfold kdo;rcases kgm (ka5 l (n:Int)) l.length bad (fun _ => .inr false) (.inl ()) hs m with ⟨i,hi,g,_,hr⟩ | ⟨g,hr⟩
 ·rw [hr];refine ⟨false,rfl,⟨fun h=>absurd h qa0,fun h=>?_⟩⟩;exfalso;have h1:=h.1 l[i] (qo hi);have a:(decide ((l[i]?).getD 0<0) || (decide ((n:Int)<=(l[i]?).getD 0) || (decide (0<i) && decide ((l[i]?).getD 0<=(l[i - 1]?).getD 0))))=true:=g;rw [qa hi] at a;simp only [qam,qbx,qv,qay] at a;rcases a with a | a | ⟨f,a⟩;omega;omega
  ·have c:i - 1<l.length:=(by omega);rw [qa c,qam] at a;have:=h.2 (i - 1) l[i - 1] l[i] (qa c) (by rw [show i - 1+1=i by omega];exact qa hi);omega
 ·rw [hr];have a:∀ i (hi:i<l.length),0<=l[i]/\l[i]<(n:Int)/\(0<i->(l[i - 1]?).getD 0<l[i]):=fun i hi=>by
   have h:(decide ((l[i]?).getD 0<0) || (decide ((n:Int)<=(l[i]?).getD 0) || (decide (0<i) && decide ((l[i]?).getD 0<=(l[i - 1]?).getD 0))))=false:=g i hi;rw [qa hi] at h;simp only [qam,Bool.or_eq_false_iff,Bool.and_eq_false_iff,qbf] at h;refine ⟨by omega,by omega,fun h0=>?_⟩;rcases h.2.2 with h | h;exact absurd h0 h
   ·omega
  refine ⟨true,rfl,⟨fun _=>⟨fun x j=>?_,fun i x y j hy=>?_⟩,fun _=>rfl⟩⟩;obtain ⟨i,hi,rfl⟩:=qah.1 j;exact ⟨(a i hi).1,(a i hi).2.1⟩
  ·obtain ⟨hi,rfl⟩:=qd.1 j;obtain ⟨o,rfl⟩:=qd.1 hy;have:=(a (i+1) o).2.2 (by omega);rw [Nat.add_sub_cancel,qa hi,qam] at this;exact this
theorem kw0 (f:Int->Int) {l:List Int} {j:Nat} (h:j<l.length):((l.take (j+1)).map f).sum=((l.take j).map f).sum+f l[j]:=by rw [qx h,qas,List.sum_append];simp
theorem kvw (f:Int->Int) (l:List Int) (j:Nat):(l.map f).sum=((l.take j).map f).sum+((l.drop j).map f).sum:=by rw [<- List.sum_append,<- qas,List.take_append_drop]
theorem ko4 {f:Int->Int}:∀ (l:List Int),(∀ x∈l,0<=f x)->0<=(l.map f).sum
 | [],_=>by simp
 | x::l,h=>by have h1:=h x (qq ..);have a:=ko4 l fun y hy=>h y (qh _ hy);simp only [qao,List.sum_cons];omega
theorem kjy (ns:List Nod) {a:Int} (h0:0<=a) (h1:a<(ns.length:Int):=by omega):∃ m,idx ns a=some m/\ns[a.toNat]?=some m/\szAt ns a=m.yf/\syAt ns a=m.yg:=by
 have b:a.toNat<ns.length:=by omega
 refine ⟨ns[a.toNat],?_,qa b,?_,?_⟩;unfold idx;rw [qn h0,qa b];unfold szAt;rw [qa b];rfl
 ·unfold syAt;rw [qa b];rfl
theorem k2l {ns:List Nod} {i:Nat} {n:Nod} (o:Opn) (hn:ns[i]?=some n) (l:∀ (k:Nat) (m:Nod),k<=i->ns[k]?=some m->1<=m.yf/\m.yf<=24) (t:o.yb.length<=9223372036854775807):Ev (ke2 ns (i:Int) o) fun b=>b=true↔OptP ns i n o:=by
 have hi:=(qd.1 hn).1;have u:=l i n (qy _) hn;have c:∀ a:Int,0<=a->a<(i:Int)->∃ m,idx ns a=some m/\szAt ns a=m.yf/\1<=m.yf/\m.yf<=24:=fun a h0 h1=>by obtain ⟨m,e1,e2,e3,_⟩:=kjy ns h0;have:=l a.toNat m (by omega) e2;exact ⟨m,e1,e3,this.1,this.2⟩
 unfold ke2;refine kbp (Ev.mono (ka4 (xs:=o.yb) (step:=kd0 ns (i:Int) o) (Q:=fun r=>(∃ s,r = .inl s/\(∀ a∈o.yb,0<=a/\a<(i:Int))/\s=1+(o.yb.map (szAt ns)).sum)\/(r = .inr false/\¬ OptP ns i n o))
  (fun (j:Nat) (s:Int)=>(s,(j:Int))) (fun j s=>(∀ a∈o.yb.take j,0<=a/\a<(i:Int))/\s=1+((o.yb.take j).map (szAt ns)).sum/\1<=s/\s<=48) t ⟨by simp,by simp,by omega,by omega⟩ (fun j s d ⟨h1,p,v,w⟩=>?_) (fun s ⟨h1,p,v,w⟩=>?_)) ?_)
 ·simp only [kd0,kan d,qe,kag,qa d,qb,kak d t];by_cases b1:o.yb[j]<0;refine ⟨.inr (.inr false),by simp [b1], .inr ⟨rfl,fun g=>?_⟩⟩;have:=(g.args _ (qo d)).1;omega
  ·by_cases b2:(i:Int)<=o.yb[j];refine ⟨.inr (.inr false),by simp [b1,b2], .inr ⟨rfl,fun g=>?_⟩⟩;have:=(g.args _ (qo d)).2;omega
   ·by_cases b3:24<s;refine ⟨.inr (.inr false),by simp [b1,b2,b3], .inr ⟨rfl,fun g=>?_⟩⟩;have x:=g.size;rw [kvw _ _ j] at x;have z:=ko4 (f:=szAt ns) (o.yb.drop j) fun a ha=>(by have q:=g.args a (qbk ha);obtain ⟨m,_,e,y,_⟩:=c a q.1 q.2;omega);omega
    ·obtain ⟨m,e1,e2,y,A⟩:=c o.yb[j] (by omega) (by omega);have e3:w64 (s+m.yf)=s+m.yf:=kdf;refine ⟨.inl (s+m.yf,((j+1:Nat):Int)),by simp [b1,b2,b3,e1,e3],s+m.yf,rfl,fun a ha=>?_,?_,by omega,by omega⟩
     ·rw [qx d,qab,q9] at ha;rcases ha with ha | rfl;exact h1 a ha
      ·omega
     ·rw [kw0 _ d];omega
 ·refine ⟨_,by simp only [kd0,kal,qf],_,rfl, .inl ⟨s,rfl,?_,?_⟩⟩;rw [qae] at h1;exact h1
  ·rw [qae] at p;exact p
 ·rintro r (⟨s,rfl,h1,p⟩ | ⟨rfl,h1⟩)
  ·simp only [qaq];by_cases hr:0<=o.yd;simp only [qs hr,qe,kag,hn,qb];refine ⟨_,rfl,?_⟩;show (s == n.yf)=true↔_;rw [beq_iff_eq,p];exact ⟨fun h=>⟨hr,h1,h⟩,fun h=>h.size⟩
   ·simp only [qp hr,qf,qb];exact ⟨false,rfl,⟨fun h=>absurd h qa0,fun h=>absurd h.rule hr⟩⟩
  ·exact ⟨false,rfl,⟨fun h=>absurd h qa0,fun h=>absurd h h1⟩⟩
theorem kvz {ns:List Nod} {i k:Nat} {n m:Nod} {o p:Opn} (hn:ns[i]?=some n) (hm:ns[k]?=some m) (ho:∀ a∈o.yb,0<=a/\a<(ns.length:Int)) (hp:∀ a∈p.yb,0<=a/\a<(ns.length:Int)) (r:o.yb.length<=9223372036854775807):
  Ev (ke1 ns (i:Int) o (k:Int) p) fun b=>b=true↔n.yg=m.yg/\o.yb.map (syAt ns)=p.yb.map (syAt ns):=by
 unfold ke1;simp only [kag,hn,hm,qb];by_cases h1:n.yg=m.yg
 ·have e1:(n.yg != m.yg)=false:=by simp [h1]
  simp only [e1,qf,qb];by_cases l:o.yb.length=p.yb.length
  ·have e2:((o.yb.length:Int) != (p.yb.length:Int))=false:=(by simp [l]);simp only [e2,qf]
   let bad:Nat->Bool:=fun j=>decide (syAt ns ((o.yb[j]?).getD 0)≠syAt ns ((p.yb[j]?).getD 0))
   have hs:∀ j,j<o.yb.length->kb7 ns o p (j:Int)=if bad j=true then some (.inr (.inr false)) else some (.inl ((j+1:Nat):Int)):=fun j d=>by
    have c:j<p.yb.length:=(by omega);obtain ⟨x,x1,_,_,x2⟩:=kjy ns (ho _ (qo d)).1 (h1:=(ho _ (qo d)).2);obtain ⟨y,y1,_,_,y2⟩:=kjy ns (hp _ (qo c)).1 (h1:=(hp _ (qo c)).2);have e:bad j=decide (x.yg≠y.yg):=(by show decide (syAt ns ((o.yb[j]?).getD 0)≠syAt ns ((p.yb[j]?).getD 0))=_;rw [qa d,qa c,qam,qam,x2,y2]);rw [e];simp only [kb7,kan d,qe,kag,qa d,qa c,qb,kak d r,x1,y1];by_cases f:x.yg=y.yg;rw [show (x.yg != y.yg)=false by simp [f],qf,qp (by simp [f]),qj (by simp)]
    ·rw [show (x.yg != y.yg)=true by simp [f],qe,qs f,qn rfl]
   have s:kb7 ns o p (o.yb.length:Int)=some (.inr (.inl ())):=(by simp only [kb7,kal,qf]);rcases kgm (kb7 ns o p) o.yb.length bad (fun _ => .inr false) (.inl ()) hs s with ⟨j,d,q,_,hr⟩ | ⟨q,hr⟩;rw [hr];refine ⟨false,rfl,⟨fun h=>absurd h qa0,fun h=>?_⟩⟩;exfalso;have c:j<p.yb.length:=(by omega);have g:decide (syAt ns ((o.yb[j]?).getD 0)≠syAt ns ((p.yb[j]?).getD 0))=true:=q;rw [qa d,qa c,qam,qam,qay] at g;have f:=qau (·[j]?) h.2;simp only [ql,qa d,qa c,qaw,qc] at f;exact g f
   ·rw [hr];refine ⟨true,rfl,⟨fun _=>⟨h1,?_⟩,fun _=>rfl⟩⟩;refine List.ext_getElem (by simp [l]) fun j d c=>?_;rw [qaa] at d c;rw [List.getElem_map,List.getElem_map];have h:decide (syAt ns ((o.yb[j]?).getD 0)≠syAt ns ((p.yb[j]?).getD 0))=false:=q j d;rw [qa d,qa c,qam,qam,qbf] at h;exact Decidable.not_not.1 h
  ·have e2:((o.yb.length:Int) != (p.yb.length:Int))=true:=(by rw [bne_iff_ne];omega);simp only [e2,qe];exact ⟨false,rfl,⟨fun h=>absurd h qa0,fun h=>absurd (by simpa using qau List.length h.2) l⟩⟩
 ·have e1:(n.yg != m.yg)=true:=by simp [h1]
  simp only [e1,qe,qb];exact ⟨false,rfl,⟨fun h=>absurd h qa0,fun h=>absurd h.1 h1⟩⟩
def sgn (ns:List Nod) (i:Nat) (o:Opn):Int×List Int:=(syAt ns (i:Int),o.yb.map (syAt ns))
theorem kjz {ns:List Nod} {i:Nat} {n:Nod} (h:ns[i]?=some n):syAt ns (i:Int)=n.yg:=by unfold syAt;rw [qbw,h];rfl
theorem conP_iff {ns:List Nod}:ConP ns↔∀ (i k:Nat) (n m:Nod) (o p:Opn),ns[i]?=some n->ns[k]?=some m->o∈n.yc->p∈m.yc->o.yd=p.yd->sgn ns i o=sgn ns k p:=by
 constructor;intro h i k n m o p hn hm ho hp hr;obtain ⟨h1,a⟩:=h i k n m o p hn hm ho hp hr;unfold sgn;rw [kjz hn,kjz hm,h1,a]
 ·intro h i k n m o p hn hm ho hp hr;have h1:=h i k n m o p hn hm ho hp hr;unfold sgn at h1;rw [kjz hn,kjz hm,qt] at h1;exact h1
theorem kj3 {ns:List Nod} {i:Nat} (h:i<ns.length):optN (ns.take (i+1))=optN (ns.take i)+ns[i].yc.length:=by unfold optN;rw [qx h,qas,List.sum_append];simp
theorem kiu (ns:List Nod):∀ i,optN (ns.take i)<=optN ns:=fun i=>by
 have:optN ns=optN (ns.take i)+optN (ns.drop i):=by unfold optN;rw [<- List.sum_append,<- qas,List.take_append_drop]
 omega
def visO (ns:List Nod) (i k i':Nat) (o:Opn):Prop:=∃ n k',ns[i']?=some n/\n.yc[k']?=some o/\(i'<i\/(i'=i/\k'<k))
structure CInv (ns:List Nod) (vis:Nat->Opn->Prop) (c:Nat) (F:List Opn) (W:List Int):Prop where
 len:F.length=W.length
 here:∀ (j:Nat) (f:Opn),F[j]?=some f->∃ i':Nat,W[j]?=some (i':Int)/\vis i' f
 all:∀ (i':Nat) (o:Opn),vis i' o->∃ (j:Nat) (f:Opn) (i'':Nat),F[j]?=some f/\W[j]?=some (i'':Int)/\f.yd=o.yd/\sgn ns i' o=sgn ns i'' f
 dist:∀ (j j':Nat) (f f':Opn),F[j]?=some f->F[j']?=some f'->f.yd=f'.yd->j=j'
 cnt:F.length<=c
theorem CInv.congr {ns:List Nod} {v v':Nat->Opn->Prop} {c c':Nat} {F:List Opn} {W:List Int} (h:CInv ns v c F W) (hv:∀ i o,v i o↔v' i o) (hc:c<=c'):CInv ns v' c' F W:=
 ⟨h.len,fun j f hf=>let ⟨i',h1,a⟩:=h.here j f hf;⟨i',h1,(hv _ _).1 a⟩,fun i' o ho=>h.all i' o ((hv _ _).2 ho),h.dist,qap h.cnt hc⟩
structure ConH (ns:List Nod):Prop where
 nodes:ns.length<=4096
 opts:optN ns<=32768
 args:∀ (i:Nat) (n:Nod) (o:Opn),ns[i]?=some n->o∈n.yc->(∀ a∈o.yb,0<=a/\a<(ns.length:Int))/\o.yb.length<=9223372036854775807
theorem kmm {ns:List Nod} {i:Nat} {n:Nod} (h:ns[i]?=some n):n.yc.length<=optN ns:=by obtain ⟨hi,rfl⟩:=qd.1 h;have h1:=kj3 hi;have a:=kiu ns (i+1);omega
theorem k08 (F:List Opn) (o:Opn) (x:Int×List Opn×List Int) (d:x.2.1=F) (i:F.length<=32768):
  (∃ (j:Nat) (f:Opn),F[j]?=some f/\f.yd=o.yd/\kac (ka2 x o) fuel 0=some (j:Int))\/((∀ f∈F,f.yd≠o.yd)/\kac (ka2 x o) fuel 0=some (F.length:Int)):=by
 subst d
 let bad:Nat->Bool:=fun j=>decide (∃ f,x.2.1[j]?=some f/\f.yd=o.yd)
 have b:∀ j (a:j<x.2.1.length),bad j=decide (x.2.1[j].yd=o.yd):=fun j a=>by show decide _=decide _;congr 1;rw [qa a];exact propext ⟨fun ⟨f,h1,e⟩=>by cases h1;exact e,fun h=>⟨_,rfl,h⟩⟩
 have hs:∀ j,j<x.2.1.length->ka2 x o (j:Int)=if bad j=true then some (.inr (j:Int)) else some (.inl ((j+1:Nat):Int)):=fun j a=>by
  rw [b j a];simp only [ka2,kan a,qe,kag,qa a,qb,kak a (show x.2.1.length<=9223372036854775807 by omega)];by_cases h:x.2.1[j].yd=o.yd;rw [show (x.2.1[j].yd != o.yd)=false by simp [h],qf,qs h,qn rfl]
  ·rw [show (x.2.1[j].yd != o.yd)=true by simp [h],qe,qp h,qj (by simp)]
 have g:ka2 x o (x.2.1.length:Int)=some (.inr (x.2.1.length:Int)):=by simp only [ka2,kal,qf,qb]
 rcases kgm (ka2 x o) x.2.1.length bad (fun j=>(j:Int)) (x.2.1.length:Int) hs g with ⟨j,a,c,_,hr⟩ | ⟨c,hr⟩;rw [b j a,qay] at c;exact .inl ⟨j,x.2.1[j],qa a,c,hr⟩
 ·refine .inr ⟨fun f hf=>?_,hr⟩;obtain ⟨j,a,rfl⟩:=qah.1 hf;have:=c j a;rw [b j a,qbf] at this;exact this
theorem ki0 {ns:List Nod} {i k:Nat} {n:Nod} {o:Opn} (hn:ns[i]?=some n) (ho:n.yc[k]?=some o) (i':Nat) (o':Opn):visO ns i (k+1) i' o'↔visO ns i k i' o'\/(i'=i/\o'=o):=by
 constructor
 ·rintro ⟨m,k',h1,b,a⟩;rcases a with a | ⟨rfl,a⟩;exact .inl ⟨m,k',h1,b, .inl a⟩
  ·by_cases hk:k'=k;subst hk;rw [hn] at h1;cases h1;rw [ho] at b;cases b;exact .inr ⟨rfl,rfl⟩
   ·exact .inl ⟨m,k',h1,b, .inr ⟨rfl,by omega⟩⟩
 ·rintro (⟨m,k',h1,b,a⟩ | ⟨rfl,rfl⟩)
  ·refine ⟨m,k',h1,b,?_⟩;rcases a with a | ⟨a,c⟩;exact .inl a
   ·exact .inr ⟨a,by omega⟩
  ·exact ⟨n,k,hn,ho, .inr ⟨rfl,by omega⟩⟩
theorem k0f {ns:List Nod} {i k i':Nat} {o:Opn} (h:visO ns i k i' o):∃ n,ns[i']?=some n/\o∈n.yc:=by obtain ⟨n,k',h1,a,_⟩:=h;exact ⟨n,h1,qk a⟩
theorem k5a {ns:List Nod} (H:ConH ns) {i k:Nat} {n:Nod} (hn:ns[i]?=some n) (hk:k<n.yc.length) {F:List Opn} {W:List Int} (v1:Int×List Opn×List Int) (hv:v1.1=(i:Int)) (c:CInv ns (visO ns i k) (optN (ns.take i)+k) F W):
  Ev (kbz ns v1 ((k:Int),F,W)) (Sum.elim (fun s=>∃ t:List Opn×List Int,s=(((k+1:Nat):Int),t.1,t.2)/\CInv ns (visO ns i (k+1)) (optN (ns.take i)+(k+1)) t.1 t.2) fun r=>r = .inr false/\¬ ConP ns):=by
 have hi:=(qd.1 hn).1;have ho:=qa hk;have g:=qo hk;have hc:optN (ns.take i)+n.yc.length<=32768:=by
  have h1:=kj3 hi;have a:=kiu ns (i+1);have p:=H.opts;have B:ns[i]=n:=by have:=qa hi;rw [hn] at this;exact (qag this).symm
  rw [B] at h1;omega
 have I:=c.cnt;obtain ⟨h,q⟩:=H.args i n _ hn g;simp only [kbz,hv,kag,hn,ho,qb,kan hk,qe,kak hk (show n.yc.length<=9223372036854775807 by omega)];generalize J:n.yc[k]=o at *
 rcases k08 F o ((k:Int),F,W) rfl (by omega) with ⟨j,f,hf,hr,hs⟩ | ⟨u,hs⟩
 ·rw [hs,qb];have e:j<F.length:=ka8 hf;have e1:((j:Int) == (F.length:Int))=false:=by rw [qbu];omega
  obtain ⟨i',G,v⟩:=c.here j f hf;obtain ⟨m,hm,w⟩:=k0f v;simp only [e1,qf,qb,kag,hf,G];obtain ⟨b,C,l⟩:=kvz hn hm h (H.args i' m f hm w).1 q;rw [C,qb];have x:b=true↔sgn ns i o=sgn ns i' f:=by rw [l];unfold sgn;rw [kjz hn,kjz hm,qt]
  cases b with
  | true=>
   refine ⟨_,rfl,(F,W),rfl,c.len,fun j f hf=>?_,fun i2 o2 a=>?_,c.dist,qap I (by omega)⟩;obtain ⟨i',h1,a⟩:=c.here j f hf;exact ⟨i',h1,(ki0 hn ho _ _).2 (.inl a)⟩
   ·rcases (ki0 hn ho i2 o2).1 a with a | ⟨rfl,rfl⟩;exact c.all i2 o2 a
    ·exact ⟨j,f,i',hf,G,hr,x.1 rfl⟩
  | false=>
   refine ⟨_,rfl,rfl,fun y=>?_⟩;have:=conP_iff.1 y i i' n m o f hn hm g w hr.symm;have:=x.2 this;cases this
 ·rw [hs,qb];have e1:((F.length:Int) == (F.length:Int))=true:=by simp
  simp only [e1,qe];rw [kb4 (show (F.length+[o].length)*(32+1)<=140737488355328 by simp;omega),qb,kb4 (show (W.length+[(i:Int)].length)*(8+1)<=140737488355328 by rw [<- c.len];simp;omega),qb,qb];have D:(W++[(i:Int)])[F.length]?=some (i:Int):=by rw [c.len];simp
  have z:(F++[o])[F.length]?=some o:=by simp
  simp only [kag,D,z,qb];obtain ⟨b,C,l⟩:=kvz hn hn h h q;rw [C,qb];obtain rfl:b=true:=l.2 ⟨rfl,rfl⟩;have d:∀ (j:Nat) (f:Opn),(F++[o])[j]?=some f->(F[j]?=some f/\j<F.length)\/(j=F.length/\f=o):=fun j f hf=>by
   by_cases e:j<F.length;rw [qac e] at hf;exact .inl ⟨hf,e⟩
   ·rw [qai (by omega)] at hf;have h0:j - F.length=0:=(by have:=(qd.1 hf).1;simpa using this);rw [h0] at hf;simp at hf;exact .inr ⟨by omega,hf.symm⟩
  refine ⟨_,rfl,(F++[o],W++[(i:Int)]),rfl,by simp [c.len],fun j f hf=>?_,fun i2 o2 a=>?_,fun j j' f f' hf A hr=>?_,by simp;omega⟩
  ·rcases d j f hf with ⟨h1,e⟩ | ⟨rfl,rfl⟩;obtain ⟨i',a,p⟩:=c.here j f h1;exact ⟨i',by rw [qac (by rw [<- c.len];exact e)];exact a,(ki0 hn ho _ _).2 (.inl p)⟩
   ·exact ⟨i,D,(ki0 hn ho _ _).2 (.inr ⟨rfl,rfl⟩)⟩
  ·rcases (ki0 hn ho i2 o2).1 a with a | ⟨rfl,rfl⟩;obtain ⟨j,f,i'',p,B,K⟩:=c.all i2 o2 a;have e:=ka8 p;exact ⟨j,f,i'',by rw [qac e];exact p,by rw [qac (by rw [<- c.len];exact e)];exact B,K⟩
   ·exact ⟨F.length,o2,i2,z,D,rfl,rfl⟩
  ·rcases d j f hf with ⟨h1,e⟩ | ⟨rfl,rfl⟩
   ·rcases d j' f' A with ⟨a,E⟩ | ⟨rfl,rfl⟩;exact c.dist j j' f f' h1 a hr
    ·exact absurd hr (u f (qk h1))
   ·rcases d j' f' A with ⟨a,E⟩ | ⟨rfl,rfl⟩;exact absurd hr.symm (u f' (qk a))
    ·rfl
theorem k89 {ns:List Nod} (H:ConH ns):Ev (kdc ns) fun b=>b=true↔ConP ns:=by
 unfold kdc;have x:=H.nodes;refine kbp (Ev.mono (ka4 (xs:=ns) (step:=kcp ns) (Q:=fun r=>(r = .inl ()/\ConP ns)\/(r = .inr false/\¬ ConP ns)) (fun (i:Nat) (t:List Opn×List Int)=>((i:Int),t.1,t.2)) (fun i t=>CInv ns (visO ns i 0) (optN (ns.take i)) t.1 t.2) (t0:=([],[])) (by omega) ?_ (fun i t hi c=>?_) (fun t c=>?_)) ?_)
 ·refine ⟨rfl,fun j f h=>by simp at h,fun i' o h=>?_,fun j j' f f' h=>by simp at h,by simp⟩;obtain ⟨n,k',_,_,h | ⟨_,h⟩⟩:=h;omega
  ·omega
 ·simp only [kcp,kan hi,qe];have hn:=qa hi;refine kbp (Ev.mono (ka4 (xs:=ns[i].yc) (step:=kbz ns ((i:Int),t.1,t.2)) (Q:=fun r=>(∃ t:List Opn×List Int,r = .inl t/\CInv ns (visO ns i ns[i].yc.length) (optN (ns.take i)+ns[i].yc.length) t.1 t.2)\/(r = .inr false/\¬ ConP ns)) (fun (k:Nat) (t:List Opn×List Int)=>((k:Int),t.1,t.2)) (fun k t=>CInv ns (visO ns i k) (optN (ns.take i)+k) t.1 t.2) (t0:=t) ?_ c (fun k t hk c=>?_) (fun t c=>?_)) ?_);have:=kmm hn;have:=H.opts;omega
  ·refine Ev.mono (k5a H hn hk _ rfl c) ?_;rintro (s | r) h;exact h
   ·exact .inr h
  exact ⟨_,by simp only [kbz,kag,hn,qb,kal,qf],_,rfl, .inl ⟨t,rfl,c⟩⟩
  ·rintro r (⟨t',rfl,q⟩ | ⟨rfl,hc⟩)
   ·simp only [qaq,kak hi (show ns.length<=9223372036854775807 by omega)];refine ⟨_,rfl,t',rfl,q.congr (fun i' o=>⟨?_,?_⟩) (by rw [kj3 hi];exact qy _)⟩;rintro ⟨m,k',h1,g,d⟩;refine ⟨m,k',h1,g, .inl ?_⟩;rcases d with d | ⟨d,_⟩ <;> omega
    ·rintro ⟨m,k',h1,g,d⟩;refine ⟨m,k',h1,g,?_⟩;rcases d with d | ⟨_,d⟩
     ·by_cases u:i'=i;subst u;rw [hn] at h1;cases h1;exact .inr ⟨rfl,ka8 g⟩
      ·exact .inl (by omega)
     ·omega
   ·exact ⟨_,rfl, .inr ⟨rfl,hc⟩⟩
 ·refine ⟨_,by simp only [kcp,kal,qf],_,rfl, .inl ⟨rfl,?_⟩⟩;refine conP_iff.2 fun i k n m o p hn hm ho hp hr=>?_;obtain ⟨a,ha⟩:=qal.1 ho;obtain ⟨b,y⟩:=qal.1 hp;obtain ⟨j,f,i1,h1,g,d,z⟩:=c.all i o ⟨n,a,hn,ha, .inl (ka8 hn)⟩;obtain ⟨j',f',i2,e,l,v,w⟩:=c.all k p ⟨m,b,hm,y, .inl (ka8 hm)⟩;have A:=c.dist j j' f f' h1 e (by rw [d,v,hr]);subst A;rw [h1] at e;cases e;rw [g] at l;have:i1=i2:=by have:=qag l;omega
  subst this;rw [z,w]
 ·rintro r (⟨rfl,hc⟩ | ⟨rfl,hc⟩);exact ⟨true,rfl,⟨fun _=>hc,fun _=>rfl⟩⟩
  ·exact ⟨false,rfl,⟨fun h=>absurd h qa0,fun h=>absurd h hc⟩⟩
structure kl9 (s:Spa):Prop where
 nodes:s.ya.length<=4611686018427387904
 roots:s.ye.length<=4611686018427387904
 opts:∀ n∈s.ya,n.yc.length<=4611686018427387904
 args:∀ n∈s.ya,∀ o∈n.yc,o.yb.length<=4611686018427387904
theorem k56 {s:Spa} (t:kl9 s) {i:Nat} {n:Nod} (x:Int×Int) (B:x.2=(i:Int)) (hn:s.ya[i]?=some n) (u:∀ (k:Nat) (m:Nod),k<=i->s.ya[k]?=some m->1<=m.yf/\m.yf<=24):
  Ev (kac (kct s x n) fuel 0) fun r=>(r = .inl ()/\(∀ o∈n.yc,OptP s.ya i n o)/\∀ (k:Nat) (o p:Opn),n.yc[k]?=some o->n.yc[k+1]?=some p->kfb o p<0)\/(r = .inr false/\¬ NodP s.ya i n):=by
 have c:=qk hn;have C:=t.opts n c;refine Ev.mono (ka4 (xs:=n.yc) (step:=kct s x n) (Q:=fun r=>(r = .inl ()/\(∀ o∈n.yc,OptP s.ya i n o)/\∀ (k:Nat) (o p:Opn),n.yc[k]?=some o->n.yc[k+1]?=some p->kfb o p<0)\/(r = .inr false/\¬ NodP s.ya i n))
  (fun (k:Nat) (_:Unit)=>(k:Int)) (fun k _=>(∀ (j:Nat) (o:Opn),j<k->n.yc[j]?=some o->OptP s.ya i n o)/\∀ (j:Nat) (o p:Opn),j+1<k->n.yc[j]?=some o->n.yc[j+1]?=some p->kfb o p<0) (t0:=()) (by omega) ⟨fun j o h=>by omega,fun j o p h=>by omega⟩ (fun k _ hk ⟨h1,v⟩=>?_) (fun _ ⟨h1,v⟩=>?_)) (fun r h=>h)
 ·have ho:=qa hk;have D:=t.args n c _ (qo hk);simp only [kct,kan hk,qe,kag,ho,qb,B,kak hk (show n.yc.length<=9223372036854775807 by omega)];obtain ⟨b,E,l⟩:=k2l (n.yc[k]) hn u (by omega);rw [E,qb];cases b with
  | false=>
   refine ⟨.inr (.inr false),rfl, .inr ⟨rfl,fun hN=>?_⟩⟩;have:=l.2 (hN.opt _ (qo hk));cases this
  | true=>
   have y:=l.1 rfl;by_cases h0:0<k
   ·have q:k - 1<n.yc.length:=(by omega);have e1:w64 ((k:Int) - 1)=((k - 1:Nat):Int):=(by rw [kdf];omega);have e2:decide ((0:Int)<(k:Int))=true:=qs (by omega);have d:=qa q;have z:=t.args n c _ (qo q);simp only [qbd,qf,e2,qe,e1,kag,d,qb];rw [k21 _ _ (by omega) (by omega),qb,qb];by_cases A:kfb n.yc[k - 1] n.yc[k]<0
    ·rw [qp (by omega),qf];refine ⟨_,rfl,(),rfl,fun j o g a=>?_,fun j o p g a e=>?_⟩
     ·by_cases f:j=k;subst f;rw [ho] at a;cases a;exact y
      ·exact h1 j o (by omega) a
     ·by_cases f:j+1=k;have w:j=k - 1:=(by omega);subst w;rw [d] at a;cases a;rw [f,ho] at e;cases e;exact A
      ·exact v j o p (by omega) a e
    ·rw [qs (by omega),qe];refine ⟨.inr (.inr false),rfl, .inr ⟨rfl,fun hN=>?_⟩⟩;exact A (hN.asc (k - 1) _ _ d (by rw [show k - 1+1=k by omega];exact ho))
   ·have e2:decide ((0:Int)<(k:Int))=false:=qp (by omega);simp only [qbd,qf,e2,qb];refine ⟨_,rfl,(),rfl,fun j o g a=>?_,fun j o p g=>by omega⟩;obtain rfl:j=k:=(by omega);rw [ho] at a;cases a;exact y
 ·refine ⟨_,by simp only [kct,kal,qf],_,rfl, .inl ⟨rfl,fun o ho=>?_,fun k o p ho hp=>v k o p (ka8 hp) ho hp⟩⟩;obtain ⟨j,g⟩:=qal.1 ho;exact h1 j o (ka8 g) g
theorem ksz {s:Spa} (j:kl9 s):Ev (kcq s) fun b=>b=true↔kbh s:=by
 unfold kcq;have q:=j.nodes;by_cases h1:s.ya.length<=4096
 ·have e1:decide ((4096:Int)<(s.ya.length:Int))=false:=qp (by omega);obtain ⟨b,p,d⟩:=kz9 s.ye s.ya.length (by have:=j.roots;omega);simp only [e1,qf,p,qb];cases b with
  | false=>exact ⟨false,rfl,⟨fun h=>absurd h qa0,fun h=>absurd (d.2 h.roots) qa0⟩⟩
  | true=>
   have e:=d.1 rfl;simp only [qbd,qf];refine kbp (Ev.mono (ka4 (xs:=s.ya) (step:=kdl s) (Q:=fun r=>(r = .inl ()/\optN s.ya<=32768/\∀ (i:Nat) (n:Nod),s.ya[i]?=some n->NodP s.ya i n)\/(r = .inr false/\¬ kbh s))
    (fun (i:Nat) (c:Int)=>(c,(i:Int))) (fun i c=>c=(optN (s.ya.take i):Int)/\optN (s.ya.take i)<=32768/\∀ (k:Nat) (n:Nod),k<i->s.ya[k]?=some n->NodP s.ya k n) (t0:=0) (by omega) ⟨by simp [optN],by simp [optN],fun k n h=>by omega⟩ (fun i c hi ⟨c1,c2,c3⟩=>?_) (fun c ⟨c1,c2,c3⟩=>?_)) ?_)
   ·subst c1;have hn:=qa hi;have t:=j.opts _ (qo hi);have e2:w64 ((optN (s.ya.take i):Int)+(s.ya[i].yc.length:Int))=(optN (s.ya.take (i+1)):Int):=(by rw [kj3 hi,kdf];omega);simp only [kdl,kan hi,qe,kag,hn,qb,e2,kak hi (show s.ya.length<=9223372036854775807 by omega)];by_cases b1:(32768:Int)<(optN (s.ya.take (i+1)):Int);simp only [qs b1,qe,qb];refine ⟨_,rfl, .inr ⟨rfl,fun h=>?_⟩⟩;have f:=h.opts;have l:=kiu s.ya (i+1);omega
    ·simp only [qp b1,qf];by_cases b2:s.ya[i].yg<0;simp only [qs b2,qe,qb];refine ⟨_,rfl, .inr ⟨rfl,fun h=>?_⟩⟩;have:=(h.node i _ hn).sym;omega
     ·simp only [qp b2,qf];by_cases b3:s.ya[i].yf<1;simp only [qs b3,qe,qb];refine ⟨_,rfl, .inr ⟨rfl,fun h=>?_⟩⟩;have:=(h.node i _ hn).size;omega
      ·simp only [qp b3,qf,qb];by_cases b4:24<s.ya[i].yf;simp only [qs b4,qe];refine ⟨_,rfl, .inr ⟨rfl,fun h=>?_⟩⟩;have:=(h.node i _ hn).size;omega
       ·simp only [qp b4,qf];refine kbp (Ev.mono (k56 j _ rfl hn fun k m hk hm=>?_) ?_)
        ·by_cases g:k=i;subst g;rw [hn] at hm;cases hm;omega
         ·exact (c3 k m (by omega) hm).size
        ·rintro r (⟨rfl,f,l⟩ | ⟨rfl,f⟩)
         ·refine ⟨_,rfl,_,rfl,rfl,by omega,fun k m hk hm=>?_⟩;by_cases g:k=i;subst g;rw [hn] at hm;cases hm;exact ⟨by omega,by omega,f,l⟩
          ·exact c3 k m (by omega) hm
         ·exact ⟨_,rfl, .inr ⟨rfl,fun h=>f (h.node i _ hn)⟩⟩
   refine ⟨_,by simp only [kdl,kal,qf],_,rfl, .inl ⟨rfl,?_,fun i n hn=>c3 i n (ka8 hn) hn⟩⟩;rw [qae] at c2;exact c2
   ·rintro r (⟨rfl,f,l⟩ | ⟨rfl,f⟩);simp only [qaq];have H:ConH s.ya:=⟨h1,f,fun i n o hn ho=>⟨fun a ha=>by have u:=((l i n hn).opt o ho).args a ha;have v:=ka8 hn;omega,by have:=j.args n (qk hn) o ho;omega⟩⟩;obtain ⟨b,p,d⟩:=k89 H;rw [p];refine ⟨b,rfl,?_⟩;show b=true↔_;rw [d];exact ⟨fun h=>⟨h1,e,l,f,h⟩,fun h=>h.con⟩
    ·exact ⟨false,rfl,⟨fun h=>absurd h qa0,fun h=>absurd h f⟩⟩
 ·have e1:decide ((4096:Int)<(s.ya.length:Int))=true:=qs (by omega);simp only [e1,qe,qb];exact ⟨false,rfl,⟨fun h=>absurd h qa0,fun h=>absurd h.nodes h1⟩⟩
def fg (l:List Bool) (i:Nat):Bool:=(l[i]?).getD false
theorem kkq (l:List Bool) {a:Int} (h0:0<=a) (h1:a<(l.length:Int):=by omega):idx l a=some (fg l a.toNat):=by
 have b:a.toNat<l.length:=by omega
 unfold idx fg;rw [qn h0,qa b];rfl
theorem kom {l:List Bool} {i:Nat} (h:i<l.length):l[i]?=some (fg l i):=by unfold fg;rw [qa h];rfl
theorem khw {l:List Bool} {i:Nat} (h:i<l.length) (b:Bool) (j:Nat):fg (l.set i b) j=if j=i then b else fg l j:=by
 unfold fg;by_cases a:j=i;subst a;rw [qn rfl,qbj h];rfl
 ·rw [qj a,qbm (by omega)]
theorem k2b (n i:Nat):fg (List.replicate n false) i=false:=by unfold fg;rw [List.getElem?_replicate];split <;> rfl
theorem kk5 {l:List Int} {n:Nat} (h:AscP l n):l.length<=n:=by
 have key:∀ (i:Nat) (x:Int),l[i]?=some x->(i:Int)<=x:=by
  intro i
  induction i with
  | zero=>intro x a;exact (h.1 x (qk a)).1
  | succ i ih=>
   intro x a;have hi:=ka8 a;have hy:=qa (l:=l) (i:=i) (by omega);have:=h.2 i _ x hy a;have:=ih _ hy;omega
 by_cases h0:l.length=0;omega
 ·have a:=qa (l:=l) (i:=l.length - 1) (by omega);have h1:=key _ _ a;have b:=(h.1 _ (qk a)).2;omega
theorem kds {s:Spa} (hf:kbh s) {i:Nat} {n:Nod} {o:Opn} (hn:s.ya[i]?=some n) (ho:o∈n.yc):o.yb.length<=24:=by
 have hN:=hf.node i n hn;have c:=hN.opt o ho;have key:∀ l:List Int,(∀ a∈l,0<=a/\a<(i:Int))->(l.length:Int)<=(l.map (szAt s.ya)).sum:=by
  intro l
  induction l with
  | nil=>intro _;simp
  | cons a l ih=>
   intro h;have h1:=ih fun b e=>h b (qh _ e);have d:=h a (qq ..);have f:=ka8 hn;obtain ⟨m,_,e2,e3,_⟩:=kjy s.ya d.1;have g:=(hf.node _ m e2).size;simp only [qbq,qao,List.sum_cons];omega
 have h1:=key _ c.args;have d:=c.size;have f:=hN.size;omega
theorem koi {f g:Nat->Bool} {o:Opn} (h:∀ a∈o.yb,f a.toNat=g a.toNat):kat f o=kat g o:=by unfold kat;rw [Bool.eq_iff_iff,qu,qu];exact ⟨fun k a ha=>by rw [<- h a ha];exact k a ha,fun k a ha=>by rw [h a ha];exact k a ha⟩
theorem kt0 {o:Opn} {l:List Bool} (h:∀ a∈o.yb,0<=a/\a<(l.length:Int)) (g:o.yb.length<=9223372036854775807):kbx o l=some (kat (fg l) o):=by
 unfold kbx
 let bad:Nat->Bool:=fun j=>!fg l ((o.yb[j]?).getD 0).toNat
 have hs:∀ j,j<o.yb.length->kcs o l (j:Int)=if bad j=true then some (.inr (.inr false)) else some (.inl ((j+1:Nat):Int)):=fun j c=>by
  have ha:=h _ (qo c);have e:bad j=!fg l o.yb[j].toNat:=by show (!fg l ((o.yb[j]?).getD 0).toNat)=_;rw [qa c,qam]
  rw [e];simp only [kcs,kan c,qe,kag,qa c,qb,kak c g,kkq _ ha.1 (h1:=ha.2)];cases fg l o.yb[j].toNat <;> rfl
 have i:kcs o l (o.yb.length:Int)=some (.inr (.inl ())):=by simp only [kcs,kal,qf]
 rcases kgm (kcs o l) o.yb.length bad (fun _ => .inr false) (.inl ()) hs i with ⟨j,c,f,_,hr⟩ | ⟨f,hr⟩
 ·rw [hr];have b:(!fg l ((o.yb[j]?).getD 0).toNat)=true:=f;rw [qa c,qam] at b;have:kat (fg l) o=false:=by rw [Bool.eq_false_iff];intro d;have:=qu.1 d _ (qo c);rw [this] at b;cases b
  rw [this];rfl
 ·rw [hr];have:kat (fg l) o=true:=qu.2 fun a ha=>by
   obtain ⟨j,c,rfl⟩:=qah.1 ha;have b:(!fg l ((o.yb[j]?).getD 0).toNat)=false:=f j c;rw [qa c,qam] at b;cases k:fg l o.yb[j].toNat with
   | true=>rfl
   | false=>rw [k] at b;cases b
  rw [this];rfl
section
variable {s:Spa} (hf:kbh s)
include hf
theorem olen {i:Nat} {n:Nod} (hn:s.ya[i]?=some n):n.yc.length<=32768:=qap (kmm hn) hf.opts
theorem kif {i:Nat} {n:Nod} {o:Opn} (hn:s.ya[i]?=some n) (ho:o∈n.yc) {a:Int} (ha:a∈o.yb):0<=a/\a<(i:Int)/\a<(s.ya.length:Int):=by have h1:=((hf.node i n hn).opt o ho).args a ha;have b:=ka8 hn;omega
def klu (s:Spa) (l:List Bool) (i:Nat):Prop:=∀ n,s.ya[i]?=some n->(fg l i=true↔∃ o∈n.yc,kat (fg l) o=true)
theorem k6c:Ev (kfi s) fun l=>l.length=s.ya.length/\∀ i,i<s.ya.length->klu s l i:=by
 have v:=hf.nodes;unfold kfi;rw [klp 1 false s.ya.length,qb];refine kbp (Ev.mono (ka4 (xs:=s.ya) (step:=keb s) (Q:=fun l=>l.length=s.ya.length/\∀ i,i<s.ya.length->klu s l i) (fun (i:Nat) (l:List Bool)=>((i:Int),l))
  (fun i l=>l.length=s.ya.length/\(∀ k,k<i->klu s l k)/\∀ k,i<=k->fg l k=false) (t0:=List.replicate s.ya.length false) (by omega) ⟨List.length_replicate,fun k h=>by omega,fun k _=>k2b _ _⟩ (fun i l hi ⟨h1,d,t⟩=>?_) (fun l ⟨h1,d,t⟩=>?_)) ?_)
 ·have hn:=qa hi;have w:=olen hf hn;simp only [keb,kan hi,qe,kak hi (show s.ya.length<=9223372036854775807 by omega)];refine kbp (Ev.mono (ka4 (xs:=s.ya[i].yc) (step:=kea s ((i:Int),l)) (Q:=fun l'=>l'.length=s.ya.length/\(∀ k,k≠i->fg l' k=fg l k)/\(fg l' i=true↔∃ o∈s.ya[i].yc,kat (fg l) o=true)) (fun (k:Nat) (l':List Bool)=>((k:Int),l'))
   (fun k l'=>l'.length=s.ya.length/\(∀ k,k≠i->fg l' k=fg l k)/\(fg l' i=true↔∃ o∈s.ya[i].yc.take k,kat (fg l) o=true)) (t0:=l) (by omega) ⟨h1,fun _ _=>rfl,by simp [t i (qy _)]⟩ (fun k l' hk ⟨g1,g2,g3⟩=>?_) (fun l' ⟨g1,g2,g3⟩=>?_)) ?_)
  rotate_left
  ·have ho:=qa hk;have hm:=qo hk;have g:i<l'.length:=(by omega);have p:kbx s.ya[i].yc[k] l'=some (kat (fg l) s.ya[i].yc[k]):=(by rw [kt0 (fun a ha=>by have:=kif hf hn hm ha;omega) (by have:=kds hf hn hm;omega)];congr 1;exact koi fun a ha=>g2 _ (by have:=kif hf hn hm ha;omega));have hst:∀ b:Bool,(b=true↔(fg l' i=true\/kat (fg l) s.ya[i].yc[k]=true))->(l'.set i b).length=s.ya.length/\(∀ k,k≠i->fg (l'.set i b) k=fg l k)/\(fg (l'.set i b) i=true↔∃ o∈s.ya[i].yc.take (k+1),kat (fg l) o=true):=fun b r=>by
    refine ⟨by rw [qbs];exact g1,fun j u=>by rw [khw g,qj u];exact g2 j u,?_⟩;rw [khw g,qn rfl,r,g3,qx hk];simp only [qab,q9];constructor
    ·rintro (⟨o,h1,d⟩ | d);exact ⟨o, .inl h1,d⟩
     ·exact ⟨_, .inr rfl,d⟩
    ·rintro ⟨o,h1 | rfl,d⟩;exact .inl ⟨o,h1,d⟩
     ·exact .inr d
   simp only [kea,kag,hn,qb,kan hk,qe,kom g,kak hk (show s.ya[i].yc.length<=9223372036854775807 by omega),ho,p,qbw];cases r:fg l' i with
   | true=>
    simp only [qe,qb];exact ⟨_,rfl,_,rfl,hst true (by simp [r])⟩
   | false=>
    simp only [qf,qb];exact ⟨_,rfl,_,rfl,hst _ (by simp [r])⟩
  refine ⟨_,by simp only [kea,kag,hn,qb,kal,qf],_,rfl,g1,g2,?_⟩;rw [qae] at g3;exact g3
  ·rintro l' ⟨g1,g2,g3⟩;refine ⟨_,rfl,_,rfl,g1,fun k hk n e=>?_,fun k hk=>?_⟩
   ·have f:∀ o∈n.yc,kat (fg l') o=kat (fg l) o:=fun o ho=>koi fun a ha=>g2 _ (by have:=kif hf e ho ha;omega);by_cases q:k=i;subst q;rw [hn] at e;cases e;rw [g3];exact ⟨fun ⟨o,c,m⟩=>⟨o,c,by rw [f o c];exact m⟩,fun ⟨o,c,m⟩=>⟨o,c,by rw [<- f o c];exact m⟩⟩
    ·rw [g2 k q,d k (by omega) n e];exact ⟨fun ⟨o,c,m⟩=>⟨o,c,by rw [f o c];exact m⟩,fun ⟨o,c,m⟩=>⟨o,c,by rw [<- f o c];exact m⟩⟩
   ·rw [g2 k (by omega)];exact t k (by omega)
 exact ⟨_,by simp only [keb,kal,qf],_,rfl,h1,d⟩
 ·intro l h;exact ⟨l,rfl,h⟩
omit hf in
theorem kzy {l:List Bool} (h:∀ i,i<s.ya.length->klu s l i):∀ (t:Tm) (i:Nat),Bt s.ya i t->fg l i=true:=by
 intro t
 induction t using Tm.ind with
 | h r ts ih=>
  intro i d;obtain ⟨n,o,ts',hn,ho,e,hs⟩:=d.inv;injection e with b c;subst b c;refine (h i (ka8 hn) n hn).2 ⟨o,ho,qu.2 fun a ha=>?_⟩;have key:∀ {vs:List Int} {ts:List Tm},Bts s.ya vs ts->(∀ t∈ts,∀ i,Bt s.ya i t->fg l i=true)->∀ a∈vs,fg l a.toNat=true:=by
   intro vs
   induction vs with
   | nil=>intro ts _ _ a ha;simp at ha
   | cons v vs ih2=>
    intro ts hs hi a ha;cases hs with
    | cons h0 ht hs=>
     rcases qat.1 ha with rfl | ha;exact hi _ (qq ..) _ ht
     ·exact ih2 hs (fun t ht=>hi t (qh _ ht)) a ha
  exact key hs ih a ha
theorem k0z {l:List Bool} (hl:l.length=s.ya.length):Ev (kac (kc3 s l) fuel (0,List.replicate s.ya.length false)) fun p=>p.length=s.ya.length/\∀ r∈s.ye,fg p r.toNat=fg l r.toNat:=by
 have e:=kk5 hf.roots;have f:=hf.nodes;refine ka4 (xs:=s.ye) (step:=kc3 s l) (fun (j:Nat) (p:List Bool)=>((j:Int),p)) (fun j p=>p.length=s.ya.length/\∀ r∈s.ye.take j,fg p r.toNat=fg l r.toNat) (by omega) ⟨List.length_replicate,by simp⟩ (fun j p b ⟨h1,d⟩=>?_) (fun p ⟨h1,d⟩=>?_)
 ·have hr:=qa b;have c:=hf.roots.1 _ (qo b);simp only [kc3,kan b,qe,kag,hr,qb,kkq l c.1,kkq p c.1,kak b (show s.ye.length<=9223372036854775807 by omega)];refine ⟨_,rfl,_,rfl,by rw [qbs];exact h1,fun r a=>?_⟩;rw [khw (by omega)];split;rename_i h;rw [h]
  ·rename_i h;rw [qx b,qab,q9] at a;rcases a with a | rfl;exact d r a
   ·exact absurd rfl h
 ·refine ⟨_,by simp only [kc3,kal,qf],_,rfl,h1,fun r hr=>d r ?_⟩;rw [qae];exact hr
theorem k5n {l p:List Bool} {i:Nat} {n:Nod} {o:Opn} (hl:l.length=s.ya.length) (hp:p.length=s.ya.length) (hn:s.ya[i]?=some n) (ho:o∈n.yc):Ev (kac (kbw l o) fuel (0,p)) fun q=>
  q.length=s.ya.length/\(∀ k,fg p k=true->fg q k=true)/\(∀ k,i<=k->fg q k=fg p k)/\(kat (fg l) o=true->∀ a∈o.yb,fg q a.toNat=true):=by
 have t:=kds hf hn ho;have u:=hf.nodes;have b:kbx o l=some (kat (fg l) o):=kt0 (fun a ha=>by have:=kif hf hn ho ha;omega) (by omega);cases r:kat (fg l) o with
 | false=>
  rw [r] at b;refine ⟨p,?_,hp,fun k h=>h,fun k _=>rfl,fun h=>by cases h⟩;show kac _ fuel _=_;rw [show fuel=18446744073709551615+1 from rfl,kac];have:kbw l o (0,p)=some (.inr p):=by
   simp only [kbw];by_cases h0:(0:Int)<(o.yb.length:Int);rw [qs h0,qe,b];rfl
   ·rw [qp h0];rfl
  rw [this]
 | true=>
  rw [r] at b;refine Ev.mono (ka4 (xs:=o.yb) (step:=kbw l o) (Q:=fun q=>q.length=s.ya.length/\(∀ k,fg p k=true->fg q k=true)/\(∀ k,i<=k->fg q k=fg p k)/\∀ a∈o.yb,fg q a.toNat=true) (fun (j:Nat) (q:List Bool)=>((j:Int),q))
   (fun j q=>q.length=s.ya.length/\(∀ k,fg p k=true->fg q k=true)/\(∀ k,i<=k->fg q k=fg p k)/\∀ a∈o.yb.take j,fg q a.toNat=true) (t0:=p) (by omega) ⟨hp,fun k h=>h,fun k _=>rfl,by simp⟩ (fun j q e ⟨h1,f,g,d⟩=>?_) (fun q ⟨h1,f,g,d⟩=>?_)) (fun q ⟨h1,f,g,d⟩=>⟨h1,f,g,fun _=>d⟩)
  ·have ha:=qa e;have m:=kif hf hn ho (qo e);simp only [kbw,kan e,qe,b,qb,kag,ha,kkq q m.1,kak e (show o.yb.length<=9223372036854775807 by omega)];refine ⟨_,rfl,_,rfl,by rw [qbs];exact h1,fun k hk=>?_,fun k hk=>?_,fun a c=>?_⟩
   ·rw [khw (by omega)];split;rfl
    ·exact f k hk
   rw [khw (by omega),qj (by omega)];exact g k hk
   ·rw [khw (by omega)];split;rfl
    ·rename_i h;rw [qx e,qab,q9] at c;rcases c with c | rfl;exact d a c
     ·exact absurd rfl h
  ·refine ⟨_,by simp only [kbw,kal,qf,qb],_,rfl,h1,f,g,?_⟩;rw [qae] at d;exact d
theorem k3m {l p:List Bool} {i:Nat} {n:Nod} (hl:l.length=s.ya.length) (hp:p.length=s.ya.length) (hn:s.ya[i]?=some n) (x:Int×List Bool) (m:x.1=(i:Int)):Ev (kac (kc1 s l x) fuel (0,p)) fun q=>
  q.length=s.ya.length/\(∀ k,fg p k=true->fg q k=true)/\(∀ k,i<=k->fg q k=fg p k)/\(fg p i=true->∀ o∈n.yc,kat (fg l) o=true->∀ a∈o.yb,fg q a.toNat=true):=by
 have r:=olen hf hn;have hi:=ka8 hn;refine ka4 (xs:=n.yc) (step:=kc1 s l x) (fun (j:Nat) (q:List Bool)=>((j:Int),q))
  (fun j q=>q.length=s.ya.length/\(∀ k,fg p k=true->fg q k=true)/\(∀ k,i<=k->fg q k=fg p k)/\(fg p i=true->∀ o∈n.yc.take j,kat (fg l) o=true->∀ a∈o.yb,fg q a.toNat=true)) (by omega) ⟨hp,fun k h=>h,fun k _=>rfl,by simp⟩ (fun j q c ⟨h1,e,d,f⟩=>?_) (fun q ⟨h1,e,d,f⟩=>?_)
 ·have ho:=qa c;have hm:=qo c;simp only [kc1,m,kag,hn,qb,kan c,qe,kom (show i<q.length by omega),d i (qy _),ho,kak c (show n.yc.length<=9223372036854775807 by omega)];cases g:fg p i with
  | false=>
   simp only [qf];exact ⟨_,rfl,h1,e,d,fun h=>absurd h (by simp)⟩
  | true=>
   simp only [qe];refine kbp (Ev.mono (k5n hf hl h1 hn hm) fun q' ⟨g1,g2,g3,g4⟩=>?_);refine ⟨_,rfl,_,rfl,g1,fun k hk=>g2 k (e k hk),fun k hk=>by rw [g3 k hk,d k hk],fun _ o b hfo a ha=>?_⟩;rw [qx c,qab,q9] at b;rcases b with b | rfl;exact g2 _ (f g o b hfo a ha)
   ·exact g4 hfo a ha
 ·refine ⟨_,by simp only [kc1,m,kag,hn,qb,kal,qf],_,rfl,h1,e,d,?_⟩;rw [qae] at f;exact f
theorem k58 {l p:List Bool} (hl:l.length=s.ya.length) (hp:p.length=s.ya.length):Ev (kac (keh s l) fuel (w64 ((s.ya.length:Int) - 1),p)) fun q=>
  q.length=s.ya.length/\(∀ k,fg p k=true->fg q k=true)/\∀ (i:Nat) (n:Nod),s.ya[i]?=some n->fg q i=true->∀ o∈n.yc,kat (fg l) o=true->∀ a∈o.yb,fg q a.toNat=true:=by
 have j:=hf.nodes;have e0:w64 ((s.ya.length:Int) - 1)=(s.ya.length:Int) - 1:=kdf;rw [e0];refine km0 (fun (x:Int×List Bool) => -1<=x.1/\x.1<(s.ya.length:Int)/\x.2.length=s.ya.length/\(∀ k,fg p k=true->fg x.2 k=true)/\∀ (i:Nat) (n:Nod),x.1<(i:Int)->s.ya[i]?=some n->fg x.2 i=true->∀ o∈n.yc,kat (fg l) o=true->∀ a∈o.yb,fg x.2 a.toNat=true)
  (fun x=>(x.1+1).toNat) (by show ((s.ya.length:Int) - 1+1).toNat<_;omega) ⟨by show (-1:Int)<=(s.ya.length:Int) - 1;omega,by show (s.ya.length:Int) - 1<_;omega,hp,fun k h=>h,fun i n h hn=>by have:=ka8 hn;have u:(s.ya.length:Int) - 1<(i:Int):=h;omega⟩ ?_
 rintro ⟨z,q⟩ ⟨h0,h1,d,e,f⟩;simp only at h0 h1 d e f;by_cases m:0<=z
 ·obtain ⟨i,rfl⟩:∃ i:Nat,z=(i:Int):=⟨z.toNat,by omega⟩;have hi:i<s.ya.length:=by omega
  have hn:=qa hi;have e1:w64 ((i:Int) - 1)=(i:Int) - 1:=kdf;simp only [keh,qs m,qe,e1];refine kbp (Ev.mono (k3m hf hl d hn _ rfl) fun q' ⟨g1,g2,g3,g4⟩=>?_);refine ⟨_,rfl,⟨by show (-1:Int)<=(i:Int) - 1;omega,by show (i:Int) - 1<_;omega,g1,fun k hk=>g2 k (e k hk),fun k n hk b r o ho hfo a ha=>?_⟩,by show ((i:Int) - 1+1).toNat<((i:Int)+1).toNat;omega⟩;have t:(i:Int) - 1<(k:Int):=hk;have c:fg q k=true:=by rw [<- g3 k (by omega)];exact r
  by_cases g:k=i;subst g;rw [hn] at b;cases b;exact g4 c o ho hfo a ha
  ·exact g2 _ (f k n (by omega) b c o ho hfo a ha)
 ·obtain rfl:z = -1:=by omega
  refine ⟨.inr q,by simp only [keh];rfl,d,e,fun i n hn=>f i n (by omega) hn⟩
end
theorem map_take {α β:Type} (g:α->β) {l:List α} {j:Nat} (h:j<l.length):(l.take (j+1)).map g=(l.take j).map g++[g l[j]]:=by rw [qx h,qas];rfl
theorem kh1 {α:Type} (q:α->Bool) {l:List α} {j:Nat} (h:j<l.length):(l.take (j+1)).filter q=(l.take j).filter q++(if q l[j]=true then [l[j]] else []):=by
 rw [qx h,List.filter_append];congr 1;split;rename_i a;rw [List.filter_cons_of_pos a];rfl
 ·rename_i a;rw [List.filter_cons_of_neg (by simpa using a)];rfl
section
variable {s:Spa} (hf:kbh s)
include hf
def NumR (s:Spa) (p:Nat->Bool) (i:Nat) (num:List Int):Prop:=num.length=s.ya.length/\∀ k,k<i->num[k]?=some (cntP p k:Int)
omit hf in
theorem NumR.idx {p:Nat->Bool} {i:Nat} {num:List Int} (h:NumR s p i num) {a:Int} (h0:0<=a) (h1:a<(i:Int)):Go.Proofs.YtnlhjbnpjefjgaaGreatDoor.idx num a=some (numI p a):=by unfold Go.Proofs.YtnlhjbnpjefjgaaGreatDoor.idx;rw [qn h0,h.2 a.toNat (by omega)];rfl
theorem k7v {p:Nat->Bool} {i:Nat} {n:Nod} {o:Opn} (hn:s.ya[i]?=some n) (ho:o∈n.yc) (x:Int×List Int×List Nod) (num:List Int) (d:List.set x.2.1 (Int.toNat x.1) (List.length (x.2.2):Int)=num) (a:NumR s p (i+1) num):
  Ev (kac (kc6 x o) fuel (0,([]:List Int))) fun v=>v=o.yb.map (numI p):=by
 have e:=kds hf hn ho;refine ka4 (xs:=o.yb) (step:=kc6 x o) (fun (j:Nat) (q:List Int)=>((j:Int),q)) (fun j q=>q=(o.yb.take j).map (numI p)) (by omega) (by simp) (fun j q b h1=>?_) (fun q h1=>?_);subst h1;have ha:=qa b;have c:=kif hf hn ho (qo b);simp only [kc6,kan b,qe,kag,ha,qb,d,a.idx c.1 (by omega),kak b (show o.yb.length<=9223372036854775807 by omega)];rw [kb4 (by simp;omega),qb];exact ⟨_,rfl,_,rfl,(map_take _ b).symm⟩
 ·subst h1;rw [qae];exact ⟨_,by simp only [kc6,kal,qf],_,rfl,rfl⟩
theorem k5m {l:List Bool} {p:Nat->Bool} (hl:l.length=s.ya.length) {i:Nat} {n:Nod} (hn:s.ya[i]?=some n) (x:Int×List Int×List Nod) (c:x.1=(i:Int)) (num:List Int) (h:List.set x.2.1 (Int.toNat x.1) (List.length (x.2.2):Int)=num) (d:NumR s p (i+1) num):
  Ev (kac (kc5 s l x) fuel (0,([]:List Opn))) fun v=>v=(n.yc.filter (kat (fg l))).map (khr p):=by
 have k:=olen hf hn;have hi:=ka8 hn;refine ka4 (xs:=n.yc) (step:=kc5 s l x) (fun (j:Nat) (q:List Opn)=>((j:Int),q)) (fun j q=>q=((n.yc.take j).filter (kat (fg l))).map (khr p)) (by omega) (by simp) (fun j q b h1=>?_) (fun q h1=>?_)
 ·subst h1;have ho:=qa b;have hm:=qo b;have e:kbx n.yc[j] l=some (kat (fg l) n.yc[j]):=kt0 (fun a ha=>by have:=kif hf hn hm ha;omega) (by have:=kds hf hn hm;omega);simp only [kc5,c,kag,hn,qb,kan b,qe,ho,e,kak b (show n.yc.length<=9223372036854775807 by omega)];cases f:kat (fg l) n.yc[j] with
  | false=>
   simp only [Bool.not_false,qe,qb,qa9];refine ⟨_,rfl,_,rfl,?_⟩;rw [kh1 _ b,qj (by rw [f];simp),qbh]
  | true=>
   simp only [qbd,qf];have g:(((n.yc.take j).filter (kat (fg l))).map (khr p)).length<=j:=(by rw [qaa];refine qap (List.length_filter_le _ _) ?_;rw [qav];omega);obtain ⟨v,hv,rfl⟩:=k7v hf hn hm x num h d;rw [hv,qb,kb4 (by rw [qak];omega)];simp only [qb,qaq];refine ⟨_,rfl,_,rfl,?_⟩;rw [kh1 _ b,qn f,qas];rfl
 ·subst h1;rw [qae];exact ⟨_,by simp only [kc5,c,kag,hn,qb,kal,qf],_,rfl,rfl⟩
def kept (s:Spa) (f p:Nat->Bool) (i:Nat):List Nod:=((List.range i).filter p).map fun i=>kld f p ((s.ya[i]?).getD nodD)
omit hf in
theorem kk0 (f p:Nat->Bool) (i:Nat):(kept s f p i).length=cntP p i:=by unfold kept;rw [qaa];rfl
omit hf in
theorem knx {f p:Nat->Bool} {i:Nat} {n:Nod} (hn:s.ya[i]?=some n):kept s f p (i+1)=kept s f p i++(if p i=true then [kld f p n] else []):=by
 unfold kept;rw [List.range_succ,List.filter_append,qas];congr 1;split;rename_i h;rw [List.filter_cons_of_pos h,List.filter_nil,qao,List.map_nil,hn];rfl
 ·rename_i h;rw [List.filter_cons_of_neg (by simpa using h)];rfl
theorem k2u {l q:List Bool} (hl:l.length=s.ya.length) (g:q.length=s.ya.length):Ev (kac (kc8 s l q) fuel (0,List.replicate s.ya.length 0,([]:List Nod))) fun v=>NumR s (fg q) s.ya.length v.1/\v.2=kept s (fg l) (fg q) s.ya.length:=by
 have f:=hf.nodes;refine ka4 (xs:=s.ya) (step:=kc8 s l q) (fun (j:Nat) (v:List Int×List Nod)=>((j:Int),v.1,v.2)) (fun j v=>NumR s (fg q) j v.1/\v.2=kept s (fg l) (fg q) j) (t0:=(List.replicate s.ya.length 0,[])) (by omega) ⟨⟨List.length_replicate,fun k h=>by omega⟩,rfl⟩ (fun i v hi ⟨h1,c⟩=>?_) (fun v ⟨h1,c⟩=>?_)
 ·obtain ⟨num,nds⟩:=v;simp only at h1 c;subst c;have hn:=qa hi;have b:i<num.length:=by rw [h1.1];exact hi
  have a:NumR s (fg q) (i+1) (List.set num i (cntP (fg q) i:Int)):=by
   refine ⟨by rw [qbs];exact h1.1,fun k hk=>?_⟩;by_cases d:k=i;subst d;rw [qbj b]
   ·rw [qbm (by omega)];exact h1.2 k (by omega)
  have e1:num[i]?=some num[i]:=qa b;simp only [kc8,kan hi,qe,kag,e1,hn,qb,kom (show i<q.length by omega),qbw,kk0,kak hi (show s.ya.length<=9223372036854775807 by omega)];cases e:fg q i with
  | false=>
   simp only [Bool.not_false,qe,qb,qa9];refine ⟨_,rfl,(_,_),rfl,a,?_⟩;rw [knx hn,qj (by rw [e];simp),qbh];rfl
  | true=>
   simp only [qbd,qf];obtain ⟨v,hv,rfl⟩:=k5m hf hl hn ((i:Int),num,kept s (fg l) (fg q) i) rfl (List.set num i (cntP (fg q) i:Int)) (by simp [kk0]) a;have:=kur (fg q) i;rw [hv,qb,kb4 (by rw [kk0,qak];omega)];simp only [qb,qaq];refine ⟨_,rfl,(_,_),rfl,a,?_⟩;rw [knx hn,qn e];rfl
 ·exact ⟨_,by simp only [kc8,kal,qf],_,rfl,h1,c⟩
theorem k25 {l:List Bool} {p:Nat->Bool} (hl:l.length=s.ya.length) (x:List Int×List Nod) (e:NumR s p s.ya.length x.1):Ev (kac (kc4 s l x) fuel (0,([]:List Int))) fun v=>v=(s.ye.filter fun r=>fg l r.toNat).map (numI p):=by
 have f:=kk5 hf.roots;have g:=hf.nodes;refine ka4 (xs:=s.ye) (step:=kc4 s l x) (fun (j:Nat) (q:List Int)=>((j:Int),q)) (fun j q=>q=((s.ye.take j).filter fun r=>fg l r.toNat).map (numI p)) (by omega) (by simp) (fun j q b h1=>?_) (fun q h1=>?_)
 ·subst h1;have hr:=qa b;have a:=hf.roots.1 _ (qo b);simp only [kc4,kan b,qe,kag,hr,qb,kkq l a.1,e.idx a.1 a.2,kak b (show s.ye.length<=9223372036854775807 by omega)];cases c:fg l s.ye[j].toNat with
  | false=>
   simp only [qf,qb];refine ⟨_,rfl,_,rfl,?_⟩;rw [kh1 _ b,qj (by rw [c];simp),qbh]
  | true=>
   simp only [qe];have d:(((s.ye.take j).filter fun r=>fg l r.toNat).map (numI p)).length<=j:=(by rw [qaa];refine qap (List.length_filter_le _ _) ?_;rw [qav];omega);rw [kb4 (by rw [qak];omega)];simp only [qb];refine ⟨_,rfl,_,rfl,?_⟩;rw [kh1 _ b,qn c,qas];rfl
 ·subst h1;rw [qae];exact ⟨_,by simp only [kc4,kal,qf],_,rfl,rfl⟩
end
theorem k6a {s:Spa} (d:kl9 s):Ev (kfh s) fun r=>(¬ kbh s/\r=(⟨[],[]⟩,4))\/(kbh s/\∃ f p,knn s f p/\r=(kep f p s,0)):=by
 unfold kfh;obtain ⟨b,e,a⟩:=ksz d;rw [e,qb];cases b with
 | false=>exact ⟨_,rfl, .inl ⟨fun h=>absurd (a.2 h) qa0,rfl⟩⟩
 | true=>
  have hf:=a.1 rfl;have g:=hf.nodes;simp only [qbd,qf];obtain ⟨l,hl,l1,l2⟩:=k6c hf;rw [hl,qb,klp 1 false s.ya.length,qb];obtain ⟨p,hp,p1,p2⟩:=k0z hf l1;rw [hp,qb];obtain ⟨q,j,q1,q2,q3⟩:=k58 hf l1 p1;rw [j,qb,klp 8 0 s.ya.length,qb];obtain ⟨v,hv,v1,v2⟩:=k2u hf l1 q1;rw [hv,qb];obtain ⟨u,k,rfl⟩:=k25 hf l1 v v1;rw [k,qb];refine ⟨_,rfl, .inr ⟨hf,fg l,fg q,⟨fun i t h=>kzy l2 t i h,fun r hr c=>q2 _ (by rw [p2 r hr];exact c),fun i n o h1 m w x=>q3 i n m h1 o w x⟩,?_⟩⟩;rw [v2];rfl
theorem ku7 {s:Spa} (hf:kbh s):kl9 s:=by
 have a:=hf.nodes;have b:=kk5 hf.roots;refine ⟨by omega,by omega,fun n hn=>?_,fun n hn o ho=>?_⟩;obtain ⟨i,hi⟩:=qal.1 hn;have:=olen hf hi;omega
 ·obtain ⟨i,hi⟩:=qal.1 hn;have:=kds hf hi ho;omega
end Go.Proofs.YtnlhjbnpjefjgaaGreatDoor
