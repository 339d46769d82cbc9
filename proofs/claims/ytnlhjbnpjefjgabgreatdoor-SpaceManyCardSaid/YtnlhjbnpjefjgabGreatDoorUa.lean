import Derived.Test.YtnlhjbnpjefjgabGreatDoorSk
import Derived.Test.YtnlhjbnpjefjgabGreatDoorZE
import Derived.Test.YtnlhjbnpjefjgabGreatDoorHd
set_option linter.all false
set_option maxRecDepth 100000
namespace Go.Proofs.YtnlhjbnpjefjgabGreatDoor
open Go Go.RowKit
structure SR (R:Type) where
 add:R->R->R
 mul:R->R->R
 zero:R
 one:R
 add_assoc:∀ a b c,add (add a b) c=add a (add b c)
 add_comm:∀ a b,add a b=add b a
 zero_add:∀ a,add zero a=a
 mul_assoc:∀ a b c,mul (mul a b) c=mul a (mul b c)
 mul_comm:∀ a b,mul a b=mul b a
 mul_add:∀ a b c,mul a (add b c)=add (mul a b) (mul a c)
 mul_zero:∀ a,mul a zero=zero
 mul_one:∀ a,mul a one=a
namespace SR
variable {R:Type} (S:SR R)
end SR
namespace SR
variable {R:Type} (S:SR R)
end SR
theorem ks5 {α:Type}:∀ (xs ys:List α),xs.Nodup->(∀ x∈xs,x∈ys)->xs.length<=ys.length
 | [],ys,_,_=>qas _
 | x::xs,ys,h,hs=>by
  obtain ⟨a,b,rfl⟩:=List.append_of_mem (hs x (qn ..));rw [List.nodup_cons] at h;have:=ks5 xs (a++b) h.2 fun y hy=>by
   have h1:=hs y (qe _ hy);have c:y≠x:=fun e=>h.1 (e ▸ hy);simp only [qab,qan] at h1 ⊢;rcases h1 with h1 | h1 | h1;exact .inl h1;exact absurd h1 c
   ·exact .inr h1
  simp only [qaf,qbp] at this ⊢;omega
abbrev Opn:=Sac
abbrev Nod:=Saa
abbrev Spa:=Sad
mutual
inductive Bt (ns:List Nod):Nat->Tm->Prop where
 | mk {i:Nat} {n:Nod} {o:Opn} {ts:List Tm} (hn:ns[i]?=some n) (ho:o∈n.yc) (hs:Bts ns o.yb ts):Bt ns i (Tm.mk o.yd ts)
inductive Bts (ns:List Nod):List Int->List Tm->Prop where
 | nil:Bts ns [] []
 | cons {a:Int} {vs:List Int} {t:Tm} {ts:List Tm} (h0:0<=a) (ht:Bt ns a.toNat t) (hs:Bts ns vs ts):Bts ns (a::vs) (t::ts)
end
theorem Bt.inv {ns:List Nod} {i:Nat} {t:Tm} (h:Bt ns i t):∃ n o ts,ns[i]?=some n/\o∈n.yc/\t=Tm.mk o.yd ts/\Bts ns o.yb ts:=by
 cases h with
 | mk hn ho hs=>exact ⟨_,_,_,hn,ho,rfl,hs⟩
def cmpI:List Int->List Int->Int
 | [],[]=>0
 | [],_::_ => -1
 | _::_,[]=>1
 | x::xs,y::ys=>if x<y then -1 else if y<x then 1 else cmpI xs ys
def kl6 (a b:Opn):Int:=if a.yd≠b.yd then cmpI [a.yd] [b.yd] else cmpI a.yb b.yb
def AscP (l:List Int) (n:Nat):Prop:=(∀ x∈l,0<=x/\x<(n:Int))/\∀ (i:Nat) (x y:Int),l[i]?=some x->l[i+1]?=some y->x<y
def szAt (ns:List Nod) (a:Int):Int:=((ns[a.toNat]?).map (·.yf)).getD 0
def syAt (ns:List Nod) (a:Int):Int:=((ns[a.toNat]?).map (·.yg)).getD 0
structure OptP (ns:List Nod) (i:Nat) (n:Nod) (o:Opn):Prop where
 rule:0<=o.yd
 args:∀ a∈o.yb,0<=a/\a<(i:Int)
 size:1+(o.yb.map (szAt ns)).sum=n.yf
structure NodP (ns:List Nod) (i:Nat) (n:Nod):Prop where
 sym:0<=n.yg
 size:1<=n.yf/\n.yf<=24
 opt:∀ o∈n.yc,OptP ns i n o
 asc:∀ (k:Nat) (o p:Opn),n.yc[k]?=some o->n.yc[k+1]?=some p->kl6 o p<0
def optN (ns:List Nod):Nat:=(ns.map fun n=>n.yc.length).sum
def ConP (ns:List Nod):Prop:=∀ (i k:Nat) (n m:Nod) (o p:Opn),ns[i]?=some n->ns[k]?=some m->o∈n.yc->p∈m.yc->o.yd=p.yd ->
 n.yg=m.yg/\o.yb.map (syAt ns)=p.yb.map (syAt ns)
structure kpc (s:Spa):Prop where
 nodes:s.ya.length<=4096
 roots:AscP s.ye s.ya.length
 node:∀ (i:Nat) (n:Nod),s.ya[i]?=some n->NodP s.ya i n
 opts:optN s.ya<=32768
 con:ConP s.ya
theorem knq {ns:List Nod} {i:Nat} {t:Tm} (h:Bt ns i t):i<ns.length:=by obtain ⟨n,o,ts,hn,_⟩:=h.inv;exact (qd.1 hn).1
def InS (s:Spa) (t:Tm):Prop:=∃ r∈s.ye,0<=r/\Bt s.ya r.toNat t
variable {s:Spa} {f p:Nat->Bool}
theorem kxy (hf:kpc s) {i:Nat} {n:Nod} {o:Opn} (hn:s.ya[i]?=some n) (ho:o∈n.yc):∀ a∈o.yb,0<=a/\a<(i:Int):=((hf.node i n hn).opt o ho).args
theorem kwa:∀ (xs ys zs:List Int),cmpI xs ys<0->cmpI ys zs<0->cmpI xs zs<0
 | [],[],_,h,_=>by simp [cmpI] at h
 | [],_::_,[],_,h=>by simp [cmpI] at h
 | [],_::_,_::_,_,_=>by simp [cmpI]
 | _::_,[],_,h,_=>by simp [cmpI] at h
 | _::_,_::_,[],_,h=>by simp [cmpI] at h
 | x::xs,y::ys,z::zs,h,k=>by
  simp only [cmpI] at h k ⊢;split at h
  ·split at k;rw [qt (by omega)];omega
   ·split at k;omega
    ·rw [qt (by omega)];omega
  ·split at h;omega
   ·split at k;rw [qt (by omega)];omega
    ·split at k;omega
     ·rw [qq (by omega),qq (by omega)];exact kwa xs ys zs h k
theorem k7g {a b:Opn}:kl6 a b<0↔a.yd<b.yd\/(a.yd=b.yd/\cmpI a.yb b.yb<0):=by
 unfold kl6;split
 ·rename_i h;simp only [cmpI];constructor
  ·intro h1;split at h1;rename_i c;exact .inl c
   ·split at h1 <;> omega
  ·rintro (h1 | h1);rw [qt h1];omega
   ·exact absurd h1.1 h
 ·rename_i h;have h:a.yd=b.yd:=by simpa using h
  exact ⟨fun h1 => .inr ⟨h,h1⟩,fun h1=>by
   rcases h1 with h1 | h1;omega
   ·exact h1.2⟩
theorem k2c {a b c:Opn} (h:kl6 a b<0) (k:kl6 b c<0):kl6 a c<0:=by
 rw [k7g] at h k ⊢;rcases h with h | ⟨h1,d⟩
 ·rcases k with k | ⟨k1,k2⟩;exact .inl (by omega)
  ·exact .inl (by omega)
 ·rcases k with k | ⟨k1,k2⟩;exact .inl (by omega)
  ·exact .inr ⟨by omega,kwa _ _ _ d k2⟩
theorem k7n (ns:List Nod) {a:Int} (h0:0<=a) (h1:a<(ns.length:Int)):∃ m,idx ns a=some m/\ns[a.toNat]?=some m/\szAt ns a=m.yf/\syAt ns a=m.yg:=by
 have b:a.toNat<ns.length:=by omega
 refine ⟨ns[a.toNat],?_,qa b,?_,?_⟩;unfold idx;rw [qt h0,qa b];unfold szAt;rw [qa b];rfl
 ·unfold syAt;rw [qa b];rfl
theorem k5h {ns:List Nod} {i:Nat} (h:i<ns.length):optN (ns.take (i+1))=optN (ns.take i)+ns[i].yc.length:=by unfold optN;rw [qay h,qbc,List.sum_append];simp
theorem k0j (ns:List Nod):∀ i,optN (ns.take i)<=optN ns:=fun i=>by
 have:optN ns=optN (ns.take i)+optN (ns.drop i):=by unfold optN;rw [<- List.sum_append,<- qbc,List.take_append_drop]
 omega
theorem kaad {ns:List Nod} {i:Nat} {n:Nod} (h:ns[i]?=some n):n.yc.length<=optN ns:=by obtain ⟨hi,rfl⟩:=qd.1 h;have h1:=k5h hi;have a:=k0j ns (i+1);omega
theorem kabw {l:List Int} {n:Nat} (h:AscP l n):l.length<=n:=by
 have key:∀ (i:Nat) (x:Int),l[i]?=some x->(i:Int)<=x:=by
  intro i
  induction i with
  | zero=>intro x a;exact (h.1 x (ql a)).1
  | succ i ih=>
   intro x a;have hi:=kmv a;have hy:=qa (l:=l) (i:=i) (by omega);have:=h.2 i _ x hy a;have:=ih _ hy;omega
 by_cases h0:l.length=0;omega
 ·have a:=qa (l:=l) (i:=l.length - 1) (by omega);have h1:=key _ _ a;have b:=(h.1 _ (ql a)).2;omega
theorem k2l {s:Spa} (hf:kpc s) {i:Nat} {n:Nod} {o:Opn} (hn:s.ya[i]?=some n) (ho:o∈n.yc):o.yb.length<=24:=by
 have hN:=hf.node i n hn;have c:=hN.opt o ho;have key:∀ l:List Int,(∀ a∈l,0<=a/\a<(i:Int))->(l.length:Int)<=(l.map (szAt s.ya)).sum:=by
  intro l
  induction l with
  | nil=>intro _;simp
  | cons a l ih=>
   intro h;have h1:=ih fun b e=>h b (qe _ e);have d:=h a (qn ..);have f:=kmv hn;obtain ⟨m,_,e2,e3,_⟩:=k7n s.ya d.1 (by omega);have g:=(hf.node _ m e2).size;simp only [qbp,qao,List.sum_cons];omega
 have h1:=key _ c.args;have d:=c.size;have f:=hN.size;omega
section
variable {s:Spa}
theorem ktn (hf:kpc s):∀ (t:Tm) (i:Nat) (n:Nod),s.ya[i]?=some n->Bt s.ya i t->(t.size:Int)=n.yf:=by
 refine Tm.ind fun r l ih=>?_;intro i n hn d;obtain ⟨n',o,ts,b,ho,e,hs⟩:=d.inv;rw [hn] at b;cases b;cases e;have f:=(hf.node i n hn).opt o ho;have key:∀ (vs:List Int) (ts:List Tm),Bts s.ya vs ts->(∀ t∈ts,∀ (i:Nat) (n:Nod),s.ya[i]?=some n->Bt s.ya i t->(t.size:Int)=n.yf)->(Tm.sizeL ts:Int)=(vs.map (szAt s.ya)).sum:=fun vs=>by
  induction vs with
  | nil=>intro ts h _;cases h;rfl
  | cons a vs ih2=>
   intro ts h hi;cases h with
   | @cons _ _ t ts h0 ht hs=>
    have h1:=ih2 _ hs fun t ht=>hi t (qe _ ht);have c:=knq ht;have hm:=qa c;have g:=hi t (qn ..) _ _ hm ht;have j:szAt s.ya a=s.ya[a.toNat].yf:=(by unfold szAt;rw [hm];rfl);simp only [Tm.sizeL,qao,List.sum_cons];omega
 have h1:=key _ _ hs ih;have g:=f.size;show ((Tm.sizeL l+1:Nat):Int)=_;omega
open Classical in
open Classical in
open Classical in
open Classical in
open Classical in
open Classical in
open Classical in
end
theorem kyu:∀ l:List Int,cmpI l l=0
 | []=>rfl
 | x::l=>by simp [cmpI,kyu l]
theorem k37 (a:Opn):kl6 a a=0:=by unfold kl6;rw [qq (by simp),kyu]
theorem idxN {α:Type} {xs:List α} {a:Int} (h:0<=a):idx xs a=xs[a.toNat]?:=by rw [<- kbt,Int.toNat_of_nonneg h]
def k4e (ns:List Nod):Prop:=∀ (i j:Nat) (n m:Nod),ns[i]?=some n->ns[j]?=some m->n.yg=m.yg->n.yf=m.yf->i=j
theorem kyq {α:Type} {R:α->α->Prop} (ht:∀ a b c,R a b->R b c->R a c):∀ l:List α,(∀ (k:Nat) (a b:α),l[k]?=some a->l[k+1]?=some b->R a b)->l.Pairwise R
 | [],_=>List.Pairwise.nil
 | [x],_=>List.pairwise_singleton ..
 | x::y::l,h=>by
  have ih:=kyq ht (y::l) fun k a b h1 f=>h (k+1) a b (by simpa using h1) (by simpa using f);have d:R x y:=h 0 x y rfl rfl;refine List.pairwise_cons.2 ⟨fun z e=>?_,ih⟩;rcases qan.1 e with rfl | e;exact d
  ·exact ht x y z d ((List.pairwise_cons.1 ih).1 z e)
section
variable {s:Spa} (hf:kpc s) (hu:k4e s.ya)
include hf hu
theorem k2o {t:Tm} {i j:Nat} (h1:Bt s.ya i t) (a:Bt s.ya j t):i=j:=by
 obtain ⟨n,o,ts,hn,ho,e1,_⟩:=h1.inv;obtain ⟨m,p,us,hm,hp,e2,_⟩:=a.inv;have hr:o.yd=p.yd:=by rw [e1] at e2;injection e2
 have s1:=ktn hf t i n hn h1;have s2:=ktn hf t j m hm a;exact hu i j n m hn hm (hf.con i j n m o p hn hm ho hp hr).1 (by omega)
theorem kz1:∀ {vs ws:List Int} {ts:List Tm},Bts s.ya vs ts->Bts s.ya ws ts->vs=ws
 | [],ws,ts,h1,b=>by cases h1;cases b;rfl
 | a::vs,ws,ts,h1,b=>by
  cases h1 with
  | cons a0 ht hs=>
   cases b with
   | cons b0 gt gs=>
    have:=k2o hf hu ht gt;rw [kz1 hs gs];congr 1;omega
end
def prT (X:Int->List Tm):List Int->List (List Tm)
 | []=>[[]]
 | a::vs=>(X a).flatMap fun t=>(prT X vs).map (t::·)
def kwk (c:Int->Nat):List Int->Nat
 | []=>1
 | a::vs=>c a*kwk c vs
theorem k3o (X:Int->List Tm):∀ vs:List Int,(prT X vs).length=kwk (fun a=>(X a).length) vs
 | []=>rfl
 | a::vs=>by
  rw [prT,kwk,List.length_flatMap,<- k3o X vs];have key:∀ ys:List Tm,(ys.map fun t=>((prT X vs).map (t::·)).length).sum=ys.length*(prT X vs).length:=fun ys=>by
   induction ys with
   | nil=>simp
   | cons y ys ih=>rw [qao,List.sum_cons,ih,qj,qbp,qbd];omega
  exact key _
theorem k2p {ns:List Nod} {X:Int->List Tm}:∀ {vs:List Int},(∀ a∈vs,0<=a/\∀ t,t∈X a↔Bt ns a.toNat t)->∀ ts,ts∈prT X vs↔Bts ns vs ts
 | [],_,ts=>by
  rw [prT,qaa];constructor;rintro rfl;exact .nil
  ·intro h;cases h;rfl
 | a::vs,h,ts=>by
  obtain ⟨a0,ha⟩:=h a (qn ..);have ih:=k2p (X:=X) fun b c=>h b (qe a c);rw [prT,qat];constructor;rintro ⟨t,ht,d⟩;obtain ⟨us,e,rfl⟩:=qx.1 d;exact .cons a0 ((ha t).1 ht) ((ih us).1 e)
  ·intro c;cases c with
   | @cons _ _ t us h0 ht hs=>exact ⟨t,(ha t).2 ht,qx.2 ⟨us,(ih us).2 hs,rfl⟩⟩
theorem ky1 {X:Int->List Tm}:∀ {vs:List Int},(∀ a∈vs,(X a).Nodup)->(prT X vs).Nodup
 | [],_=>List.pairwise_singleton ..
 | a::vs,h=>by
  have ih:=ky1 (X:=X) fun b f=>h b (qe a f);unfold prT List.Nodup;rw [List.pairwise_flatMap];refine ⟨fun t _=>?_,List.Pairwise.imp (fun {t u} c x g y hy e=>?_) (h a (qn ..))⟩;rw [List.pairwise_map];exact List.Pairwise.imp (fun {x y} d e=>d (by injection e)) ih
  ·obtain ⟨_,_,rfl⟩:=qx.1 g;obtain ⟨_,_,rfl⟩:=qx.1 hy;injection e with e1 _;exact c e1
def tlO (X:Int->List Tm) (o:Opn):List Tm:=(prT X o.yb).map (Tm.mk o.yd)
def tlN (X:Int->List Tm) (n:Nod):List Tm:=n.yc.flatMap (tlO X)
def tls (ns:List Nod):Nat->Int->List Tm
 | 0,_=>[]
 | i+1,a=>if a=(i:Int) then (match ns[i]? with | some n=>tlN (tls ns i) n | none=>[]) else tls ns i a
def TL (ns:List Nod) (i:Nat):List Tm:=tls ns (i+1) (i:Int)
theorem k00 (ns:List Nod):∀ (i:Nat) (a:Nat),a<i->tls ns i (a:Int)=TL ns a
 | 0,a,h=>by omega
 | i+1,a,h=>by
  by_cases e:a=i;subst e;rfl
  ·rw [tls,qq (by omega)];exact k00 ns i a (by omega)
theorem TL_eq {ns:List Nod} {i:Nat} {n:Nod} (hn:ns[i]?=some n) (c:∀ o∈n.yc,∀ a∈o.yb,0<=a/\a<(i:Int)):TL ns i=tlN (fun a=>TL ns a.toNat) n:=by
 unfold TL;rw [tls,qt rfl,hn];simp only;unfold tlN;have gen:∀ os:List Opn,(∀ o∈os,∀ a∈o.yb,0<=a/\a<(i:Int))->os.flatMap (tlO (tls ns i))=os.flatMap (tlO fun a=>TL ns a.toNat):=fun os=>by
  induction os with
  | nil=>intro _;rfl
  | cons o os ih=>
   intro h;rw [qbk,qbk,ih fun p hp=>h p (qe _ hp)];congr 1;unfold tlO;congr 1;have gen2:∀ vs:List Int,(∀ a∈vs,0<=a/\a<(i:Int))->prT (tls ns i) vs=prT (fun a=>TL ns a.toNat) vs:=fun vs=>by
    induction vs with
    | nil=>intro _;rfl
    | cons a vs ih2=>
     intro hv;have ha:=hv a (qn ..);have e:tls ns i a=TL ns a.toNat:=(by have:=k00 ns i a.toNat (by omega);rw [Int.toNat_of_nonneg ha.1] at this;exact this);rw [prT,prT,ih2 fun b d=>hv b (qe _ d),e]
   exact gen2 _ (h o (qn ..))
 exact gen _ c
section
variable {s:Spa} (hf:kpc s) (hu:k4e s.ya)
include hf hu
theorem kxb:∀ (N i:Nat),i<N->i<s.ya.length->(∀ t,t∈TL s.ya i↔Bt s.ya i t)/\(TL s.ya i).Nodup
 | 0,i,h,_=>by omega
 | N+1,i,h,hi=>by
  have hn:=qa hi;have f:=fun o ho=>kxy hf hn (o:=o) ho;have hX:∀ o∈(s.ya[i]).yc,∀ a∈o.yb,(0<=a/\∀ t,t∈TL s.ya a.toNat↔Bt s.ya a.toNat t)/\(TL s.ya a.toNat).Nodup:=fun o ho a ha=>by have k:=f o ho a ha;obtain ⟨g1,g2⟩:=kxb N a.toNat (by omega) (by omega);exact ⟨⟨k.1,g1⟩,g2⟩
  have j:∀ o∈(s.ya[i]).yc,∀ ts,ts∈prT (fun a=>TL s.ya a.toNat) o.yb↔Bts s.ya o.yb ts:=fun o ho=>k2p fun a ha=>(hX o ho a ha).1;rw [TL_eq hn f];unfold tlN;refine ⟨fun t=>?_,?_⟩
  ·rw [qat];constructor;rintro ⟨o,ho,ht⟩;obtain ⟨ts,d,rfl⟩:=qx.1 ht;exact .mk hn ho ((j o ho ts).1 d)
   ·intro k;obtain ⟨n,o,ts,g,ho,rfl,hs⟩:=k.inv;rw [hn] at g;cases g;exact ⟨o,ho,qx.2 ⟨ts,(j o ho ts).2 hs,rfl⟩⟩
  ·unfold List.Nodup;rw [List.pairwise_flatMap];refine ⟨fun o ho=>?_,?_⟩;unfold tlO;rw [List.pairwise_map];exact List.Pairwise.imp (fun {x y} l e=>l (by injection e)) (ky1 fun a ha=>(hX o ho a ha).2)
   ·have hp:=kyq (R:=fun o p:Opn=>kl6 o p<0) (fun a b c=>k2c) _ (hf.node i _ hn).asc;refine List.Pairwise.imp_of_mem (fun {o p} ho m q x u y hy e=>?_) hp;obtain ⟨ts,d,rfl⟩:=qx.1 u;obtain ⟨us,r,rfl⟩:=qx.1 hy;injection e with e1 e2;subst e2;have e3:=kz1 hf hu ((j o ho ts).1 d) ((j p m ts).1 r);have:o=p:=(by cases o;cases p;simp only at e1 e3;rw [e1,e3]);subst this;rw [k37] at q;omega
end
theorem kl8 {α:Type} (s:BA):∀ (m:List (BA×α)) (i:Nat),kc8 s m i=(kc8 s m 0).map fun p=>(p.1+i,p.2)
 | [],i=>rfl
 | (k,v)::l,i=>by
  simp only [kc8];cases s.toList == k.toList with
  | true=>simp
  | false=>
   simp only [qw];rw [kl8 s l (i+1),kl8 s l (0+1),Option.map_map];congr 1;funext p;simp only [Function.comp,qp,and_true];omega
theorem kmk {α:Type} (k s:BA) (v z:α) (l:List (BA×α)):mget ((k,v)::l) s z=bif s.toList == k.toList then v else mget l s z:=by
 unfold mget;simp only [kc8];cases s.toList == k.toList with
 | true=>rfl
 | false=>
  simp only [qw];rw [kl8];cases kc8 s l 0 <;> rfl
theorem k5k {α:Type} (k s:BA) (v y:α) (l:List (BA×α)):mput ((k,v)::l) s y=bif s.toList == k.toList then (s,y)::l else (k,v)::mput l s y:=by
 unfold mput;simp only [kc8];cases s.toList == k.toList with
 | true=>rfl
 | false=>
  simp only [qw];rw [kl8];cases kc8 s l 0 <;> rfl
theorem k4i {a b:BA} (c:BA) (h:(a.toList == b.toList)=true):(c.toList == a.toList)=(c.toList == b.toList):=by rw [beq_iff_eq] at h;rw [h]
theorem kpw {α:Type} (k s:BA) (y z:α):∀ m:List (BA×α),mget (mput m k y) s z=bif s.toList == k.toList then y else mget m s z
 | []=>by show mget [(k,y)] s z=_;rw [kmk]
 | (k',v)::l=>by
  rw [k5k];cases h:k.toList == k'.toList with
  | true=>
   simp only [qr];rw [kmk,kmk,k4i s h];cases s.toList == k'.toList <;> rfl
  | false=>
   simp only [qw];rw [kmk,kmk,kpw k s y z l];cases h1:s.toList == k'.toList with
   | false=>rfl
   | true=>
    cases a:s.toList == k.toList with
    | false=>rfl
    | true=>
     rw [beq_iff_eq] at h1 a;rw [<- h1,<- a] at h;simp at h
theorem k02 (m:List (BA×Int)) (s:BA):mhas m s=true↔mget m s 0=mget m s 1:=by unfold mhas mget;cases kc8 s m 0 <;> simp
theorem k8q (m:List (BA×Int)) (k s:BA) (y:Int):mhas (mput m k y) s=((s.toList == k.toList) || mhas m s):=by rw [Bool.eq_iff_iff,qbm,k02,k02,kpw,kpw];cases s.toList == k.toList <;> simp
def kb (r:Int) (xs:List Int):BA:=⟨(keyL r xs).toArray⟩
theorem kb_eq {r:Int} {xs:List Int} (h:inI r=true) (h1:xs.length<=1000000) (a:xs.all inI=true):keyB r xs=some (kb r xs):=by
 unfold keyB;have b:Nat.ble xs.length 1000000=true:=by rw [Nat.ble_eq];exact h1
 rw [h,a,b];rfl
theorem kab4 {r r':Int} {xs ys:List Int} (h:(kb r xs).toList=(kb r' ys).toList):r=r'/\xs=ys:=by
 apply k64;have e:∀ l:List UInt8,(ByteArray.mk l.toArray).toList=l:=by intro l;rw [ByteArray.toList_eq]
 unfold kb at h;rw [e,e] at h;exact h
def Pool (m:List (BA×Int)) (ps:List (Int×List Int)):Prop:=
 (∀ r xs,mhas m (kb r xs)=true↔(r,xs)∈ps)/\∀ (i:Nat) r xs,ps[i]?=some (r,xs)->mget m (kb r xs) 0=(i:Int)
theorem k7u {m:List (BA×Int)} {ps:List (Int×List Int)} {r:Int} {xs:List Int} (h:Pool m ps) (hn:(r,xs)∉ps):Pool (mput m (kb r xs) (ps.length:Int)) (ps++[(r,xs)]):=by
 have e:∀ r' ys,((kb r' ys).toList == (kb r xs).toList)=true↔(r',ys)=(r,xs):=by
  intro r' ys;rw [beq_iff_eq];constructor;intro q;obtain ⟨a,b⟩:=kab4 q;rw [a,b]
  ·intro q;injection q with a b;rw [a,b]
 refine ⟨fun r' ys=>?_,fun i r' ys hi=>?_⟩;rw [k8q,qbm,h.1,e,qab,qaa];exact Or.comm
 ·rw [kpw];by_cases q:(r',ys)=(r,xs)
  ·rw [(e r' ys).2 q];by_cases hl:i<ps.length;rw [q9 hl] at hi;exact absurd (q ▸ ql hi) hn
   ·rw [qam (by omega)] at hi;have:i - ps.length=0:=by
     cases c:i - ps.length with
     | zero=>rfl
     | succ n=>
      rw [c] at hi;simp at hi
    have:i=ps.length:=(by omega);rw [this];rfl
  ·have q':((kb r' ys).toList == (kb r xs).toList)=false:=by
    cases d:(kb r' ys).toList == (kb r xs).toList with
    | true=>exact absurd ((e r' ys).1 d) q
    | false=>rfl
   rw [q'];by_cases hl:i<ps.length;rw [q9 hl] at hi;exact h.2 i r' ys hi
   ·rw [qam (by omega)] at hi;cases c:i - ps.length with
    | zero=>
     rw [c] at hi;simp at hi;exact absurd (by rw [hi.1,hi.2]) q
    | succ n=>
     rw [c] at hi;simp at hi
theorem k8l (zs:List Int) (js cs:List Nat) (h:js.map (fun j=>zs[j]?)=cs.map (fun (c:Nat)=>some (c:Int))) (f:cs.sum<=1000000) (hl:js.length<=1000000):
  kai (kcb zs (js.map fun (j:Nat)=>(j:Int))) fuel (1,0)=some ((1+cs.sum:Nat):Int):=by
 have a:js.length=cs.length:=by simpa using qah List.length h
 have key:=k67 (step:=kcb zs (js.map fun (j:Nat)=>(j:Int))) js.length (by omega) (fun i=>(((1+(cs.take i).sum:Nat):Int),(i:Int))) ((1+cs.sum:Nat):Int) (fun i hi=>by
  have b:js[i]?=some js[i]:=qa hi;have hc:cs[i]?=some (cs[i]'(by omega)):=qa (by omega);have d:zs[js[i]]?=some ((cs[i]'(by omega):Nat):Int):=by have:=qah (fun l=>l[i]?) h;simp only [qg,b,hc,qai] at this;exact qy this
  have hs:(cs.take (i+1)).sum=(cs.take i).sum+cs[i]'(by omega):=by rw [List.take_add_one,hc,List.sum_append];simp only [Option.toList_some,List.sum_cons,List.sum_nil,Nat.add_zero]
  have ht:(cs.take (i+1)).sum<=cs.sum:=by have:=qah List.sum (List.take_append_drop (i+1) cs);rw [List.sum_append] at this;omega
  unfold kcb;simp only [qj];rw [show (decide ((i:Int)<(js.length:Int)))=true by simpa using hi,qr,kbt,qg,b];simp only [qai,qh];rw [kbt,d];simp only [qh];rw [kgx _,k08,hs];have e:(((1+(cs.take i).sum:Nat):Int)+((cs[i]'(by omega):Nat):Int))=((1+((cs.take i).sum+cs[i]'(by omega)):Nat):Int):=by omega
  rw [e]) (by
  unfold kcb;simp only [qj];rw [show (decide ((js.length:Int)<(js.length:Int)))=false by simp,qw,a,List.take_length])
 simpa using key
def kea (ts:List Tm) (i:Nat) (xs:List Int) (l:List Tm):Prop:=∃ js:List Nat,xs=js.map (fun (j:Nat)=>(j:Int))/\(∀ j∈js,j<i)/\js.map (fun j=>ts[j]?)=l.map some
structure kg6 (m:List (BA×Int)) (rs:List Int) (ag:List (List Int)) (zs:List Int) (ts:List Tm):Prop where
 mp:Pool m (rs.zip ag)
 lr:rs=ts.map Tm.rule
 la:ag.length=ts.length
 lz:zs=ts.map fun t=>(t.size:Int)
 ar:∀ (i:Nat) xs t,ag[i]?=some xs->ts[i]?=some t->kea ts i xs t.args
 nd:ts.Nodup
theorem ksi {α:Type}:∀ {l l':List α},l.map some=l'.map some->l=l'
 | [],[],_=>rfl
 | [],_::_,h=>by simp at h
 | _::_,[],h=>by simp at h
 | a::l,b::l',h=>by simp only [qao,List.cons.injEq,qb] at h;rw [h.1,ksi h.2]
theorem k1x:∀ {l l':List Nat},l.map (fun (j:Nat)=>(j:Int))=l'.map (fun (j:Nat)=>(j:Int))->l=l'
 | [],[],_=>rfl
 | [],_::_,h=>by simp at h
 | _::_,[],h=>by simp at h
 | a::l,b::l',h=>by
  simp only [qao,List.cons.injEq] at h;have:a=b:=by omega
  rw [this,k1x h.2]
theorem k29 {ts:List Tm} (nd:ts.Nodup):∀ {l l':List Nat},(∀ j∈l,j<ts.length)->l.map (fun j=>ts[j]?)=l'.map (fun j=>ts[j]?)->l=l'
 | [],[],_,_=>rfl
 | [],_::_,_,h=>by simp at h
 | _::_,[],_,h=>by simp at h
 | a::l,b::l',c,h=>by simp only [qao,List.cons.injEq] at h;have:a=b:=(List.getElem?_inj (c a qn) nd).1 h.1;rw [this,k29 nd (fun j d=>c j (qe _ d)) h.2]
theorem kth {ts e:List Tm} {i:Nat} {xs:List Int} {l:List Tm} (hi:i<=ts.length) (h:kea ts i xs l):kea (ts++e) i xs l:=by obtain ⟨js,h1,a,b⟩:=h;refine ⟨js,h1,a,?_⟩;rw [<- b];apply List.map_congr_left;intro j c;rw [q9 (by have:=a j c;omega)]
theorem ksz:∀ l:List Tm,Tm.sizeL l=(l.map Tm.size).sum
 | []=>by simp [Tm.sizeL]
 | t::l=>by rw [Tm.sizeL,ksz l];simp
theorem k25 {α β:Type} {ag:List α} {bs:List β} {i:Nat} {a:α} {b:β} (ha:ag[i]?=some a) (c:bs[i]?=some b):(ag.zip bs)[i]?=some (a,b):=by rw [List.getElem?_zip_eq_some];exact ⟨ha,c⟩
theorem kabc {m:List (BA×Int)} {rs:List Int} {ag:List (List Int)} {zs:List Int} {ts:List Tm} (h:kg6 m rs ag zs ts) {r:Int} {xs:List Int} {l:List Tm} (b:kea ts ts.length xs l)
  (hm:(r,xs)∈rs.zip ag):∃ i:Nat,mget m (kb r xs) 0=(i:Int)/\ts[i]?=some (Tm.mk r l):=by
 obtain ⟨i,hi⟩:=qbs.1 hm;refine ⟨i,h.mp.2 i r xs hi,?_⟩;rw [List.getElem?_zip_eq_some] at hi;obtain ⟨h1,c⟩:=hi;have a:=h1;rw [h.lr,qg] at a;cases ht:ts[i]? with
 | none=>rw [ht] at a;simp at a
 | some t=>
  rw [ht] at a;simp only [qai,qb] at a;obtain ⟨js,a1,a2,a3⟩:=h.ar i xs t c ht;obtain ⟨ks,b1,b2,b3⟩:=b;have:js=ks:=k1x (a1.symm.trans b1);rw [this,b3] at a3;have:=ksi a3;cases t with
  | mk r0 l0=>
   simp only [Tm.rule,Tm.args] at a this;rw [a,this]
theorem kaau {m:List (BA×Int)} {rs:List Int} {ag:List (List Int)} {zs:List Int} {ts:List Tm} (h:kg6 m rs ag zs ts) {r:Int} {xs:List Int} {l:List Tm} (f:kea ts ts.length xs l)
  (hm:(r,xs)∉rs.zip ag):kg6 (mput m (kb r xs) (rs.length:Int)) (rs++[r]) (ag++[xs]) (zs++[((Tm.mk r l).size:Int)]) (ts++[Tm.mk r l]):=by
 have hl:rs.length=ts.length:=by rw [h.lr,qj]
 have k:(rs.zip ag).length=rs.length:=by rw [List.length_zip,h.la,hl,Nat.min_self]
 refine ⟨?_,?_,?_,?_,?_,?_⟩;have:=k7u h.mp hm;rw [k] at this;rw [List.zip_append (by rw [hl,h.la])];exact this;rw [qbc,<- h.lr];rfl;simp [h.la];rw [qbc,<- h.lz];rfl
 ·intro i ys t hy ht;by_cases hi:i<ts.length;rw [q9 (by rw [h.la];exact hi)] at hy;rw [q9 hi] at ht;exact kth (by omega) (h.ar i ys t hy ht)
  ·have n:i=ts.length:=(by have:=(qd.1 ht).1;simp at this;omega);subst n;rw [<- h.la,List.getElem?_concat_length] at hy;rw [List.getElem?_concat_length] at ht;cases hy;cases ht;exact kth (qu _) f
 ·rw [List.nodup_append];refine ⟨h.nd,by simp,?_⟩;intro a ha b g d;rw [qaa] at g;rw [d,g] at ha;obtain ⟨i,hi⟩:=qbs.1 ha;have e:=(qd.1 hi).1;have c:ag[i]?=some (ag[i]'(by rw [h.la];exact e)):=qa _;obtain ⟨js,a1,a2,a3⟩:=h.ar i _ _ c hi;obtain ⟨ks,b1,b2,b3⟩:=f;have:js=ks:=k29 h.nd (fun j o=>by have:=a2 j o;omega) (a3.trans b3.symm);apply hm;refine qbs.2 ⟨i,k25 ?_ ?_⟩;rw [h.lr,qg,hi];rfl
  ·rw [c,a1,this,b1]
theorem k9x {n:Nat} (h:n<=1000000):inI (n:Int)=true:=by unfold inI;rw [qo,qa3,qa3];omega
theorem k75 {m:List (BA×Int)} {rs:List Int} {ag:List (List Int)} {zs:List Int} {ts:List Tm} (h:kg6 m rs ag zs ts) {r:Int} {xs:List Int} {l:List Tm} (d:kea ts ts.length xs l)
  (hr:inI r=true) (n:ts.length<=500000) (hs:(Tm.mk r l).size<=1000):
  ∃ (i:Nat) (m':List (BA×Int)) (rs':List Int) (ag':List (List Int)) (zs':List Int) (e:List Tm),kfa m rs ag zs r xs=some ((i:Int),m',rs',ag',zs')/\kg6 m' rs' ag' zs' (ts++e)/\(ts++e)[i]?=some (Tm.mk r l)/\e.length<=1/\∀ t∈e,t=Tm.mk r l:=by
 obtain ⟨js,x1,x2,x3⟩:=d;have c:js.length=l.length:=by simpa using qah List.length x3
 have b:(Tm.mk r l).size=(l.map Tm.size).sum+1:=by rw [Tm.size,ksz]
 have f:l.length<=1000:=by
  have key:∀ l:List Tm,l.length<=Tm.sizeL l:=by
   intro l
   induction l with
   | nil=>simp
   | cons t l ih=>
    rw [Tm.sizeL,qbp];have:1<=t.size:=(by cases t;rw [Tm.size];omega);omega
  have:=key l;rw [ksz] at this;omega
 have hk:keyB r xs=some (kb r xs):=by refine kb_eq hr (by rw [x1,qj];omega) ?_;rw [x1,qk];intro y hy;obtain ⟨j,g,rfl⟩:=qx.1 hy;exact k9x (by have:=x2 j g;omega)
 have hl:rs.length=ts.length:=by rw [h.lr,qj]
 have k:zs.length=ts.length:=by rw [h.lz,qj]
 unfold kfa;rw [hk];simp only [qh];cases hm:mhas m (kb r xs) with
 | true=>
  obtain ⟨i,i1,i2⟩:=kabc h ⟨js,x1,x2,x3⟩ ((h.mp.1 r xs).1 hm);refine ⟨i,m,rs,ag,zs,[],?_,by rw [List.append_nil];exact h,by rw [List.append_nil];exact i2,by simp,by simp⟩;simp only [Bool.not_true,qw,qh,i1]
 | false=>
  have hn:(r,xs)∉rs.zip ag:=fun q=>by rw [(h.mp.1 r xs).2 q] at hm;cases hm
  refine ⟨ts.length,mput m (kb r xs) (rs.length:Int),rs++[r],ag++[xs],zs++[((Tm.mk r l).size:Int)],[Tm.mk r l],?_,kaau h ⟨js,x1,x2,x3⟩ hn,by rw [List.getElem?_concat_length],by simp,by simp⟩;have a:kai (kcb zs xs) fuel (1,0)=some (((Tm.mk r l).size:Nat):Int):=by
   rw [x1,k8l zs js (l.map Tm.size) ?_ (by omega) (by omega),b,Nat.add_comm];rw [List.map_map];have:=qah (List.map (Option.map fun t:Tm=>(t.size:Int))) x3;rw [List.map_map,List.map_map] at this;rw [show (fun j=>zs[j]?)=(Option.map fun t:Tm=>(t.size:Int)) ∘ fun j=>ts[j]? from ?_,this];rfl
   ·funext j;rw [h.lz,qg];rfl
  simp only [Bool.not_false,qr];rw [kml (by simp;omega),kml (by simp [h.la];omega)];simp only [qh];rw [a];simp only [qh];rw [kml (by simp;omega)];simp only [qh,hl]
theorem ku3 {σ β:Type} {step:σ->Option (σ ⊕ β)} (n:Nat) (hn:n<18446744073709551616) (P:Nat->σ->Prop) (Q:β->Prop) (hs:∀ i s,i<n->P i s->∃ s',step s=some (.inl s')/\P (i+1) s') (c:∀ s,P n s->∃ b,step s=some (.inr b)/\Q b) (s:σ) (h0:P 0 s):∃ b,kai step fuel s=some b/\Q b:=by
 have key:∀ (k i:Nat) (s:σ),i<=n->n - i<k->P i s->∃ b,kai step k s=some b/\Q b:=by
  intro k
  induction k with
  | zero=>intro i s _ h;omega
  | succ k ih=>
   intro i s hi hk hp;rw [kai];by_cases h:i=n;subst h;obtain ⟨b,h1,a⟩:=c s hp;exact ⟨b,by rw [h1],a⟩
   ·obtain ⟨s',h1,a⟩:=hs i s (by omega) hp;rw [h1];exact ih (i+1) s' (by omega) (by omega) a
 exact key fuel 0 s (by omega) (ke6 (by omega)) h0
def mk1 (j:Nat):Int×Bool:=((j:Int),true)
def kip (seen:List (Int×Bool)) (ts:List Tm) (P:Tm->Prop):Prop:=∃ js:List Nat,seen=js.map mk1/\js.Nodup/\(∀ j∈js,j<ts.length)/\∀ t,P t↔∃ j∈js,ts[j]?=some t
theorem kvj {α:Type} {s:Int}:∀ {m:List (Int×α)} {i:Nat},imf s m i=none->∀ p∈m,p.1≠s
 | [],_,_,p,hp=>nomatch hp
 | (k,x)::m,i,h,p,hp=>by
  simp only [imf] at h;cases a:s == k with
  | true=>rw [a] at h;cases h
  | false=>
   rw [a] at h;rcases qan.1 hp with rfl | hp;intro e;rw [<- e] at a;simp at a
   ·exact kvj h p hp
theorem k26 {js:List Nat} (j:Nat):(j∈js/\iput (js.map mk1) (j:Int) true=js.map mk1)\/(j∉js/\iput (js.map mk1) (j:Int) true=(js++[j]).map mk1):=by
 unfold iput;cases h:imf (j:Int) (js.map mk1) 0 with
 | none=>
  refine .inr ⟨fun b=>kvj h (mk1 j) (qbj b) rfl,?_⟩;rw [qbc];rfl
 | some p=>
  obtain ⟨i,x⟩:=p;obtain ⟨_,c,k,a,e⟩:=kw5 h;rw [Nat.sub_zero] at a c;rw [qg] at a;cases b:js[i]? with
  | none=>rw [b] at a;cases a
  | some j'=>
   rw [b] at a;have a:mk1 j'=(k,x):=qy a;unfold mk1 at a;injection a with e1 e2;have:j'=j:=(by omega);subst this;refine .inl ⟨ql b,?_⟩;show (js.map mk1).set i ((j':Int),true)=_;have hl:i<(js.map mk1).length:=c;have d:(js.map mk1)[i]=((j':Int),true):=(by have:=(qd.1 b).2;rw [List.getElem_map,this];rfl);rw [<- d,List.set_getElem_self]
theorem k7e {seen:List (Int×Bool)} {ts:List Tm} {P:Tm->Prop} (h:kip seen ts P) (nd:ts.Nodup) {j:Nat} {t:Tm} (c:ts[j]?=some t):kip (iput seen (j:Int) true) ts (fun u=>P u\/u=t):=by
 obtain ⟨js,rfl,h1,l,d⟩:=h;have f:=(qd.1 c).1;rcases k26 (js:=js) j with ⟨hm,g⟩ | ⟨hm,g⟩
 ·refine ⟨js,g,h1,l,fun u=>⟨fun hu=>?_,fun hu => .inl ((d u).2 hu)⟩⟩;rcases hu with hu | rfl;exact (d u).1 hu
  ·exact ⟨j,hm,c⟩
 ·refine ⟨js++[j],g,?_,fun k hk=>?_,fun u=>⟨fun hu=>?_,fun ⟨k,hk,hu⟩=>?_⟩⟩;rw [List.nodup_append];exact ⟨h1,by simp,fun a ha b m e=>hm (by rw [qaa] at m;rw [<- m,<- e];exact ha)⟩
  ·rcases qab.1 hk with hk | hk;exact l k hk
   ·rw [qaa] at hk;rw [hk];exact f
  ·rcases hu with hu | rfl;obtain ⟨k,hk,i⟩:=(d u).1 hu;exact ⟨k,List.mem_append_left _ hk,i⟩
   ·exact ⟨j,qbr _ (qaa.2 rfl),c⟩
  ·rcases qab.1 hk with hk | hk;exact .inl ((d u).2 ⟨k,hk,hu⟩)
   ·rw [qaa] at hk;subst hk;rw [c] at hu;exact .inr (qy hu).symm
theorem kaae {seen:List (Int×Bool)} {ts:List Tm} (e:List Tm) {P:Tm->Prop} (h:kip seen ts P):kip seen (ts++e) P:=by obtain ⟨js,h0,h1,b,c⟩:=h;refine ⟨js,h0,h1,fun j a=>by rw [qaf];have:=b j a;omega,fun t=>(c t).trans ⟨fun ⟨j,a,ht⟩=>⟨j,a,by rw [q9 (b j a)];exact ht⟩,fun ⟨j,a,ht⟩=>⟨j,a,by rw [q9 (b j a)] at ht;exact ht⟩⟩⟩
theorem kix {seen:List (Int×Bool)} {ts:List Tm} {P Q:Tm->Prop} (h:kip seen ts P) (a:∀ t,Q t↔P t):kip seen ts Q:=by obtain ⟨js,h0,h1,b,c⟩:=h;exact ⟨js,h0,h1,b,fun t=>(a t).trans (c t)⟩
theorem kis {X:List Tm}:∀ {l:List Tm},l.Nodup->(∀ t∈l,t∈X)->l.length<=X.length:=fun {l} h1 a=>ks5 l X h1 a
theorem k0y {seen:List (Int×Bool)} {ts:List Tm} (X:List Tm) {P:Tm->Prop} (h:kip seen ts P) (nd:ts.Nodup) (hX:∀ t,P t->t∈X):seen.length<=X.length:=by
 obtain ⟨js,rfl,h1,d,g⟩:=h;rw [qj];have hm:(js.filterMap fun j=>ts[j]?).length=js.length:=by
  have:∀ l:List Nat,(∀ j∈l,j<ts.length)->(l.filterMap fun j=>ts[j]?).length=l.length:=by
   intro l
   induction l with
   | nil=>intro _;rfl
   | cons a l ih=>
    intro hl;rw [List.filterMap_cons,qa (hl a (qn ..))];simp only [qbp];rw [ih fun j c=>hl j (qe _ c)]
  exact this js d
 rw [<- hm];refine kis ?_ fun t ht=>?_
 ·have:∀ l:List Nat,l.Nodup->(∀ j∈l,j<ts.length)->(l.filterMap fun j=>ts[j]?).Nodup:=by
   intro l
   induction l with
   | nil=>intro _ _;exact List.nodup_nil
   | cons a l ih=>
    intro hn hl;have ha:=hl a (qn ..);rw [List.filterMap_cons,qa ha];simp only;rw [List.nodup_cons] at hn ⊢;refine ⟨fun hm=>?_,ih hn.2 fun j c=>hl j (qe _ c)⟩;obtain ⟨b,f,e⟩:=List.mem_filterMap.1 hm;rw [<- qa ha] at e;have:b=a:=(List.getElem?_inj (hl b (qe _ f)) nd).1 e;exact hn.1 (this ▸ f)
  exact this js h1 d
 ·obtain ⟨j,c,e⟩:=List.mem_filterMap.1 ht;exact hX t ((g t).2 ⟨j,c,e⟩)
theorem kabb {seen:List (Int×Bool)} {ts X:List Tm} {P:Tm->Prop} (h:kip seen ts P) (hn:X.Nodup) (hX:∀ t∈X,P t):X.length<=seen.length:=by obtain ⟨js,rfl,h1,c,a⟩:=h;rw [qj];refine qa7 (kis (X:=js.filterMap fun j=>ts[j]?) hn fun t ht=>?_) (List.length_filterMap_le _ _);obtain ⟨j,b,e⟩:=(a t).1 (hX t ht);exact List.mem_filterMap.2 ⟨j,b,e⟩
theorem kug {ts e:List Tm} {xs:List Int} {l:List Tm} (h:kea ts ts.length xs l):kea (ts++e) (ts++e).length xs l:=by obtain ⟨js,h1,a,b⟩:=kth (e:=e) (qu _) h;exact ⟨js,h1,fun j c=>by rw [qaf];have:=a j c;omega,b⟩
theorem krc {ts:List Tm} {i:Nat} {xs:List Int} {l:List Tm} (h:kea ts i xs l):xs.length=l.length:=by obtain ⟨js,h1,b,a⟩:=h;rw [h1,qj];simpa using qah List.length a
theorem k3q {ts:List Tm} {i k:Nat} {xs:List Int} {l:List Tm} (h:kea ts i xs l) (hk:k<l.length):∃ j:Nat,xs[k]?=some (j:Int)/\j<i/\ts[j]?=some l[k]:=by
 obtain ⟨js,h1,c,b⟩:=h;have hl:js.length=l.length:=by simpa using qah List.length b
 have a:k<js.length:=by omega
 refine ⟨js[k],?_,c _ (qaq _),?_⟩;rw [h1,qg,qa a];rfl
 ·have:=qah (fun z=>z[k]?) b;simp only [qg,qa a,qa hk,qai] at this;exact qy this
theorem k5n {ts:List Tm} {xs:List Int} {l:List Tm} {j:Nat} {t:Tm} (h:kea ts ts.length xs l) (a:ts[j]?=some t):kea ts ts.length (xs++[(j:Int)]) (l++[t]):=by
 obtain ⟨js,h1,b,c⟩:=h;refine ⟨js++[j],by rw [h1,qbc];rfl,fun k hk=>?_,by rw [qbc,qbc,c];simp [a]⟩;rcases qab.1 hk with hk | hk;exact b k hk
 ·rw [qaa] at hk;rw [hk];exact (qd.1 a).1
theorem kzz (q:List Int):cut3 q 0 (q.length:Int) (q.length:Int)=some q:=by unfold cut3;simp
theorem kzw {b:Nat} {xs:List Int} {y:Int} (h:(xs.length+1)*(b+1)<=140737488355328:=by omega):appN b xs [y]=some (xs++[y]):=by unfold appN;rw [show ([y]:List Int).isEmpty=false from rfl,qw];exact kml (by simpa using h)
theorem kzq {σ β:Type} {step:σ->Option (σ ⊕ β)} (n:Nat) (hn:n<18446744073709551616) (P:Nat->σ->Prop) (Q:β->Prop) (hs:∀ i s,i<n->P i s->(∃ s',step s=some (.inl s')/\P (i+1) s')\/∃ b,step s=some (.inr b)/\Q b) (c:∀ s,P n s->∃ b,step s=some (.inr b)/\Q b) (s:σ) (h0:P 0 s):∃ b,kai step fuel s=some b/\Q b:=by
 have key:∀ (k i:Nat) (s:σ),i<=n->n - i<k->P i s->∃ b,kai step k s=some b/\Q b:=by
  intro k
  induction k with
  | zero=>intro i s _ h;omega
  | succ k ih=>
   intro i s hi hk hp;rw [kai];by_cases h:i=n;subst h;obtain ⟨b,h1,a⟩:=c s hp;exact ⟨b,by rw [h1],a⟩
   ·rcases hs i s (by omega) hp with ⟨s',h1,a⟩ | ⟨b,h1,a⟩;rw [h1];exact ih (i+1) s' (by omega) (by omega) a
    ·exact ⟨b,by rw [h1],a⟩
 exact key fuel 0 s (by omega) (ke6 (by omega)) h0
abbrev PSt:=List (Int×Bool)×List (BA×Int)×List Int×List (List Int)×List Int
variable {a7:List (List Int)} {o:Sac} {LT:Int->List Tm} {X0 X1:List Tm}
def ExpQ (X0 ts:List Tm) (P:Tm->Prop) (r:PSt):Prop:=∃ e:List Tm,kg6 r.2.1 r.2.2.1 r.2.2.2.1 r.2.2.2.2 (ts++e)/\(∀ u∈e,u∈X0)/\kip r.1 (ts++e) P
def FillQ (X0 X1 ts:List Tm) (P:Tm->Prop) (ok:Bool) (r:PSt):Prop:=(ok=true/\r.1.length<=4096/\ExpQ X0 ts P r)\/(ok=false/\4096<X1.length)
theorem k8j (hr:inI o.yd=true) (hX0:X0.length<=500000) (hXs:∀ u∈X0,u.size<=1000) (v:∀ u∈X1,u∈X0) (Y:o.yb.length<=1000):∀ (n:Nat) (xs:List Int) (l:List Tm),l.length<=o.yb.length->o.yb.length - l.length<n ->
  (∀ l2∈prT LT (o.yb.drop l.length),Tm.mk o.yd (l++l2)∈X1) ->
  ∀ m rs ag zs (ts:List Tm) seen (P:Tm->Prop),kg6 m rs ag zs ts->(∀ u∈ts,u∈X0)->kea ts ts.length xs l ->
  (∀ a∈o.yb,∃ row,idx a7 a=some row/\kea ts ts.length row (LT a)/\(LT a).length<=500000)->kip seen ts P->(∀ t,P t->t∈X1)->seen.length<=4096 ->
  ∃ ok r,kb1 n xs o seen m rs ag zs a7=some (ok,r)/\FillQ X0 X1 ts (fun t=>P t\/∃ l2∈prT LT (o.yb.drop l.length),t=Tm.mk o.yd (l++l2)) ok r:=by
 intro n
 induction n with
 | zero=>intro xs l _ h;omega
 | succ n ih=>
  intro xs l hl hn hcl m rs ag zs ts seen P F w f k hS y G;have H:=krc f;have I:ts.length<=500000:=qa7 (kis F.nd w) hX0;rw [kb1];unfold kdo;by_cases Z:l.length=o.yb.length
  ·-- all arguments are there
   have d:o.yb.drop l.length=[]:=(by rw [Z,List.drop_length]);rw [d] at hcl ⊢;have p:Tm.mk o.yd l∈X1:=(by simpa using hcl [] (by simp [prT]));rw [show ((xs.length:Int) == (o.yb.length:Int))=true by rw [beq_iff_eq];omega,qr];rw [show kcq xs=some xs by unfold kcq;rw [kml (by simp;omega)];rfl,qh];obtain ⟨i,m',rs',ag',zs',e,q1,q2,q3,q4,q5⟩:=k75 F f hr I (hXs _ (v _ p));rw [q1,qh];have J:∀ u∈e,u∈X0:=fun u hu=>(by rw [q5 u hu];exact v _ p);have z:=k7e (kaae e hS) q2.nd q3;have V:=k0y X1 z q2.nd fun t ht=>by
    rcases ht with ht | rfl;exact y t ht
    ·exact p
   refine ⟨_,(iput seen (i:Int) true,m',rs',ag',zs'),rfl,?_⟩;by_cases hc:(iput seen (i:Int) true).length<=4096
   ·refine .inl ⟨?_,hc,e,q2,J,kix z fun t=>?_⟩;simp only;rw [qau (by omega)]
    ·simp [prT]
   ·refine .inr ⟨?_,by omega⟩;simp only;rw [qax (by omega)]
  ·-- one more argument
   have A:l.length<o.yb.length:=(by omega);rw [show ((xs.length:Int) == (o.yb.length:Int))=false by rw [beq_eq_false_iff_ne];omega,qw];have ha:=qa A;obtain ⟨a,q⟩:∃ a,a=o.yb[l.length]:=⟨_,rfl⟩;rw [<- q] at ha;have K:a∈o.yb:=(by rw [q];exact qaq _);obtain ⟨row,L,B,aa⟩:=k a K;have M:=krc B;rw [H,kbt,ha,qh,L,qh];have d:o.yb.drop l.length=a::o.yb.drop (l.length+1):=(by rw [q];exact List.drop_eq_getElem_cons A);obtain ⟨b,N,O⟩:=kzq (step:=kb0 xs o a7 (kb1 n) row) row.length (by omega)
    (fun i s=>s.1=(i:Int)/\s.2.1.length<=4096/\ExpQ X0 ts (fun t=>P t\/∃ x∈(LT a).take i,∃ l2∈prT LT (o.yb.drop (l.length+1)),t=Tm.mk o.yd (l++x::l2)) s.2)
    (fun b=>(∃ r,b = .inl r/\r.1.length<=4096/\ExpQ X0 ts (fun t=>P t\/∃ l2∈prT LT (o.yb.drop l.length),t=Tm.mk o.yd (l++l2)) r)\/∃ r,b = .inr r/\4096<X1.length)
    (fun i s hi hs=>by
     obtain ⟨si,ss,sm,srs,sag,szs⟩:=s;obtain ⟨rfl,p0,e,p1,p2,p3⟩:=hs;simp only at p0 p1 p3;have g:i<(LT a).length:=(by omega);obtain ⟨j,j1,j2,j3⟩:=k3q B g;have C:∀ u∈ts++e,u∈X0:=fun u hu=>by
      rcases qab.1 hu with hu | hu;exact w u hu
      ·exact p2 u hu
     have R:(ts++e)[j]?=some (LT a)[i]:=(by rw [q9 j2];exact j3);have D:∀ l2∈prT LT (o.yb.drop (l.length+1)),(LT a)[i]::l2∈prT LT (o.yb.drop l.length):=fun l2 c=>(by rw [d,prT,qat];exact ⟨_,qaq g,qx.2 ⟨l2,c,rfl⟩⟩);have E:∀ t,(P t\/∃ x∈(LT a).take i,∃ l2∈prT LT (o.yb.drop (l.length+1)),t=Tm.mk o.yd (l++x::l2))->t∈X1:=fun t ht=>by
      rcases ht with ht | ⟨x,f,l2,c,rfl⟩;exact y t ht
      ·refine hcl (x::l2) ?_;rw [d,prT,qat];exact ⟨x,qa6 f,qx.2 ⟨l2,c,rfl⟩⟩
     obtain ⟨ok,r,r1,r2⟩:=ih (xs++[(j:Int)]) (l++[(LT a)[i]]) (by rw [qaf,qbf];omega) (by rw [qaf,qbf];omega) (fun l2 c=>by rw [qaf,qbf] at c;have:=hcl _ (D l2 c);rw [qa0];exact this)
      sm srs sag szs (ts++e) ss _ p1 C (k5n (kug f) R) (fun a' S=>by obtain ⟨row',y1,y2,y3⟩:=k a' S;exact ⟨row',y1,kug y2,y3⟩) p3 E p0
     rcases r2 with ⟨rfl,r0,e',r2,r3,r4⟩ | ⟨rfl,r0⟩
     ·have T:=kix (Q:=fun t=>P t\/∃ x∈(LT a).take (i+1),∃ l2∈prT LT (o.yb.drop (l.length+1)),t=Tm.mk o.yd (l++x::l2)) r4 fun t=>by
       rw [qaf,qbf];constructor
       ·rintro (ht | ⟨x,f,l2,c,rfl⟩);exact .inl (.inl ht)
        ·rw [qay g] at f;rcases qab.1 f with f | f;exact .inl (.inr ⟨x,f,l2,c,rfl⟩)
         ·rw [qaa] at f;subst f;exact .inr ⟨l2,c,by rw [qa0];rfl⟩
       ·rintro ((ht | ⟨x,f,l2,c,rfl⟩) | ⟨l2,c,rfl⟩);exact .inl ht;exact .inr ⟨x,by rw [qay g];exact List.mem_append_left _ f,l2,c,rfl⟩
        ·exact .inr ⟨(LT a)[i],by rw [qay g];exact qbr _ (qaa.2 rfl),l2,c,by rw [qa0];rfl⟩
      refine .inl ⟨(((i+1:Nat):Int),r),?_,rfl,r0,e++e',by rw [<- qa0];exact r2,fun u hu=>?_,by rw [<- qa0];exact T⟩;unfold kb0;simp only;rw [qau (show (i:Int)<(row.length:Int) by omega),qr,kbt,j1,qh,kzz,qh,kzw,qh,r1,qh];simp only [Bool.not_true,qw];rw [kgx i]
      ·rcases qab.1 hu with hu | hu;exact p2 u hu
       ·exact r3 u hu
     ·refine .inr ⟨.inr r,?_, .inr ⟨r,rfl,r0⟩⟩;unfold kb0;simp only;rw [qau (show (i:Int)<(row.length:Int) by omega),qr,kbt,j1,qh,kzz,qh,kzw,qh,r1,qh];simp only [Bool.not_false,qr])
    (fun s hs=>by
     obtain ⟨si,ss,sm,srs,sag,szs⟩:=s;obtain ⟨rfl,p0,e,p1,p2,p3⟩:=hs;refine ⟨.inl (ss,sm,srs,sag,szs),?_, .inl ⟨_,rfl,p0,e,p1,p2,kix p3 fun t=>?_⟩⟩;unfold kb0;simp only;rw [qax (by omega),qw]
     ·rw [M,List.take_length,d,prT];constructor
      ·rintro (ht | ⟨l2,c,rfl⟩);exact .inl ht
       ·obtain ⟨x,f,c⟩:=qat.1 c;obtain ⟨l3,U,rfl⟩:=qx.1 c;exact .inr ⟨x,f,l3,U,rfl⟩
      ·rintro (ht | ⟨x,f,l2,c,rfl⟩);exact .inl ht
       ·exact .inr ⟨x::l2,qat.2 ⟨x,f,qx.2 ⟨l2,c,rfl⟩⟩,rfl⟩)
    (s:=(0,seen,m,rs,ag,zs)) ⟨rfl,G,[],by rw [List.append_nil];exact F,(fun u hu=>nomatch hu),by rw [List.append_nil];exact kix hS fun t=>by simp⟩
   rw [N];rcases O with ⟨r,rfl,h1,hQ⟩ | ⟨r,rfl,h1⟩;exact ⟨true,r,rfl, .inl ⟨rfl,h1,hQ⟩⟩
   ·exact ⟨false,r,rfl, .inr ⟨rfl,h1⟩⟩
end Go.Proofs.YtnlhjbnpjefjgabGreatDoor
