import Derived.Test.YtpcfkflhnkfjjaaGreatDh
set_option linter.all false
set_option maxRecDepth 100000
namespace Go.Proofs.YtpcfkflhnkfjjaaGreat
open Go Go.RowKit
def B5:Nat:=260919263232
theorem B5_eq:(192:Nat) ^ 5=B5:=by decide
theorem k8d {k:Nat} (h:k<=5):(192:Nat) ^ k<=B5:=by rw [<- B5_eq];exact Nat.pow_le_pow_right (by omega) h
def OsI (l:La) (K x:Nat) (ns:List Nod) (n:Nat) (os:List Opn):Prop:=∀ o,o∈os↔∃ (r:Nat) (vs:List Int),r<n/\khs l r=(x:Int)/\OpL ns (keo l r) ((K:Int) - 1) vs/\o=⟨(r:Int),vs⟩
theorem k7e {l:La} (j:ki6 l) {K x:Nat} (hK:1<=K) (t:K<=24) {ns:List Nod} (u:ns.length<=192) (c0:Nat) (k:c0<=32768->SzP ns) (m:c0<=32768+B5) (v4:Int×Int×List Nod) (i:v4.2.1=(K:Int)) (v5:Int×Int×List Nod) (w:v5.2.1=(x:Int)) (n:v5.2.2=ns):
  Ev (kab (kcx l v4 v5) fuel ((c0:Int),0,([]:List Opn))) fun v=>v.1=((c0+v.2.length:Nat):Int)/\c0+v.2.length<=32768+B5/\(∀ o∈v.2,o.f_Args.length<=5)/\(c0+v.2.length<=32768->OsI l K x ns l.rules.length v.2):=by
 have A:B5=260919263232:=rfl;have z:=j.rules;refine kt9 (step:=kcx l v4 v5) (fun st=>∃ (r:Nat) (os:List Opn),st=(((c0+os.length:Nat):Int),(r:Int),os)/\r<=l.rules.length/\c0+os.length<=32768+B5/\OsI l K x ns r os) (fun st=>l.rules.length - st.2.1.toNat) (by show l.rules.length - 0<_;omega) ⟨0,[],rfl,qaj _,m,fun o=>by simp⟩ ?_;rintro _ ⟨r,os,rfl,hr,p,q⟩;have a:∀ o∈os,o.f_Args.length<=5:=fun o ho=>by obtain ⟨r',vs,h1,_,e,rfl⟩:=(q o).1 ho;obtain ⟨y,_,_,y2,y3⟩:=ks7 l (show r'<l.rules.length by omega);have:=(j.good y y3).few;rw [y2] at this;show vs.length<=5;rw [e.in.1];exact this
 by_cases c:r<l.rules.length
 ·by_cases hc:c0+os.length<=32768
  ·obtain ⟨y,y0,y1,y2,y3⟩:=ks7 l c;have e1:decide (((c0+os.length:Nat):Int)<=32768)=true:=qh (by omega);simp only [kcx,kav c,qf,e1,qa,kaf,y0,i,w,n,kal c (show l.rules.length<=9223372036854775807 by omega)];have f:∀ os':List Opn,(∀ o,o∈os'↔o∈os\/(khs l r=(x:Int)/\∃ vs,OpL ns (keo l r) ((K:Int) - 1) vs/\o=⟨(r:Int),vs⟩))->OsI l K x ns (r+1) os':=fun os' h o=>by
    rw [h o,q o];constructor
    ·rintro (⟨r',vs,h1,b⟩ | ⟨h1,vs,b,e⟩);exact ⟨r',vs,by omega,b⟩
     ·exact ⟨r,vs,by omega,h1,b,e⟩
    ·rintro ⟨r',vs,h1,b,e,i⟩;by_cases s:r'=r;subst s;exact .inr ⟨b,vs,e,i⟩
     ·exact .inl ⟨r',vs,by omega,b,e,i⟩
   by_cases hs:y.symbol=(x:Int)
   ·rw [show (y.symbol == (x:Int))=true by simp [hs],qf];have e3:w64 ((K:Int) - 1)=(K:Int) - 1:=kbq (by omega) (by omega);have d:=(j.good y y3).few;obtain ⟨res,g,r1,r2⟩:=ktn (k (by omega)) u (rule:=(r:Int)) d fuel [] ((K:Int) - 1) (by simp) (ke5 (by simp;omega)) (by omega) (by omega);rw [qa9,Nat.sub_zero] at r1;have r1':res.length<=B5:=qaf r1 (k8d d);have e4:w64 (((c0+os.length:Nat):Int)+(res.length:Int))=((c0+(os++res).length:Nat):Int):=(by rw [qab,kbq (by omega) (by omega)];omega);rw [e3,g];simp only [qa];rw [keh (by omega)];simp only [qa,e4];refine ⟨_,rfl,⟨r+1,os++res,rfl,by omega,by rw [qab];omega,f _ fun o=>?_⟩,by show l.rules.length - ((r+1:Nat):Int).toNat<l.rules.length - (r:Int).toNat;omega⟩;rw [qac,r2 o,qa9,List.drop_zero,y2,<- y1,hs];constructor
    ·rintro (h | ⟨vs,h1,b⟩);exact .inl h
     ·exact .inr ⟨rfl,vs,h1,by rw [b,List.nil_append]⟩
    ·rintro (h | ⟨_,vs,h1,b⟩);exact .inl h
     ·exact .inr ⟨vs,h1,by rw [b,List.nil_append]⟩
   ·rw [show (y.symbol == (x:Int))=false by simp [hs],qc];simp only [qa];refine ⟨_,rfl,⟨r+1,os,rfl,by omega,p,f _ fun o=>⟨fun h => .inl h,fun h=>h.elim id fun h=>absurd (y1.trans h.1) hs⟩⟩,by show l.rules.length - ((r+1:Nat):Int).toNat<l.rules.length - (r:Int).toNat;omega⟩
  ·have e1:decide (((c0+os.length:Nat):Int)<=32768)=false:=qe (by omega);refine ⟨.inr (((c0+os.length:Nat):Int),os),by simp only [kcx,kav c,qf,e1,qa,qc],rfl,p,a,fun h=>?_⟩;have B:c0+os.length<=32768:=h;omega
 ·obtain rfl:r=l.rules.length:=by omega
  exact ⟨.inr (((c0+os.length:Nat):Int),os),by simp only [kcx,kaq,qc,qa],rfl,p,a,fun _=>q⟩
theorem k0g (xs ys:List Nod):optN (xs++ys)=optN xs+optN ys:=by unfold optN;rw [qa5,List.sum_append]
theorem k9t {l:La} {s k:Int} (h0:0<=s) (h1:s<(l.symbols.length:Int)) (a:1<=k) (b:k<=24):errC l 0 s k=0:=by unfold errC badQ;rw [qk (by simp),qe (by omega),qe (by omega),qe (by omega),qe (by omega)];rfl
theorem kvb {n:Nat} (h:n<=1000):ansC n=((n:Int),0):=by
 have e:en n=(n:Int):=by unfold en;omega
 unfold ansC;rw [e,qk (by omega)]
theorem AInv.sz {l:La} {K x:Nat} {ns:List Nod} (h:AInv l K x ns):SzP ns:=fun n hn=>by obtain ⟨i,hi⟩:=qan.1 hn;obtain ⟨⟨k,h1,a,b,_⟩,_⟩:=h.node i n hi;omega
structure LInv (l:La) (K x:Nat) (c:Int) (ns:List Nod):Prop where
 cnt:c=(optN ns:Int)
 bd:optN ns<=32768+B5
 len:ns.length<=8*(K - 1)+x
 args:∀ n∈ns,∀ o∈n.f_Options,o.f_Args.length<=5
 inv:optN ns<=32768->AInv l K x ns
theorem k4q {l:La} (j:ki6 l) (hc:kba l=some 0) (r:l.symbols.length<=8) {K:Nat} (hK:1<=K) (e:K<=24) (p:∀ x:Nat,x<l.symbols.length->VN l (x:Int) K<=200) {c:Int} {ns:List Nod} (h:LInv l K 0 c ns) (v4:Int×Int×List Nod) (o:v4.2.1=(K:Int)):
  Ev (kab (ked l v4) fuel (c,0,ns)) fun v=>LInv l (K+1) 0 v.1 v.2:=by
 have u:B5=260919263232:=rfl;refine kb9 (xs:=l.symbols) (step:=ked l v4) (fun (x:Nat) (t:Int×List Nod)=>(t.1,(x:Int),t.2)) (fun x t=>LInv l K x t.1 t.2) (t0:=(c,ns)) (by omega) h (fun x t g m=>?_) (fun t m=>?_)
 ·obtain ⟨c,ns⟩:=t;obtain ⟨i1,i2,i3,i4,i5⟩:=m;simp only at i1 i2 i3 i4 i5;subst i1;have q:=p x g;have b:=k4a j hc (s:=(x:Int)) (k:=(K:Int));rw [k9t (by omega) (by omega) (by omega) (by omega),qk (by simp),q8,kvb (by omega)] at b;simp only [ked,kav g,qf,o,b,qa,kal g (show l.symbols.length<=9223372036854775807 by omega)];rw [show ((0:Int) == 0)=true from rfl,qf];by_cases i:VN l (x:Int) K=0;rw [show ((VN l (x:Int) K:Int) == 0)=true by simp [i]];simp only [qa,qf,qi];refine ⟨_,rfl,(_,_),rfl,rfl,i2,by show ns.length<=8*(K - 1)+(x+1);omega,i4,fun a=>(i5 a).skip ?_⟩;rw [kzg] at i;exact List.length_eq_zero_iff.1 i
  ·rw [show ((VN l (x:Int) K:Int) == 0)=false by simp [i]];simp only [qa,qc];obtain ⟨⟨c',os⟩,hv,o1,o2,o3,o4⟩:=k7e j (x:=x) hK e (ns:=ns) (by omega) (optN ns) (fun a=>(i5 a).sz) i2 v4 o ((optN ns:Int),(x:Int),ns) rfl rfl;simp only at o1 o2 o3 o4;subst o1;rw [hv];simp only [qa];rw [keh (by rw [qam];omega)];simp only [qa,qg];have d:optN (ns++[⟨(x:Int),(K:Int),os⟩])=optN ns+os.length:=(by rw [k0g];unfold optN;simp);refine ⟨_,rfl,(_,_),rfl,by rw [d],by rw [d];exact o2,by rw [qab,qam];omega,fun n hn=>?_,fun a=>?_⟩
   ·rcases qac.1 hn with hn | hn;exact i4 n hn
    ·rw [qas.1 hn];exact o3
   ·have f:optN ns+os.length<=32768:=(by rw [<- d];exact a);exact (i5 (by omega)).push j hK e g (o4 f)
 ·obtain ⟨c,ns⟩:=t;obtain ⟨i1,i2,i3,i4,i5⟩:=m;refine ⟨.inr (c,ns),by simp only [ked,kaq,qc],(c,ns),rfl,i1,i2,?_,i4,fun a=>(i5 a).next⟩;have i3':ns.length<=8*(K - 1)+l.symbols.length:=i3;show ns.length<=8*(K+1 - 1)+0;omega
theorem k4j (ns:List Nod) (rs:List Int) (sy z:Int) (hn:ns.length<=4096):(∃ (i:Nat) (n:Nod),ns[i]?=some n/\n.f_Symbol=sy/\n.f_Size=z/\kdt ns rs sy z=some (i:Int))\/((∀ (i:Nat) (n:Nod),ns[i]?=some n->¬ (n.f_Symbol=sy/\n.f_Size=z))/\kdt ns rs sy z=some (-1)):=by
 unfold kdt
 let bad:Nat->Bool:=fun i=>decide (∃ n,ns[i]?=some n/\n.f_Symbol=sy/\n.f_Size=z)
 have a:∀ i (hi:i<ns.length),bad i=decide (ns[i].f_Symbol=sy/\ns[i].f_Size=z):=fun i hi=>by show decide _=decide _;congr 1;rw [qb hi];exact propext ⟨fun ⟨n,h1,b⟩=>by cases h1;exact b,fun h=>⟨_,rfl,h⟩⟩
 have hs:∀ i,i<ns.length->kbz ns sy z (i:Int)=if bad i=true then some (.inr (.inr (i:Int))) else some (.inl ((i+1:Nat):Int)):=fun i hi=>by
  rw [a i hi];simp only [kbz,kav hi,qf,kaf,qb hi,qa,kal hi (show ns.length<=9223372036854775807 by omega)];by_cases h1:ns[i].f_Symbol=sy
  ·by_cases b:ns[i].f_Size=z;simp [h1,b]
   ·rw [show (ns[i].f_Symbol == sy)=true by simp [h1],qf,show (ns[i].f_Size == z)=false by simp [b],qa,qc,qe (by simp [b]),qk (by simp)]
  ·rw [show (ns[i].f_Symbol == sy)=false by simp [h1],qc,qa,qc,qe (by simp [h1]),qk (by simp)]
 have d:kbz ns sy z (ns.length:Int)=some (.inr (.inl ())):=by simp only [kbz,kaq,qc]
 rcases kjm (step:=kbz ns sy z) ns.length (by omega) bad (fun i => .inr (i:Int)) (.inl ()) hs d with ⟨i,hi,c,_,hr⟩ | ⟨c,hr⟩;rw [a i hi,qbm] at c;exact .inl ⟨i,ns[i],qb hi,c.1,c.2,by rw [hr];rfl⟩
 ·refine .inr ⟨fun i n hn=>?_,by rw [hr];rfl⟩;obtain ⟨hi,rfl⟩:=qj.1 hn;have:=c i hi;rw [a i hi,qbb] at this;exact this
theorem kaab {l:La} (C:ki6 l) (hc:kba l=some 0) (D:l.symbols.length<=8) {sy:Int} (E:0<=sy) (F:sy<(l.symbols.length:Int)) {most:Nat} (G:1<=most) (H:most<=24) (A:∀ x k:Nat,x<l.symbols.length->1<=k->k<=most->VN l (x:Int) k<=200):
  Ev (kel l sy (most:Int)) fun r=>r.2≠0\/(r.2=0/\kgy r.1/\FewT r.1.f_Nodes/\∀ t,InS r.1 t↔∃ k,1<=k/\k<=most/\t∈dl l sy k):=by
 have L:B5=260919263232:=rfl;unfold kel;rw [hc,qa];rw [show ((0:Int) != 0)=false from rfl,qc,qe (show ¬ sy<0 by omega),qe (show ¬ (l.symbols.length:Int)<=sy by omega),qe (show ¬ (most:Int)<1 by omega),qe (show ¬ (24:Int)<(most:Int) by omega)];simp only [qc,qa];refine kds (Ev.mono (kv6 (step:=kfl l (most:Int)) (Q:=fun v=>LInv l (most+1) 0 v.1 v.2) most (fun i st=>∃ c ns,st=(c,((i+1:Nat):Int),ns)/\LInv l (i+1) 0 c ns) (by omega) ⟨0,[],rfl,rfl,qaj _,qaj _,by simp,fun _=>⟨fun i n h=>by simp at h,fun a k ha hk b=>?_⟩⟩ ?_ ?_) ?_)
 ·obtain rfl:k=0:=by omega
  exact absurd (knj l (a:Int)) b
 ·rintro i _ hi ⟨c,ns,rfl,q⟩;have e1:decide (((i+1:Nat):Int)<=(most:Int))=true:=qh (by omega);have e2:w64 (((i+1:Nat):Int)+1)=((i+1+1:Nat):Int):=by rw [kbq (by omega) (by omega)];omega
  simp only [kfl,e1,qf,e2];exact kds (Ev.mono (k4q C hc D (by omega) (by omega) (fun x I=>A x (i+1) I (by omega) (by omega)) q _ rfl) fun v hv=>⟨_,rfl,_,_,rfl,hv⟩)
 rintro _ ⟨c,ns,rfl,q⟩;have e1:decide (((most+1:Nat):Int)<=(most:Int))=false:=qe (by omega);exact ⟨.inr (c,ns),by simp only [kfl,e1,qc],(c,ns),rfl,q⟩
 ·rintro ⟨c,ns⟩ ⟨i1,i2,i3,i4,i5⟩;simp only at i1 i2 i3 i4 i5;subst i1;have J:ns.length<=192:=by omega
  have e1:decide ((4096:Int)<(ns.length:Int))=false:=qe (by omega);simp only [e1,qc,qa];by_cases s:optN ns<=32768
  ·have hA:=i5 s;rw [qe (show ¬ (32768:Int)<(optN ns:Int) by omega),qc];refine kds (Ev.mono (kv6 (step:=kfo sy (most:Int) ((optN ns:Int),ns)) (Q:=fun rs=>rs.length<=most/\(∀ r∈rs,∃ (i:Nat) (n:Nod) (k:Nat),r=(i:Int)/\ns[i]?=some n/\n.f_Symbol=sy/\n.f_Size=(k:Int)/\1<=k/\k<=most)/\∀ k:Nat,1<=k->k<=most->dl l sy k≠[]->∃ (i:Nat) (n:Nod),(i:Int)∈rs/\ns[i]?=some n/\n.f_Symbol=sy/\n.f_Size=(k:Int)) most
    (fun j st=>∃ rs:List Int,st=(((j+1:Nat):Int),rs)/\rs.length<=j/\(∀ r∈rs,∃ (i:Nat) (n:Nod) (k:Nat),r=(i:Int)/\ns[i]?=some n/\n.f_Symbol=sy/\n.f_Size=(k:Int)/\1<=k/\k<=most)/\∀ k:Nat,1<=k->k<=j->dl l sy k≠[]->∃ (i:Nat) (n:Nod),(i:Int)∈rs/\ns[i]?=some n/\n.f_Symbol=sy/\n.f_Size=(k:Int)) (by omega) ⟨[],rfl,by simp,by simp,fun k h1 w=>by omega⟩ ?_ ?_) ?_)
   ·rintro j _ M ⟨rs,rfl,r1,r2,r3⟩;have e2:decide (((j+1:Nat):Int)<=(most:Int))=true:=qh (by omega);have e3:w64 (((j+1:Nat):Int)+1)=((j+1+1:Nat):Int):=(by rw [kbq (by omega) (by omega)];omega);simp only [kfo,e2,qf,e3];rcases k4j ns rs sy ((j+1:Nat):Int) (by omega) with ⟨i,n,h1,w,B,y⟩ | ⟨h1,y⟩
    ·rw [y];have e4:decide ((0:Int)<=(i:Int))=true:=qh (by omega);simp only [qa,e4,qf];rw [keh (by rw [qam];omega)];simp only [qa];refine ⟨_,rfl,_,rfl,by rw [qab,qam];omega,fun r hr=>?_,fun k k1 k2 b=>?_⟩
     ·rcases qac.1 hr with hr | hr;exact r2 r hr
      ·exact ⟨i,n,j+1,qas.1 hr,h1,w,B,by omega,by omega⟩
     ·by_cases hk:k=j+1;subst hk;exact ⟨i,n,qac.2 (.inr (qas.2 rfl)),h1,w,B⟩
      ·obtain ⟨i',n',g1,g2⟩:=r3 k k1 (by omega) b;exact ⟨i',n',qac.2 (.inl g1),g2⟩
    ·rw [y];have e4:decide ((0:Int)<=(-1:Int))=false:=rfl;simp only [qa,e4,qc];refine ⟨_,rfl,_,rfl,by omega,r2,fun k k1 k2 b=>?_⟩;by_cases hk:k=j+1;subst hk;exfalso;obtain ⟨i,n,g1,g2,g3⟩:=hA.all sy.toNat (j+1) (by omega) (.inl (by omega)) (by rw [show ((sy.toNat:Nat):Int)=sy by omega];exact b);exact h1 i n g1 ⟨by rw [g2];omega,g3⟩
     ·exact r3 k k1 (by omega) b
   rintro _ ⟨rs,rfl,r1,r2,r3⟩;have e2:decide (((most+1:Nat):Int)<=(most:Int))=false:=qe (by omega);exact ⟨.inr rs,by simp only [kfo,e2,qc],rs,rfl,r1,r2,r3⟩
   ·rintro rs ⟨r1,r2,r3⟩;have d:kuv ⟨ns,rs⟩:=by
     refine ⟨by show ns.length<=_;omega,by show rs.length<=_;omega,fun n hn=>?_,fun n hn o ho=>?_⟩;obtain ⟨i,hi⟩:=qan.1 hn;have:=kwd (ns:=ns) hi;omega
     ·have:=i4 n hn o ho;omega
    have z:∀ t,InS ⟨ns,rs⟩ t↔∃ k,1<=k/\k<=most/\t∈dl l sy k:=fun t=>by
     constructor;rintro ⟨r,hr,h0,m⟩;obtain ⟨i,n,k,rfl,g1,g2,g3,g4,g5⟩:=r2 r hr;have:=((hA.node i n g1).2.2.2.2 t).1 (by rw [q8] at m;exact m);rw [g2,g3,q8] at this;exact ⟨k,g4,g5,this⟩
     ·rintro ⟨k,k1,k2,ht⟩;obtain ⟨i,n,g1,g2,g3,g4⟩:=r3 k k1 k2 (fun e=>by rw [e] at ht;simp at ht);refine ⟨(i:Int),g1,by omega,?_⟩;rw [q8];exact ((hA.node i n g2).2.2.2.2 t).2 (by rw [g3,g4,q8];exact ht)
    have g:FewT ns:=fun i=>by
     by_cases hi:i<ns.length
     ·obtain ⟨⟨k,k1,k2,k3,k4⟩,s0,s1,_,m⟩:=hA.node i ns[i] (qb hi);refine ⟨dl l ns[i].f_Symbol ns[i].f_Size.toNat,?_,fun u K=>?_,fun t ht=>(m t).1 ht⟩;rw [<- kzg,k1,q8];have:=A ns[i].f_Symbol.toNat k (by omega) k2 (by omega);rw [show ((ns[i].f_Symbol.toNat:Nat):Int)=ns[i].f_Symbol by omega] at this;omega
      ·have:=kv9 _ _ u K;rw [this,k1,q8];omega
     ·exact ⟨[],by simp,by simp,fun t ht=>absurd (k7t ht) hi⟩
    obtain ⟨r,hr,h⟩:=kzr d;rw [hr,qa];rcases h with ⟨_,rfl⟩ | ⟨hf,f,p,hk,rfl⟩;exact ⟨_,rfl, .inl (by show (4:Int)≠0;omega)⟩
    ·exact ⟨_,rfl, .inr ⟨rfl,kxg hf hk,kz4 hf hk g,fun t=>by rw [<- z t];exact kx7 hf hk t⟩⟩
  ·rw [qh (show (32768:Int)<(optN ns:Int) by omega),qf];exact ⟨_,rfl, .inl (by show (10:Int)≠0;omega)⟩
theorem k7r {w:List Int} (a:∀ x∈w,0<=x/\x<=1000) (r:Int):0<=rW w r:=by
 unfold rW;cases h:w[r.toNat]? with
 | none=>exact Int.le_refl _
 | some v=>exact (a v (qm h)).1
theorem knm {w:List Int} (a:∀ x∈w,0<=x/\x<=1000):∀ rs:List Int,0<=sumW w rs
 | []=>Int.le_refl _
 | r::rs=>by
  have h1:=k7r a r;have b:=knm a rs;have:sumW w (r::rs)=rW w r+sumW w rs:=by simp [sumW]
  omega
theorem k6x {w:List Int} (a:∀ x∈w,0<=x/\x<=1000) (t:Tm):wgT MP (wAt w) t=some (sumW w t.rules).toNat:=by
 induction t using Tm.ind with
 | h r l ih=>
  have hl:wgL MP (wAt w) l=some (sumW w (Tm.preL Tm.rule l)).toNat:=by
   induction l with
   | nil=>rfl
   | cons x l ih2=>
    rw [wgL,ih x (qs ..),ih2 fun t ht=>ih t (qo _ ht)];show oadd (some _) (some _)=_;have h1:=knm a x.rules;have d:=knm a (Tm.preL Tm.rule l);have b:sumW w (Tm.preL Tm.rule (x::l))=sumW w x.rules+sumW w (Tm.preL Tm.rule l):=(by rw [<- ktp];rfl);rw [b];show some _=some _;congr 1;omega
  rw [wgT,hl];have h1:=k7r a r;have d:=knm a (Tm.preL Tm.rule l);have b:=kvj w (Tm.mk r l);have c:sumW w (Tm.mk r l).rules=rW w r+sumW w (Tm.preL Tm.rule l):=b;rw [c];show oadd (some (((w[r.toNat]?).getD 0).toNat)) (some _)=_;show some _=some _;congr 1;have e:(w[r.toNat]?).getD 0=rW w r:=rfl;rw [e];omega
theorem kzp {α:Type} {f:α->ON} {c:α->Nat} (hf:∀ x,f x=some (c x)):∀ xs:List α,(xs=[]/\MP.lsum f xs=none)\/∃ m,MP.lsum f xs=some m/\(∃ x∈xs,c x=m)/\∀ x∈xs,m<=c x
 | [] => .inl ⟨rfl,rfl⟩
 | x::xs=>by
  right;rw [SR.lsum,hf x];rcases kzp hf xs with ⟨rfl,h⟩ | ⟨m,h1,⟨y,b,g⟩,d⟩;rw [h];exact ⟨c x,rfl,⟨x,qs ..,rfl⟩,by simp⟩
  ·rw [h1];refine ⟨min (c x) m,rfl,?_,fun z a=>?_⟩
   ·by_cases e:c x<=m;exact ⟨x,qs ..,by omega⟩
    ·exact ⟨y,qo _ b,by omega⟩
   ·rcases qar.1 a with rfl | a;omega
    ·have:=d z a;omega
theorem k0s (f:Nat->ON):∀ n,(MP.sum f n=none/\∀ k,k<n->f k=none)\/∃ m,MP.sum f n=some m/\(∃ k,k<n/\f k=some m)/\∀ k v,k<n->f k=some v->m<=v
 | 0 => .inl ⟨rfl,fun k h=>by omega⟩
 | n+1=>by
  rw [SR.sum];rcases k0s f n with ⟨h1,d⟩ | ⟨m,h1,⟨k,hk,d⟩,e⟩
  ·rw [h1];cases hn:f n with
   | none=>
    refine .inl ⟨rfl,fun k hk=>?_⟩;by_cases b:k=n;subst b;exact hn
    ·exact d k (by omega)
   | some v=>
    refine .inr ⟨v,rfl,⟨n,by omega,hn⟩,fun k u hk a=>?_⟩;by_cases b:k=n;subst b;rw [hn] at a;cases a;exact qx _
    ·rw [d k (by omega)] at a;cases a
  ·rw [h1];right;cases hn:f n with
   | none=>
    refine ⟨m,rfl,⟨k,by omega,d⟩,fun j u g a=>?_⟩;by_cases c:j=n;subst c;rw [hn] at a;cases a
    ·exact e j u (by omega) a
   | some v=>
    refine ⟨min m v,rfl,?_,fun j u g a=>?_⟩
    ·by_cases i:m<=v;exact ⟨k,by omega,by rw [d];congr 1;omega⟩
     ·exact ⟨n,by omega,by rw [hn];congr 1;omega⟩
    ·by_cases c:j=n;subst c;rw [hn] at a;cases a;omega
     ·have:=e j u (by omega) a;omega
theorem kz5 {l:La} {w:List Int} (b:∀ x∈w,0<=x/\x<=1000) (s:Int) (most:Nat):
  (MP.sum (valW l w s) (most+1)=none/\∀ k t,k<=most->t∉dl l s k)\/∃ m,MP.sum (valW l w s) (most+1)=some m/\(∃ k t,k<=most/\t∈dl l s k/\sumW w t.rules=(m:Int))/\∀ k t,k<=most->t∈dl l s k->(m:Int)<=sumW w t.rules:=by
 have hv:∀ k,valW l w s k=MP.lsum (wgT MP (wAt w)) (dl l s k):=fun k=>(k07 MP (wAt w) l s k).symm;have hc:=fun k=>kzp (c:=fun t:Tm=>(sumW w t.rules).toNat) (k6x b) (dl l s k);rcases k0s (valW l w s) (most+1) with ⟨h1,a⟩ | ⟨m,h1,⟨k,hk,a⟩,e⟩
 ·refine .inl ⟨h1,fun k t hk ht=>?_⟩;have:=a k (by omega);rw [hv] at this;rcases hc k with ⟨h,_⟩ | ⟨m,h,_⟩;rw [h] at ht;simp at ht
  ·rw [h] at this;cases this
 ·refine .inr ⟨m,h1,?_,fun j t n ht=>?_⟩
  ·rw [hv] at a;rcases hc k with ⟨_,h⟩ | ⟨m',h,⟨t,ht,d⟩,_⟩;rw [h] at a;cases a
   ·rw [h] at a;cases a;have f:(sumW w t.rules).toNat=m:=d;have:=knm b t.rules;exact ⟨k,t,by omega,ht,by omega⟩
  ·rcases hc j with ⟨h,_⟩ | ⟨m',h,_,d⟩;rw [h] at ht;simp at ht
   ·have o:=e j m' (by omega) (by rw [hv];exact h);have g:=d t ht;have i:m'<=(sumW w t.rules).toNat:=g;have:=knm b t.rules;omega
theorem k4x (l:La) (s:Int):∀ (n k:Nat),1<=k->k<=n->VN l s k<=totC l s n
 | 0,k,h1,a=>by omega
 | n+1,k,h1,a=>by
  show VN l s k<=totC l s n+VN l s (n+1);by_cases hk:k=n+1;subst hk;omega
  ·have:=k4x l s n k h1 (by omega);omega
theorem ku1 {α:Type} (f:Nat->List α):∀ n,((List.range n).flatMap f).length=NS.sum (fun k=>(f k).length) n
 | 0=>rfl
 | n+1=>by rw [List.range_succ,List.flatMap_append,qab,ku1 f n];simp [SR.sum,NS]
theorem k8j {l:La} {w:List Int} (e:∀ x∈w,0<=x/\x<=1000) (d:w.length=l.rules.length) (b:w.length<=9223372036854775807) {s:Int} {k:Nat} (hk:k<=24) {t:Tm} (ht:t∈dl l s k):kc4 fuel w t=some (sumW w t.rules,0):=by
 have f:=kv9 k s t ht;rw [k1h w b fuel t (Nat.le_of_lt (ke5 (by omega))) (by omega)];have hr:=k6u k k (qx _) s t ht;have:t.rules.all (rOk w)=true:=qr.2 fun r c=>by
  have h1:=hr r c;have a:r.toNat<w.length:=by omega
  have g:=e _ (qq a);unfold rOk badW rW;rw [qb a,qw,qh h1.1,qh (show r<(w.length:Int) by omega),qe (by omega),qe (by omega)];rfl
 unfold kvz;rw [qn this]
theorem k4c {l:La} {w:List Int} (q:∀ x∈w,0<=x/\x<=1000) (f:w.length=l.rules.length) (n:w.length<=9223372036854775807) {s:Int} {most:Nat} (hm:most<=24) {L:List Tm} (y:L.length<=4096) (o:∀ t∈L,∃ k,k<=most/\t∈dl l s k) {m:Int} (g:∀ t∈L,m<=sumW w t.rules) (i:∃ t∈L,sumW w t.rules=m) (e e':Int):
  Ev (kab (kbg w (L,e) (m,e')) fuel (false,0)) fun r=>r = .inl true:=by
 refine kb9 (xs:=L) (step:=kbg w (L,e) (m,e')) (fun (j:Nat) (b:Bool)=>(b,(j:Int))) (fun j b=>b=true↔∃ t∈L.take j,sumW w t.rules=m) (t0:=false) (by omega) (by simp) (fun j b d p=>?_) (fun b p=>?_)
 ·have u:=qb d;obtain ⟨k,hk,ht⟩:=o _ (qq d);have hc:=k8j q f n (show k<=24 by omega) ht;have v:=g _ (qq d);have a:∀ b':Bool,(b'=true↔b=true\/sumW w L[j].rules=m)->(b'=true↔∃ t∈L.take (j+1),sumW w t.rules=m):=fun b' h=>by
   rw [h,p,qz d];simp only [qac,qas];constructor
   ·rintro (⟨t,h1,c⟩ | c);exact ⟨t, .inl h1,c⟩
    ·exact ⟨_, .inr rfl,c⟩
   ·rintro ⟨t,h1 | rfl,c⟩;exact .inl ⟨t,h1,c⟩
    ·exact .inr c
  simp only [kbg,kav d,qf,kaf,u,qa,hc,kal d (show L.length<=9223372036854775807 by omega)];rw [show ((0:Int) != 0)=false from rfl,qe (show ¬ sumW w L[j].rules<m by omega)];simp only [qc,qa];cases b with
  | true=>
   simp only [qf,qa];exact ⟨_,rfl,true,rfl,a true (by simp)⟩
  | false=>
   simp only [qc,qa];exact ⟨_,rfl,_,rfl,a _ (by simp)⟩
 ·refine ⟨.inr (.inl b),by simp only [kbg,kaq,qc], .inl b,rfl,?_⟩;obtain ⟨t,h1,c⟩:=i;rw [p.2 ⟨t,by rw [qaw];exact h1,c⟩]
theorem kt6 (l:La) (w:List Int) (x:keb) (hl:kta l) (X:w.length<=9223372036854775807) (_:True):ke3 l w x=some true:=by
 obtain ⟨b,hb,hf⟩:=k6g l w;unfold ke3;rw [hb,k0t];simp only [qa];cases b with
 | false=>rfl
 | true=>
  obtain ⟨aa,N,ab⟩:=hf rfl;simp only [qa6,qc];obtain ⟨c,c1,c2,c3⟩:=k0b l w hl X;rw [c2];simp only [qa];by_cases hc:c=0
  ·subst hc;obtain ⟨K,o,q⟩:=c3 rfl;obtain ⟨c0,g1,g2,g3⟩:=k27 l hl;have O:c0=0:=by
    have h:=c2;unfold kes at h;rw [g2,qa] at h;by_cases h0:c0=0;exact h0
    ·rw [show (c0 != 0)=true by rw [bne_iff_ne];exact h0,qf] at h;exact qaq h
   subst O;have v:Ev (kab (kbt l x) fuel 0) fun r=>r = .inr true\/(r = .inl ()/\∀ i:Nat,i<l.symbols.length->errC l 0 (i:Int) x.f_Most=0/\totC l (i:Int) x.f_Most.toNat<=200):=by
    refine kb9 (xs:=l.symbols) (step:=kbt l x) (fun (j:Nat) (_:Unit)=>(j:Int)) (fun j _=>∀ i:Nat,i<j->errC l 0 (i:Int) x.f_Most=0/\totC l (i:Int) x.f_Most.toNat<=200) (t0:=()) (by omega) (fun i h=>by omega) (fun j _ Z P=>?_) (fun _ P=>?_)
    ·have ht:=k3x K g2 (s:=(j:Int)) (k:=x.f_Most);simp only [kbt,kav Z,qf,ht,qa,k0t,kal Z (show l.symbols.length<=9223372036854775807 by omega)];by_cases z:errC l 0 (j:Int) x.f_Most=0
     ·rw [qk (by simp [z])];by_cases D:totC l (j:Int) x.f_Most.toNat<=200
      ·rw [kvb (by omega),show ((0:Int) != 0)=false from rfl,qc];simp only [qa];rw [qe (show ¬ (200:Int)<(totC l (j:Int) x.f_Most.toNat:Int) by omega),qc];refine ⟨_,rfl,(),rfl,fun i hi=>?_⟩;by_cases Q:i=j;subst Q;exact ⟨z,D⟩
       ·exact P i (by omega)
      ·refine ⟨.inr (.inr true),?_, .inl rfl⟩;unfold ansC;split;rfl
       ·rename_i hn;have R:(200:Int)<en (totC l (j:Int) x.f_Most.toNat):=(by unfold en at *; omega);rw [show ((0:Int) != 0)=false from rfl,qc];simp only [qa];rw [qh R];rfl
     ·rw [qn z,show ((errC l 0 (j:Int) x.f_Most) != 0)=true by rw [bne_iff_ne];exact z];exact ⟨.inr (.inr true),rfl, .inl rfl⟩
    ·exact ⟨.inr (.inl ()),by simp only [kbt,kaq,qc], .inl (),rfl, .inr ⟨rfl,P⟩⟩
   rw [show ((0:Int) != 0)=false from rfl,qc];obtain ⟨r,hr,h⟩:=v;rw [hr,qa];rcases h with rfl | ⟨rfl,M⟩;rfl
   ·simp only [qg];obtain ⟨_,_,_,m1,m2⟩:=krw (M 0 (by have:=K.sym1;omega)).1;obtain ⟨most,A⟩:∃ n:Nat,x.f_Most=(n:Int):=Int.eq_ofNat_of_zero_le (by omega);rw [A] at M m1 m2 ⊢;by_cases hs:0<=x.f_Symbol/\x.f_Symbol<(l.symbols.length:Int)
    ·have hV:∀ y k:Nat,y<l.symbols.length->1<=k->k<=most->VN l (y:Int) k<=200:=fun y k hy k1 k2=>(by have h1:=(M y hy).2;rw [q8] at h1;exact qaf (k4x l (y:Int) most k k1 k2) h1);obtain ⟨⟨sp,e⟩,ha,hA⟩:=kaab K g2 N hs.1 hs.2 (most:=most) (by omega) (by omega) hV;rw [ha,qa];by_cases z:e=0
     ·subst z;rw [show ((0:Int) != 0)=false from rfl,qc];rcases hA with hA | ⟨_,f,p,d⟩;exact absurd rfl hA
      ·simp only at f p d;have hY:((List.range (most+1)).flatMap (dl l x.f_Symbol)).length<=200:=(by have h1:=(M x.f_Symbol.toNat (by omega)).2;rw [q8,show ((x.f_Symbol.toNat:Nat):Int)=x.f_Symbol by omega] at h1;rw [ku1,SR.sum_shift];have S:NS.sum (fun i=>(dl l x.f_Symbol (i+1)).length) most=totC l x.f_Symbol most:=SR.sum_congr _ _ fun i _=>(kzg l x.f_Symbol (i+1)).symm;rw [S,knj];show 0+totC l x.f_Symbol most<=200;omega);obtain ⟨⟨L,e2⟩,ht,e0,E,a⟩:=k4p f p (Y:=(List.range (most+1)).flatMap (dl l x.f_Symbol)) (by omega) (fun u F=>by
        obtain ⟨k,hk,F⟩:=qa2.1 F;rw [List.mem_range] at hk;have:=kv9 k _ u F;omega) (fun t ht=>by
        obtain ⟨k,k1,k2,G⟩:=(d t).1 ht;exact qa2.2 ⟨k,List.mem_range.2 (by omega),G⟩)
       simp only at e0 E a;subst e0;have ac:L.length<=200:=qaf (E.len fun u F=>by obtain ⟨k,k1,k2,G⟩:=(d u).1 ((a u).1 F);exact qa2.2 ⟨k,List.mem_range.2 (by omega),G⟩) hY;rw [ht,qa,k2e K c1 q o hs (by omega) (by omega),qa];rw [show ((0:Int) != 0)=false from rfl,qc];simp only [qa];rcases kz5 q x.f_Symbol most with ⟨h1,S⟩ | ⟨m,h1,⟨k,t,hk,B,C⟩,G⟩
       ·have H:L=[]:=by
         cases L with
         | nil=>rfl
         | cons t L=>
          obtain ⟨k,k1,k2,I⟩:=(d t).1 ((a t).1 (qs ..));exact absurd I (S k t k2)
        rw [H,h1];rfl
       ·have T:1<=k:=by
         by_cases h0:k=0;subst h0;rw [knj] at B;simp at B
         ·omega
        have J:t∈L:=(a t).2 ((d t).2 ⟨k,T,hk,B⟩);have U:((L.length:Int) == 0)=false:=(by rw [qat];have:=List.length_pos_of_mem J;omega);have g:=k4c (s:=x.f_Symbol) (most:=most) (L:=L) q o X (by omega) (by omega) (fun t ht=>by
         obtain ⟨k,k1,k2,I⟩:=(d t).1 ((a t).1 ht);exact ⟨k,k2,I⟩) (m:=(m:Int)) (fun t ht=>by
         obtain ⟨k,k1,k2,I⟩:=(d t).1 ((a t).1 ht);exact G k t k2 I) ⟨t,J,C⟩ 0 0
        obtain ⟨r,hr,rfl⟩:=g;have V:kab (kbg w (L,0) (ansW (some m))) fuel (false,0)=some (.inl true):=hr;rw [U,h1,qc,V];rfl
     ·rw [show (e != 0)=true by rw [bne_iff_ne];exact z,qf]
    ·have ha:kel l x.f_Symbol (most:Int)=some (⟨[],[]⟩,1):=by
      unfold kel;rw [g2,qa,show ((0:Int) != 0)=false from rfl,qc];by_cases h0:x.f_Symbol<0;rw [qh h0];rfl
      ·rw [qe h0,qh (show (l.symbols.length:Int)<=x.f_Symbol by omega)];rfl
     rw [ha];rfl
  ·rw [show (c != 0)=true by rw [bne_iff_ne];exact hc];rfl
end Go.Proofs.YtpcfkflhnkfjjaaGreat
