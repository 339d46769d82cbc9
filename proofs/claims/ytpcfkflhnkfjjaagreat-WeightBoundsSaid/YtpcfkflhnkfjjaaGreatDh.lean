import Derived.Test.YtpcfkflhnkfjjaaGreatDg
set_option linter.all false
set_option maxRecDepth 100000
namespace Go.Proofs.YtpcfkflhnkfjjaaGreat
open Go Go.RowKit
def OpL (ns:List Nod):List Int->Int->List Int->Prop
 | [],left,vs=>left=0/\vs=[]
 | y::ys,left,vs=>∃ (i:Nat) (n:Nod) (us:List Int),vs=(i:Int)::us/\ns[i]?=some n/\n.f_Symbol=y/\n.f_Size<=left/\OpL ns ys (left - n.f_Size) us
def SzP (ns:List Nod):Prop:=∀ n∈ns,1<=n.f_Size/\n.f_Size<=24
theorem OpL.in {ns:List Nod}:∀ {ys:List Int} {left:Int} {vs:List Int},OpL ns ys left vs->vs.length=ys.length/\∀ a∈vs,0<=a/\a<(ns.length:Int)
 | [],_,_,⟨_,h⟩=>by subst h;exact ⟨rfl,by simp⟩
 | y::ys,_,_,⟨i,n,us,h1,b,_,_,c⟩=>by
  subst h1;obtain ⟨d,e⟩:=OpL.in c;refine ⟨by simp [d],fun a ha=>?_⟩;rcases qar.1 ha with rfl | ha;have:=kc6 b;omega
  ·exact e a ha
theorem k47 (N k j:Nat) (h:j<=N):j*N ^ k<=N ^ (k+1):=by rw [Nat.pow_succ,Nat.mul_comm (N ^ k)];exact Nat.mul_le_mul_right _ h
theorem ktn {ns:List Nod} (s:SzP ns) (C:ns.length<=192) {r:Ru} {rule:Int} (hr:r.args.length<=5):∀ (n:Nat) (args:List Int) (left:Int),args.length<=r.args.length->r.args.length - args.length<n->0<=left->left<=24 ->
  Ev (kca n ns r rule args left) fun res=>res.length<=192 ^ (r.args.length - args.length)/\∀ o,o∈res↔∃ vs,OpL ns (r.args.drop args.length) left vs/\o=⟨rule,args++vs⟩
 | 0,args,left,_,h,_,_=>by omega
 | n+1,args,left,ha,hn,h0,D=>by
  show Ev (kdo (kca n) ns r rule args left) _;unfold kdo;by_cases b:args.length=r.args.length
  ·have e1:((args.length:Int) == (r.args.length:Int))=true:=(by simp [b]);simp only [e1,qf];rw [b,List.drop_length,Nat.sub_self];by_cases hl:left=0
   ·have e2:(left != 0)=false:=(by simp [hl]);simp only [e2,qc];refine ⟨_,rfl,by simp,fun o=>?_⟩;rw [qas];constructor;rintro rfl;exact ⟨[],⟨hl,rfl⟩,by rw [qbo]⟩
    ·rintro ⟨vs,⟨_,rfl⟩,h⟩;rw [qbo] at h;exact h
   ·have e2:(left != 0)=true:=(by simp [hl]);simp only [e2,qf];refine ⟨_,rfl,by simp,fun o=>?_⟩;constructor;intro h;simp at h
    ·rintro ⟨vs,⟨h,_⟩,_⟩;exact absurd h hl
  ·have e1:((args.length:Int) == (r.args.length:Int))=false:=(by rw [qat];omega);have t:args.length<r.args.length:=(by omega);have z:=qb t;have l:r.args.drop args.length=r.args[args.length]::r.args.drop (args.length+1):=qah t;have u:(192:Nat) ^ (r.args.length - args.length - 1)<=192 ^ 4:=Nat.pow_le_pow_right (by omega) (by omega);have A:(192:Nat) ^ (r.args.length - args.length)=192 ^ (r.args.length - args.length - 1+1):=(by congr 1;omega);simp only [e1,qc];refine kds (Ev.mono (kb9 (xs:=ns) (step:=kc7 ns r rule args left (kca n)) (fun (j:Nat) (c:List Opn)=>((j:Int),c)) (fun j c=>c.length<=j*192 ^ (r.args.length - args.length - 1)/\∀ o,o∈c↔∃ (i:Nat) (m:Nod) (us:List Int),i<j/\ns[i]?=some m/\m.f_Symbol=r.args[args.length]/\m.f_Size<=left/\OpL ns (r.args.drop (args.length+1)) (left - m.f_Size) us/\o=⟨rule,args++((i:Int)::us)⟩)
    (Q:=fun res=>res.length<=192 ^ (r.args.length - args.length)/\∀ o,o∈res↔∃ vs,OpL ns (r.args.drop args.length) left vs/\o=⟨rule,args++vs⟩) (t0:=[]) (by omega) ⟨by simp,by simp⟩ (fun j c y ⟨c1,c2⟩=>?_) (fun c ⟨c1,c2⟩=>?_)) (fun c h=>⟨c,rfl,h⟩))
   ·have hm:=qb y;have hs:=s _ (qq y);have hcl:c.length<=192*192 ^ 4:=qaf c1 (Nat.mul_le_mul (by omega) u);have d:¬ (ns[j].f_Symbol=r.args[args.length]/\ns[j].f_Size<=left)->∀ o,o∈c↔∃ (i:Nat) (m:Nod) (us:List Int),i<j+1/\ns[i]?=some m/\m.f_Symbol=r.args[args.length]/\m.f_Size<=left/\OpL ns (r.args.drop (args.length+1)) (left - m.f_Size) us/\o=⟨rule,args++((i:Int)::us)⟩:=fun B o=>by
     rw [c2 o];constructor;rintro ⟨i,m,us,h1,a⟩;exact ⟨i,m,us,by omega,a⟩
     ·rintro ⟨i,m,us,h1,a,f,q,v⟩;by_cases p:i=j;subst p;rw [hm] at a;cases a;exact absurd ⟨f,q⟩ B
      ·exact ⟨i,m,us,by omega,a,f,q,v⟩
    have w:c.length<=(j+1)*192 ^ (r.args.length - args.length - 1):=(by rw [Nat.add_mul];omega);simp only [kc7,kav y,qf,kaf,hm,z,qa,kal y (show ns.length<=9223372036854775807 by omega)];by_cases h1:ns[j].f_Symbol=r.args[args.length]
    ·rw [show (ns[j].f_Symbol == r.args[args.length])=true by simp [h1]];by_cases a:ns[j].f_Size<=left
     ·have e3:w64 (left - ns[j].f_Size)=left - ns[j].f_Size:=kbq (by omega) (by omega);simp only [qf,qa,qh a,e3];obtain ⟨res,e,r1,r2⟩:=ktn s C (rule:=rule) hr n (args++[(j:Int)]) (left - ns[j].f_Size) (by simp;omega) (by simp;omega) (by omega) (by omega);simp only [qab,qam] at r1 r2;have r1':res.length<=192 ^ (r.args.length - args.length - 1):=(by rw [Nat.sub_add_eq] at r1;exact r1);have g:(c++res).length<=(j+1)*192 ^ (r.args.length - args.length - 1)/\∀ o,o∈c++res↔∃ (i:Nat) (m:Nod) (us:List Int),i<j+1/\ns[i]?=some m/\m.f_Symbol=r.args[args.length]/\m.f_Size<=left/\OpL ns (r.args.drop (args.length+1)) (left - m.f_Size) us/\o=⟨rule,args++((i:Int)::us)⟩:=by
       refine ⟨by rw [qab,Nat.add_mul];omega,fun o=>?_⟩;rw [qac,c2 o,r2 o];constructor
       ·rintro (⟨i,m,us,h1,a⟩ | ⟨us,f,rfl⟩);exact ⟨i,m,us,by omega,a⟩
        ·exact ⟨j,_,us,by omega,hm,h1,a,f,by rw [qbd];rfl⟩
       ·rintro ⟨i,m,us,g1,g2,g3,g4,g5,rfl⟩;by_cases p:i=j;subst p;rw [hm] at g2;cases g2;exact .inr ⟨us,g5,by rw [qbd];rfl⟩
        ·exact .inl ⟨i,m,us,by omega,g2,g3,g4,g5,rfl⟩
      have k:(c.length+res.length)*(32+1)<=140737488355328:=(by have:res.length<=192 ^ 4:=qaf r1' u;omega);have e4:appN 8 ([]:List Int) [(j:Int)]=some [(j:Int)]:=(by unfold appN;rw [List.isEmpty_cons,qc,keh (by simp)];rfl);cases args with
      | nil=>
       simp only [List.nil_append] at e;simp only [List.isEmpty_nil,qf,e4,qa,e];rw [keh k];simp only [qa];exact ⟨_,rfl,_,rfl,g⟩
      | cons x args=>
       have e5:appN 8 ([]:List Int) (x::args)=some (x::args):=(by unfold appN;rw [List.isEmpty_cons,qc,keh (by simp only [qa9];omega)];rfl);simp only [List.isEmpty_cons,qc,e5,qa];rw [keh (by rw [qam];omega)];simp only [qa,e];rw [keh k];simp only [qa];exact ⟨_,rfl,_,rfl,g⟩
     ·simp only [qf,qa,qe a,qc];exact ⟨_,rfl,_,rfl,w,d fun h=>a h.2⟩
    ·rw [show (ns[j].f_Symbol == r.args[args.length])=false by simp [h1]];simp only [qc,qa];exact ⟨_,rfl,_,rfl,w,d fun h=>h1 h.1⟩
   ·refine ⟨.inr c,by simp only [kc7,kaq,qc],c,rfl,?_,fun o=>?_⟩;rw [A];exact qaf c1 (k47 192 _ _ C)
    ·rw [c2 o,l];constructor;rintro ⟨i,m,us,_,a,f,q,v,rfl⟩;exact ⟨_,⟨i,m,us,rfl,a,f,q,v⟩,rfl⟩
     ·rintro ⟨vs,⟨i,m,us,rfl,a,f,q,v⟩,rfl⟩;exact ⟨i,m,us,kc6 a,a,f,q,v,rfl⟩
theorem k8i (t:Tm):wgT NS (fun _=>1) t=1:=by
 induction t using Tm.ind with
 | h r l ih=>
  rw [wgT];have:wgL NS (fun _=>1) l=1:=by
   induction l with
   | nil=>rfl
   | cons x l ih2=>
    rw [wgL,ih x (qs ..),ih2 fun t ht=>ih t (qo _ ht)];rfl
  rw [this];rfl
theorem kzg (l:La) (s:Int) (k:Nat):VN l s k=(dl l s k).length:=by
 have h:=k07 NS (fun _=>1) l s k;have key:∀ xs:List Tm,NS.lsum (wgT NS (fun _=>1)) xs=xs.length:=fun xs=>by
  induction xs with
  | nil=>rfl
  | cons x xs ih=>
   rw [SR.lsum,ih,k8i,qax];show 1+xs.length=_;omega
 rw [key] at h;exact h.symm
structure AInv (l:La) (K x:Nat) (ns:List Nod):Prop where
 node:∀ (i:Nat) (n:Nod),ns[i]?=some n->(∃ k:Nat,n.f_Size=(k:Int)/\1<=k/\k<=24/\(k<K\/(k=K/\n.f_Symbol<(x:Int))))/\0<=n.f_Symbol/\n.f_Symbol<(l.symbols.length:Int)/\(∀ o∈n.f_Options,∀ a∈o.f_Args,0<=a/\a<(i:Int))/\∀ t,Bt ns i t↔t∈dl l n.f_Symbol n.f_Size.toNat
 all:∀ (a k:Nat),a<l.symbols.length->(k<K\/(k=K/\a<x))->dl l (a:Int) k≠[]->∃ (i:Nat) (n:Nod),ns[i]?=some n/\n.f_Symbol=(a:Int)/\n.f_Size=(k:Int)
theorem k38 {ns ms:List Nod} (hc:∀ (i:Nat) (n:Nod),ns[i]?=some n->∀ o∈n.f_Options,∀ a∈o.f_Args,0<=a/\a<(i:Int)):∀ (t:Tm) (i:Nat),i<ns.length->(Bt (ns++ms) i t↔Bt ns i t):=by
 intro t
 induction t using Tm.ind with
 | h r l ih=>
  intro i hi;have hn:∀ n,(ns++ms)[i]?=some n↔ns[i]?=some n:=fun n=>by rw [q9 hi]
  constructor;intro h;obtain ⟨n,o,ts,h1,d,g,e⟩:=h.inv;injection g with b c;subst b c;have f:=(hn n).1 h1;refine .mk f d (Bts.of e.len fun j a t ha ht=>?_);obtain ⟨g1,g2⟩:=e.get j a t ha ht;have k:=hc i n f o d a (qm ha);exact ⟨g1,(ih t (qm ht) a.toNat (by omega)).1 g2⟩
  ·intro h;obtain ⟨n,o,ts,h1,d,g,e⟩:=h.inv;injection g with b c;subst b c;refine .mk ((hn n).2 h1) d (Bts.of e.len fun j a t ha ht=>?_);obtain ⟨g1,g2⟩:=e.get j a t ha ht;have k:=hc i n h1 o d a (qm ha);exact ⟨g1,(ih t (qm ht) a.toNat (by omega)).2 g2⟩
theorem kra {l:La} {K x:Nat} {ns:List Nod} (h:AInv l K x ns) {M:Nat} (q:M<K):∀ (ys:List Int) (m:Nat),m<=M->(∀ y∈ys,0<=y/\y<(l.symbols.length:Int))->∀ ts:List Tm,ts∈kgp (dl l) ys m↔∃ vs,OpL ns ys (m:Int) vs/\Bts ns vs ts
 | [],m,hm,_,ts=>by
  rw [mem_prodN];constructor;rintro ⟨rfl,rfl⟩;exact ⟨[],⟨rfl,rfl⟩, .nil⟩
  ·rintro ⟨vs,⟨h1,rfl⟩,b⟩;cases b;exact ⟨rfl,by omega⟩
 | y::ys,m,hm,r,ts=>by
  have s:=r y (qs ..);have c:=fun a ha=>r a (qo y ha);rw [mem_prodL];constructor;rintro ⟨t,us,k,rfl,hk,ht,u⟩;have j:dl l ((y.toNat:Nat):Int) k≠[]:=fun e=>(by rw [show ((y.toNat:Nat):Int)=y by omega] at e;rw [e] at ht;simp at ht);obtain ⟨i,n,h1,b,d⟩:=h.all y.toNat k (by omega) (.inl (by omega)) j;have f:=(h.node i n h1).2.2.2.2;obtain ⟨vs,o,v⟩:=(kra h q ys (m - k) (by omega) c us).1 u;have p:Bt ns i t:=(f t).2 (by rw [b,d,q8,show ((y.toNat:Nat):Int)=y by omega];exact ht);refine ⟨(i:Int)::vs,⟨i,n,vs,rfl,h1,by rw [b];omega,by rw [d];omega,?_⟩, .cons (by omega) (by rw [q8];exact p) v⟩;rw [d,show (m:Int) - (k:Int)=((m - k:Nat):Int) by omega];exact o
  ·rintro ⟨vs,⟨i,n,us,rfl,h1,b,d,f⟩,p⟩;obtain ⟨⟨k,hk,w,z,_⟩,_,_,_,o⟩:=h.node i n h1;cases p with
   | @cons _ _ t ts h0 ht hs=>
    rw [q8] at ht;have g:=(o t).1 ht;rw [hk] at d f;rw [hk,q8,b] at g;refine ⟨t,ts,k,rfl,by omega,g,?_⟩;rw [show (m:Int) - (k:Int)=((m - k:Nat):Int) by omega] at f;exact (kra h q ys (m - k) (by omega) c ts).2 ⟨us,f,hs⟩
theorem AInv.push {l:La} (E:ki6 l) {K x:Nat} {ns:List Nod} (h:AInv l K x ns) (hK:1<=K) (z:K<=24) (F:x<l.symbols.length) {os:List Opn} (ho:∀ o,o∈os↔∃ (r:Nat) (vs:List Int),r<l.rules.length/\khs l r=(x:Int)/\OpL ns (keo l r) ((K:Int) - 1) vs/\o=⟨(r:Int),vs⟩):AInv l K (x+1) (ns++[⟨(x:Int),(K:Int),os⟩]):=by
 have hcl:∀ (i:Nat) (n:Nod),ns[i]?=some n->∀ o∈n.f_Options,∀ a∈o.f_Args,0<=a/\a<(i:Int):=fun i n hn=>(h.node i n hn).2.2.2.1;have c:=k38 (ms:=[⟨(x:Int),(K:Int),os⟩]) hcl;have b:(ns++[⟨(x:Int),(K:Int),os⟩])[ns.length]?=some (⟨(x:Int),(K:Int),os⟩:Nod):=by simp
 have A:∀ o∈os,∀ a∈o.f_Args,0<=a/\a<(ns.length:Int):=fun o g a ha=>by obtain ⟨r,vs,_,_,d,rfl⟩:=(ho o).1 g;exact d.in.2 a ha
 have f:∀ (vs:List Int) (ts:List Tm),(∀ a∈vs,0<=a/\a<(ns.length:Int))->(Bts (ns++[⟨(x:Int),(K:Int),os⟩]) vs ts↔Bts ns vs ts):=fun vs ts hv=>by
  constructor;intro p;refine Bts.of p.len fun j a t ha ht=>?_;obtain ⟨g1,g2⟩:=p.get j a t ha ht;have:=hv a (qm ha);exact ⟨g1,(c t a.toNat (by omega)).1 g2⟩
  ·intro p;refine Bts.of p.len fun j a t ha ht=>?_;obtain ⟨g1,g2⟩:=p.get j a t ha ht;have:=hv a (qm ha);exact ⟨g1,(c t a.toNat (by omega)).2 g2⟩
 have q:∀ t,Bt (ns++[⟨(x:Int),(K:Int),os⟩]) ns.length t↔t∈dl l (x:Int) K:=fun t=>by
  rw [mem_dl];have s:∀ r,r<l.rules.length->∀ ts:List Tm,ts∈kgp (dl l) (keo l r) (K - 1)↔∃ vs,OpL ns (keo l r) ((K:Int) - 1) vs/\Bts ns vs ts:=fun r hr ts=>by obtain ⟨y,_,_,e,d⟩:=ks7 l hr;have:=kra h (M:=K - 1) (by omega) (keo l r) (K - 1) (qx _) (by rw [<- e];exact (E.good y d).args) ts;rw [show ((K - 1:Nat):Int)=(K:Int) - 1 by omega] at this;exact this
  constructor;intro p;obtain ⟨n,o,ts,hn,g,rfl,hs⟩:=p.inv;rw [b] at hn;cases hn;obtain ⟨r,vs,h1,e,d,rfl⟩:=(ho o).1 g;exact ⟨r,ts,K - 1,by omega,h1,e,rfl,(s r h1 ts).2 ⟨vs,d,(f vs ts d.in.2).1 hs⟩⟩
  ·rintro ⟨r,ts,m,hm,h1,e,rfl,d⟩;obtain rfl:m=K - 1:=(by omega);obtain ⟨vs,w,B⟩:=(s r h1 ts).1 d;have u:(⟨(r:Int),vs⟩:Opn)∈os:=(ho _).2 ⟨r,vs,h1,e,w,rfl⟩;exact .mk (o:=⟨(r:Int),vs⟩) b u ((f vs ts w.in.2).2 B)
 refine ⟨fun i n hn=>?_,fun a k ha hk C=>?_⟩
 ·by_cases hi:i<ns.length;rw [q9 hi] at hn;obtain ⟨⟨k,g1,g2,g3,g4⟩,e,d,w,B⟩:=h.node i n hn;exact ⟨⟨k,g1,g2,g3,by omega⟩,e,d,w,fun t=>by rw [c t i hi];exact B t⟩
  ·have D:=kc6 hn;rw [qab,qam] at D;obtain rfl:i=ns.length:=(by omega);rw [b] at hn;cases hn;exact ⟨⟨K,rfl,hK,z, .inr ⟨rfl,by show (x:Int)<((x+1:Nat):Int);omega⟩⟩,by show (0:Int)<=(x:Int);omega,by show (x:Int)<_;omega,A,fun t=>by rw [q t];rfl⟩
 ·by_cases v:k=K/\a=x;obtain ⟨rfl,rfl⟩:=v;exact ⟨ns.length,_,b,rfl,rfl⟩
  ·obtain ⟨i,n,h1,e⟩:=h.all a k ha (by omega) C;exact ⟨i,n,by rw [q9 (kc6 h1)];exact h1,e⟩
theorem AInv.skip {l:La} {K x:Nat} {ns:List Nod} (h:AInv l K x ns) (c:dl l (x:Int) K=[]):AInv l K (x+1) ns:=
 ⟨fun i n hn=>by
  obtain ⟨⟨k,g1,g2,g3,g4⟩,d⟩:=h.node i n hn;exact ⟨⟨k,g1,g2,g3,by omega⟩,d⟩,fun a k ha hk b=>h.all a k ha (by
  by_cases e:k=K/\a=x;obtain ⟨rfl,rfl⟩:=e;exact absurd c b
  ·omega) b⟩
theorem AInv.next {l:La} {K:Nat} {ns:List Nod} (h:AInv l K l.symbols.length ns):AInv l (K+1) 0 ns:=⟨fun i n hn=>by obtain ⟨⟨k,g1,g2,g3,g4⟩,c⟩:=h.node i n hn;exact ⟨⟨k,g1,g2,g3,by omega⟩,c⟩,fun a k ha hk b=>h.all a k ha (by omega) b⟩
end Go.Proofs.YtpcfkflhnkfjjaaGreat
