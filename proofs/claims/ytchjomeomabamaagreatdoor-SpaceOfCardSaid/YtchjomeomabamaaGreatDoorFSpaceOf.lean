/- SpaceOf: the law returns true for every input where the listed tables hold what the program lays into them. -/
import Derived.Test.YtchjomeomabamaaGreatDoorGl
import Derived.Test.YtchjomeomabamaaGreatDoorPt
import Derived.Test.YtchjomeomabamaaGreatDoorSx
import Derived.Test.YtchjomeomabamaaGreatDoorSim
import Derived.Test.YtchjomeomabamaaGreatDoorDrawE
import Derived.Deep.Fields
import Derived.Test.YtchjomeomabamaaGreatDoorDn
import Derived.ChangeMaps5
import Derived.JoinedOf
import Derived.Test.YtchjomeomabamaaGreatDoorRows
import Derived.Test.YtchjomeomabamaaGreatDoorCards
import Derived.Test.YtchjomeomabamaaGreatDoorTie
import Derived.SevenTiedAt
set_option linter.all false
namespace Go.Proofs.YtchjomeomabamaaGreatDoor
open Go Go.RowKit Go.Proofs.Tryz
theorem kaeg (d:Array Int) (hs:∀ i j,i<=j->j<d.size->d[i]!<=d[j]!):∀ m,m<=d.size->(Lib.compactUpTo d m).Pairwise (·<·)/\∀ x,x∈Lib.compactUpTo d m↔∃ j,j<m/\d[j]! = x:=by
 intro m
 induction m with
 | zero=>intro _;simp [Lib.compactUpTo]
 | succ m ih=>
  intro hm;obtain ⟨h1,c⟩:=ih (by omega);rw [Lib.compactUpTo_succ];cases hk:Lib.keeps d m with
  | true=>
   rw [qp rfl];refine ⟨?_,fun x=>?_⟩
   ·rw [List.pairwise_append];refine ⟨h1,by simp,?_⟩;intro a ha b f;rw [qw] at f;obtain ⟨j,j1,j2⟩:=(c a).1 ha;have e1:=hs j (m - 1) (by omega) (by omega);have e2:=hs (m - 1) m (by omega) (by omega);unfold Lib.keeps at hk;rw [qa6] at hk;rcases hk with hk | hk;omega
    ·rw [f];omega
   ·rw [qab,qw,c];constructor
    ·rintro (⟨j,j1,j2⟩ | h);exact ⟨j,by omega,j2⟩
     ·exact ⟨m,by omega,h.symm⟩
    ·rintro ⟨j,j1,j2⟩;by_cases e:j=m;exact .inr (by rw [<- j2,e])
     ·exact .inl ⟨j,by omega,j2⟩
  | false=>
   rw [ql (by simp),qbw];refine ⟨h1,fun x=>?_⟩;unfold Lib.keeps at hk;rw [qbh,not_or] at hk;have g:d[m]! = d[m - 1]!:=Decidable.not_not.1 hk.2;rw [c];constructor;rintro ⟨j,j1,j2⟩;exact ⟨j,by omega,j2⟩
   ·rintro ⟨j,j1,j2⟩;by_cases e:j=m;exact ⟨m - 1,by omega,by rw [<- j2,e,g]⟩
    ·exact ⟨j,by omega,j2⟩
theorem kzy {xs v:List Int} (h:ko6 xs=some v):(Lib.compact v).Pairwise (·<·)/\∀ x,x∈Lib.compact v↔x∈xs:=by
 have hv:=(ks1 h).2;have hp:v.Pairwise fun x y=>x<=y:=by
  have:=List.pairwise_mergeSort (le:=fun x y:Int=>decide (x<=y)) (fun a b c h1 d=>by
   rw [qa6] at h1 d ⊢;omega) (fun a b=>by
   rw [qbv,qa6,qa6];omega) xs
  rw [hv];exact this.imp fun h=>by simpa using h
 have hm:∀ x,x∈v↔x∈xs:=fun x=>by rw [hv];exact List.mem_mergeSort
 obtain ⟨h1,d⟩:=kaeg v.toArray (fun i j g k=>by
  have f:j<v.length:=by simpa using k
  by_cases e:i=j;rw [e];exact Int.le_refl _
  ·have:=qbx.1 hp i j (by omega) f (by omega);rw [getElem!_pos v.toArray i (by simp;omega),getElem!_pos v.toArray j (by simp;omega)];simpa using this) v.length (by simp)
 refine ⟨h1,fun x=>?_⟩;rw [<- hm x];show x∈Lib.compactUpTo v.toArray v.length↔x∈v;rw [d];constructor;rintro ⟨j,j1,j2⟩;rw [getElem!_pos v.toArray j (by simpa using j1)] at j2;rw [<- j2];simp
 ·intro l;obtain ⟨j,j1,j2⟩:=qae.1 l;exact ⟨j,j1,by rw [getElem!_pos v.toArray j (by simpa using j1)];simpa using j2⟩
def kxy (a0:La) (rs:List Int) (ag:List (List Int)) (zs:List Int) (k:Nat) (n:Saa):Prop:=∃ r xs z q,rs[k]?=some r/\ag[k]?=some xs/\zs[k]?=some z/\idx a0.rules r=some q/\n=Saa.mk q.symbol z [Sac.mk r xs]
theorem k83 (a0:La) (rs:List Int) (ag:List (List Int)) (zs ids:List Int) (m:List (BA×Int)) (e:ag.length=rs.length) (f:zs.length=rs.length) (hl:rs.length<=1000) (hr:∀ r∈rs,0<=r/\r<(a0.rules.length:Int)) (hc:∀ xs∈ag,khh xs=some xs):
  ∃ ns,kab (kit a0 (rs,ag,zs,ids,m)) fuel (0,([]:List (Saa)))=some ns/\ns.length=rs.length/\∀ (k:Nat) n,ns[k]?=some n->kxy a0 rs ag zs k n:=by
 refine kv1 (step:=kit a0 (rs,ag,zs,ids,m)) rs.length (by omega)
  (fun i s=>s.1=(i:Int)/\s.2.length=i/\∀ (k:Nat) n,s.2[k]?=some n->kxy a0 rs ag zs k n)
  (fun ns=>ns.length=rs.length/\∀ (k:Nat) n,ns[k]?=some n->kxy a0 rs ag zs k n)
  (fun i s hi h=>?_) (fun s h=>?_) (0,[]) ⟨rfl,rfl,by simp⟩
 ·obtain ⟨si,ns⟩:=s;obtain ⟨h0,h1,b⟩:=h;simp only at h0 h1 b;subst h0;have e1:rs[i]?=some rs[i]:=qa hi;have e2:ag[i]?=some (ag[i]'(by omega)):=qa _;have e3:zs[i]?=some (zs[i]'(by omega)):=qa _;obtain ⟨g0,g1⟩:=hr rs[i] (qi hi);obtain ⟨q,q1,q2⟩:=kni a0.rules _ g0 g1;have a:kit a0 (rs,ag,zs,ids,m) ((i:Int),ns)=some (.inl (((i+1:Nat):Int),ns++[Saa.mk q.symbol (zs[i]'(by omega)) [Sac.mk rs[i] (ag[i]'(by omega))]])):=by unfold kit;show (bif decide ((i:Int)<(rs.length:Int)) then _ else _)=_;rw [show (decide ((i:Int)<(rs.length:Int)))=true by simpa using hi,qe];simp only [kac,e1,e2,e3,qb,q1];rw [hc _ (qi _)];simp only [qb];rw [kcv (by simp;omega)];simp only [qb];rw [kbh _]
  refine ⟨_,a,rfl,by simp [h1],?_⟩;intro k n hk;by_cases c:k<ns.length;rw [qy c] at hk;exact b k n hk
  ·have d:k=ns.length:=(by have:=(qf.1 hk).1;simp at this;omega);rw [d,List.getElem?_concat_length] at hk;cases hk;rw [d,h1];exact ⟨_,_,_,q,e1,e2,e3,q1,rfl⟩
 ·obtain ⟨si,ns⟩:=s;obtain ⟨h0,h1,b⟩:=h;simp only at h0;subst h0;refine ⟨ns,?_,h1,b⟩;unfold kit;show (bif decide ((rs.length:Int)<(rs.length:Int)) then _ else _)=_;rw [show (decide ((rs.length:Int)<(rs.length:Int)))=false by simp,qd]
def OfQ (G:Tm->Prop) (a0:La) (xs:List Tm) (ns:List Saa) (roots:List Int):Prop:=∃ m rs ag zs ts,∃ js:List Nat,km3 m rs ag zs ts/\ts.length<=24*xs.length/\(∀ x∈ts,G x)/\ns.length=ts.length/\(∀ (k:Nat) n,ns[k]?=some n->kxy a0 rs ag zs k n)/\(∀ j∈js,j<ts.length)/\js.map (fun j=>ts[j]?)=xs.map some/\roots.Pairwise (·<·)/\∀ x,x∈roots↔∃ j∈js,x=((j:Nat):Int)
theorem kac9 (G:Tm->Prop) (g:∀ r l,G (Tm.mk r l)->∀ a∈l,G a) (a0:La) (f:∀ t,G t->t.size<=1000/\0<=t.rule/\t.rule<(a0.rules.length:Int)) (xs:List Tm) (hl:xs.length<=12) (hs:∀ t∈xs,t.size<=24) (hr:∀ t∈xs,∀ r∈t.rules,inI r=true) (h:∀ t∈xs,G t) (hC:kio a0=some 0) (i:kab (kgn a0 xs) fuel (0)=some (.inl ())):∃ ns roots,kjn a0 xs=some (0,ns,roots)/\OfQ G a0 xs ns roots:=by
 obtain ⟨⟨rs,ag,zs,ids,m⟩,p1,ts,js,p2,p3,p4,p5,p6,p7⟩:=kac5 g xs hl hs hr h;simp only at p2 p3;have b:rs.length=ts.length:=by rw [p2.lr,qaa]
 have e:zs.length=ts.length:=by rw [p2.lz,qaa]
 have n:js.length=xs.length:=by simpa using qan List.length p5
 obtain ⟨ns,n1,n2,n3⟩:=k83 a0 rs ag zs ids m (by rw [b,p2.la]) (by rw [b,e]) (by omega) (fun r hr=>by
  rw [p2.lr] at hr;obtain ⟨t,t1,t2⟩:=qad.1 hr;rw [<- t2];exact (f t (p7 t t1)).2) (fun ys hy=>by
  obtain ⟨k,hk⟩:=qap.1 hy;have d:=(qf.1 hk).1;have ht:ts[k]?=some (ts[k]'(by rw [<- p2.la];exact d)):=qa _;obtain ⟨ls,a1,a2,a3⟩:=p2.ar k ys _ hk ht;have e1:=qan List.length a3;simp only [qaa] at e1;have e2:=(f _ (p7 _ (qo ht))).1;have e3:∀ t:Tm,t.args.length<=t.size:=fun t=>by
   cases t with
   | mk r l=>
    rw [Tm.size];have:=krk l;simp only [Tm.args];omega
  have e4:=e3 (ts[k]'(by rw [<- p2.la];exact d));unfold khh;rw [kcv (by rw [a1,qaa];simp only [qb1];omega)];rfl)
 have c:ko6 ids=some (ids.mergeSort fun x y=>decide (x<=y)):=by unfold ko6;rw [show Nat.blt ids.length 4611686018427387904=true by rw [Nat.blt_eq,p3,qaa];omega,qe]
 refine ⟨ns,Lib.compact (ids.mergeSort fun x y=>decide (x<=y)),?_,m,rs,ag,zs,ts,js,p2,p6,p7,by rw [n2,b],n3,p4,p5,(kzy c).1,fun x=>?_⟩;unfold kjn;rw [hC];simp only [qb];rw [show ((0:Int) != 0)=false from rfl,qd,show decide ((4096:Int)<(xs.length:Int))=false by rw [qbh];omega,qd,i];simp only [qb,q9,kkm];rw [p1];simp only [qb,q9];rw [n1];simp only [qb];rw [c];simp only [qb]
 ·rw [(kzy c).2,p3,qad];constructor;rintro ⟨j,j1,j2⟩;exact ⟨j,j1,j2.symm⟩
  ·rintro ⟨j,j1,j2⟩;exact ⟨j,j1,j2.symm⟩
set_option maxRecDepth 100000
inductive Dv (l:La):Int->Tm->Prop where
 | mk {r:Nat} {ts:List Tm} (hr:r<l.rules.length) (hl:(kl2 l r).length=ts.length) (ha:∀ (i:Nat) (a:Int) (t:Tm),(kl2 l r)[i]?=some a->ts[i]?=some t->Dv l a t):Dv l (kh2 l r) (Tm.mk (r:Int) ts)
theorem kabv:∀ (n:Nat) (l:La) (s:Int) (t:Tm),t.size<=1000->t.size<=n->(∀ x∈l.rules,x.kind≠3->x.args.length=0)->kc8 n l s t=some 0->Dv l s t
 | 0,l,s,t,_,h,_,_=>by have:=Tm.size_pos t;omega
 | n+1,l,s,t,hs,hn,hk,h=>by
  have h:khq (kc8 n) l s t=some 0:=h;unfold khq at h;obtain ⟨b,h1,h⟩:=kig h;rcases kie h with ⟨_,h⟩ | ⟨f,h⟩;cases h;subst f;have hr:0<=t.rule/\t.rule<(l.rules.length:Int):=by
   rcases kie h1 with ⟨_,h1⟩ | ⟨q,h1⟩;cases h1
   ·have q:=qbt q;have q2:=qbt (qaj h1);omega
  obtain ⟨x,k,h⟩:=kig h;rcases kie h with ⟨_,h⟩ | ⟨d,h⟩;cases h;rcases kie h with ⟨_,h⟩ | ⟨hl,h⟩;cases h;have hl:t.args.length=x.args.length:=by have:=qbc.1 hl;omega
  have d:x.symbol=s:=qbc.1 d;obtain ⟨v,o,h⟩:=kig h;have hv:∀ c:Int,c≠0->(.inr c:Unit ⊕ Int)≠v:=fun c hc p=>by subst p;cases h;exact hc rfl
  have w:=khg t;have y:=kh7 t.args;have hst:∀ (i:Nat) (hi:i<t.args.length),∃ c,kc8 n l (x.args[i]'(by omega)) t.args[i]=some c/\ke3 l t (kc8 n) x (i:Int)=(bif c != 0 then some (.inr (.inr c)) else some (.inl ((i+1:Nat):Int))):=fun i hi=>by have hm:=Tm.sizeL_mem (qi hi);obtain ⟨c,c1,_⟩:=kpl n l (x.args[i]'(by omega)) t.args[i] (by omega) (by omega) hk;refine ⟨c,c1,?_⟩;simp only [ke3,kaq hi,qe,kac,qa hi,qa (show i<x.args.length by omega),qb,c1,kaj hi (show t.args.length<=9223372036854775807 by omega)]
  have g:=fun i (hi:i<t.args.length)=>kp3 (step:=ke3 l t (kc8 n) x) t.args.length (fun i=>(i:Int)) v (fun i hi=>by
   obtain ⟨c,_,c2⟩:=hst i hi;rw [c2];cases hc:(c != 0) with
   | true=>exact .inr ⟨_,rfl,hv c (by simpa using hc)⟩
   | false=>exact .inl rfl) fuel 0 o i (qau _) hi
  obtain ⟨r,e⟩:∃ r:Nat,t.rule=(r:Int):=⟨t.rule.toNat,by omega⟩;have j:r<l.rules.length:=by omega
  have m:l.rules[r]?=some x:=by rw [e,kac] at k;exact k
  have e1:kh2 l r=s:=by unfold kh2;rw [m];exact d
  have e2:kl2 l r=x.args:=by unfold kl2;rw [m];rfl
  have key:Dv l (kh2 l r) (Tm.mk (r:Int) t.args) := .mk j (by rw [e2];omega) fun i a u ha hu=>by
   rw [e2] at ha;obtain ⟨hi,rfl⟩:=qf.1 hu;obtain ⟨z,rfl⟩:=qf.1 ha;obtain ⟨c,c1,c2⟩:=hst i hi;have f:=g i hi;rw [c2] at f;have hm:=Tm.sizeL_mem (qi hi);cases hc:(c != 0) with
   | true=>rw [hc] at f;cases f
   | false=>
    have hc:=qbc.1 hc;subst hc;exact kabv n l _ t.args[i] (by omega) (by omega) hk c1
  rw [e1] at key;cases t with
  | mk q ts=>
   simp only [Tm.rule,Tm.args] at e key;rw [e];exact key
theorem Dv.inv {l:La} {s:Int} {t:Tm} (h:Dv l s t):∃ r:Nat,t.rule=(r:Int)/\r<l.rules.length/\s=kh2 l r/\(kl2 l r).length=t.args.length/\∀ (i:Nat) (a:Int) (u:Tm),(kl2 l r)[i]?=some a->t.args[i]?=some u->Dv l a u:=by
 cases h with
 | mk hr hl ha=>exact ⟨_,rfl,hr,rfl,hl,ha⟩
theorem Dv.sym {l:La} {s:Int} {t:Tm} (h:Dv l s t):s=kh2 l t.rule.toNat:=by obtain ⟨r,h1,_,a,_⟩:=h.inv;rw [h1,qa0,a]
theorem Dv.args {l:La} {s:Int} {t:Tm} (h:Dv l s t):t.args.map (fun u=>kh2 l u.rule.toNat)=kl2 l t.rule.toNat:=by
 obtain ⟨r,h1,_,_,b,a⟩:=h.inv;rw [h1,qa0];refine qbz fun i=>?_;rw [qr];by_cases hi:i<t.args.length;have e1:=qa hi;have e2:=qa (show i<(kl2 l r).length by omega);rw [e1,e2,qax,<- (a i _ _ e2 e1).sym]
 ·rw [qaq (by omega),qaq (by omega)];rfl
theorem Dv.arg {l:La} {s:Int} {t:Tm} (h:Dv l s t) {u:Tm} (hu:u∈t.args):∃ a,Dv l a u:=by obtain ⟨r,_,_,_,d,b⟩:=h.inv;obtain ⟨i,hi⟩:=qap.1 hu;have c:=kcg hi;exact ⟨_,b i _ u (qa (show i<(kl2 l r).length by omega)) hi⟩
inductive Sub (u:Tm):Tm->Prop where
 | refl:Sub u u
 | arg {r:Int} {l:List Tm} {a:Tm} (ha:a∈l) (h:Sub u a):Sub u (Tm.mk r l)
theorem Sub.down {r:Int} {l:List Tm} {t a:Tm} (h:Sub (Tm.mk r l) t) (ha:a∈l):Sub a t:=by
 induction h with
 | refl=>exact .arg ha .refl
 | arg b _ ih=>exact .arg b ih
def GT (l:La) (xs:List Tm) (t:Tm):Prop:=t.size<=24/\(∃ s,Dv l s t)/\∃ x∈xs,Sub t x
theorem GT.down {l:La} {xs:List Tm} {r:Int} {ts:List Tm} (h:GT l xs (Tm.mk r ts)):∀ a∈ts,GT l xs a:=fun a ha=>by obtain ⟨h1,⟨s,b⟩,x,c,d⟩:=h;have:=Tm.sizeL_mem ha;rw [Tm.size] at h1;exact ⟨by omega,b.arg ha,x,c,d.down ha⟩
def cI (js:List Nat):List Int:=js.map fun (j:Nat)=>(j:Int)
structure SpT (l:La) (xs:List Tm) (s:Spa) (ts:List Tm):Prop where
 len:s.ya.length=ts.length
 few:ts.length<=288
 node:∀ (k:Nat) (t:Tm),ts[k]?=some t->∃ js:List Nat,s.ya[k]?=some ⟨kh2 l t.rule.toNat,(t.size:Int),[⟨t.rule,cI js⟩]⟩/\(∀ j∈js,j<k)/\js.map (fun j=>ts[j]?)=t.args.map some
 nd:ts.Nodup
 gt:∀ t∈ts,GT l xs t
 has:∀ t∈xs,t∈ts
 asc:s.yf.Pairwise (·<·)
 root:∀ x,x∈s.yf↔∃ j:Nat,x=(j:Int)/\∃ t∈xs,ts[j]?=some t
theorem kagg {l:La} {xs:List Tm} {ns:List Nod} {roots:List Int} (e:xs.length<=12) (h:OfQ (GT l xs) l xs ns roots):∃ ts,SpT l xs ⟨ns,roots⟩ ts:=by
 obtain ⟨m,rs,ag,zs,ts,js,h1,v,f,g,n,c,d,o,p⟩:=h;refine ⟨ts,g,by omega,fun k t ht=>?_,h1.nd,f,fun t ht=>?_,o,fun x=>(p x).trans ⟨?_,?_⟩⟩
 ·have hk:=kcg ht;have hn:=qa (show k<ns.length by omega);obtain ⟨r,ys,z,q,a1,a2,a3,a4,a5⟩:=n k _ hn;obtain ⟨is,b1,b2,b3⟩:=h1.ar k ys t a2 ht;rw [h1.lr,qr,ht] at a1;rw [h1.lz,qr,ht] at a3;injection a1 with a1;injection a3 with a3;refine ⟨is,?_,b2,b3⟩;show ns[k]?=_;rw [hn,a5];obtain ⟨_,⟨s,u⟩,_⟩:=f t (qo ht);obtain ⟨i,hi,_⟩:=u.inv;have:q.symbol=kh2 l t.rule.toNat:=by rw [<- a1,hi,kac] at a4;rw [hi,qa0];unfold kh2;rw [a4];rfl
  rw [this,<- a1,<- a3,b1];rfl
 ·have:some t∈js.map fun j=>ts[j]?:=by rw [d];exact qad.2 ⟨t,ht,rfl⟩
  obtain ⟨i,hi,a⟩:=qad.1 this;exact qo a
 ·rintro ⟨j,b,rfl⟩;refine ⟨j,rfl,ts[j]'(c j b),?_,qa _⟩;have:ts[j]?∈xs.map some:=by rw [<- d];exact qad.2 ⟨j,b,rfl⟩
  obtain ⟨x,e,a⟩:=qad.1 this;rw [qa (c j b)] at a;injection a with a;rw [<- a];exact e
 ·rintro ⟨j,rfl,t,ht,b⟩;have:some t∈js.map fun j=>ts[j]?:=by rw [d];exact qad.2 ⟨t,ht,rfl⟩
  obtain ⟨i,hi,a⟩:=qad.1 this;have:i=j:=(List.getElem?_inj (c i hi) h1.nd).1 (a.trans b.symm);exact ⟨i,hi,by rw [this]⟩
section
variable {l:La} {xs:List Tm} {s:Spa} {ts:List Tm} (hS:SpT l xs s ts)
include hS
theorem SpT.at {k:Nat} {n:Nod} (hn:s.ya[k]?=some n):∃ t js,ts[k]?=some t/\t∈ts/\n=⟨kh2 l t.rule.toNat,(t.size:Int),[⟨t.rule,cI js⟩]⟩/\(∀ j∈js,j<k)/\js.map (fun j=>ts[j]?)=t.args.map some:=by have hk:=kcg hn;have hl:=hS.len;have ht:=qa (show k<ts.length by omega);obtain ⟨js,h1,a,b⟩:=hS.node k _ ht;rw [hn] at h1;injection h1 with h1;exact ⟨_,js,ht,qi _,h1,a,b⟩
theorem SpT.sz (j:Nat):szAt s.ya (j:Int)=((ts[j]?).map fun t=>(t.size:Int)).getD 0:=by
 unfold szAt;rw [qa0];by_cases a:j<ts.length;have ht:=qa a;obtain ⟨js,h1,_⟩:=hS.node j _ ht;rw [h1,ht];rfl
 ·have hl:=hS.len;rw [qaq (by omega),qaq (by omega)];rfl
theorem SpT.sy (j:Nat):syAt s.ya (j:Int)=((ts[j]?).map fun t=>kh2 l t.rule.toNat).getD 0:=by
 unfold syAt;rw [qa0];by_cases a:j<ts.length;have ht:=qa a;obtain ⟨js,h1,_⟩:=hS.node j _ ht;rw [h1,ht];rfl
 ·have hl:=hS.len;rw [qaq (by omega),qaq (by omega)];rfl
theorem SpT.szs {js:List Nat} {us:List Tm} (h:js.map (fun j=>ts[j]?)=us.map some):(cI js).map (szAt s.ya)=us.map fun u=>(u.size:Int):=by have:=qan (List.map fun o:Option Tm=>(o.map fun t=>(t.size:Int)).getD 0) h;rw [List.map_map,List.map_map] at this;unfold cI;rw [List.map_map];refine Eq.trans (qbf fun j _=>?_) (this.trans (qbf fun u _=>rfl));exact hS.sz j
theorem SpT.sys {js:List Nat} {us:List Tm} (h:js.map (fun j=>ts[j]?)=us.map some):(cI js).map (syAt s.ya)=us.map fun u=>kh2 l u.rule.toNat:=by have:=qan (List.map fun o:Option Tm=>(o.map fun t=>kh2 l t.rule.toNat).getD 0) h;rw [List.map_map,List.map_map] at this;unfold cI;rw [List.map_map];refine Eq.trans (qbf fun j _=>?_) (this.trans (qbf fun u _=>rfl));exact hS.sy j
theorem SpT.rul (d:kns l):RulP l s.ya:=fun i n hn=>by
 obtain ⟨t,js,h1,f,rfl,j,g⟩:=hS.at hn;obtain ⟨_,⟨a,c⟩,_⟩:=hS.gt t f;obtain ⟨r,hr,b,h,_⟩:=c.inv;have e:t.rule.toNat=r:=by rw [hr,qa0]
 obtain ⟨y,y0,y1,y2,y3⟩:=ku9 l b;refine ⟨?_,fun o ho=>?_⟩;show kh2 l t.rule.toNat<_;rw [e,<- y1];exact (d.good y y3).sym1
 ·rw [qw.1 ho];refine ⟨r,b,hr,by rw [e],?_⟩;show (cI js).map (syAt s.ya)=_;rw [hS.sys g,c.args,e]
omit hS in
theorem k81 (us:List Tm):(us.map fun u=>(u.size:Int)).sum=(Tm.sizeL us:Int):=by
 induction us with
 | nil=>rfl
 | cons u us ih=>rw [qas,List.sum_cons,ih,Tm.sizeL];omega
theorem SpT.form (A:kns l):kc6 s:=by
 have hl:=hS.len;have w:=hS.few;refine ⟨by omega,⟨fun x B=>?_,fun i x y h1 c=>k6a hS.asc i x y h1 c⟩,fun i n hn=>?_,?_,fun i k n m o p hn hm ho hp d=>?_⟩;obtain ⟨j,rfl,t,_,f⟩:=(hS.root x).1 B;have:=kcg f;omega
 ·obtain ⟨t,js,h1,c,rfl,z,g⟩:=hS.at hn;obtain ⟨F,⟨a,q⟩,_⟩:=hS.gt t c;obtain ⟨r,hr,v,C,_⟩:=q.inv;have e:t.rule.toNat=r:=by rw [hr,qa0]
  obtain ⟨y,y0,y1,y2,y3⟩:=ku9 l v;have hp:=Tm.size_pos t;refine ⟨?_,⟨by show (1:Int)<=(t.size:Int);omega,by show (t.size:Int)<=24;omega⟩,fun o ho=>?_,fun k o p G D=>by simp at D⟩;show 0<=kh2 l t.rule.toNat;rw [e,<- y1];exact (A.good y y3).sym0
  ·rw [qw.1 ho];refine ⟨by show 0<=t.rule;omega,fun a ha=>?_,?_⟩;obtain ⟨j,f,rfl⟩:=qad.1 (show a∈js.map _ from ha);have:=z j f;omega
   ·show 1+((cI js).map (szAt s.ya)).sum=(t.size:Int);rw [hS.szs g,k81,<- khg t];omega
 ·have key:∀ ns:List Nod,(∀ n∈ns,n.yc.length=1)->optN ns=ns.length:=fun ns=>by
   unfold optN
   induction ns with
   | nil=>intro _;rfl
   | cons n ns ih=>
    intro h;rw [qas,List.sum_cons,ih fun m hm=>h m (qj _ hm),h n (qn ..),qbd];omega
  rw [key _ fun n hn=>by obtain ⟨i,hi⟩:=qap.1 hn;obtain ⟨t,js,_,_,rfl,_⟩:=hS.at hi;rfl];omega
 ·obtain ⟨t,js,h1,c,rfl,z,g⟩:=hS.at hn;obtain ⟨u,is,g1,g2,rfl,g3,g4⟩:=hS.at hm;rw [qw.1 ho,qw.1 hp] at d;have d:t.rule=u.rule:=d;obtain ⟨_,⟨a,q⟩,_⟩:=hS.gt t c;obtain ⟨_,⟨b,E⟩,_⟩:=hS.gt u g2;rw [qw.1 ho,qw.1 hp];refine ⟨by show kh2 l t.rule.toNat=kh2 l u.rule.toNat;rw [d],?_⟩;show (cI js).map (syAt s.ya)=(cI is).map (syAt s.ya);rw [hS.sys g,hS.sys g4,q.args,E.args,d]
omit hS in
theorem k4i {ns:List Nod}:∀ (js:List Nat) (us:List Tm),(∀ u∈us,∀ i,Bt ns i u->ts[i]?=some u)->Bts ns (cI js) us->js.map (fun j=>ts[j]?)=us.map some
 | [],us,_,h=>by cases h;rfl
 | j::js,us,hu,h=>by
  cases h with
  | cons h0 ht hs=>
   rw [qas,qas,k4i js _ (fun u h=>hu u (qj _ h)) hs];congr 1;exact hu _ (qn ..) j ht
omit hS in
theorem k8c {ns:List Nod}:∀ (js:List Nat) (us:List Tm),(∀ u∈us,∀ i,ts[i]?=some u->Bt ns i u)->js.map (fun j=>ts[j]?)=us.map some->Bts ns (cI js) us
 | [],[],_,_ => .nil
 | [],_::_,_,h=>by simp at h
 | _::_,[],_,h=>by simp at h
 | j::js,u::us,hu,h=>by rw [qas,qas] at h;injection h with h1 a;exact .cons (Int.natCast_nonneg j) (hu u (qn ..) j h1) (k8c js us (fun v hv=>hu v (qj _ hv)) a)
theorem SpT.bt:∀ (t:Tm) (i:Nat),Bt s.ya i t↔ts[i]?=some t:=by
 refine Tm.ind fun r us ih=>?_;intro i;constructor
 ·intro h;obtain ⟨n,o,vs,hn,ho,a,hs⟩:=h.inv;obtain ⟨t,js,h1,c,rfl,b,d⟩:=hS.at hn;rw [qw.1 ho] at a hs;injection a with e1 e2;subst e2;have:=k4i (ts:=ts) js us (fun u hu i=>(ih u hu i).1) hs;rw [d] at this;have:=kpk this;rw [h1];cases t with
  | mk q ws=>
   simp only [Tm.rule,Tm.args] at e1 this;rw [e1,this]
 ·intro h;obtain ⟨js,h1,c,b⟩:=hS.node i _ h;have e:=k8c (ts:=ts) (ns:=s.ya) js us (fun u hu i=>(ih u hu i).2) b;exact Bt.mk (o:=⟨r,cI js⟩) h1 (qw.2 rfl) e
theorem SpT.uniq:k0s s.ya:=fun t i j h1 a=>by have h1:=(hS.bt t i).1 h1;have a:=(hS.bt t j).1 a;exact (List.getElem?_inj (kcg h1) hS.nd).1 (h1.trans a.symm)
theorem SpT.fewT:FewT s.ya:=fun i=>by
 by_cases hi:i<ts.length
 ·have ht:=qa hi;refine ⟨[ts[i]],by simp,fun u hu=>?_,fun t h=>?_⟩;rw [qw.1 hu];have:=(hS.gt _ (qi hi)).1;omega
  ·have:=(hS.bt t i).1 h;rw [ht] at this;injection this with this;rw [this];exact qw.2 rfl
 ·exact ⟨[],by simp,by simp,fun t h=>absurd (kcg ((hS.bt t i).1 h)) hi⟩
theorem SpT.ins (t:Tm):InS s t↔t∈xs:=by
 constructor;rintro ⟨r,hr,h0,b⟩;obtain ⟨j,rfl,u,hu,a⟩:=(hS.root r).1 hr;rw [qa0] at b;have:=(hS.bt t j).1 b;rw [a] at this;injection this with this;rw [<- this];exact hu
 ·intro h;obtain ⟨j,a⟩:=qap.1 (hS.has t h);exact ⟨(j:Int),(hS.root _).2 ⟨j,rfl,t,h,a⟩,by omega,by rw [qa0];exact (hS.bt t j).2 a⟩
theorem SpT.nd_sub {f:Nat->Bool} (hf:∀ i,i<ts.length->f i=true) {u t:Tm} (h:Sub u t):∀ j,ts[j]?=some t->Nd s f j->∀ i,ts[i]?=some u->Nd s f i:=by
 induction h with
 | refl=>
  intro j c d i hi;have:=(List.getElem?_inj (kcg c) hS.nd).1 (c.trans hi.symm);rw [<- this];exact d
 | @arg r us a ha h ih=>
  intro j c d i hi;obtain ⟨js,h1,g,l⟩:=hS.node j _ c;have hm:some a∈js.map fun j=>ts[j]?:=by rw [l];exact qad.2 ⟨a,ha,rfl⟩
  obtain ⟨k,hk,e⟩:=qad.1 hm;have m:=kcg c;refine ih k e ?_ i hi;have:=Nd.arg (s:=s) (f:=f) (o:=⟨r,cI js⟩) (a:=(k:Int)) d h1 (qw.2 rfl) (qs.2 fun b n=>by obtain ⟨q,p,rfl⟩:=qad.1 (show b∈js.map _ from n);have:=g q p;exact hf _ (by rw [qa0];omega)) (qad.2 ⟨k,hk,rfl⟩)
  rwa [qa0] at this
theorem SpT.trim (m:kns l):kb3 s=some (s,0):=by
 have hf:=hS.form m;have hl:=hS.len;obtain ⟨r,hr,h⟩:=kagd (kqp hf);rcases h with ⟨h0,_⟩ | ⟨_,L,Q,e,rfl⟩;exact absurd hf h0;have hk:=kaf5 e;have h1:∀ i,i<s.ya.length->fg L i=true:=fun i hi=>
  hk.full i _ ((hS.bt _ i).2 (qa (show i<ts.length by omega)))
 have n:∀ i,i<s.ya.length->fg Q i=true:=fun i hi=>by
  have hi:i<ts.length:=by omega
  have c:=qa hi;obtain ⟨_,_,x,g,b⟩:=hS.gt _ (qi hi);obtain ⟨j,d⟩:=qap.1 (hS.has x g);have o:=kcg d;have a:=Nd.root (s:=s) (f:=fg L) ((hS.root (j:Int)).2 ⟨j,rfl,x,g,d⟩) (h1 _ (by rw [qa0];omega));rw [qa0] at a;exact (e.need i).2 (hS.nd_sub (fun k hk=>h1 k (by omega)) b j d a i c)
 rw [hr,kacf hf h1 n]
end
theorem k30 {t:Tm} (h:cmpT t t<0):False:=by have:=cmpT_eq0.2 (rfl:t=t);omega
theorem k7c:∀ (xs ys:List Tm),SLt xs->SLt ys->(∀ u,u∈xs↔u∈ys)->xs=ys
 | [],[],_,_,_=>rfl
 | [],y::ys,_,_,h=>by have:=(h y).2 (qn ..);simp at this
 | x::xs,[],_,_,h=>by have:=(h x).1 (qn ..);simp at this
 | x::xs,y::ys,d,hy,h=>by
  obtain ⟨x1,x2⟩:=List.pairwise_cons.1 d;obtain ⟨y1,y2⟩:=List.pairwise_cons.1 hy;have e:x=y:=by
   rcases qam.1 ((h x).1 (qn ..)) with e | a;exact e
   ·rcases qam.1 ((h y).2 (qn ..)) with e | b;exact e.symm
    ·have h1:=y1 x a;have f:=x1 y b;have:=kof x y;omega
  subst e;congr 1;refine k7c xs ys x2 y2 fun u=>⟨fun hu=>?_,fun hu=>?_⟩
  ·rcases qam.1 ((h u).1 (qj _ hu)) with e | c;subst e;exact (k30 (x1 u hu)).elim
   ·exact c
  ·rcases qam.1 ((h u).2 (qj _ hu)) with e | c;subst e;exact (k30 (y1 u hu)).elim
   ·exact c
section
variable {l:La} {xs:List Tm} {s:Spa} {ts:List Tm} (hS:SpT l xs s ts)
include hS
theorem SpT.proper (f:kns l) (hc:kbv l=some 0) (k:xs.length<=12) {want:List Tm} (m:SLt want) (a:∀ u,u∈want↔u∈xs):ke8 l s want=some true:=by
 have hf:=hS.form f;have g:=k07 f hc hf (hS.rul f);have c:∀ t∈xs,t.size<=24:=fun t ht=>(hS.gt t (hS.has t ht)).1;unfold ke8;rw [g,qb,show ((0:Int) != 0)=false from rfl,qd];obtain ⟨b,n,i⟩:=k8k hf;rw [n,qb];cases b with
 | false=>rfl
 | true=>
  rw [qa9,qd];obtain ⟨_,d⟩:=i rfl;obtain ⟨⟨X,e⟩,o,rfl,x1,x2⟩:=kzx hf hS.fewT xs (by omega) (fun u hu=>by have:=c u hu;omega) (fun t h=>(hS.ins t).1 h);simp only at x1 x2;have p:X=want:=k7c X want x1 m fun u=>(x2 u).trans ((hS.ins u).trans (a u).symm);subst p;rw [o,qb];simp only;have j:X.length<=xs.length:=x1.len fun u hu=>(a u).1 hu;rw [show ((0:Int) == 0)=true from rfl,qe,k8i X (by omega) (fun u hu=>by have:=c u ((a u).1 hu);omega),qb,qe,unamb hf hS.uniq hS.fewT (hS.trim f) d];rfl
end
theorem kafp {xs:List Tm} {t:Tm} (hs:SLt xs) {n:Nat} (hn:n<=xs.length) (h1:∀ j (d:j<xs.length),n<=j->0<cmpT xs[j] t) (f:∀ j (d:j<xs.length),j<n->cmpT xs[j] t<0):
  SLt (xs.take n++[t]++xs.drop n)/\∀ u,u∈xs.take n++[t]++xs.drop n↔u∈xs\/u=t:=by
 have e:=qbx.1 hs;constructor
 ·unfold SLt;rw [qa8,List.pairwise_append];refine ⟨List.Pairwise.sublist (List.take_sublist _ _) hs,?_,fun a ha b c=>?_⟩;rw [List.singleton_append,List.pairwise_cons];refine ⟨fun b c=>?_,List.Pairwise.sublist (List.drop_sublist _ _) hs⟩;obtain ⟨j,d,rfl⟩:=qae.1 c;rw [qa1] at d;rw [List.getElem_drop];have:=h1 (n+j) (by omega) (by omega);rw [kof];omega
  ·obtain ⟨i,hi,rfl⟩:=qae.1 ha;rw [qai] at hi;rw [List.getElem_take];rw [List.singleton_append] at c;rcases qam.1 c with rfl | c;exact f i (by omega) (by omega)
   ·obtain ⟨j,d,rfl⟩:=qae.1 c;rw [qa1] at d;rw [List.getElem_drop];exact e i (n+j) (by omega) (by omega) (by omega)
 ·intro u;have:u∈xs↔u∈xs.take n\/u∈xs.drop n:=by rw [<- qab,List.take_append_drop]
  rw [this];simp only [qab,qw];constructor
  ·rintro ((h | h) | h);exact .inl (.inl h);exact .inr h
   ·exact .inl (.inr h)
  ·rintro ((h | h) | h);exact .inl (.inl h);exact .inr h
   ·exact .inl (.inr h)
theorem kabs {xs:List Tm} {t:Tm} (hs:SLt xs) (k:∀ u∈xs,u.size<=1000) (ht:t.size<=1000) (hl:xs.length<=100000:=by omega):Ev (kcs xs t) fun r=>SLt r/\∀ u,u∈r↔u∈xs\/u=t:=by
 unfold kcs;have c:=qbx.1 hs;refine kdp (Ev.mono (kpv (step:=kff xs t) (Q:=fun v=>Sum.elim (fun m:Int=>∃ n:Nat,m=(n:Int)/\n<=xs.length/\(∀ j (a:j<xs.length),n<=j->0<cmpT xs[j] t)/\∀ j (a:j<xs.length),j<n->cmpT xs[j] t<0) (fun l=>l=xs/\t∈xs) v)
  (fun v=>∃ n:Nat,v=(n:Int)/\n<=xs.length/\∀ j (a:j<xs.length),n<=j->0<cmpT xs[j] t) (fun v=>v.toNat) (by show (xs.length:Int).toNat<_;omega) ⟨xs.length,rfl,qx _,fun j a h=>by omega⟩ ?_) ?_)
 ·rintro v ⟨n,rfl,hn,h1⟩;by_cases h0:0<n
  ·have b:n - 1<xs.length:=(by omega);have hm:=qi b;have ha:=kof t xs[n - 1];have e1:w64 ((n:Int) - 1)=((n - 1:Nat):Int):=(by rw [kgv];omega);have e2:decide ((0:Int)<(n:Int))=true:=qh (by omega);simp only [kff,e2,qe,e1,kac,qa b,qb,kpc _ _ ht (k _ hm)];by_cases f:cmpT t xs[n - 1]<=0
   ·rw [qh f,qe];by_cases g:cmpT t xs[n - 1]=0;rw [show (cmpT t xs[n - 1] == 0)=true by simp [g],qe];have e:=cmpT_eq0.1 g;exact ⟨_,rfl,rfl,by rw [e];exact hm⟩
    ·rw [show (cmpT t xs[n - 1] == 0)=false by simp [g],qd];refine ⟨_,rfl,⟨n - 1,rfl,by omega,fun j a o=>?_⟩,by show ((n - 1:Nat):Int).toNat<(n:Int).toNat;omega⟩;by_cases d:j=n - 1;subst d;omega
     ·exact h1 j a (by omega)
   ·rw [qg f,qd];refine ⟨_,rfl,n,rfl,hn,h1,fun j a d=>?_⟩;by_cases i:j=n - 1;subst i;omega
    ·exact kui (c j (n - 1) a b (by omega)) (by omega)
  ·obtain rfl:n=0:=(by omega);exact ⟨.inr (.inl 0),by simp only [kff];rfl,0,rfl,by omega,h1,fun j a h=>by omega⟩
 ·rintro v hv;cases v with
  | inr r=>
   obtain ⟨rfl,hm⟩:=hv;exact ⟨_,rfl,hs,fun u=>⟨.inl,fun h=>h.elim id fun e=>by rw [e];exact hm⟩⟩
  | inl m=>
   obtain ⟨n,rfl,hn,h1,f⟩:=hv;rw [q9];have e1:cutL xs 0 (n:Int)=some (xs.take n):=(by unfold cutL;rw [qp ⟨by omega,by omega,by omega⟩];simp);have e2:cutL xs (n:Int) xs.length=some (xs.drop n):=(by unfold cutL;rw [qp ⟨by omega,by omega,by omega⟩];simp);have p:(xs.take n).length<=n:=(by rw [qai];omega);rw [e1,qb,kcv (by simp only [qb1];omega),qb,List.nil_append,kcv (by simp only [qar];omega),qb,e2,qb,
    kcv (by simp only [qag,qar,qa1];omega),qb]
   exact ⟨_,rfl,kafp hs hn h1 f⟩
theorem k41:∀ (n:Nat) (t:Tm),t.size<=n->t.size<=1000->kc7 n t=some t
 | 0,t,h,_=>by have:=Tm.size_pos t;omega
 | n+1,t,h,c=>by
  show kgf (kc7 n) t=some t;unfold kgf;have a:=khg t;have b:=kh7 t.args;have key:=kin (kd3 t (kc7 n)) t.args.length (fun i=>((i:Int),t.args.take i)) t.args (fun i hi=>by have hm:=Tm.sizeL_mem (qi hi);simp only [kd3,kaq hi,qe,kac,qa hi,qb,k41 n t.args[i] (by omega) (by omega),kaj hi (show t.args.length<=9223372036854775807 by omega)];rw [kcv (by rw [qai,qar];omega),qb,List.take_append_getElem hi]) (by simp only [kd3,kal,qd,qal]);have key:kab (kd3 t (kc7 n)) fuel (0,([]:List Tm))=some t.args:=by simpa using key
  rw [key,qb];cases t;rfl
theorem kwr {xs r:List Tm} {t:Tm} (h:SLt r) (hm:∀ u,u∈r↔u∈xs\/u=t):r.length<=xs.length+1:=by
 have:=h.len (X:=xs++[t]) fun u hu=>by rw [qab,qw];exact (hm u).1 hu
 rw [qag,qar] at this;exact this
theorem k45 (P:Tm->Prop) (step:List Tm×Int->Option ((List Tm×Int) ⊕ List Tm)) (ys:List Tm) (hs:∀ xs (i:Nat) (hi:i<ys.length),xs.length<=10000->step (xs,(i:Int))=(kcs xs ys[i]).bind fun v=>some (.inl (v,((i+1:Nat):Int)))) (e:∀ xs,step (xs,(ys.length:Int))=some (.inr xs)) (out:List Tm) (ho:SLt out) (f:∀ u∈out,P u) (hy:∀ u∈ys,P u) (c:∀ u,P u->u.size<=1000) (hl:out.length+ys.length<=10000):Ev (kab step fuel (out,0)) fun r=>SLt r/\(∀ u∈r,P u)/\r.length<=out.length+ys.length/\∀ u,u∈r↔u∈out\/u∈ys:=by
 refine kj2 (step:=step) ys.length (fun i st=>∃ xs,st=(xs,(i:Int))/\SLt xs/\(∀ u∈xs,P u)/\xs.length<=out.length+i/\∀ u,u∈xs↔u∈out\/u∈ys.take i) (by omega) ⟨out,rfl,ho,f,by omega,by simp⟩ (fun i st hi hst=>?_) (fun st hst=>?_)
 ·obtain ⟨xs,rfl,h1,a,d,b⟩:=hst;rw [hs xs i hi (by omega)];obtain ⟨r,hr,r1,r2⟩:=kabs h1 (fun u hu=>c u (a u hu)) (c _ (hy _ (qi hi)));rw [hr,qb];refine ⟨_,rfl,r,rfl,r1,fun u hu=>?_,by have:=kwr r1 r2;omega,fun u=>?_⟩
  ·rcases (r2 u).1 hu with h | h;exact a u h
   ·rw [h];exact hy _ (qi hi)
  ·rw [r2,b,qac hi,qab,qw,or_assoc]
 ·obtain ⟨xs,rfl,h1,a,d,b⟩:=hst;rw [qal] at b;exact ⟨.inr xs,e xs,xs,rfl,h1,a,d,b⟩
theorem k6n (xs:List Tm) (hl:xs.length<=1000) (a:∀ u∈xs,u.size<=1000):Ev (kgw xs) fun r=>SLt r/\∀ u,u∈r↔u∈xs:=by unfold kgw;obtain ⟨r,h1,b,_,_,c⟩:=k45 (fun u=>u.size<=1000) (kfi xs) xs (fun zs i hi _=>by simp only [kfi,kaq hi,qe,kac,qa hi,qb,kaj hi (show xs.length<=9223372036854775807 by omega)]) (fun zs=>by simp only [kfi,kal,qd]) [] List.Pairwise.nil (by simp) a (fun u h=>h) (by simp;omega);rw [h1];exact ⟨r,rfl,b,fun u=>by rw [c];simp⟩
theorem Sub.size {u t:Tm} (h:Sub u t):u.size<=t.size:=by
 induction h with
 | refl=>exact qx _
 | arg ha _ ih=>have:=Tm.sizeL_mem ha;rw [Tm.size];omega
theorem k8a:∀ (n:Nat) (t:Tm),t.size<=n->t.size<=1000->Ev (kcz n t) fun r=>SLt r/\(∀ u∈r,Sub u t)/\r.length<=t.size
 | 0,t,h,_=>by have:=Tm.size_pos t;omega
 | n+1,t,h,b=>by
  show Ev (ke5 (kcz n) t) _;unfold ke5;have c:=khg t;have d:=kh7 t.args;have a:∀ u,Sub u t->u.size<=1000:=fun u hu=>qav hu.size b;refine kdp (Ev.mono (kj2 (step:=kel t (kcz n)) (Q:=fun out=>SLt out/\(∀ u∈out,Sub u t)/\out.length<=Tm.sizeL t.args) t.args.length (fun i st=>∃ out,st=(out,(i:Int))/\SLt out/\(∀ u∈out,Sub u t)/\out.length<=Tm.sizeL (t.args.take i)) (by omega) ⟨[],rfl,List.Pairwise.nil,by simp,by simp⟩ (fun i st hi hst=>?_) (fun st hst=>?_)) fun out ⟨o1,o2,o3⟩=>?_)
  ·obtain ⟨out,rfl,o1,o2,o3⟩:=hst;have hm:=Tm.sizeL_mem (qi hi);have e:=kke hi;have f:=(kis t.args (i+1) (by omega)).2;obtain ⟨ys,hy,y1,y2,y3⟩:=k8a n t.args[i] (by omega) (by omega);have ysub:∀ u∈ys,Sub u t:=fun u hu=>by
    have:=y2 u hu;cases t with
    | mk r l=>exact .arg (qi hi) this
   obtain ⟨r,hr,r1,r2,r3,_⟩:=k45 (fun u=>Sub u t) (ken ys) ys (fun zs k hk _=>by simp only [ken,kaq hk,qe,kac,qa hk,qb,kaj hk (show ys.length<=9223372036854775807 by omega)]) (fun zs=>by simp only [ken,kal,qd]) out o1 o2 ysub a (by omega);simp only [kel,kaq hi,qe,kac,qa hi,qb,hy,hr,kaj hi (show t.args.length<=9223372036854775807 by omega)];exact ⟨_,rfl,r,rfl,r1,r2,by omega⟩
  obtain ⟨out,rfl,o1,o2,o3⟩:=hst;rw [qal] at o3;exact ⟨.inr out,by simp only [kel,kal,qd],_,rfl,o1,o2,o3⟩
  ·rw [k41 fuel t (qb0 (kb7 (by omega))) b,qb];obtain ⟨r,hr,r1,r2⟩:=kabs (t:=t) o1 (fun u hu=>a u (o2 u hu)) b;rw [hr,qb];refine ⟨r,rfl,r1,fun u hu=>?_,by have:=kwr r1 r2;omega⟩;rcases (r2 u).1 hu with h | h;exact o2 u h
   ·rw [h];exact .refl
theorem kagk {xs:List Tm} (hl:xs.length<=12) (c:∀ u∈xs,u.size<=24):Ev (kfz xs) fun r=>(∀ u∈r,∃ x∈xs,Sub u x)/\r.length<=288:=by
 unfold kfz;have a:∀ u t,Sub u t->u.size<=t.size:=fun u t hu=>hu.size;refine kdp (Ev.mono (kj2 (step:=kek xs) (Q:=fun out=>(∀ u∈out,∃ x∈xs,Sub u x)/\out.length<=288) xs.length (fun i st=>∃ out,st=(out,(i:Int))/\SLt out/\(∀ u∈out,∃ x∈xs,Sub u x)/\out.length<=24*i) (by omega) ⟨[],rfl,List.Pairwise.nil,by simp,by simp⟩ (fun i st hi hst=>?_) (fun st hst=>?_)) fun out h=>⟨out,rfl,h⟩)
 ·obtain ⟨out,rfl,o1,o2,o3⟩:=hst;have d:=c _ (qi hi);obtain ⟨ys,hy,y1,y2,y3⟩:=k8a fuel xs[i] (qb0 (kb7 (by omega))) (by omega);obtain ⟨r,hr,r1,r2,r3⟩:=kj2 (step:=keh ys) (s0:=(out,0)) (Q:=fun r=>SLt r/\(∀ u∈r,∃ x∈xs,Sub u x)/\r.length<=out.length+ys.length) ys.length (fun k st=>∃ zs,st=(zs,(k:Int))/\SLt zs/\(∀ u∈zs,∃ x∈xs,Sub u x)/\zs.length<=out.length+k) (by omega) ⟨out,rfl,o1,o2,by omega⟩ (fun k st hk hst=>by
    obtain ⟨zs,rfl,z1,z2,z3⟩:=hst;have b:∀ u∈zs,u.size<=1000:=fun u hu=>(by obtain ⟨x,d,hs⟩:=z2 u hu;have:=a u x hs;have:=c x d;omega);have e:=a _ _ (y2 _ (qi hk));obtain ⟨r,hr,r1,r2⟩:=kye (ys[k]) z1 b (by omega);simp only [keh,kaq hk,qe,qh (show (zs.length:Int)<=4096 by omega),kac,qa hk,qb,hr,kaj hk (show ys.length<=9223372036854775807 by omega)];refine ⟨_,rfl,r,rfl,r1,fun u hu=>?_,by have:=kwr r1 r2;omega⟩;rcases (r2 u).1 hu with h | h;exact z2 u h
    ·rw [h];exact ⟨_,qi hi,y2 _ (qi hk)⟩) (fun st hst=>by
    obtain ⟨zs,rfl,z1,z2,z3⟩:=hst;exact ⟨.inr zs,by simp only [keh,kal,qd,qb],zs,rfl,z1,z2,z3⟩)
  simp only [kek,kaq hi,qe,kac,qa hi,qb,hy,hr,kaj hi (show xs.length<=9223372036854775807 by omega)];exact ⟨_,rfl,r,rfl,r1,r2,by omega⟩
 ·obtain ⟨out,rfl,o1,o2,o3⟩:=hst;exact ⟨.inr out,by simp only [kek,kal,qd],_,rfl,o2,by omega⟩
theorem kzw (a:List Tm) (t:Tm) (b:∀ u∈a,u.size<=1000) (hl:a.length<=100000:=by omega) (ht:t.size<=1000:=by omega):Ev (kfq a t) fun _=>True:=by
 unfold kfq;rcases kjo (kf1 a t) a.length (fun k=>decide (cmpT ((a[k]?).getD t) t=0)) (fun k => .inr (k:Int)) (.inl ()) (fun k hk=>by
  simp only [kf1,kaq hk,qe,kac,qa hk,qb,kpc _ _ (b _ (qi hk)) ht,qah,kaj hk (show a.length<=9223372036854775807 by omega)];by_cases h:cmpT a[k] t=0;rw [show (cmpT a[k] t == 0)=true by simp [h],qp (by simp [h])];rfl
  ·rw [show (cmpT a[k] t == 0)=false by simp [h],ql (by simp [h])];rfl) (by simp only [kf1,kal,qd]) with ⟨k,_,_,_,hr⟩ | ⟨_,hr⟩
 rw [hr];exact ⟨_,rfl,trivial⟩
 ·rw [hr];exact ⟨_,rfl,trivial⟩
open Go Go.RowKit Go.ChangeShapes Go.WideShapes Go.ChangeAt Go.Proofs.Tryz
theorem kx0 {n:Int} (h:(Lit.int .i64 n).wf=true):kgm n:=by simpa [Lit.wf,IntKind.min,IntKind.max,IntKind.signed,IntKind.bits,kgm] using h
variable {H:Type} {enc:TypeId×Value->H} {w:World} {base:Nat} {spare:Nat->Bool} {held:Bool}
theorem cells_ty:prog.cellsOf 3=1/\prog.cellsOf 2=1/\prog.cellsOf 9=1/\prog.cellsOf 22=1/\prog.cellsOf 68=1/\prog.cellsOf 23=1/\prog.cellsOf 24=1 /\
  prog.cellsOf 70=4/\prog.cellsOf 83=2/\prog.cellsOf 72=9/\prog.cellsOf 26=4:=⟨by kernel_rfl,by kernel_rfl,by kernel_rfl,by kernel_rfl,by kernel_rfl,by kernel_rfl,by kernel_rfl,by kernel_rfl,by kernel_rfl,by kernel_rfl,by kernel_rfl⟩
theorem ksl {fuel:Nat} {cs:List Value} {x:DataW H×List MemPlace} (h:DataW.trod enc prog w base spare held fuel 9 cs=some x):∃ s,cs=[.string s]/\ksb s:=by obtain ⟨s,hs,_,hl⟩:=DataW.trod_string underlying9 h;exact ⟨s,hs,by unfold maxLen at hl;exact hl⟩
theorem knf {fuel:Nat} {cs:List Value} {x:DataW H×List MemPlace} (h:DataW.trod enc prog w base spare held fuel 3 cs=some x):∃ n,cs=[.int .i64 n]/\kgm n:=by obtain ⟨n,hn,_,a⟩:=DataW.trod_int underlying3 h;exact ⟨n,hn,kx0 a⟩
theorem k71 {fuel:Nat} {cs:List Value} {x:DataW H×List MemPlace} (h:DataW.trod enc prog w base spare held fuel 2 cs=some x):∃ n,cs=[.int .i64 n]/\kgm n:=by obtain ⟨n,hn,_,a⟩:=DataW.trod_int underlying2 h;exact ⟨n,hn,kx0 a⟩
theorem kxa {fuel:Nat} {cs:List Value} {x:DataW H×List MemPlace} (h:DataW.trod enc prog w base spare held fuel 22 cs=some x):∃ v ns,cs=[v]/\Ints Any w v ns:=
 kpd IntR 1 underlying22 cells_ty.1 h fun n cs' y _ hy=>by obtain ⟨k,h1,a⟩:=knf hy;exact ⟨k,h1,a⟩
theorem k5g:∀ (fuel:Nat) (cs:List Value) (x:DataW H×List MemPlace),DataW.trod enc prog w base spare held fuel 70 cs=some x->∃ t,RepVa Any w cs t:=by
 obtain ⟨z1,z2,z3,z4,z5,z6,z7,z8,z9,z10,z11⟩:=cells_ty;intro fuel
 induction fuel using Nat.strongRecOn with
 | _ fuel ih=>
  intro cs x h;obtain ⟨xs,n,e,_,a,b,hf⟩:=DataW.trod_struct underlying70 h;rw [z8] at a
  match cs,a with
  | [c0,c1,c2,c3],_=>
   have h0:=hf 0 _ rfl;have h1:=hf 1 _ rfl;have c:=hf 2 _ rfl;have d:=hf 3 _ rfl;rw [qa (by rw [b];decide)] at h0 h1 c d;obtain ⟨t,e0,ht⟩:=knf h0;obtain ⟨m,e1,hm⟩:=k71 h1;obtain ⟨s,e2,hs⟩:=ksl c;obtain ⟨v,ts,e3,f⟩:=kpd (RepVa Any w) 4 underlying68 z8 d fun k cs' y hk hy=>ih k (by omega) cs' y hy;simp [z1,z2,z3,z4,z5,z6,z7,z8] at e0 e1 e2 e3;subst e0 e1 e2 e3;exact ⟨.mk t m s ts,RepVa.of ht hm hs f⟩
theorem k3t {fuel:Nat} {cs:List Value} {x:DataW H×List MemPlace} (h:DataW.trod enc prog w base spare held fuel 83 cs=some x):∃ t,k0t Any w cs t:=by
 obtain ⟨z1,z2,z3,z4,z5,z6,z7,z8,z9,z10,z11⟩:=cells_ty;obtain ⟨xs,n,c,_,a,b,hf⟩:=DataW.trod_struct underlying83 h;rw [z9] at a
 match cs,a with
 | [c0,c1],_=>
  have h0:=hf 0 _ rfl;have h1:=hf 1 _ rfl;rw [qa (by rw [b];decide)] at h0 h1;obtain ⟨s,e0,hs⟩:=ksl h0;obtain ⟨t,e1,ht⟩:=knf h1;simp [z1,z2,z3,z4,z5,z6,z7,z8] at e0 e1;subst e0 e1;exact ⟨⟨s,t⟩,rfl,hs,ht⟩
theorem k7w {fuel:Nat} {cs:List Value} {x:DataW H×List MemPlace} (h:DataW.trod enc prog w base spare held fuel 72 cs=some x):∃ t,k0n Any w cs t:=by
 obtain ⟨z1,z2,z3,z4,z5,z6,z7,z8,z9,z10,z11⟩:=cells_ty;obtain ⟨xs,n,l,_,d,e,hf⟩:=DataW.trod_struct underlying72 h;rw [z10] at d
 match cs,d with
 | [c0,c1,c2,c3,c4,c5,c6,c7,c8],_=>
  have h0:=hf 0 _ rfl;have h1:=hf 1 _ rfl;have g:=hf 2 _ rfl;have i:=hf 3 _ rfl;have j:=hf 4 _ rfl;have k:=hf 5 _ rfl;rw [qa (by rw [e];decide)] at h0 h1 g i j k;obtain ⟨a,e0,ha⟩:=knf h0;obtain ⟨b,e1,m⟩:=knf h1;obtain ⟨c,e2,hc⟩:=knf g;obtain ⟨v,hv⟩:=k5g _ _ _ i;obtain ⟨s,e4,hs⟩:=ksl j;obtain ⟨u,ns,e5,f⟩:=kxa k;simp [z1,z2,z3,z4,z5,z6,z7,z8] at e0 e1 e2 e4 e5 hv;subst e0 e1 e2 e4 e5;exact ⟨⟨a,b,c,v,s,ns⟩,c3,c4,c5,c6,_,rfl,ha,m,hc,hs,hv,f⟩
theorem k0i {fuel:Nat} {cs:List Value} {x:DataW H×List MemPlace} (h:DataW.trod enc prog w base spare held fuel 26 cs=some x):∃ t,kab2 Any w cs t:=by
 obtain ⟨z1,z2,z3,z4,z5,z6,z7,z8,z9,z10,z11⟩:=cells_ty;obtain ⟨xs,n,i,_,a,b,hf⟩:=DataW.trod_struct underlying26 h;rw [z11] at a
 match cs,a with
 | [c0,c1,c2,c3],_=>
  have h0:=hf 0 _ rfl;have h1:=hf 1 _ rfl;have f:=hf 2 _ rfl;have g:=hf 3 _ rfl;rw [qa (by rw [b];decide)] at h0 h1 f g;obtain ⟨s,e0,hs⟩:=ksl h0;obtain ⟨v1,n1,e1,c⟩:=kxa h1;obtain ⟨v2,n2,e2,d⟩:=kpd (k0t Any w) 2 underlying23 z9 f fun k cs' y hk hy=>k3t hy;obtain ⟨v3,n3,e3,e⟩:=kpd (k0n Any w) 9 underlying24 z10 g fun k cs' y hk hy=>k7w hy;simp [z1,z2,z3,z4,z5,z6,z7,z8] at e0 e1 e2 e3;subst e0 e1 e2 e3;exact ⟨⟨s,n1,n2,n3⟩,_,_,_,rfl,hs,c,d,e⟩
theorem kyq {r:Reach} {b0:Nat} {v:Value} {d:DataW H} {p:List MemPlace} (hv:Value.okWide prog w r b0 26 v) (h:DataW.Trod enc prog w base spare held 26 v d p):∃ t,LaV Any w v t:=by obtain ⟨cs,rfl,a⟩:=okWide_struct underlying26 hv;obtain ⟨fuel,hf⟩:=h;obtain ⟨t,ht⟩:=k0i hf;exact ⟨t,cs.toList,by simp,by simpa [Value.cells] using ht⟩
theorem k7x {n:Int} (h:(Lit.int .i64 n).wf=true):kgm n:=by simpa [Lit.wf,IntKind.min,IntKind.max,IntKind.signed,IntKind.bits,kgm] using h
theorem ksz:prog.cellsOf 32=2:=by kernel_rfl
theorem k8o:prog.cellsOf 3=1:=by kernel_rfl
theorem k3p:prog.cellsOf 27=1:=by kernel_rfl
theorem k82:∀ (fuel:Nat) (cs:List Value) (x:DataW H×List MemPlace),DataW.trod enc prog w base spare held fuel 32 cs=some x->∃ t,RepTm Any w cs t:=by
 intro fuel
 induction fuel using Nat.strongRecOn with
 | _ fuel ih=>
  intro cs x h;obtain ⟨xs,n,g,_,a,b,hf⟩:=DataW.trod_struct underlying32 h;rw [ksz] at a
  match cs,a with
  | [c0,c1],_=>
   have h0:=hf 0 _ rfl;have h1:=hf 1 _ rfl;have e0:xs[0]?=some (xs[0]'(by rw [b];decide)):=qa _;have e1:xs[1]?=some (xs[1]'(by rw [b];decide)):=qa _;rw [e0] at h0;rw [e1] at h1;obtain ⟨r,c,_,d⟩:=DataW.trod_int underlying3 h0;obtain ⟨v,ts,hv,hs⟩:=kpd (RepTm Any w) 2 underlying27 ksz h1 fun m cs' y hm hy=>ih m (by omega) cs' y hy;have e:c0 = .int .i64 r:=(by simpa [k8o] using c);have f:c1=v:=(by simpa [k3p] using hv);subst e f;exact ⟨.mk r ts,RepTm.of (k7x d) hs⟩
def CRw (w:World) (cs:List Value) (x:FV) (size:Nat):Prop:=x.cells.length=size/\(∀ y∈x.cells,y.single=true)/\∀ (j:Nat) (u:Value) (y:FV),cs[j]?=some u->x.cells[j]?=some y->RF Any w u y
theorem kr1 {cs:List Value} (xs:List FV) (h:∀ (j:Nat) (y:FV),xs[j]?=some y->y.single=true/\∀ u,cs[j]?=some u->RF Any w u y) (hl:cs.length=xs.length:=by rfl):CRw w cs (.agg xs) xs.length:=by refine ⟨rfl,fun y hy=>?_,fun j u y hu hy=>(h j y hy).2 u hu⟩;obtain ⟨j,a⟩:=qap.1 hy;exact (h j y a).1
theorem k4b {v:Value} {ns:List Int} (h:Ints Any w v ns):RF Any w v (eL 1 eI ns):=
 ks4 (R:=IntR) _ _ h fun cs x _ a=>kafo a.1 rfl
theorem kabw:∀ (x:Va) (cs:List Value),RepVa Any w cs x->CRw w cs (eVaR x) 4/\inV x:=by
 refine Va.ind fun t n s l ih=>?_;intro cs h;obtain ⟨v,rfl,ht,hn,hs,hv⟩:=h.form;have c:RF Any w v (.lst 4 l.length (ksp l)):=by have:=ks4 eVaR 4 hv fun cs x a hr=>(ih x a cs hr).1;rw [kwd];have e:eL 4 eVaR l = .lst 4 l.length (l.map eVaR):=rfl;rw [<- e];exact this
 refine ⟨kr1 [eI t,eI n,eS s, .lst 4 l.length (ksp l)] fun j y hy=>?_,?_⟩
 ·match j with
  | 0=>simp at hy;subst hy;exact ⟨rfl,fun u hu=>by simp at hu;subst hu;exact .atom rfl⟩
  | 1=>simp at hy;subst hy;exact ⟨rfl,fun u hu=>by simp at hu;subst hu;exact .atom rfl⟩
  | 2=>simp at hy;subst hy;exact ⟨rfl,fun u hu=>by simp at hu;subst hu;exact .atom rfl⟩
  | 3=>simp at hy;subst hy;exact ⟨rfl,fun u hu=>by simp at hu;subst hu;exact c⟩
  | j+4=>simp at hy
 ·obtain ⟨A,cap,_,h1,g,f⟩:=hv;have all:∀ x∈l,inV x:=fun x a=>by obtain ⟨i,hi⟩:=qap.1 a;obtain ⟨b,o,cs,_,_,_,_,hr⟩:=f i x hi;exact (ih x a cs hr).2
  have gen:∀ l:List Va,(∀ x∈l,inV x)->kxo 9223372036854775807 l/\kuu l:=fun l=>by
   induction l with
   | nil=>exact fun _=>⟨trivial,trivial⟩
   | cons y l ih=>exact fun h=>⟨⟨(h y (qn ..)).1,(ih fun z d=>h z (qj _ d)).1⟩,(h y (qn ..)).2,(ih fun z d=>h z (qj _ d)).2⟩
  obtain ⟨g1,g2⟩:=gen l all;exact ⟨⟨by omega,g1⟩,hs,g2⟩
theorem sy_cr {cs:List Value} {x:Sy} (h:k0t Any w cs x):CRw w cs (eSy x) 2:=by
 obtain ⟨rfl,hs,ht⟩:=h;refine kr1 [eS x.name,eI x.type] fun j y hy=>?_
 match j with
 | 0=>simp at hy;subst hy;exact ⟨rfl,fun u hu=>by simp at hu;subst hu;exact .atom rfl⟩
 | 1=>simp at hy;subst hy;exact ⟨rfl,fun u hu=>by simp at hu;subst hu;exact .atom rfl⟩
 | j+2=>simp at hy
theorem kabu {cs:List Value} {x:Ru} (h:k0n Any w cs x):CRw w cs (eRu x) 9/\kxs x:=by
 obtain ⟨c0,c1,c2,c3,v,rfl,h1,f,g,i,d,e⟩:=h;obtain ⟨k,kw⟩:=kabw _ _ d;obtain ⟨sy,kd,inp,c,op,ar⟩:=x;obtain ⟨t,n,s,l⟩:=c;obtain ⟨v',a,ht,hn,hs,hv⟩:=d.form;simp only [List.cons.injEq,and_true] at a;obtain ⟨rfl,rfl,rfl,rfl⟩:=a;have b:RF Any w c3 (eL 4 eVaR l):=ks4 eVaR 4 hv fun cs x m hr=>(kabw x cs hr).1;refine ⟨kr1 [eI sy,eI kd,eI inp,eI t,eI n,eS s,eL 4 eVaR l,eS op,eL 1 eI ar] fun j y hy=>?_,(by obtain ⟨A,cap,_,q1,q2,_⟩:=e;exact qav q1 q2),kw⟩
 match j with
 | 0=>simp at hy;subst hy;exact ⟨rfl,fun u hu=>by simp at hu;subst hu;exact .atom rfl⟩
 | 1=>simp at hy;subst hy;exact ⟨rfl,fun u hu=>by simp at hu;subst hu;exact .atom rfl⟩
 | 2=>simp at hy;subst hy;exact ⟨rfl,fun u hu=>by simp at hu;subst hu;exact .atom rfl⟩
 | 3=>simp at hy;subst hy;exact ⟨rfl,fun u hu=>by simp at hu;subst hu;exact .atom rfl⟩
 | 4=>simp at hy;subst hy;exact ⟨rfl,fun u hu=>by simp at hu;subst hu;exact .atom rfl⟩
 | 5=>simp at hy;subst hy;exact ⟨rfl,fun u hu=>by simp at hu;subst hu;exact .atom rfl⟩
 | 6=>simp at hy;subst hy;exact ⟨rfl,fun u hu=>by simp at hu;subst hu;exact b⟩
 | 7=>simp at hy;subst hy;exact ⟨rfl,fun u hu=>by simp at hu;subst hu;exact .atom rfl⟩
 | 8=>simp at hy;subst hy;exact ⟨rfl,fun u hu=>by simp at hu;subst hu;exact k4b e⟩
 | j+9=>simp at hy
theorem kagh {cs:List Value} (xs:List FV) (hl:cs.length=xs.length) (h:CRw w cs (.agg xs) xs.length):RF Any w (.agg cs.toArray) (.agg xs):=
 .agg (by simpa using hl) (fun x a=>h.2.1 x a) fun i v x hv a=>h.2.2 i v x (by simpa using hv) a
theorem la_rf {v:Value} {x:La} (h:LaV Any w v x):RF Any w v (eLa x)/\kq9 x:=by
 obtain ⟨cs,rfl,v1,v2,v3,rfl,hn,h1,a,c⟩:=h;have r1:=k4b h1;have r2:RF Any w v2 (eL 2 eSy x.symbols):=ks4 eSy 2 a fun cs x _ hr=>sy_cr hr;have r3:RF Any w v3 (eL 9 eRu x.rules):=ks4 eRu 9 c fun cs x _ hr=>(kabu hr).1;refine ⟨kagh [eS x.name,eL 1 eI x.inputs,eL 2 eSy x.symbols,eL 9 eRu x.rules] rfl (kr1 _ fun j y hy=>?_),?_⟩
 ·match j with
  | 0=>simp at hy;subst hy;exact ⟨rfl,fun u hu=>by simp at hu;subst hu;exact .atom rfl⟩
  | 1=>simp at hy;subst hy;exact ⟨rfl,fun u hu=>by simp at hu;subst hu;exact r1⟩
  | 2=>simp at hy;subst hy;exact ⟨rfl,fun u hu=>by simp at hu;subst hu;exact r2⟩
  | 3=>simp at hy;subst hy;exact ⟨rfl,fun u hu=>by simp at hu;subst hu;exact r3⟩
  | j+4=>simp at hy
 ·refine ⟨hn,?_,?_,?_,fun y hy=>?_,fun r hr=>?_⟩;obtain ⟨A,cap,_,q1,q2,_⟩:=h1;exact qav q1 q2;obtain ⟨A,cap,_,q1,q2,_⟩:=a;exact qav q1 q2;obtain ⟨A,cap,_,q1,q2,_⟩:=c;exact qav q1 q2;obtain ⟨A,cap,_,_,_,d⟩:=a;obtain ⟨i,hi⟩:=qap.1 hy;obtain ⟨b,o,cs,_,_,_,_,e⟩:=d i y hi;exact e.2.1
  ·obtain ⟨A,cap,_,_,_,d⟩:=c;obtain ⟨i,hi⟩:=qap.1 hr;obtain ⟨b,o,cs,_,_,_,_,e⟩:=d i r hi;exact (kabu e).2
theorem tm_cr:∀ (x:Tm) (cs:List Value),RepTm Any w cs x->CRw w cs (eTmR x) 2:=by
 refine Tm.ind fun r l ih=>?_;intro cs h;obtain ⟨v,rfl,hr,hv⟩:=h.form;have a:RF Any w v (.lst 2 l.length (ks0 l)):=by have:=ks4 eTmR 2 hv fun cs x b hr=>ih x b cs hr;rw [kv6];have c:eL 2 eTmR l = .lst 2 l.length (l.map eTmR):=rfl;rw [<- c];exact this
 refine kr1 [eI r, .lst 2 l.length (ks0 l)] fun j y hy=>?_
 match j with
 | 0=>simp at hy;subst hy;exact ⟨rfl,fun u hu=>by simp at hu;subst hu;exact .atom rfl⟩
 | 1=>simp at hy;subst hy;exact ⟨rfl,fun u hu=>by simp at hu;subst hu;exact a⟩
 | j+2=>simp at hy
theorem in_La {r:Reach} {b0:Nat} {v:Value} {d:DataW H} {p:List MemPlace} (hv:Value.okWide prog w r b0 26 v) (h:DataW.Trod enc prog w base spare held 26 v d p):∃ x,RF Any w v (eLa x)/\kq9 x:=by obtain ⟨x,a⟩:=kyq hv h;exact ⟨x,la_rf a⟩
theorem kagi {r:Reach} {b0:Nat} {v:Value} {d:DataW H} {p:List MemPlace} (hv:Value.okWide prog w r b0 27 v) (h:DataW.Trod enc prog w base spare held 27 v d p):∃ xs:List Tm,RF Any w v (eL 2 eTmR xs)/\xs.length<=9223372036854775807:=by obtain ⟨xs,h1,a,_⟩:=in_sl (fun cs x=>RepTm Any w cs x) eTmR 2 underlying27 ksz (by omega) hv h (fun n cs' y hy=>k82 n cs' y hy) fun cs x b=>tm_cr x cs b;exact ⟨xs,h1,a⟩
theorem Sub.dv {l:La} {u t:Tm} (h:Sub u t):(∃ s,Dv l s t)->∃ s,Dv l s u:=by
 induction h with
 | refl=>exact id
 | @arg r us a ha _ ih=>exact fun ⟨s,b⟩=>ih (b.arg ha)
theorem kaa2 {l:La}:∀ (t:Tm) (s:Int),Dv l s t->∀ r∈t.rules,0<=r/\r<(l.rules.length:Int):=by
 refine Tm.ind fun q us ih=>?_;intro s b r hr;have hr:r∈(Tm.mk q us).pre Tm.rule:=hr;rw [Tm.pre] at hr;rcases qam.1 hr with e | hr;obtain ⟨i,h1,d,_⟩:=b.inv;have h1:q=(i:Int):=h1;have e:r=q:=e;omega
 ·have key:∀ vs:List Tm,(∀ v∈vs,v∈us)->r∈Tm.preL Tm.rule vs->0<=r/\r<(l.rules.length:Int):=fun vs=>by
   induction vs with
   | nil=>intro _ h;cases h
   | cons v vs ih2=>
    intro hv h;rw [Tm.preL] at h;rcases qab.1 h with h | h;have hm:=hv v (qn ..);obtain ⟨a,ha⟩:=b.arg (u:=v) hm;exact ih v hm a ha r h
    ·exact ih2 (fun w c=>hv w (qj _ c)) h
  exact key us (fun v hv=>hv) hr
theorem k9b {l:La} (hl:kq9 l) {t:Tm} (ht:t.size<=30):∃ e,kiz l t=some e/\(∀ (xs:List Tm) (i:Nat),xs.length<=1000->xs[i]?=some t->ka0 l xs (i:Int)=if e≠0 then some (.inr (.inr (⟨[],[]⟩,e))) else some (.inl ((i+1:Nat):Int)))/\(e=0->t.size<=24/\∃ s,Dv l s t):=by
 have nx:∀ (xs:List Tm) (i:Nat),xs.length<=1000->xs[i]?=some t->decide ((i:Int)<(xs.length:Int))=true/\w64 ((i:Int)+1)=((i+1:Nat):Int):=fun xs i h hi=>by have:=kcg hi;exact ⟨kaq this,kaj this (by omega)⟩
 unfold kiz;by_cases h0:t.rule<0;rw [qh h0,qe,qb,qe];refine ⟨1,rfl,fun xs i a hi=>?_,fun h=>by cases h⟩;obtain ⟨n1,n2⟩:=nx xs i a hi;simp only [ka0,n1,qe,kac,hi,qb,qh h0];rfl;by_cases h1:(l.rules.length:Int)<=t.rule;rw [qg h0,qd,qb,qh h1,qe];refine ⟨1,rfl,fun xs i a hi=>?_,fun h=>by cases h⟩;obtain ⟨n1,n2⟩:=nx xs i a hi;simp only [ka0,n1,qe,qd,kac,hi,qb,qg h0,qh h1];rfl;obtain ⟨y,hy,f⟩:=kni l.rules t.rule (by omega) (by omega);obtain ⟨c,c1,c2,c3⟩:=k6k l y.symbol t hl (by omega);rw [qg h0,qd,qb,qg h1,qd,hy,qb,c1,qb];have d:=kpm fuel t (qb0 (kb7 (by omega))) (by omega);have hr:∀ (xs:List Tm) (i:Nat),xs.length<=1000->xs[i]?=some t->ka0 l xs (i:Int)=(bif (c != 0) then (some (.inr (.inr ((Sad.mk (([]:List Saa)) (([]:List Int))),c)))) else (bif (decide ((24:Int)<(t.size:Int))) then (some (.inr (.inr ((Sad.mk (([]:List Saa)) (([]:List Int))),2)))) else (some (.inl ((i+1:Nat):Int))))):=fun xs i a hi=>by obtain ⟨n1,n2⟩:=nx xs i a hi;simp only [ka0,n1,qe,qd,kac,hi,qb,qg h0,qg h1,hy,c2,d,n2]
 by_cases hc:c=0
 ·subst hc;rw [show ((0:Int) != 0)=false from rfl,qd,kaec,qb];by_cases b:t.size<=24
  ·rw [qh b,qa9,qd];refine ⟨0,rfl,fun xs i a hi=>?_,fun _=>⟨b,?_⟩⟩;rw [hr xs i a hi,show ((0:Int) != 0)=false from rfl,qd,qg (show ¬ (24:Int)<(t.size:Int) by omega),qd,ql (by simp)]
   ·obtain ⟨g,j⟩:=c3 rfl;exact ⟨_,kabv fuel l _ t (by omega) (qb0 (kb7 (by omega))) (fun x k hk=>by rw [(g.good x k).noargs hk];rfl) j⟩
  ·rw [qg b,Bool.not_false,qe];refine ⟨2,rfl,fun xs i a hi=>?_,fun h=>by cases h⟩;rw [hr xs i a hi,show ((0:Int) != 0)=false from rfl,qd,qh (show (24:Int)<(t.size:Int) by omega),qe,qp (by simp)]
 ·rw [show (c != 0)=true by simp [hc],qe];refine ⟨c,rfl,fun xs i a hi=>?_,fun h=>absurd h hc⟩;rw [hr xs i a hi,show (c != 0)=true by simp [hc],qe,qp hc]
theorem kacw {l:La} (hl:kq9 l) {xs:List Tm} (j:xs.length<=12) (ht:∀ t∈xs,t.size<=30):
  (∃ e:Int,e≠0/\kab (kgn l xs) fuel 0=some (.inr e)/\kab (ka0 l xs) fuel 0=some (.inr (⟨[],[]⟩,e))) \/
  ((∀ t∈xs,t.size<=24/\∃ s,Dv l s t)/\kab (kgn l xs) fuel 0=some (.inl ())/\kab (ka0 l xs) fuel 0=some (.inl ())):=by
 let er:Nat->Int:=fun k=>((xs[k]?).bind (kiz l)).getD 0
 have h:∀ k (hk:k<xs.length),kiz l xs[k]=some (er k)/\ka0 l xs (k:Int)=(if er k≠0 then some (.inr (.inr (⟨[],[]⟩,er k))) else some (.inl ((k+1:Nat):Int)))/\(er k=0->xs[k].size<=24/\∃ s,Dv l s xs[k]):=fun k hk=>by
  have e1:=qa hk;obtain ⟨e,h1,m,n⟩:=k9b hl (ht _ (qi hk));have b:er k=e:=by show ((xs[k]?).bind (kiz l)).getD 0=e;rw [e1,qb,h1];rfl
  rw [b];exact ⟨h1,m xs k (by omega) e1,n⟩
 have p:=kjo (kgn l xs) xs.length (fun k=>decide (er k≠0)) (fun k => .inr (er k)) (.inl ()) (fun k hk=>by
  simp only [kgn,kaq hk,qe,kac,qa hk,qb,(h k hk).1,kaj hk (show xs.length<=9223372036854775807 by omega)];by_cases b:er k=0;rw [show (er k != 0)=false by simp [b],qd,ql (by simp [b])]
  ·rw [show (er k != 0)=true by simp [b],qe,qp (by simp [b])]) (by simp only [kgn,kal,qd])
 have q:=kjo (ka0 l xs) xs.length (fun k=>decide (er k≠0)) (fun k => .inr (⟨[],[]⟩,er k)) (.inl ()) (fun k hk=>by
  rw [(h k hk).2.1];by_cases b:er k=0;rw [ql (by simp [b]),ql (by simp [b])]
  ·rw [qp b,qp (by simp [b])]) (by simp only [ka0,kal,qd])
 rcases p with ⟨k,hk,d,i,hr⟩ | ⟨d,hr⟩
 ·rcases q with ⟨k',g,a,f,c⟩ | ⟨a,c⟩
  ·have e:k=k':=by
    rcases Nat.lt_trichotomy k k' with h1 | h1 | h1;rw [f k h1] at d;cases d;exact h1
    ·rw [i k' h1] at a;cases a
   subst e;exact .inl ⟨er k,by simpa using d,hr,c⟩
  ·rw [a k hk] at d;cases d
 ·rcases q with ⟨k',g,a,f,c⟩ | ⟨a,c⟩;rw [d k' g] at a;cases a
  ·refine .inr ⟨fun t ht=>?_,hr,c⟩;obtain ⟨k,hk,rfl⟩:=qae.1 ht;exact (h k hk).2.2 (by simpa using d k hk)
theorem kafk {l:La} (hc:kbv l=some 0) {xs:List Tm} (d:xs.length<=12) (h:∀ t∈xs,t.size<=24/\∃ s,Dv l s t) (n:kab (ka0 l xs) fuel 0=some (.inl ())):∃ s,kew l xs=some (s,0):=by
 unfold kew;obtain ⟨ss,hs,s1,s2⟩:=kagk d fun t ht=>(h t ht).1;rw [hc,qb,show ((0:Int) != 0)=false from rfl,qd,qg (show ¬ (4096:Int)<(xs.length:Int) by omega),qd,n,qb,q9,hs,qb,qg (show ¬ (4096:Int)<(ss.length:Int) by omega),qd];have c:∀ u∈ss,u.size<=24/\∃ s,Dv l s u:=fun u hu=>by obtain ⟨x,o,b⟩:=s1 u hu;obtain ⟨h1,p⟩:=h x o;exact ⟨qav b.size h1,b.dv p⟩
 have q:∀ u∈ss,u.size<=1000:=fun u hu=>by have:=(c u hu).1;omega
 obtain ⟨v,hv,_⟩:=kj2 (step:=kfo l xs ss) (s0:=(0,[],[])) (Q:=fun _=>True) ss.length (fun i st=>∃ ns rs,st=((i:Int),ns,rs)/\ns.length<=i/\rs.length<=i) (by omega) ⟨[],[],rfl,by simp,by simp⟩ (fun i st hi hst=>by
   obtain ⟨ns,rs,rfl,n1,n2⟩:=hst;have e1:=qa hi;obtain ⟨hu,s,w⟩:=c _ (qi hi);obtain ⟨r,hr,e,_⟩:=w.inv;obtain ⟨y,y0,_⟩:=ku9 l e;have z:ss[i].args.length<=24:=(by have:=khg (ss[i]);have:=kh7 ss[i].args;omega);obtain ⟨zs,ha,_⟩:=kj2 (step:=khd ss ((i:Int),ns,rs)) (s0:=(0,[])) (Q:=fun _=>True) ss[i].args.length (fun k st=>∃ zs:List Int,st=((k:Int),zs)/\zs.length<=k) (by omega) ⟨[],rfl,by simp⟩ (fun k st hk hst=>by
     obtain ⟨zs,rfl,a1⟩:=hst;have hm:=Tm.sizeL_mem (qi hk);have:=khg (ss[i]);obtain ⟨j,f,_⟩:=kzw ss (ss[i].args[k]) q;simp only [khd,kac,e1,qb,kaq hk,qe,qa hk,f,kaj hk (show ss[i].args.length<=9223372036854775807 by omega)];rw [kcv (by rw [qar];omega),qb];exact ⟨_,rfl,_,rfl,by rw [qag,qar];omega⟩) (fun st hst=>by
     obtain ⟨zs,rfl,a1⟩:=hst;exact ⟨.inr zs,by simp only [khd,kac,e1,qb,kal,qd],zs,rfl,trivial⟩)
   obtain ⟨j,f,_⟩:=kzw xs (ss[i]) (fun u hu=>by have:=(h u hu).1;omega);have g:=kpm fuel ss[i] (qb0 (kb7 (by omega))) (by omega);simp only [kfo,kaq hi,qe,kac,e1,qb,ha,hr,y0,g,f,kaj hi (show ss.length<=9223372036854775807 by omega)];rw [kcv (by rw [qar];omega),qb];cases decide ((0:Int)<=j) with
   | true=>
    rw [qe,kcv (by rw [qar];omega),qb,qb];refine ⟨_,rfl,_,_,rfl,?_,?_⟩;rw [qag,qar];omega
    ·rw [qag,qar];omega
   | false=>
    rw [qd,qb];refine ⟨_,rfl,_,_,rfl,?_,?_⟩;rw [qag,qar];omega
    ·show rs.length<=i+1;omega) (fun st hst=>by
   obtain ⟨ns,rs,rfl,n1,n2⟩:=hst;exact ⟨.inr (ns,rs),by simp only [kfo,kal,qd],_,rfl,trivial⟩)
 have m:kab (kfo l xs ss) fuel (0,([]:List Saa),([]:List Int))=some v:=hv;rw [m,qb];exact ⟨_,rfl⟩
theorem k8p {r:Int} {n:Nat} (h:0<=r/\r<(n:Int)) (hn:n<=1000):inI r=true:=by obtain ⟨k,rfl⟩:∃ k:Nat,r=(k:Int):=⟨r.toNat,by omega⟩;exact k38 (by omega)
theorem k3o (l:La) (xs:List Tm) (hl:kq9 l) (g:xs.length<=9223372036854775807):khi l xs=some true:=by
 unfold khi;rw [kae3,qb];by_cases i:l.rules.length<=20
 ·by_cases C:l.symbols.length<=8
  ·rw [qh i,qh C];show Option.bind (some (decide ((12:Int)<(xs.length:Int)))) _=_;rw [qb];by_cases j:(12:Int)<(xs.length:Int);rw [qh j,qe];rfl;rw [qg j,qd];have b:xs.length<=12:=(by omega);rcases kjo (kd0 xs) xs.length (fun k=>!decide (((xs[k]?).map Tm.size).getD 0<=30)) (fun _ => .inr true) (.inl ()) (fun k hk=>by have p:=kzb xs[k] 30 (by omega);rw [show ((30:Nat):Int)=30 from rfl] at p;simp only [kd0,kaq hk,qe,kac,qa hk,qb,p,qax,qah,kaj hk g];cases decide (xs[k].size<=30) <;> rfl) (by simp only [kd0,kal,qd]) with ⟨k,_,_,_,hr⟩ | ⟨D,hr⟩;rw [hr,qb,qat];rw [hr,qb,q9];have m:∀ t∈xs,t.size<=30:=fun t ht=>(by obtain ⟨k,hk,rfl⟩:=qae.1 ht;have:=D k hk;rw [qa hk,qax,qah] at this;simpa using this);obtain ⟨c,f,d,v⟩:=k6v l hl
   -- the same error
   have n:(∃ e:Int,e≠0/\kjn l xs=some (e,[],[])/\kew l xs=some (⟨[],[]⟩,e))\/(c=0/\(∀ t∈xs,t.size<=24/\∃ s,Dv l s t)/\kab (kgn l xs) fuel 0=some (.inl ())/\kab (ka0 l xs) fuel 0=some (.inl ())):=by
    by_cases hc:c=0
    ·subst hc;rcases kacw hl b m with ⟨e,w,h1,x⟩ | h
     ·refine .inl ⟨e,w,?_,?_⟩;unfold kjn;rw [f,qb,show ((0:Int) != 0)=false from rfl,qd,qg (show ¬ (4096:Int)<(xs.length:Int) by omega),qd,h1];rfl
      ·unfold kew;rw [d,qb,show ((0:Int) != 0)=false from rfl,qd,qg (show ¬ (4096:Int)<(xs.length:Int) by omega),qd,x];rfl
     ·exact .inr ⟨rfl,h⟩
    ·refine .inl ⟨c,hc,?_,?_⟩;unfold kjn;rw [f,qb,show (c != 0)=true by simp [hc],qe]
     ·unfold kew;rw [d,qb,show (c != 0)=true by simp [hc],qe]
   rcases n with ⟨e,w,h1,x⟩ | ⟨rfl,a,p3,r3⟩;rw [h1,x,qb,qb];simp only;rw [show (e != e)=false by simp,qd,show (e != 0)=true by simp [w],qe];rfl
   ·have q:=v rfl;have E:∀ t∈xs,GT l xs t:=fun t ht=>⟨(a t ht).1,(a t ht).2,t,ht, .refl⟩;obtain ⟨ns,roots,y,F⟩:=kac9 (GT l xs) (fun r ts h=>h.down) l (fun t h=>by
     obtain ⟨h1,⟨s,z⟩,_⟩:=h;obtain ⟨r,hr,H,_⟩:=z.inv;exact ⟨by omega,by omega,by omega⟩) xs b (fun t ht=>(a t ht).1) (fun t ht r hr=>by
     obtain ⟨_,s,z⟩:=a t ht;exact k8p (kaa2 t s z r hr) (by omega)) E f p3
    obtain ⟨ts,hS⟩:=kagg b F;obtain ⟨s',A⟩:=kafk d b a r3;have B:=k07 q d (hS.form q) (hS.rul q);rw [y,A,qb,qb];simp only;rw [show ((0:Int) != 0)=false from rfl,qd,qd];have o:kee l (Sad.mk ns roots)=some 0:=B;rw [o,qb,show ((0:Int) != 0)=false from rfl,qd];cases decide ((40:Int)<(ns.length:Int)) with
    | true=>rfl
    | false=>
     obtain ⟨want,p,w1,w2⟩:=k6n xs (by omega) (fun u hu=>by have:=m u hu;omega);have hp:ke8 l (Sad.mk ns roots) want=some true:=hS.proper q d b w1 w2;rw [qd,p,qb,hp];rfl
  ·rw [qg C,Bool.and_false,Bool.not_false,qe];rfl
 ·rw [qg i,Bool.false_and,Bool.not_false,qe];rfl
open Go Go.RowKit Go.ChangeShapes Go.WideShapes Go.Proofs.Tryz
theorem kafw:laidOutB Tryz.checked.prog=true:=by as_aux_lemma=>kernel_rfl
theorem kack:mapsRowed Tryz.checked.prog=true:=by as_aux_lemma=>kernel_rfl
theorem kada:Tryz.checked.prog.stopsHeard=true:=by as_aux_lemma=>kernel_rfl
theorem kac0:Tryz.checked.prog.liftsFinal=false:=by as_aux_lemma=>kernel_rfl
theorem k52:Tryz.checked.prog.mayEnter=true:=by as_aux_lemma=>kernel_rfl
theorem kafu:Tryz.checked.prog.make=some .cut:=by as_aux_lemma=>kernel_rfl
set_option maxRecDepth 100000 in
theorem kyo (os:Os) (started:os.Started) (H:Type) (enc:TypeId×Value->H):
  ReturnsInHanded {} Tryz.checked os 3 .any (fun w args=>(Rows.spaceOfSpec.pre enc prog Tryz.f3 Rows.spaceOfRow.domain false w args/\laidMetH prog Rows.spaceOfRow.laid w)/\sizedMet enc prog Tryz.f3 (OpenSpec.ofChange Rows.spaceOfSpec) false w args) (Rows.spaceOfSpec.post enc prog Tryz.f3 false true false false):=by
 refine kt2 (C:=Tryz.checked) (X:=fun w _=>laidMetH prog kuj w) (fun _ _ _ m h=>h.of_heap m) k9v started (by kernel_rfl) func3
  (ChangeSpec.witness_at (enc:=enc) (C:=Tryz.checked) (os:=os) (X:=fun w _=>laidMetH prog kuj w) false (ky0 os) #[.agg #[.string ⟨#[]⟩, .slice none 0 0, .slice none 0 0, .slice none 0 0], .slice none 0 0] 8 rfl (by kernel_rfl) (by kernel_rfl) (by kernel_rfl) (by kernel_rfl) (by kernel_rfl) (k0d os _)) ?_
 intro W base args ds gs before b l n d;have a:∀ (j:Nat) t v,Tryz.f3.params[j]?=some t->args[j]?=some v->Value.okWide prog W .any base t v:=b;have f:=l;obtain ⟨p,q,g,o,rfl,r,s⟩:=l;have hA:DataW.TrodAll enc prog W 0 (fun _=>true) true Tryz.f3.params.toList args.toList ds p:=g;rw [Tryz.params3] at hA a;obtain ⟨v0,vs0,d0,ds0,p0,q0,k,rfl,rfl,h0,r0⟩:=trodAll_cons hA;obtain ⟨v1,vs1,d1,ds1,p1,q1,rfl,rfl,rfl,h1,r1⟩:=trodAll_cons r0;obtain ⟨rfl,rfl,rfl⟩:=trodAll_nil r1;obtain rfl:args=#[v0,v1]:=by cases args;simp_all
 obtain ⟨rfl,rfl⟩:=trodVars_none o;obtain ⟨x0,e0,b0⟩:=in_La (a 0 26 v0 rfl rfl) h0;obtain ⟨x1,e1,b1⟩:=kagi (a 1 27 v1 rfl rfl) h1;refine (k6f [eLa x0,eL 2 eTmR x1] (knw x0 x1 true (k3o x0 x1 b0 b1)) rfl ?_ (kafi n d)).mono fun e W' ⟨u,y⟩=>?_
 ·intro i v x hv c
  match i with
  | 0=>simp at hv c;subst hv c;exact e0
  | 1=>simp at hv c;subst hv c;exact e1
  | i+2=>simp at hv
 subst u;exact ⟨_,rfl,kaaq kaaw (by rw [Tryz.params3];intro t ht;simp at ht;rcases ht with rfl | rfl <;> exact ⟨by kernel_rfl,qbr (by kernel_rfl)⟩) rfl underlying4 rfl rfl f y⟩
set_option maxHeartbeats 4000000 in
theorem kyj:joinedFacts Tryz.checked.prog 3 Tryz.f3 Rows.spaceOfSpec Rows.spaceOfRow=true:=by
 unfold joinedFacts;simp only [k52,kac0,kafu,kafw,kack,kada,qv,Bool.and_true]
 repeat' apply And.intro
 all_goals (as_aux_lemma=>kernel_rfl)
theorem k0b:Rows.SpaceOfSaid:=
 OpenClaim.holds_of_wide 3 Tryz.f3 rfl rfl rfl rfl rfl rfl rfl ⟨rfl,rfl,rfl,rfl,rfl⟩ rfl rfl rfl rfl rfl (by kernel_rfl) func3 kyj
  (qbr (by kernel_rfl)) (by unfold Func.isWrapper;rw [ql (qbt (by kernel_rfl))];exact ⟨rfl,rfl⟩)
  (fun os started H enc _=>kyo os started H enc)
theorem spaceOf_card_holds:Rows.SpaceOfCardSaid:=
 Claim7.holds_tied_plain_at .later [] [.data, .data, .data] true (true, "391b14b949f689338731bc6d96806d7bb54605e7e52da15fed85a7df4624a2b4") true k0b (fun _ h => by cases h) (by kernel_rfl) (fun _ h => by cases h) spaceOf_row_tie rfl ⟨rfl, rfl⟩ (by kernel_rfl) rfl
  (fun f fn hf a=>by
   obtain rfl : f = 3 := qaj ((show prog.funcNamed "synthesis/synthesislaw25.SpaceOf" = some 3 by kernel_rfl).symm.trans hf) |>.symm;obtain rfl:fn=Tryz.f3:=(qaj (func3.symm.trans a)).symm;exact ⟨by kernel_rfl,fun j t ht=>by
    rw [Tryz.params3] at ht
    match j with
    | 0=>obtain rfl:=qaj ht;exact (show prog.wantsStandIn 26=false by kernel_rfl)
    | 1=>obtain rfl:=qaj ht;exact (show prog.wantsStandIn 27=false by kernel_rfl)
    | j+2=>simp at ht⟩)
  (by kernel_rfl)
end Go.Proofs.YtchjomeomabamaaGreatDoor
