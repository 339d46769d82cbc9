import Derived.Test.YtaimpcnpifoidaaGreatDoorNr
import Derived.Test.YtaimpcnpifoidaaGreatDoorZE
import Derived.Test.YtaimpcnpifoidaaGreatDoorNb
import Derived.Test.YtaimpcnpifoidaaGreatDoorJn
import Derived.Lib.SplitLaws
set_option linter.all false
set_option maxRecDepth 100000
namespace Go.Proofs.YtaimpcnpifoidaaGreatDoor
open Go Go.RowKit
theorem kih {α β:Type} {f:α->Pr β} {p:Pr α} {l r:List UInt8} {b:β} (h:(p.bind f).run l=(some b,r)):∃ a m,p.run l=(some a,m)/\(f a).run m=(some b,r):=by
 rw [run_bind] at h;cases hp:p.run l with
 | mk a m=>
  rw [hp] at h;cases a with
  | none=>simp at h
  | some a=>exact ⟨a,m,rfl,h⟩
theorem kha {α:Type} {k:Int->Pr α} {l r:List UInt8} {v:α} (h:(Pr.peek k).run l=(some v,r)):(l=[]/\(k 0).run []=(some v,r))\/∃ c m,l=c::m/\(k (c.toNat:Int)).run (c::m)=(some v,r):=by
 cases l with
 | nil=>exact .inl ⟨rfl,h⟩
 | cons c m=>exact .inr ⟨c,m,rfl,h⟩
theorem kfl {α:Type} {p:Pr α} {c:UInt8} {m r:List UInt8} {v:α} (h:(Pr.adv p).run (c::m)=(some v,r)):p.run m=(some v,r):=h
theorem kdb {α:Type} {a v:α} {l r:List UInt8} (h:(Pr.done a).run l=(some v,r)):v=a/\r=l:=by cases h;exact ⟨rfl,rfl⟩
theorem ket {α:Type} {v:α} {l r:List UInt8} (h:(Pr.fail:Pr α).run l=(some v,r)):False:=by cases h
theorem kwc {r:List UInt8} {u:Unit}:∀ (w l:List UInt8),(∀ c∈w,c≠0)->(kbc (w.map fun c=>(c.toNat:Int))).run l=(some u,r)->l=w++r
 | [],l,_,h=>by obtain ⟨_,h⟩:=kdb h;exact h.symm
 | x::w,l,a,h=>by
  rw [qa8,kbc] at h;have b:(x.toNat:Int)≠0:=fun e=>a x (qt ..) (qbo.1 (by show x.toNat=0;omega));replace h:=kha h;rcases h with ⟨rfl,h⟩ | ⟨c,m,rfl,h⟩;rw [qg (fun e=>b e.symm)] at h;exact (ket h).elim
  ·by_cases hc:(c.toNat:Int)=(x.toNat:Int);rw [qj hc] at h;obtain rfl:c=x:=qbo.1 (by omega);rw [kwc w m (fun c hc=>a c (qn _ hc)) (kfl h)];rfl
   ·rw [qg hc] at h;exact (ket h).elim
theorem c34 {c:UInt8} (h:(c.toNat:Int)=34):c=34:=qbo.1 (by show c.toNat=34;omega)
theorem cEq {c d:UInt8} (h:(c.toNat:Int)=(d.toNat:Int)):c=d:=qbo.1 (by omega)
theorem k1d {least:Nat} {v:List Int} {r:List UInt8}:∀ (k:Nat) (acc:List Int) (l:List UInt8),(kh1 least k acc).run l=(some v,r) ->
  ∃ bs:List UInt8,v=acc++bs.map (fun c=>(c.toNat:Int))/\l=bs.flatMap escB++34::r/\(∀ c∈bs,kmf c=true)/\bs.length<=k/\least<=v.length
 | 0,acc,l,h=>by
  rw [kh1] at h;replace h:=kha h;rcases h with ⟨rfl,h⟩ | ⟨c,m,rfl,h⟩;rw [qg (by omega)] at h;exact (ket h).elim
  ·by_cases hc:(c.toNat:Int)=34/\least<=acc.length;rw [qj hc] at h;obtain ⟨rfl,rfl⟩:=kdb (kfl h);exact ⟨[],by simp,by rw [c34 hc.1];rfl,by simp,by simp,hc.2⟩
   ·rw [qg hc] at h;exact (ket h).elim
 | k+1,acc,l,h=>by
  rw [kh1] at h;replace h:=kha h;rcases h with ⟨rfl,h⟩ | ⟨c,m,rfl,h⟩;rw [qg (by omega),qj (by omega)] at h;exact (ket h).elim
  ·by_cases hc:(c.toNat:Int)=34/\least<=acc.length;rw [qj hc] at h;obtain ⟨rfl,rfl⟩:=kdb (kfl h);exact ⟨[],by simp,by rw [c34 hc.1];rfl,by simp,by simp,hc.2⟩;rw [qg hc] at h;by_cases f:(c.toNat:Int)=34\/(c.toNat:Int)<32\/126<(c.toNat:Int);rw [qj f] at h;exact (ket h).elim;rw [qg f] at h;by_cases a:(c.toNat:Int)=92
   ·rw [qj a] at h;replace h:=kha (kfl h);rcases h with ⟨rfl,h⟩ | ⟨d,m',rfl,h⟩;rw [qg (by omega)] at h;exact (ket h).elim
    ·by_cases hd:(d.toNat:Int)=34\/(d.toNat:Int)=92
     ·rw [qj hd] at h;obtain ⟨bs,h1,h2,h3,j,g⟩:=k1d k _ _ (kfl h);have i:d=34\/d=92:=hd.imp c34 fun e=>cEq (d:=92) e;refine ⟨d::bs,by rw [h1];simp,?_,fun x b=>?_,by simp;omega,g⟩;rw [h2,show c=92 from cEq (d:=92) a,qa0,show escB d=[92,d] from by unfold escB;rw [qj i]];rfl
      ·rcases qac.1 b with rfl | b;unfold kmf;simp;omega
       ·exact h3 x b
     ·rw [qg hd] at h;exact (ket h).elim
   ·rw [qg a] at h;obtain ⟨bs,h1,h2,h3,j,g⟩:=k1d k _ _ (kfl h);have hp:kmf c=true:=(by unfold kmf;simp;omega);refine ⟨c::bs,by rw [h1];simp,?_,fun x b=>?_,by simp;omega,g⟩;rw [h2,qa0,show escB c=[c] from by unfold escB;rw [qg (by rintro (e | e) <;> subst e <;> simp at f a),qj hp]];rfl
    ·rcases qac.1 b with rfl | b;exact hp
     ·exact h3 x b
theorem kwy (bs:List UInt8):(toBA (bs.map fun c=>(c.toNat:Int))).data.toList=bs:=by have:=kw8 (mkB bs);rw [kb9] at this;rw [this,kb9]
theorem k6n {least most:Nat} {v:List Int} {l r:List UInt8} (h:(kdw least most).run l=(some v,r)):l=kfz (toBA v).data.toList++r/\k2m least most (toBA v):=by
 unfold kdw at h;replace h:=kha h;rcases h with ⟨rfl,h⟩ | ⟨c,m,rfl,h⟩;rw [qg (by omega)] at h;exact (ket h).elim
 ·by_cases hc:(c.toNat:Int)=34
  ·rw [qj hc] at h;obtain ⟨bs,h1,h2,h3,a,b⟩:=k1d _ _ _ (kfl h);rw [List.nil_append] at h1;subst h1;rw [kwy];refine ⟨by rw [h2,c34 hc];simp [kfz],?_,?_,?_⟩;rw [ka9,kwy];simpa using b;rw [ka9,kwy];exact a
   ·rw [kwy];exact h3
  ·rw [qg hc] at h;exact (ket h).elim
theorem kad9 {m:Nat} (hm:0<m) {c:UInt8} (hc:dig c):decN (m*10+(c.toNat - 48))=decN m++[c]:=by unfold dig at hc;rw [decN,dif_neg (by omega),show (m*10+(c.toNat - 48)) / 10=m by omega,show (m*10+(c.toNat - 48)) % 10=c.toNat - 48 by omega];congr 2;apply qbo.1;rw [kk0 (by omega)];omega
theorem k1i {v:Int} {r:List UInt8}:∀ (f:Nat) (n:Nat) (pre l:List UInt8),0<n->n<=1000000->decN n=pre->(kcz f (n:Int)).run l=(some v,r) ->
  ∃ ds m:List UInt8,l=ds++r/\0<v/\v<=1000000/\decN v.toNat=pre++ds
 | 0,n,pre,l,h0,h1,hp,h=>by obtain ⟨rfl,rfl⟩:=kdb h;exact ⟨[],[],rfl,by omega,by omega,by simpa using hp⟩
 | f+1,n,pre,l,h0,h1,hp,h=>by
  rw [kcz,qg (by omega)] at h;replace h:=kha h;rcases h with ⟨rfl,h⟩ | ⟨c,m,rfl,h⟩;rw [qg (by omega)] at h;obtain ⟨rfl,rfl⟩:=kdb h;exact ⟨[],[],rfl,by omega,by omega,by simpa using hp⟩
  ·by_cases hc:48<=(c.toNat:Int)/\(c.toNat:Int)<=57/\(n:Int)*10+((c.toNat:Int) - 48)<=1000000;rw [qj hc] at h;have e:(n:Int)*10+((c.toNat:Int) - 48)=((n*10+(c.toNat - 48):Nat):Int):=(by omega);rw [e] at h;obtain ⟨ds,_,h2,h3,a,b⟩:=k1i f (n*10+(c.toNat - 48)) (pre++[c]) m (by omega) (by omega) (by rw [kad9 h0 ⟨hc.1,hc.2.1⟩,hp]) (kfl h);exact ⟨c::ds,[],by rw [h2];rfl,h3,a,by rw [b];simp⟩
   ·rw [qg hc] at h;obtain ⟨rfl,rfl⟩:=kdb h;exact ⟨[],[],rfl,by omega,by omega,by simpa using hp⟩
theorem k9n {neg:Bool} {v:Int} {l r:List UInt8} (h:(unsP neg).run l=(some v,r)):∃ n:Nat,n<=1000000/\v=(if neg=true then -(n:Int) else (n:Int))/\(neg=true->0<n)/\l=decN n++r:=by
 unfold unsP at h;replace h:=kha h;rcases h with ⟨rfl,h⟩ | ⟨c,m,rfl,h⟩;rw [qj (by omega)] at h;exact (ket h).elim
 ·by_cases hc:(c.toNat:Int)<48\/57<(c.toNat:Int)\/(neg=true/\(c.toNat:Int)=48);rw [qj hc] at h;exact (ket h).elim;rw [qg hc] at h;obtain ⟨a,m',h1,h2⟩:=kih (kfl h);obtain ⟨rfl,rfl⟩:=kdb h2;have e1:decN (c.toNat - 48)=[c]:=by rw [decN,dif_pos (by omega)];congr 1;apply qbo.1;rw [kk0 (by omega)];omega
  by_cases b:(c.toNat:Int)=48
  ·have hn:neg=false:=by cases neg with
    | false=>rfl
    | true=>exact absurd (.inr (.inr ⟨rfl,b⟩)) hc
   subst hn;have:((c.toNat:Int) - 48)=0:=(by omega);rw [this,kcz,qj (by omega)] at h1;obtain ⟨rfl,rfl⟩:=kdb h1;refine ⟨0,by omega,rfl,fun e=>(by cases e),?_⟩;rw [show (0:Nat)=c.toNat - 48 by omega,e1];rfl
  ·have e:((c.toNat:Int) - 48)=((c.toNat - 48:Nat):Int):=(by omega);rw [e] at h1;obtain ⟨ds,_,h2,h3,f,d⟩:=k1i 7 (c.toNat - 48) [c] m (by omega) (by omega) e1 h1;refine ⟨a.toNat,by omega,by rw [show ((a.toNat:Nat):Int)=a by omega],fun _=>by omega,?_⟩;rw [d,h2];rfl
theorem kal1 {v:Int} {l r:List UInt8} (h:numP.run l=(some v,r)):l=kd8 v++r /\ -1000000<=v/\v<=1000000:=by
 unfold numP at h;have key:(unsP false).run l=(some v,r)->l=kd8 v++r /\ -1000000<=v/\v<=1000000:=fun h=>by obtain ⟨n,h1,h2,_,h3⟩:=k9n h;simp only [qbc,qa4] at h2;subst h2;refine ⟨?_,by omega,by omega⟩;unfold kd8;rw [qg (by omega),h3];simp
 replace h:=kha h;rcases h with ⟨rfl,h⟩ | ⟨c,m,rfl,h⟩;rw [qg (by omega)] at h;exact key h
 ·by_cases hc:(c.toNat:Int)=45;rw [qj hc] at h;obtain ⟨n,h1,h2,a,h3⟩:=k9n (kfl h);simp only [qa6] at h2;have:=a rfl;subst h2;refine ⟨?_,by omega,by omega⟩;unfold kd8;rw [qj (by omega),h3,show c=45 from cEq (d:=45) hc];simp
  ·rw [qg hc] at h;exact key h
theorem k02 {α:Type} {e:UInt8} (g:e≠0) {least:Nat} {elem:List α->Pr α} {sh:α->List UInt8} {P:α->Prop} {I:List α->Prop}
  (d:∀ acc l v r,I acc->(elem acc).run l=(some v,r)->l=sh v++r/\P v/\I (acc++[v])) {v:List α} {r:List UInt8}:∀ (k:Nat) (acc:List α) (l:List UInt8),I acc->(kbg (e.toNat:Int) least elem k acc).run l=(some v,r) ->
  ∃ vs,v=acc++vs/\l=(if acc.length=0 then kc8 (vs.map sh) else kgq sh vs)++e::r/\(∀ x∈vs,P x)/\I v/\vs.length<=k/\least<=v.length:=by
 have a:(e.toNat:Int)≠0:=fun h=>g (qbo.1 (by show e.toNat=0;omega));intro k
 induction k with
 | zero=>
  intro acc l b h;rw [kbg] at h;replace h:=kha h;rcases h with ⟨rfl,h⟩ | ⟨c,m,rfl,h⟩;rw [qg (fun h=>a h.1.symm)] at h;exact (ket h).elim
  ·by_cases hc:(c.toNat:Int)=(e.toNat:Int)/\least<=acc.length;rw [qj hc] at h;obtain ⟨rfl,rfl⟩:=kdb (kfl h);exact ⟨[],by simp,by rw [cEq hc.1];simp [kc8,kgq],by simp,b,by simp,hc.2⟩
   ·rw [qg hc] at h;exact (ket h).elim
 | succ k ih=>
  intro acc l b h;rw [kbg] at h;have key:∀ l,((if acc.length=0 then Pr.done () else kbc [44,32]).bind fun _=>(elem acc).bind fun v=>kbg (e.toNat:Int) least elem k (acc++[v])).run l=(some v,r) ->
    ∃ vs,v=acc++vs/\l=(if acc.length=0 then kc8 (vs.map sh) else kgq sh vs)++e::r/\(∀ x∈vs,P x)/\I v/\vs.length<=k+1/\least<=v.length:=fun l h=>by
   obtain ⟨u,m,h1,h2⟩:=kih h;obtain ⟨x,m',h3,i⟩:=kih h2;obtain ⟨q1,q2,q3⟩:=d acc m x m' b h3;obtain ⟨vs,p1,p2,p3,p4,p5,p6⟩:=ih (acc++[x]) m' q3 i;rw [qg (by simp)] at p2;refine ⟨x::vs,by rw [p1];simp,?_,fun y f=>?_,p4,by simp;omega,p6⟩
   ·by_cases ha:acc.length=0;rw [qj ha] at h1 ⊢;obtain ⟨_,rfl⟩:=kdb h1;rw [knr,q1,p2];simp
    ·rw [qg ha] at h1 ⊢;have:=kwc [44,32] l (by decide) h1;rw [this,q1,p2];simp [kgq]
   ·rcases qac.1 f with rfl | f;exact q2
    ·exact p3 y f
  replace h:=kha h;rcases h with ⟨rfl,h⟩ | ⟨c,m,rfl,h⟩;rw [qg (fun h=>a h.1.symm)] at h;exact key [] h
  ·by_cases hc:(c.toNat:Int)=(e.toNat:Int)/\least<=acc.length;rw [qj hc] at h;obtain ⟨rfl,rfl⟩:=kdb (kfl h);exact ⟨[],by simp,by rw [cEq hc.1];simp [kc8,kgq],by simp,b,by simp,hc.2⟩
   ·rw [qg hc] at h;exact key _ h
theorem kw2 {v:Va} {l r:List UInt8} (h:intE.run l=(some v,r)):l=kad v++r/\kqz v:=by unfold intE at h;obtain ⟨n,m,h1,h2⟩:=kih h;obtain ⟨rfl,rfl⟩:=kdb h2;obtain ⟨h3,a,b⟩:=kal1 h1;exact ⟨by rw [h3];simp [kad],n,rfl,a,b⟩
theorem kt2 {v:Va} {l r:List UInt8} (h:textE.run l=(some v,r)):l=kad v++r/\kqr v:=by unfold textE at h;obtain ⟨n,m,h1,h2⟩:=kih h;obtain ⟨rfl,rfl⟩:=kdb h2;obtain ⟨h3,a⟩:=k6n h1;exact ⟨by rw [h3];simp [kad],_,rfl,a⟩
theorem k4a {least most:Nat} {v:List Va} {l r:List UInt8} (h:(kbg 125 least (fun _=>textE) most []).run l=(some v,r)):l=kc8 (kkw v)++125::r/\least<=v.length/\v.length<=most/\∀ x∈v,kqr x:=by obtain ⟨vs,h1,h2,h3,_,a,b⟩:=k02 (e:=125) (by decide) (sh:=kad) (P:=kqr) (I:=fun _=>True) (fun acc l v r _ h=>⟨(kt2 h).1,(kt2 h).2,trivial⟩) most [] l trivial h;rw [List.nil_append] at h1;subst h1;exact ⟨by rw [h2,kkv];simp,b,a,h3⟩
def kaa4 (acc:List Va):Prop:=∃ m,1<=m/\m<=8/\∀ x∈acc,kwo m m x
theorem kahp {acc:List Va} {v:Va} {l r:List UInt8} (i:kaa4 acc) (h:(rowE acc).run l=(some v,r)):l=kad v++r/\True/\kaa4 (acc++[v]):=by
 unfold rowE at h;replace h:=kha h;rcases h with ⟨rfl,h⟩ | ⟨c,m,rfl,h⟩;rw [qg (by omega)] at h;exact (ket h).elim
 ·by_cases hc:(c.toNat:Int)=123
  ·rw [qj hc] at h;obtain ⟨q,m',h1,h2⟩:=kih (kfl h);obtain ⟨rfl,rfl⟩:=kdb h2;obtain ⟨h3,e,f,g⟩:=k4a h1;refine ⟨by rw [h3,krf,show c=123 from cEq (d:=123) hc];simp,trivial,?_⟩;cases acc with
   | nil=>exact ⟨q.length,e,f,fun x a=>by simp at a;subst a;exact ⟨q,rfl,qy _,qy _,g⟩⟩
   | cons r0 acc=>
    obtain ⟨n,i1,i2,i3⟩:=i;obtain ⟨l0,e0,e1,e2,e3⟩:=i3 r0 (qt ..);have b:r0.items.length=n:=(by rw [e0];show l0.length=n;omega);simp only [b] at e f;refine ⟨n,i1,i2,fun x a=>?_⟩;rcases qao.1 a with a | a;exact i3 x a
    ·simp at a;subst a;exact ⟨q,rfl,e,f,g⟩
  ·rw [qg hc] at h;exact (ket h).elim
theorem k9b {c:UInt8} (h:¬ hexV (c.toNat:Int)<0):0<=hexV (c.toNat:Int)/\hexV (c.toNat:Int)<16/\hexD (hexV (c.toNat:Int)).toNat=c:=by
 have hv:hexV (c.toNat:Int)=(c.toNat:Int) - 48/\48<=(c.toNat:Int)/\(c.toNat:Int)<=57\/hexV (c.toNat:Int)=(c.toNat:Int) - 87/\97<=(c.toNat:Int)/\(c.toNat:Int)<=102:=by
  unfold hexV at h ⊢;by_cases h1:48<=(c.toNat:Int)/\(c.toNat:Int)<=57;exact .inl ⟨by rw [qj h1],h1⟩
  ·rw [qg h1] at h ⊢;by_cases h2:97<=(c.toNat:Int)/\(c.toNat:Int)<=102;exact .inr ⟨by rw [qj h2],h2⟩
   ·rw [qg h2] at h;omega
 rcases hv with ⟨h1,h2,h3⟩ | ⟨h1,h2,h3⟩;refine ⟨by omega,by omega,qbo.1 ?_⟩;have:=k1c (n:=(hexV (c.toNat:Int)).toNat) (by omega);rw [qj (by omega)] at this;omega
 ·refine ⟨by omega,by omega,qbo.1 ?_⟩;have:=k1c (n:=(hexV (c.toNat:Int)).toNat) (by omega);rw [qg (by omega)] at this;omega
theorem kahv {n:Int} {l r:List UInt8} (h:bitsP.run l=(some n,r)):l=hexD (n.toNat / 16)::hexD (n.toNat % 16)::r/\0<=n/\n<=255:=by
 unfold bitsP at h;have z:hexV 0<0:=by decide
 replace h:=kha h;rcases h with ⟨rfl,h⟩ | ⟨a,m,rfl,h⟩;rw [qj z] at h;exact (ket h).elim;by_cases ha:hexV (a.toNat:Int)<0;rw [qj ha] at h;exact (ket h).elim;rw [qg ha] at h;replace h:=kha (kfl h);rcases h with ⟨rfl,h⟩ | ⟨b,m',rfl,h⟩;rw [qj z] at h;exact (ket h).elim;by_cases c:hexV (b.toNat:Int)<0;rw [qj c] at h;exact (ket h).elim;rw [qg c] at h;obtain ⟨rfl,rfl⟩:=kdb (kfl h);obtain ⟨a1,a2,a3⟩:=k9b ha;obtain ⟨b1,b2,b3⟩:=k9b c;refine ⟨?_,by omega,by omega⟩;have e1:(hexV (a.toNat:Int)*16+hexV (b.toNat:Int)).toNat / 16=(hexV (a.toNat:Int)).toNat:=by omega
 have e2:(hexV (a.toNat:Int)*16+hexV (b.toNat:Int)).toNat % 16=(hexV (b.toNat:Int)).toNat:=by omega
 rw [e1,e2,a3,b3]
theorem ky5 {v:Va} {l r:List UInt8} (h:oneP.run l=(some v,r)):l=kad v++r/\kir v:=by
 unfold oneP at h;have ki:∀ l,intE.run l=(some v,r)->l=kad v++r/\kir v:=fun l h=>⟨(kw2 h).1, .inr (.inl (kw2 h).2)⟩;replace h:=kha h;rcases h with ⟨rfl,h⟩ | ⟨c,m,rfl,h⟩;exact ki [] h;by_cases c1:(c.toNat:Int)=116;rw [qj c1] at h;obtain ⟨u,m',h1,h2⟩:=kih h;obtain ⟨rfl,rfl⟩:=kdb h2;exact ⟨by rw [kwc [116,114,117,101] _ (by decide) h1];simp [kad], .inl (.inr rfl)⟩;rw [qg c1] at h;by_cases c2:(c.toNat:Int)=102;rw [qj c2] at h;obtain ⟨u,m',h1,h2⟩:=kih h;obtain ⟨rfl,rfl⟩:=kdb h2;exact ⟨by rw [kwc [102,97,108,115,101] _ (by decide) h1];simp [kad], .inl (.inl rfl)⟩;rw [qg c2] at h;by_cases c3:(c.toNat:Int)=34;rw [qj c3] at h;exact ⟨(kt2 h).1, .inr (.inr (.inr (.inl (kt2 h).2)))⟩;rw [qg c3] at h;by_cases c4:(c.toNat:Int)=114;rw [qj c4] at h;obtain ⟨u,m',h1,h2⟩:=kih (kfl h);obtain ⟨rfl,rfl⟩:=kdb h2;obtain ⟨h3,a⟩:=k6n h1;exact ⟨by rw [h3,show c=114 from cEq (d:=114) c4];simp [kad], .inr (.inr (.inr (.inr (.inl ⟨_,rfl,a⟩))))⟩;rw [qg c4] at h;by_cases c5:(c.toNat:Int)=91;rw [qj c5] at h;obtain ⟨u,m',h1,h2⟩:=kih (kfl h);obtain ⟨rfl,rfl⟩:=kdb h2;obtain ⟨vs,p1,p2,p3,_,p5,p6⟩:=k02 (e:=93) (by decide) (sh:=kad) (P:=kqz) (I:=fun _=>True) (fun acc l v r _ h=>⟨(kw2 h).1,(kw2 h).2,trivial⟩) 16 [] m trivial h1;rw [List.nil_append] at p1;subst p1;exact ⟨by rw [p2,show c=91 from cEq (d:=91) c5];simp [kad,kkv], .inr (.inr (.inr (.inr (.inr (.inl ⟨_,rfl,p5,p3⟩)))))⟩;rw [qg c5] at h;by_cases c6:(c.toNat:Int)=123;rw [qj c6] at h;obtain ⟨u,m',h1,h2⟩:=kih (kfl h);obtain ⟨rfl,rfl⟩:=kdb h2;obtain ⟨h3,a,b,f⟩:=k4a h1;exact ⟨by rw [h3,krf,show c=123 from cEq (d:=123) c6];simp, .inr (.inr (.inr (.inr (.inr (.inr (.inl ⟨_,rfl,a,b,f⟩))))))⟩;rw [qg c6] at h;by_cases c7:(c.toNat:Int)=60;rw [qj c7] at h;obtain ⟨u,m',h1,h2⟩:=kih (kfl h);obtain ⟨rfl,rfl⟩:=kdb h2;obtain ⟨vs,p1,p2,p3,⟨k,k1,k2,k3⟩,p5,p6⟩:=k02 (e:=62) (by decide) (sh:=kad) (P:=fun _=>True) (I:=kaa4) (fun acc l v r g h=>kahp g h) 8 [] m ⟨1,by omega,by omega,by simp⟩ h1;rw [List.nil_append] at p1;subst p1;exact ⟨by rw [p2,show c=60 from cEq (d:=60) c7];simp [kad,kkv], .inr (.inr (.inr (.inr (.inr (.inr (.inr ⟨_,rfl,p5,k,k1,k2,k3⟩))))))⟩;rw [qg c7] at h;by_cases c8:(c.toNat:Int)=48
 ·rw [qj c8] at h;replace h:=kha (kfl h);rcases h with ⟨rfl,h⟩ | ⟨d,m',rfl,h⟩;rw [qg (by omega)] at h;obtain ⟨rfl,rfl⟩:=kdb h;exact ⟨by rw [show c=48 from cEq (d:=48) c8];simp [kad,kd8,decN], .inr (.inl ⟨0,rfl,by omega,by omega⟩)⟩
  ·by_cases hd:(d.toNat:Int)=120;rw [qj hd] at h;obtain ⟨n,m2,h1,h2⟩:=kih (kfl h);obtain ⟨rfl,rfl⟩:=kdb h2;obtain ⟨h3,a,b⟩:=kahv h1;exact ⟨by rw [h3,show c=48 from cEq (d:=48) c8,show d=120 from cEq (d:=120) hd];simp [kad], .inr (.inr (.inl ⟨n,rfl,a,b⟩))⟩
   ·rw [qg hd] at h;obtain ⟨rfl,rfl⟩:=kdb h;exact ⟨by rw [show c=48 from cEq (d:=48) c8];simp [kad,kd8,decN], .inr (.inl ⟨0,rfl,by omega,by omega⟩)⟩
 ·rw [qg c8] at h;exact ki _ h
open Go Go.RowKit Go.Proofs
theorem kaki:kgr=some true:=by kernel_rfl
def bsOf (s:BA):List UInt8:=s.data.toList
theorem k0d (s:BA):mkB (bsOf s)=s:=by simp [mkB,bsOf]
theorem kafx (s:BA):(bsOf s).length=s.size:=by cases s;rfl
def ruD:Ru:=Ru.mk 0 0 0 (Va.mk 0 0 ⟨#[]⟩ []) ⟨#[]⟩ []
def kax (l:La) (i:Int):Ru:=l.rules.getD i.toNat ruD
theorem k00 {l:La} {i:Int} (h0:0<=i) (h1:i<(l.rules.length:Int)):idx l.rules i=some (kax l i)/\kax l i∈l.rules:=by
 have a:i.toNat<l.rules.length:=by omega
 have e:kax l i=l.rules[i.toNat]:=by unfold kax;simp [List.getD,qc a]
 rw [e];refine ⟨?_,qv a⟩;unfold idx;rw [qj h0,qc a]
structure OkL (l:La):Prop where
 wr:∀ r∈l.rules,WrR r
 kind:∀ r∈l.rules,r.kind=1\/r.kind=2\/r.kind=3
theorem kam1 (l:La):ki1 l=some (decide (l.rules.length<=20) && decide (l.symbols.length<=8)):=by
 unfold ki1;by_cases h1:l.rules.length<=20;rw [qe (show (l.rules.length:Int)<=20 by omega),qe h1];simp only [qf,qa,Bool.true_and];congr 1;exact qbj.2 (by omega)
 ·rw [qb (show ¬ (l.rules.length:Int)<=20 by omega),qb h1];rfl
instance (c:UInt8):Decidable (letC c):=by unfold letC;infer_instance
instance (c:UInt8):Decidable (digC c):=by unfold digC;infer_instance
instance (s:BA):Decidable (kok s):=by unfold kok;infer_instance
def inpL:List UInt8->Option Nat
 | [105,110,d]=>if 48<=d.toNat/\d.toNat<52 then some (d.toNat - 48) else none
 | _=>none
def vis (c:UInt8):Prop:=32<=c.toNat/\c.toNat<=126
theorem v32 {c:UInt8} (h:32<=c.toNat) (h2:c.toNat<=126):vis c:=⟨h,h2⟩
theorem kags {b:List UInt8} (h:(prV (mkB b)).2.2=0):b=kad (prV (mkB b)).1/\kir (prV (mkB b)).1:=by
 rcases kadc (mkB b) with ⟨v,h1,h2⟩ | ⟨h1,h2⟩;rw [h2];have e:=kvr (mkB b) oneP 0;rw [h1,qaz,kb9] at e;simp only [kb8,List.drop_length] at e;obtain ⟨e1,e2⟩:=ky5 e;exact ⟨by rw [List.append_nil] at e1;exact e1,e2⟩
 ·rw [h1] at h;simp at h
theorem kzk {v:Va} (h:kir v):prV (mkB (kad v))=(v,0,0):=by have h1:=(k2n h).1;rw [kqi (by rw [kb8];have:=kael h;omega)] at h1;exact qq h1
theorem k47:opNames.all (fun s=>decide (kok s))=true:=by kernel_rfl
theorem kahm {s:BA} {o:Saa} (h:ka7 s=some (o,true)):kok s:=by have:=qs.1 k47 s (kaam h);exact qal this
theorem k8k {l:La} (hl:kk5 l) (hv:klh l) {r:Ru} (hr:r∈l.rules):r.args.length<=1000:=((kadj hl hv).ruls r hr).few
theorem k2d {s:BA} {i:Nat} (h:i<s.data.toList.length):byt s (i:Int)=some ((s.data.toList[i]).toNat:Int):=by rw [ko0,qc h];rfl
theorem ko1 {s:BA} {a b:List UInt8} (h:s.data.toList=a++b):cutS s 0 (a.length:Int)=some (mkB a):=by
 have hl:s.size=a.length+b.length:=by rw [ka9,h,qr]
 have:=kxx (s:=s) (i:=0) (w:=a.length) (by omega);rw [Nat.zero_add] at this;rw [show ((0:Int))=((0:Nat):Int) from rfl,this,h,qaz,List.take_left]
theorem kaip {s:BA} {a b:List UInt8} (h:s.data.toList=a++b):cutS s (a.length:Int) (s.size:Int)=some (mkB b):=by
 have hl:s.size=a.length+b.length:=by rw [ka9,h,qr]
 have:=kxx (s:=s) (i:=a.length) (w:=b.length) (by omega);rw [hl,this,h,List.drop_left,List.take_length]
theorem km0 (a b:List UInt8):((mkB a).toList == (⟨b.toArray⟩:BA).toList)=decide (a=b):=by
 rw [Bool.eq_iff_iff,decide_eq_true_iff,beqB_iff];constructor;intro h;have:=q9 bsOf h;exact (kb9 a).symm.trans (this.trans (kb9 b))
 ·intro h;rw [h];rfl
theorem kabd:∀ n:Fin 256,khr ((n.val:Nat):Int)=some (decide ((97<=n.val/\n.val<=122)\/(65<=n.val/\n.val<=90))):=by decide +kernel
theorem k42 (c:UInt8):khr (c.toNat:Int)=some (decide (letC c)):=kabd ⟨c.toNat,c.toNat_lt⟩
theorem kagc (c:UInt8):kj2 (c.toNat:Int)=some (decide (digC c)):=by
 have:∀ n:Fin 256,kj2 ((n.val:Nat):Int)=some (decide (48<=n.val/\n.val<=57)):=by decide +kernel
 exact this ⟨c.toNat,c.toNat_lt⟩
def inpR:Option Nat->Int×Bool
 | some k=>((k:Int),true)
 | none=>(0,false)
theorem k77 {b:List UInt8} (h:b.length=3):∃ x y z,b=[x,y,z]:=by
 match b,h with
 | [x,y,z],_=>exact ⟨x,y,z,rfl⟩
theorem k6p {b:List UInt8} (h:b.length≠3):inpL b=none:=by
 unfold inpL;split;exact absurd rfl h
 ·rfl
theorem k1h (x y z:UInt8):inpL [x,y,z]=if x=105/\y=110/\48<=z.toNat/\z.toNat<52 then some (z.toNat - 48) else none:=by
 by_cases h1:x=105
 ·by_cases h2:y=110
  ·subst h1 h2;show (if 48<=z.toNat/\z.toNat<52 then some (z.toNat - 48) else none)=_;by_cases h:48<=z.toNat/\z.toNat<52;rw [qj h,qj ⟨rfl,rfl,h⟩]
   ·rw [qg h,qg fun q=>h q.2.2]
  ·rw [qg fun q=>h2 q.2.1];unfold inpL;split;rename_i e;simp at e;exact absurd e.2.1 h2
   ·rfl
 ·rw [qg fun q=>h1 q.1];unfold inpL;split;rename_i e;simp at e;exact absurd e.1 h1
  ·rfl
theorem k7g {z:UInt8} (h:48<=z.toNat):w64 (wu8 ((z.toNat:Int) - 48))=((z.toNat - 48:Nat):Int):=by
 have:∀ n:Fin 256,48<=n.val->w64 (wu8 (((n.val:Nat):Int) - 48))=((n.val - 48:Nat):Int):=by decide +kernel
 exact this ⟨z.toNat,z.toNat_lt⟩ h
theorem inp_p (b:List UInt8):kj3 (mkB b)=some (inpR (inpL b)):=by
 unfold kj3;by_cases h3:b.length=3
 ·obtain ⟨x,y,z,rfl⟩:=k77 h3;rw [show (((mkB [x,y,z]).size:Int) == 3)=true from rfl,qf,k1h];have c1:cutS (mkB [x,y,z]) 0 2=some (mkB [x,y]):=ko1 (s:=mkB [x,y,z]) (a:=[x,y]) (b:=[z]) (kb9 _);have c2:byt (mkB [x,y,z]) 2=some (z.toNat:Int):=by have:=k2d (s:=mkB [x,y,z]) (i:=2) (by rw [kb9];simp);simpa [kb9] using this
  rw [c1,qa,km0,c2];simp only [qa];by_cases h1:x=105/\y=110
  ·rw [qe (show [x,y]=[105,110] by rw [h1.1,h1.2]),qf];by_cases c:48<=z.toNat
   ·rw [qe (show (48:Int)<=(z.toNat:Int) by omega),qf];by_cases d:z.toNat<52;rw [qe (show (z.toNat:Int)<52 by omega),qa,qf,qj ⟨h1.1,h1.2,c,d⟩,k7g c];rfl
    ·rw [qb (show ¬ (z.toNat:Int)<52 by omega),qa,qd,qg fun q=>d q.2.2.2];rfl
   ·rw [qb (show ¬ (48:Int)<=(z.toNat:Int) by omega),qd,qa,qd,qg fun q=>c q.2.2.1];rfl
  ·rw [qb (fun e:[x,y]=[105,110]=>by simp at e;exact h1 e),qd,qa,qd,qg fun q=>h1 ⟨q.1,q.2.1⟩];rfl
 ·rw [k6p h3,show (((mkB b).size:Int) == 3)=false by rw [qae,kb8];omega];rfl
theorem inp_r (b:List UInt8):kh0 (mkB b)=some (match inpL b with | some k=>(k:Int) | none => -1):=by
 unfold kh0;by_cases h3:b.length=3
 ·obtain ⟨x,y,z,rfl⟩:=k77 h3;rw [show (((mkB [x,y,z]).size:Int) == 3)=true from rfl,qf,k1h];have c1:cutS (mkB [x,y,z]) 0 2=some (mkB [x,y]):=ko1 (s:=mkB [x,y,z]) (a:=[x,y]) (b:=[z]) (kb9 _);have c2:byt (mkB [x,y,z]) 2=some (z.toNat:Int):=by have:=k2d (s:=mkB [x,y,z]) (i:=2) (by rw [kb9];simp);simpa [kb9] using this
  rw [c1,qa,km0,c2];simp only [qa];by_cases h1:x=105/\y=110
  ·rw [qe (show [x,y]=[105,110] by rw [h1.1,h1.2]),qf];by_cases c:48<=z.toNat
   ·rw [qe (show (48:Int)<=(z.toNat:Int) by omega),qf,k7g c];by_cases d:z.toNat<52;rw [qe (show ((z.toNat - 48:Nat):Int)<4 by omega),qa,qf,qj ⟨h1.1,h1.2,c,d⟩]
    ·rw [qb (show ¬ ((z.toNat - 48:Nat):Int)<4 by omega),qa,qd,qg fun q=>d q.2.2.2]
   ·rw [qb (show ¬ (48:Int)<=(z.toNat:Int) by omega),qd,qa,qd,qg fun q=>c q.2.2.1]
  ·rw [qb (fun e:[x,y]=[105,110]=>by simp at e;exact h1 e),qd,qa,qd,qg fun q=>h1 ⟨q.1,q.2.1⟩]
 ·rw [k6p h3,show (((mkB b).size:Int) == 3)=false by rw [qae,kb8];omega];rfl
end Go.Proofs.YtaimpcnpifoidaaGreatDoor
