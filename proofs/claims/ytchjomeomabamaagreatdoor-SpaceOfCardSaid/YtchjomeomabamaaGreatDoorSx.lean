import Derived.Test.YtchjomeomabamaaGreatDoorDn
import Derived.Test.YtchjomeomabamaaGreatDoorDf
set_option linter.all false
set_option maxRecDepth 100000
namespace Go.Proofs.YtchjomeomabamaaGreatDoor
open Go Go.RowKit
theorem kq1 {α:Type}:∀ (xs ys:List α),xs.Nodup->(∀ x∈xs,x∈ys)->xs.length<=ys.length
 | [],ys,_,_=>qau _
 | x::xs,ys,h,hs=>by
  obtain ⟨a,b,rfl⟩:=List.append_of_mem (hs x (qn ..));rw [List.nodup_cons] at h;have:=kq1 xs (a++b) h.2 fun y hy=>by
   have h1:=hs y (qj _ hy);have c:y≠x:=fun e=>h.1 (e ▸ hy);simp only [qab,qam] at h1 ⊢;rcases h1 with h1 | h1 | h1;exact .inl h1;exact absurd h1 c
   ·exact .inr h1
  simp only [qag,qbd] at this ⊢;omega
def shp (ns:List Nod) (i:Nat) (o:Opn):List Int:=syAt ns (i:Int)::o.yb.map (syAt ns)
def kmy (l:La) (ns:List Nod) (i:Nat) (o:Opn):Int:=match l.rules[o.yd.toNat]? with
 | none=>1
 | some r=>if shp ns i o=r.symbol::r.args then 0 else 4
section
variable {l:La} {s:Spa} {i:Nat} {n:Nod} {o:Opn}
theorem kacm (hf:kc6 s) (hn:s.ya[i]?=some n) (ho:o∈n.yc):o.yb.length<=24:=by
 have h1:=(hf.node i n hn).opt o ho;have b:=(hf.node i n hn).size;have key:∀ l:List Int,(∀ a∈l,1<=szAt s.ya a)->(l.length:Int)<=(l.map (szAt s.ya)).sum:=fun l=>by
  induction l with
  | nil=>intro _;simp
  | cons x l ih=>
   intro h;have h1:=h x (qn ..);have b:=ih fun y hy=>h y (qj _ hy);simp only [qas,List.sum_cons,qbd];omega
 have c:=key o.yb fun a ha=>by obtain ⟨a0,a1⟩:=h1.args a ha;have hi:=kcg hn;obtain ⟨m,_,e2,e3,_⟩:=knh s.ya a0 (by omega);have:=(hf.node _ m e2).size;omega
 have:=h1.size;omega
theorem k12 (hf:kc6 s) (hn:s.ya[i]?=some n) (ho:o∈n.yc):∀ a∈o.yb,0<=a/\a<(s.ya.length:Int):=fun a ha=>by have h1:=((hf.node i n hn).opt o ho).args a ha;have:=kcg hn;omega
theorem kadh (p:kns l) (hf:kc6 s) (hn:s.ya[i]?=some n) (ho:o∈n.yc):kgt l s n o=some (kmy l s.ya i o):=by
 have g:=((hf.node i n hn).opt o ho).rule;have c:=k12 hf hn ho;have j:=kacm hf hn ho;unfold kgt kmy;rw [qg (show ¬ o.yd<0 by omega),qd];by_cases h1:(l.rules.length:Int)<=o.yd;rw [qh h1,qb,qe,qaq (by omega)]
 ·have b:o.yd.toNat<l.rules.length:=by omega
  rw [qg h1,qb,qd,show idx l.rules o.yd=some l.rules[o.yd.toNat] by unfold idx;rw [qp g,qa b],qb,qa b];have q:=(p.good _ (qi b)).few;generalize l.rules[o.yd.toNat]=r at q;simp only;by_cases f:r.symbol=n.ye
  ·rw [show (r.symbol != n.ye)=false by simp [f],qd,qb];by_cases t:r.args.length=o.yb.length
   ·rw [show ((r.args.length:Int) != (o.yb.length:Int))=false by simp [t],qd];rcases kjo (kfe s o r) r.args.length (fun k=>decide (syAt s.ya ((o.yb[k]?).getD 0)≠(r.args[k]?).getD 0)) (fun _ => .inr 4) (.inl ()) (fun k hk=>by
     have a:k<o.yb.length:=(by omega);obtain ⟨m,e1,_,_,e3⟩:=knh s.ya (c _ (qi a)).1 (c _ (qi a)).2;simp only [kfe,kaq hk,qe,kac,qa hk,qa a,qb,e1,qah,e3,kaj hk (show r.args.length<=9223372036854775807 by omega)];by_cases h:m.ye=r.args[k];rw [show (m.ye != r.args[k])=false by simp [h],ql (by simp [h])];rfl
     ·rw [show (m.ye != r.args[k])=true by simp [h],qp (by simp [h])];rfl) (by simp only [kfe,kal,qd]) with ⟨k,hk,d,_,hr⟩ | ⟨d,hr⟩
    rw [hr,qb];rw [qa6] at d;have:¬ shp s.ya i o=r.symbol::r.args:=fun e=>(by unfold shp at e;injection e with _ e;have a:k<o.yb.length:=(by omega);have:=qan (fun x=>x[k]?) e;simp only [qr,qa hk,qa a,qax,qc] at this;rw [qa hk,qa a] at d;exact d this);rw [ql this];rfl
    ·rw [hr,qb];have:shp s.ya i o=r.symbol::r.args:=by
      unfold shp;rw [kka hn,f];congr 1;refine qbz fun k=>?_;by_cases hk:k<r.args.length;have a:k<o.yb.length:=(by omega);have:=d k hk;rw [qbh,qa hk,qa a] at this;simp only [qah,ne_eq,Decidable.not_not] at this;rw [qr,qa hk,qa a,qax,this]
      ·rw [qaq (by rw [qaa];omega),qaq (by omega)]
     rw [qp this];rfl
   ·rw [show ((r.args.length:Int) != (o.yb.length:Int))=true by simp;omega,qe,ql];intro e;have:=qan List.length e;unfold shp at this;simp at this;omega
  ·rw [show (r.symbol != n.ye)=true by simp [f],qe,qb,qe,ql];intro e;unfold shp at e;injection e with e _;rw [kka hn] at e;exact f e.symm
theorem kaas (a:kns l) (hf:kc6 s) (hn:s.ya[i]?=some n) {k:Nat} (hk:k<n.yc.length):kc0 l s n (k:Int)=if kmy l s.ya i n.yc[k]≠0 then some (.inr (.inr (kmy l s.ya i n.yc[k]))) else some (.inl ((k+1:Nat):Int)):=by
 have ho:=qi hk;have b:n.yc.length<=32768:=qav (krw hn) hf.opts;simp only [kc0,kaq hk,qe,kac,qa hk,qb,kaj hk (show n.yc.length<=9223372036854775807 by omega)];rw [kadh a hf hn ho,qb];by_cases h:kmy l s.ya i n.yc[k]=0;rw [show (kmy l s.ya i n.yc[k] != 0)=false by simp [h],qd,ql (by simp [h])]
 ·rw [show (kmy l s.ya i n.yc[k] != 0)=true by simp [h],qe,qp h]
end
theorem kwh:∀ (n:Nat) (t:Tm) (m:Nat),m<=10000->m<n->kf6 n t (m:Int)=some (decide (t.size<=m),kdy m t.size)
 | 0,t,m,_,h=>by omega
 | n+1,t,m,hm,hn=>by
  show kiv (kf6 n) t (m:Int)=_;obtain ⟨r0,l⟩:=t;have f:(Tm.mk r0 l).size=Tm.sizeL l+1:=rfl;unfold kiv;rw [f];cases m with
  | zero=>rfl
  | succ B=>
   have e1:w64 (((B+1:Nat):Int) - 1)=(B:Int):=(by rw [kgv];omega);rw [e1,qg (show ¬ (B:Int)<0 by omega),qd];have key:Ev (kab (kba l (kf6 n)) fuel (0,(B:Int))) fun r=>(r = .inl ((B:Int) - Tm.sizeL l)/\Tm.sizeL l<=B)\/(∃ k:Nat,r = .inr ((k:Int),-1))/\B<Tm.sizeL l:=by
    refine kj2 (min l.length B) (fun i s=>s=((i:Int),(B:Int) - Tm.sizeL (l.take i))/\Tm.sizeL (l.take i)<=B) (by omega) ⟨by simp [Tm.sizeL],by simp [Tm.sizeL]⟩ (fun i s hi hs=>?_) (fun s hs=>?_)
    ·obtain ⟨rfl,e⟩:=hs;have a:i<l.length:=(by omega);have c:=kis l (i+1) (by omega);have hv:(B:Int) - Tm.sizeL (l.take i)=((B - Tm.sizeL (l.take i):Nat):Int):=(by omega);simp only [kba,qh (show (i:Int)<(l.length:Int) by omega),qe,kac,qa a,qb,hv,kwh n l[i] (B - Tm.sizeL (l.take i)) (by omega) (by omega),kbh i];rw [kke a] at c;by_cases hp:l[i].size<=B - Tm.sizeL (l.take i)
     ·rw [qh hp];refine ⟨_,rfl,?_,?_⟩;rw [kke a];unfold kdy;rw [qp hp];congr 1;omega
      ·rw [kke a];omega
     ·rw [qg hp];refine ⟨_,rfl, .inr ⟨⟨i,?_⟩,by omega⟩⟩;unfold kdy;rw [ql hp]
    ·obtain ⟨rfl,e⟩:=hs;by_cases j:l.length<=B;have b:min l.length B=l.length:=(by omega);rw [b,qal] at e ⊢;exact ⟨_,by simp only [kba,kal,qd],_,rfl, .inl ⟨rfl,e⟩⟩
     ·have b:min l.length B=B:=(by omega);rw [b] at e ⊢;have a:B<l.length:=(by omega);have c:=kis l B (by omega);have d:=kis l (B+1) (by omega);have o:=Tm.size_pos l[B];have hv:(B:Int) - Tm.sizeL (l.take B)=((0:Nat):Int):=(by omega);simp only [kba,qh (show (B:Int)<(l.length:Int) by omega),qe,kac,qa a,qb,hv,kwh n l[B] 0 (by omega) (by omega)];rw [qg (show ¬ l[B].size<=0 by omega)];rw [kke a] at d;refine ⟨_,rfl,_,rfl, .inr ⟨⟨B,?_⟩,by omega⟩⟩;unfold kdy;rw [ql (by omega)]
   obtain ⟨r,h1,g⟩:=key;show Option.bind (kbn (kf6 n) l (B:Int)) _=_;unfold kbn kcw;rw [h1,qb];unfold kdy;rcases g with ⟨rfl,g⟩ | ⟨⟨k,rfl⟩,g⟩;rw [qh (show Tm.sizeL l+1<=B+1 by omega),qp (by omega)];simp only [q9,qb];rw [qg (show ¬ (0:Int) <= -1 by omega)];congr 2;omega
   ·rw [qg (show ¬ Tm.sizeL l+1<=B+1 by omega),ql (by omega)];simp only [qat,qb];rw [qh (show (0:Int)<=(k:Int) by omega)];rfl
theorem kaec (t:Tm):klv t=some (decide (t.size<=24)):=by unfold klv;have:=kwh fuel t 24 (by omega) (kb7 (by omega));rw [show ((24:Nat):Int)=24 from rfl] at this;rw [this];rfl
section
variable {s:Spa}
theorem kace (hf:kc6 s):∀ (t:Tm) (i:Nat) (n:Nod),s.ya[i]?=some n->Bt s.ya i t->(t.size:Int)=n.yg:=by
 refine Tm.ind fun r l ih=>?_;intro i n hn d;obtain ⟨n',o,ts,b,ho,e,hs⟩:=d.inv;rw [hn] at b;cases b;cases e;have f:=(hf.node i n hn).opt o ho;have key:∀ (vs:List Int) (ts:List Tm),Bts s.ya vs ts->(∀ t∈ts,∀ (i:Nat) (n:Nod),s.ya[i]?=some n->Bt s.ya i t->(t.size:Int)=n.yg)->(Tm.sizeL ts:Int)=(vs.map (szAt s.ya)).sum:=fun vs=>by
  induction vs with
  | nil=>intro ts h _;cases h;rfl
  | cons a vs ih2=>
   intro ts h hi;cases h with
   | @cons _ _ t ts h0 ht hs=>
    have h1:=ih2 _ hs fun t ht=>hi t (qj _ ht);have c:=k5z ht;have hm:=qa c;have g:=hi t (qn ..) _ _ hm ht;have j:szAt s.ya a=s.ya[a.toNat].yg:=(by unfold szAt;rw [hm];rfl);simp only [Tm.sizeL,qas,List.sum_cons];omega
 have h1:=key _ _ hs ih;have g:=f.size;show ((Tm.sizeL l+1:Nat):Int)=_;omega
open Classical in
open Classical in
open Classical in
open Classical in
open Classical in
open Classical in
open Classical in
end
inductive Nd (s:Spa) (f:Nat->Bool):Nat->Prop where
 | root {r:Int} (hr:r∈s.yf) (hf:f r.toNat=true):Nd s f r.toNat
 | arg {i:Nat} {n:Nod} {o:Opn} {a:Int} (hi:Nd s f i) (hn:s.ya[i]?=some n) (ho:o∈n.yc) (hfo:kb1 f o=true) (ha:a∈o.yb):Nd s f a.toNat
theorem kx4 {α:Type} {x:Option α} {P Q:α->Prop} (h:Ev x P) (k:Ev x Q):Ev x fun v=>P v/\Q v:=by obtain ⟨v,h1,a⟩:=h;obtain ⟨u,k1,k2⟩:=k;rw [h1] at k1;cases k1;exact ⟨v,h1,a,k2⟩
structure kab8 (s:Spa) (l q:List Bool):Prop where
 len:l.length=s.ya.length
 full:∀ i,i<s.ya.length->kua s l i
 qlen:q.length=s.ya.length
 need:∀ k,fg q k=true↔Nd s (fg l) k
section
variable {s:Spa} (hf:kc6 s)
include hf
theorem kaad {l:List Bool} (hl:l.length=s.ya.length):Ev (kab (kbm s l) fuel (0,List.replicate s.ya.length false)) fun p=>∀ k,fg p k=true->Nd s (fg l) k:=by
 have d:=kr7 hf.roots;have e:=hf.nodes;refine kcy (xs:=s.yf) (step:=kbm s l) (fun (j:Nat) (p:List Bool)=>((j:Int),p)) (fun j p=>p.length=s.ya.length/\∀ k,fg p k=true->Nd s (fg l) k) (by omega) ⟨List.length_replicate,fun k h=>by rw [k6y] at h;cases h⟩ (fun j p a ⟨h1,c⟩=>?_) (fun p ⟨h1,c⟩=>?_)
 ·have hr:=qa a;have b:=hf.roots.1 _ (qi a);simp only [kbm,kaq a,qe,kac,hr,qb,kob l b.1,kob p b.1,kaj a (show s.yf.length<=9223372036854775807 by omega)];refine ⟨_,rfl,_,rfl,by rw [List.length_set];exact h1,fun k hk=>?_⟩;rw [kny (by omega)] at hk;split at hk;rename_i h;subst h;exact .root (qi a) hk
  ·exact c k hk
 ·exact ⟨_,by simp only [kbm,kal,qd],_,rfl,c⟩
theorem kagl {S:Nat->Prop} {l p:List Bool} {i:Nat} {n:Nod} {o:Opn} (hl:l.length=s.ya.length) (hp:p.length=s.ya.length) (hn:s.ya[i]?=some n) (ho:o∈n.yc) (hS:∀ k,fg p k=true->S k) (hA:kb1 (fg l) o=true->∀ a∈o.yb,S a.toNat):
  Ev (kab (ka6 l o) fuel (0,p)) fun q=>∀ k,fg q k=true->S k:=by
 have f:=kh1 hf hn ho;have g:=hf.nodes;have b:kbx o l=some (kb1 (fg l) o):=kxp (fun a ha=>by have:=klx hf hn ho ha;omega) (by omega);refine kcy (xs:=o.yb) (step:=ka6 l o) (fun (j:Nat) (q:List Bool)=>((j:Int),q)) (fun j q=>q.length=s.ya.length/\∀ k,fg q k=true->S k) (by omega) ⟨hp,hS⟩ (fun j q c ⟨h1,d⟩=>?_) (fun q ⟨h1,d⟩=>?_)
 ·have ha:=qa c;have e:=klx hf hn ho (qi c);simp only [ka6,kaq c,qe,b,qb,kac,ha,kob q e.1,kaj c (show o.yb.length<=9223372036854775807 by omega)];cases m:kb1 (fg l) o with
  | false=>exact ⟨_,rfl,d⟩
  | true=>
   refine ⟨_,rfl,_,rfl,by rw [List.length_set];exact h1,fun k hk=>?_⟩;rw [kny (by omega)] at hk;split at hk;rename_i h;subst h;exact hA m _ (qi c)
   ·exact d k hk
 ·exact ⟨_,by simp only [ka6,kal,qd,qb],_,rfl,d⟩
theorem kacj {S:Nat->Prop} {l p:List Bool} {i:Nat} {n:Nod} (hl:l.length=s.ya.length) (hp:p.length=s.ya.length) (hn:s.ya[i]?=some n) (x:Int×List Bool) (f:x.1=(i:Int)) (hS:∀ k,fg p k=true->S k) (hA:fg p i=true->∀ o∈n.yc,kb1 (fg l) o=true->∀ a∈o.yb,S a.toNat):
  Ev (kab (kbk s l x) fuel (0,p)) fun q=>∀ k,fg q k=true->S k:=by
 have g:=olen hf hn;have hi:=kcg hn;refine kcy (xs:=n.yc) (step:=kbk s l x) (fun (j:Nat) (q:List Bool)=>((j:Int),q)) (fun j q=>q.length=s.ya.length/\(∀ k,i<=k->fg q k=fg p k)/\∀ k,fg q k=true->S k) (by omega) ⟨hp,fun k _=>rfl,hS⟩ (fun j q b ⟨h1,d,c⟩=>?_) (fun q ⟨h1,d,c⟩=>?_)
 ·have ho:=qa b;have hm:=qi b;simp only [kbk,f,kac,hn,qb,kaq b,qe,kwy (show i<q.length by omega),d i (qx _),ho,kaj b (show n.yc.length<=9223372036854775807 by omega)];cases e:fg p i with
  | false=>exact ⟨_,rfl,c⟩
  | true=>
   simp only [qe];refine kdp (Ev.mono (kx4 (k2a hf hl h1 hn hm) (kagl hf hl h1 hn hm c (hA e _ hm))) fun q' ⟨⟨g1,g2,g3,g4⟩,g5⟩=>?_);exact ⟨_,rfl,_,rfl,g1,fun k hk=>by rw [g3 k hk,d k hk],g5⟩
 ·exact ⟨_,by simp only [kbk,f,kac,hn,qb,kal,qd],_,rfl,c⟩
theorem kae8 {l p:List Bool} (hl:l.length=s.ya.length) (hp:p.length=s.ya.length) (hS:∀ k,fg p k=true->Nd s (fg l) k):Ev (kab (kcj s l) fuel (w64 ((s.ya.length:Int) - 1),p)) fun q=>∀ k,fg q k=true->Nd s (fg l) k:=by
 have d:=hf.nodes;have e0:w64 ((s.ya.length:Int) - 1)=(s.ya.length:Int) - 1:=kgv;rw [e0];refine kpv (fun (x:Int×List Bool) => -1<=x.1/\x.1<(s.ya.length:Int)/\x.2.length=s.ya.length/\∀ k,fg x.2 k=true->Nd s (fg l) k)
  (fun x=>(x.1+1).toNat) (by show ((s.ya.length:Int) - 1+1).toNat<_;omega) ⟨by show (-1:Int)<=(s.ya.length:Int) - 1;omega,by show (s.ya.length:Int) - 1<_;omega,hp,hS⟩ ?_
 rintro ⟨z,q⟩ ⟨h0,h1,c,b⟩;simp only at h0 h1 c b;by_cases e:0<=z
 ·obtain ⟨i,rfl⟩:∃ i:Nat,z=(i:Int):=⟨z.toNat,by omega⟩;have hi:i<s.ya.length:=by omega
  have hn:=qa hi;have e1:w64 ((i:Int) - 1)=(i:Int) - 1:=kgv;simp only [kcj,qh e,qe,e1];refine kdp (Ev.mono (kx4 (kzs hf hl c hn _ rfl) (kacj hf hl c hn _ rfl b fun f o ho hfo a ha => .arg (b _ f) hn ho hfo ha)) fun q' ⟨⟨g1,g2,g3,g4⟩,g5⟩=>?_);exact ⟨_,rfl,⟨by show (-1:Int)<=(i:Int) - 1;omega,by show (i:Int) - 1<_;omega,g1,g5⟩,by show ((i:Int) - 1+1).toNat<((i:Int)+1).toNat;omega⟩
 ·obtain rfl:z = -1:=by omega
  exact ⟨.inr q,by simp only [kcj];rfl,b⟩
omit hf in
theorem kaf5 {l q:List Bool} (h:kab8 s l q):kqr s (fg l) (fg q):=
 ⟨fun i t c=>k4l h.full t i c,fun r hr b=>(h.need _).2 (.root hr b),fun i n o d hn ho hfo a ha=>(h.need _).2 (.arg ((h.need _).1 d) hn ho hfo ha)⟩
end
theorem kagd {s:Spa} (d:kw3 s):Ev (kb3 s) fun r=>(¬ kc6 s/\r=(⟨[],[]⟩,4))\/(kc6 s/\∃ l q,kab8 s l q/\r=(kgr (fg l) (fg q) s,0)):=by
 unfold kb3;obtain ⟨b,e,a⟩:=ksq d;rw [e,qb];cases b with
 | false=>exact ⟨_,rfl, .inl ⟨fun h=>absurd (a.2 h) qba,rfl⟩⟩
 | true=>
  have hf:=a.1 rfl;have f:=hf.nodes;simp only [qa9,qd];obtain ⟨l,hl,l1,l2⟩:=k23 hf;rw [hl,qb,krz 1 false s.ya.length,qb];obtain ⟨p,hp,⟨p1,p2⟩,p3⟩:=kx4 (kww hf l1) (kaad hf l1);rw [hp,qb];obtain ⟨q,g,⟨q1,q2,q3⟩,q4⟩:=kx4 (k20 hf l1 p1) (kae8 hf l1 p1 p3);rw [g,qb,krz 8 0 s.ya.length,qb];obtain ⟨v,hv,v1,v2⟩:=kzj hf l1 q1;rw [hv,qb];obtain ⟨u,hu,rfl⟩:=kzn hf l1 v v1;rw [hu,qb];refine ⟨_,rfl, .inr ⟨hf,l,q,⟨l1,l2,q1,fun k=>⟨q4 k,fun h=>?_⟩⟩,?_⟩⟩
  ·induction h with
   | root hr c=>exact q2 _ (by rw [p2 _ hr];exact c)
   | arg _ hn ho hfo ha ih=>exact q3 _ _ hn ih _ ho hfo _ ha
  ·rw [v2];rfl
theorem ks7 {α:Type} {p:α->Bool} {l:List α} (h:∀ x∈l,p x=true):l.filter p=l:=List.filter_eq_self.2 h
theorem kaap {p:Nat->Bool} {n:Nat} (h:∀ i,i<n->p i=true):cntP p n=n:=by unfold cntP;rw [ks7 fun x a=>h x (by simpa using a),List.length_range]
section
variable {s:Spa} (hf:kc6 s)
include hf
theorem kacf {f p:Nat->Bool} (h1:∀ i,i<s.ya.length->f i=true) (d:∀ i,i<s.ya.length->p i=true):kgr f p s=s:=by
 have b:∀ a:Int,0<=a->a<(s.ya.length:Int)->numI p a=a:=fun a h0 e=>by unfold numI;rw [kaap fun i hi=>d i (by omega)];omega
 obtain ⟨ns,rs⟩:=s;unfold kgr;congr 1
 ·rw [ks7 fun i hi=>d i (by simpa using hi)];refine qbz fun i=>?_;rw [qr];by_cases hi:i<ns.length;have hn:=qa hi;rw [List.getElem?_range hi,qax,hn,qah];congr 1;unfold knu;have c:∀ o∈ns[i].yc,kb1 f o=true:=fun o ho=>qs.2 fun a ha=>(by have:=k12 hf hn ho a ha;exact h1 _ (by have h:a<(ns.length:Int):=this.2;show a.toNat<ns.length;omega));rw [ks7 c];have hk:ns[i].yc.map (kkd p)=ns[i].yc:=(by refine (qbf fun o ho=>?_).trans (List.map_id _);unfold kkd;have:o.yb.map (numI p)=o.yb:=(by refine (qbf fun a ha=>?_).trans (List.map_id _);have:=k12 hf hn ho a ha;exact b a this.1 this.2);rw [this];rfl);rw [hk]
  ·rw [qaq (l:=List.range _) (by rw [List.length_range];show ns.length<=i;omega),qaq (l:=ns) (by omega)];rfl
 ·rw [ks7 fun r hr=>by have:=hf.roots.1 r hr;exact h1 _ (by have h:r<(ns.length:Int):=this.2;show r.toNat<ns.length;omega)];refine (qbf fun r hr=>?_).trans (List.map_id _);have:=hf.roots.1 r hr;exact b r this.1 this.2
end
theorem kz2:∀ l:List Int,cmpI l l=0
 | []=>rfl
 | x::l=>by simp [cmpI,kz2 l]
theorem kof (a b:Tm):cmpT b a = -cmpT a b:=cmpT_ord.anti a b trivial
theorem kui {a b c:Tm} (h:cmpT a b<0) (k:cmpT b c<0):cmpT a c<0:=by
 have h1:=cmpT_ord.trans a b c trivial trivial trivial (by omega) (by omega);by_cases h0:cmpT a c=0;have:=cmpT_eq0.1 h0;subst this;have:=kof a b;omega
 ·omega
def SLt (xs:List Tm):Prop:=xs.Pairwise fun a b=>cmpT a b<0
theorem SLt.nodup {xs:List Tm} (h:SLt xs):xs.Nodup:=List.Pairwise.imp (fun {a b} c e=>by subst e;have:=cmpT_eq0.2 (rfl:a=a);omega) h
theorem SLt.len {xs X:List Tm} (h:SLt xs) (a:∀ u∈xs,u∈X):xs.length<=X.length:=kq1 xs X h.nodup a
theorem kye {xs:List Tm} (t:Tm) (hs:SLt xs) (x:∀ u∈xs,u.size<=1000) (ht:t.size<=1000) (hl:xs.length<=100000:=by omega):Ev (kb0 xs t) fun r=>SLt r/\∀ u,u∈r↔u∈xs\/u=t:=by
 unfold kb0;have f:=qbx.1 hs;refine kdp (Ev.mono (kpv (step:=kfg xs t) (Q:=fun v=>∃ n:Nat,v=(n:Int)/\n<=xs.length/\(∀ j (d:j<xs.length),n<=j->0<=cmpT xs[j] t)/\∀ j (d:j<xs.length),j<n->cmpT xs[j] t<0)
  (fun v=>∃ n:Nat,v=(n:Int)/\n<=xs.length/\∀ j (d:j<xs.length),n<=j->0<=cmpT xs[j] t) (fun v=>v.toNat) (by show (xs.length:Int).toNat<_;omega) ⟨xs.length,rfl,qx _,fun j d h=>by omega⟩ ?_) ?_)
 ·rintro v ⟨n,rfl,hn,h1⟩;by_cases h0:0<n
  ·have k:n - 1<xs.length:=(by omega);have e1:w64 ((n:Int) - 1)=((n - 1:Nat):Int):=(by rw [kgv];omega);have e2:decide ((0:Int)<(n:Int))=true:=qh (by omega);simp only [kfg,e2,qe,e1,kac,qa k,qb,kpc _ _ (x _ (qi k)) ht];by_cases o:0<=cmpT xs[n - 1] t
   ·rw [qh o,qe];refine ⟨_,rfl,⟨n - 1,rfl,by omega,fun j d z=>?_⟩,by show ((n - 1:Nat):Int).toNat<(n:Int).toNat;omega⟩;by_cases p:j=n - 1;subst p;exact o
    ·exact h1 j d (by omega)
   ·rw [qg o,qd];refine ⟨_,rfl,n,rfl,hn,h1,fun j d p=>?_⟩;by_cases s:j=n - 1;subst s;omega
    ·exact kui (f j (n - 1) d k (by omega)) (by omega)
  ·obtain rfl:n=0:=(by omega);refine ⟨.inr 0,by simp only [kfg];rfl,0,rfl,by omega,h1,fun j d h=>by omega⟩
 ·rintro v ⟨n,rfl,hn,h1,o⟩;have q:(∀ c:n<xs.length,cmpT xs[n] t≠0)->SLt (xs.take n++[t]++xs.drop n)/\∀ u,u∈xs.take n++[t]++xs.drop n↔u∈xs\/u=t:=fun l=>by
   constructor
   ·unfold SLt;rw [qa8,List.pairwise_append];refine ⟨List.Pairwise.sublist (List.take_sublist _ _) hs,?_,fun a ha b m=>?_⟩
    ·rw [List.singleton_append,List.pairwise_cons];refine ⟨fun b m=>?_,List.Pairwise.sublist (List.drop_sublist _ _) hs⟩;obtain ⟨j,d,rfl⟩:=qae.1 m;rw [qa1] at d;rw [List.getElem_drop];have c:n<xs.length:=(by omega);have y:cmpT t xs[n]<0:=(by have:=h1 n c (qx _);have:=l c;rw [kof];omega);by_cases w:j=0;subst w;exact y
     ·exact kui y (f n (n+j) c (by omega) (by omega))
    ·obtain ⟨i,hi,rfl⟩:=qae.1 ha;rw [qai] at hi;rw [List.getElem_take];rw [List.singleton_append] at m;rcases qam.1 m with rfl | m;exact o i (by omega) (by omega)
     ·obtain ⟨j,d,rfl⟩:=qae.1 m;rw [qa1] at d;rw [List.getElem_drop];exact f i (n+j) (by omega) (by omega) (by omega)
   ·intro u;have:u∈xs↔u∈xs.take n\/u∈xs.drop n:=(by rw [<- qab,List.take_append_drop]);rw [this];simp only [qab,qw];constructor
    ·rintro ((h | h) | h);exact .inl (.inl h);exact .inr h
     ·exact .inl (.inr h)
    ·rintro ((h | h) | h);exact .inl (.inl h);exact .inr h
     ·exact .inl (.inr h)
  have g:(∀ c:n<xs.length,cmpT xs[n] t≠0)->Ev (Option.bind (cutL xs 0 (n:Int)) fun v12=>Option.bind (app 32 ([]:List Tm) v12) fun v13=>Option.bind (app 32 v13 ([t]:List Tm)) fun v14=>Option.bind (cutL xs (n:Int) xs.length) fun v15=>Option.bind (app 32 v14 v15) fun v16=>some v16) (fun r=>SLt r/\∀ u,u∈r↔u∈xs\/u=t):=fun l=>by
   have e1:cutL xs 0 (n:Int)=some (xs.take n):=(by unfold cutL;rw [qp ⟨by omega,by omega,by omega⟩];simp);have e2:cutL xs (n:Int) xs.length=some (xs.drop n):=(by unfold cutL;rw [qp ⟨by omega,by omega,by omega⟩];simp);have c:(xs.take n).length<=n:=(by rw [qai];omega);rw [e1,qb,kcv (by simp only [qb1];omega),qb,List.nil_append,kcv (by simp only [qar];omega),qb,e2,qb,
    kcv (by simp only [qag,qar,qa1];omega),qb]
   exact ⟨_,rfl,q l⟩
  by_cases c:n<xs.length
  ·simp only [kaq c,qe,kac,qa c,qb,kpc _ _ (x _ (qi c)) ht];by_cases hc:cmpT xs[n] t=0;rw [show (cmpT xs[n] t == 0)=true by simp [hc],qe];have:=cmpT_eq0.1 hc;exact ⟨_,rfl,hs,fun u=>⟨fun h => .inl h,fun h=>h.elim id fun e=>by rw [e,<- this];exact qi c⟩⟩
   ·rw [show (cmpT xs[n] t == 0)=false by simp [hc],qd];exact g fun _=>hc
  ·have e1:decide ((n:Int)<(xs.length:Int))=false:=qg (by omega);simp only [e1,qd,qb];exact g fun h=>absurd h c
def Ch (L:List (List Tm)):List Int->List Tm->Prop
 | [],ts=>ts=[]
 | a::vs,ts=>∃ row t us,0<=a/\L[a.toNat]?=some row/\t∈row/\ts=t::us/\Ch L vs us
theorem k2r {L:List (List Tm)} {o:Opn} {X:List Tm} (I:X.length<=4096) (p:∀ u∈X,u.size<=1000) (H:∀ row∈L,row.length<=4096) (ho:o.yb.length<=24) (v:∀ a∈o.yb,0<=a/\a<(L.length:Int)):
  ∀ (n:Nat) (args:List Tm) (l:List Tm),args.length<=o.yb.length->o.yb.length - args.length<n->SLt l->(∀ u∈l,u∈X)->(∀ us,Ch L (o.yb.drop args.length) us->Tm.mk o.yd (args++us)∈X) ->
   Ev (kdm n l o L args) fun r=>SLt r/\∀ u,u∈r↔u∈l\/∃ us,Ch L (o.yb.drop args.length) us/\u=Tm.mk o.yd (args++us)
 | 0,args,l,_,h,_,_,_=>by omega
 | n+1,args,l,ha,hn,hs,hl,hc=>by
  show Ev (kfw (kdm n) l o L args) _;unfold kfw;have J:=hs.len hl;have e0:decide ((4096:Int)<(l.length:Int))=false:=qg (by omega);simp only [e0,qd];by_cases e:args.length=o.yb.length
  ·have e1:((args.length:Int) == (o.yb.length:Int))=true:=(by simp [e]);simp only [e1,qe];rw [e,List.drop_length] at hc ⊢;have D:Tm.mk o.yd args∈X:=(by have:=hc [] rfl;rw [qbw] at this;exact this);have w:=kye (Tm.mk o.yd args) hs (fun u hu=>p u (hl u hu)) (p _ D);have y:Ev (kb0 l (Tm.mk o.yd args)) fun r=>SLt r/\∀ u,u∈r↔u∈l\/∃ us,Ch L [] us/\u=Tm.mk o.yd (args++us):=Ev.mono w fun r ⟨h1,d⟩=>⟨h1,fun u=>by
    rw [d u];constructor
    ·rintro (h | h);exact .inl h
     ·exact .inr ⟨[],rfl,by rw [qbw];exact h⟩
    ·rintro (h | ⟨us,rfl,h⟩);exact .inl h
     ·rw [qbw] at h;exact .inr h⟩
   obtain ⟨r,hr,z⟩:=y;cases args with
   | nil=>
    simp only [List.isEmpty_nil,qe,hr,qb];exact ⟨r,rfl,z⟩
   | cons x args=>
    have e2:appN 32 ([]:List Tm) (x::args)=some (x::args):=(by unfold appN;rw [List.isEmpty_cons,qd,kcv (by simp only [qb1];omega)];rfl);simp only [List.isEmpty_cons,qd,e2,qb,hr];exact ⟨r,rfl,z⟩
  ·have e1:((args.length:Int) == (o.yb.length:Int))=false:=(by rw [qa2];omega);have q:args.length<o.yb.length:=(by omega);have E:=qa q;have f:=v _ (qi q);have F:∃ row,L[o.yb[args.length].toNat]?=some row:=⟨_,qa (by omega)⟩;obtain ⟨row,b⟩:=F;have A:idx L o.yb[args.length]=some row:=(by unfold idx;rw [qp f.1,b]);have K:=H row (qo b);have g:o.yb.drop args.length=o.yb[args.length]::o.yb.drop (args.length+1):=qay q;simp only [e1,qd,kac,E,qb,A];refine kdp (Ev.mono (kcy (xs:=row) (step:=kfd o L args (kdm n) row) (fun (j:Nat) (c:List Tm)=>(c,(j:Int))) (fun j c=>SLt c/\(∀ u∈c,u∈X)/\∀ u,u∈c↔u∈l\/∃ t us,t∈row.take j/\Ch L (o.yb.drop (args.length+1)) us/\u=Tm.mk o.yd (args++(t::us)))
    (Q:=fun c=>SLt c/\∀ u,u∈c↔u∈l\/∃ us,Ch L (o.yb.drop args.length) us/\u=Tm.mk o.yd (args++us)) (t0:=l) (by omega) ⟨hs,hl,by simp⟩ (fun j c B ⟨c1,c2,c3⟩=>?_) (fun c ⟨c1,c2,c3⟩=>?_)) (fun c h=>⟨c,rfl,h⟩))
   ·have G:=qa B;have C:∀ us,Ch L (o.yb.drop (args.length+1)) us->Tm.mk o.yd (args++[row[j]]++us)∈X:=fun us hu=>(by rw [qa8];exact hc _ (by rw [g];exact ⟨row,row[j],us,f.1,b,qi B,rfl,hu⟩));have i:=k2r I p H ho v n (args++[row[j]]) c (by simp;omega) (by simp;omega) c1 c2 (by simp only [qag,qar];exact C);simp only [qag,qar] at i;obtain ⟨c',s,d1,d2⟩:=i;have k:SLt c'/\(∀ u∈c',u∈X)/\∀ u,u∈c'↔u∈l\/∃ t us,t∈row.take (j+1)/\Ch L (o.yb.drop (args.length+1)) us/\u=Tm.mk o.yd (args++(t::us)):=by
     refine ⟨d1,fun u hu=>?_,fun u=>?_⟩
     ·rcases (d2 u).1 hu with h | ⟨us,h,rfl⟩;exact c2 u h
      ·exact C us h
     ·rw [d2 u,c3 u,qac B];simp only [qab,qw];constructor
      ·rintro ((h | ⟨t,us,h1,d,m⟩) | ⟨us,h1,d⟩);exact .inl h;exact .inr ⟨t,us, .inl h1,d,m⟩
       ·exact .inr ⟨_,us, .inr rfl,h1,by rw [d,qa8];rfl⟩
      ·rintro (h | ⟨t,us,h1 | rfl,d,m⟩);exact .inl (.inl h);exact .inl (.inr ⟨t,us,h1,d,m⟩)
       ·exact .inr ⟨us,d,by rw [m,qa8];rfl⟩
    simp only [kfd,kaq B,qe,kac,G,qb,kaj B (show row.length<=9223372036854775807 by omega)];have e3:appN 32 ([]:List Tm) [row[j]]=some [row[j]]:=(by unfold appN;rw [List.isEmpty_cons,qd,kcv (by simp)];rfl);cases args with
    | nil=>
     simp only [List.nil_append] at s;simp only [List.isEmpty_nil,qe,e3,qb,s];exact ⟨_,rfl,c',rfl,k⟩
    | cons x args=>
     have e2:appN 32 ([]:List Tm) (x::args)=some (x::args):=(by unfold appN;rw [List.isEmpty_cons,qd,kcv (by simp only [qb1];omega)];rfl);simp only [List.isEmpty_cons,qd,e2,qb];rw [kcv (by rw [qar];omega)];simp only [qb,s];exact ⟨_,rfl,c',rfl,k⟩
   ·refine ⟨_,by simp only [kfd,kal,qd],_,rfl,c1,fun u=>?_⟩;rw [c3 u,qal,g];constructor
    ·rintro (h | ⟨t,us,h1,d,m⟩);exact .inl h
     ·exact .inr ⟨t::us,⟨row,t,us,f.1,b,h1,rfl,d⟩,m⟩
    ·rintro (h | ⟨ts,⟨row',t,us,h0,h1,d,rfl,m⟩,M⟩);exact .inl h
     ·rw [b] at h1;cases h1;exact .inr ⟨t,us,d,m,M⟩
theorem k6z {ns:List Nod} {L:List (List Tm)} (c:∀ (k:Nat) (row:List Tm),L[k]?=some row->∀ t,t∈row↔Bt ns k t):∀ (vs:List Int) (ts:List Tm),(∀ a∈vs,0<=a/\a<(L.length:Int))->(Ch L vs ts↔Bts ns vs ts)
 | [],ts,_=>⟨fun h=>by cases h;exact .nil,fun h=>by cases h;rfl⟩
 | a::vs,ts,h=>by
  have ha:=h a (qn ..);have ih:=fun us=>k6z c vs us fun b d=>h b (qj _ d);constructor;rintro ⟨row,t,us,h0,h1,e,rfl,f⟩;exact .cons h0 ((c _ _ h1 t).1 e) ((ih us).1 f)
  ·intro d;cases d with
   | cons h0 ht hs=>
    have hr:L[a.toNat]?=some (L[a.toNat]'(by omega)):=qa _;exact ⟨_,_,_,h0,hr,(c _ _ hr _).2 ht,rfl,(ih _).2 hs⟩
def FewT (ns:List Nod):Prop:=∀ i,∃ X:List Tm,X.length<=4096/\(∀ u∈X,u.size<=1000)/\∀ t,Bt ns i t->t∈X
theorem kabf {s:Spa} {f p:Nat->Bool} (hf:kc6 s) (hk:kqr s f p) (h:FewT s.ya):FewT (kgr f p s).ya:=fun j=>by
 by_cases a:j<(kgr f p s).ya.length;obtain ⟨i,n,_,_,_,h1⟩:=k7l hf hk (qa a);obtain ⟨X,b,c,d⟩:=h i;exact ⟨X,b,c,fun t ht=>d t (h1 t ht)⟩
 ·exact ⟨[],by simp,by simp,fun t ht=>absurd (k5z ht) a⟩
theorem k7s {s:Spa} (hf:kc6 s) {L:List (List Tm)} {i:Nat} {n:Nod} (hn:s.ya[i]?=some n) (x:L.length=i) (w:∀ (k:Nat) (row:List Tm),L[k]?=some row->SLt row/\∀ t,t∈row↔Bt s.ya k t) (p:FewT s.ya) (v1:Spa×Int) (hv:v1.1=s) (v2:Int×List (List Tm)) (b:v2=((i:Int),L)):
  Ev (kab (kd7 v1 v2) fuel (([]:List Tm),0)) fun l=>SLt l/\l.length<=4096/\∀ t,t∈l↔Bt s.ya i t:=by
 subst hv b;have y:=olen hf hn;obtain ⟨X,x1,x2,x3⟩:=p i;have g:∀ row∈L,row.length<=4096:=fun row hr=>by obtain ⟨k,hk⟩:=qap.1 hr;obtain ⟨h1,b⟩:=w k row hk;obtain ⟨Y,y1,_,y3⟩:=p k;exact qav (h1.len fun u hu=>y3 u ((b u).1 hu)) y1
 refine kcy (xs:=n.yc) (step:=kd7 v1 ((i:Int),L)) (fun (j:Nat) (c:List Tm)=>(c,(j:Int))) (fun j c=>SLt c/\∀ t,t∈c↔∃ o ts,o∈n.yc.take j/\Bts v1.1.ya o.yb ts/\t=Tm.mk o.yd ts) (by omega) ⟨List.Pairwise.nil,by simp⟩ (fun j c h ⟨c1,c2⟩=>?_) (fun c ⟨c1,c2⟩=>?_)
 ·have ho:=qa h;have hm:=qi h;have d:∀ a∈n.yc[j].yb,0<=a/\a<(L.length:Int):=fun a ha=>by have:=klx hf hn hm ha;omega
  have f:=k6z (fun k row hk=>(w k row hk).2) n.yc[j].yb;simp only [kd7,kac,hn,ho,qb,kaq h,qe,kaj h (show n.yc.length<=9223372036854775807 by omega)];refine kdp (Ev.mono (k2r (X:=X) x1 x2 g (kh1 hf hn hm) d fuel [] c (by simp) (kb7 (by have:=kh1 hf hn hm;simp;omega)) c1 (fun u hu=>?_) (fun us hu=>?_)) fun r ⟨r1,r2⟩=>?_);obtain ⟨o,ts,h1,b,rfl⟩:=(c2 u).1 hu;exact x3 _ (.mk hn (qa7 h1) b);have v:Ch L n.yc[j].yb us:=hu;rw [List.nil_append];exact x3 _ (.mk hn hm ((f us d).1 v))
  ·refine ⟨_,rfl,r,rfl,r1,fun t=>?_⟩;rw [r2 t,c2 t,qac h];simp only [qab,qw,qb1,List.drop_zero,List.nil_append];constructor
   ·rintro (⟨o,ts,h1,b,q⟩ | ⟨us,h1,b⟩);exact ⟨o,ts, .inl h1,b,q⟩
    ·exact ⟨_,us, .inr rfl,(f us d).1 h1,b⟩
   ·rintro ⟨o,ts,h1 | rfl,b,q⟩;exact .inl ⟨o,ts,h1,b,q⟩
    ·exact .inr ⟨ts,(f ts d).2 b,q⟩
 ·have e:∀ t,t∈c↔Bt v1.1.ya i t:=fun t=>by
   rw [c2 t,qal];constructor;rintro ⟨o,ts,h1,b,rfl⟩;exact .mk hn h1 b
   ·intro p;obtain ⟨m,o,ts,hm,ho,rfl,hs⟩:=p.inv;rw [hn] at hm;cases hm;exact ⟨o,ts,ho,hs,rfl⟩
  exact ⟨_,by simp only [kd7,kac,hn,qb,kal,qd],_,rfl,c1,qav (c1.len fun u hu=>x3 u ((e u).1 hu)) x1,e⟩
theorem kzx {s:Spa} (hf:kc6 s) (H:FewT s.ya) (Y:List Tm) (I:Y.length<=4096) (w:∀ u∈Y,u.size<=1000) (A:∀ t,InS s t->t∈Y):Ev (kec s) fun r=>r.2=0/\SLt r.1/\∀ t,t∈r.1↔InS s t:=by
 unfold kec;obtain ⟨v1,hv,B⟩:=kaa3 (kqp hf);rcases B with ⟨h,_⟩ | ⟨_,f,p,hk,rfl⟩;exact absurd hf h;have e:=k78 hf hk;have C:=kabf hf hk H;have g:=k88 hf hk;generalize J:kgr f p s=s' at *
 have K:=e.nodes;rw [hv,qb];show Ev (bif ((0:Int) != 0) then _ else _) _;rw [show ((0:Int) != 0)=false from rfl,qd];refine kdp (Ev.mono (kcy (xs:=s'.ya) (step:=kf4 (s',0)) (fun (i:Nat) (L:List (List Tm))=>((i:Int),L)) (fun i L=>L.length=i/\∀ (k:Nat) (row:List Tm),L[k]?=some row->SLt row/\∀ t,t∈row↔Bt s'.ya k t)
  (Q:=fun r=>∃ L:List (List Tm),r = .inl L/\L.length=s'.ya.length/\∀ (k:Nat) (row:List Tm),L[k]?=some row->SLt row/\∀ t,t∈row↔Bt s'.ya k t) (t0:=[]) (by omega) ⟨rfl,by simp⟩ (fun i L hi ⟨l1,l2⟩=>?_) (fun L ⟨l1,l2⟩=>?_)) ?_)
 ·have hn:=qa hi;simp only [kf4,kaq hi,qe,kaj hi (show s'.ya.length<=9223372036854775807 by omega)];refine kdp (Ev.mono (k7s e hn l1 l2 C (s',0) rfl _ rfl) fun l ⟨g1,g2,g3⟩=>?_);have e1:decide ((4096:Int)<(l.length:Int))=false:=qg (by omega);simp only [e1,qd];rw [kcv (by rw [qar];omega),qb];refine ⟨_,rfl,_,rfl,by rw [qag,l1];rfl,fun k row hk=>?_⟩;by_cases D:k<L.length;rw [qy D] at hk;exact l2 k row hk
  ·rw [qak (by omega)] at hk;have h0:k - L.length=0:=(by have:=(qf.1 hk).1;simpa using this);rw [h0] at hk;simp at hk;subst hk;have:k=i:=(by omega);subst this;exact ⟨g1,g3⟩
 exact ⟨_,by simp only [kf4,kal,qd],_,rfl,L,rfl,l1,l2⟩
 ·rintro r ⟨L,rfl,l1,l2⟩;simp only [q9];have M:=kr7 e.roots;have a:∀ t,InS s' t->t∈Y:=fun t ht=>A t ((g t).1 ht);refine kdp (Ev.mono (kcy (xs:=s'.yf) (step:=kfy (s',0) L) (fun (j:Nat) (c:List Tm)=>(c,(j:Int))) (fun j c=>SLt c/\∀ t,t∈c↔∃ r∈s'.yf.take j,0<=r/\Bt s'.ya r.toNat t) (Q:=fun c=>SLt c/\∀ t,t∈c↔InS s' t) (t0:=[]) (by omega) ⟨List.Pairwise.nil,by simp⟩ (fun j c q ⟨c1,c2⟩=>?_) (fun c ⟨c1,c2⟩=>?_)) ?_)
  ·have hr:=qa q;have o:=e.roots.1 _ (qi q);have n:L[s'.yf[j].toNat]?=some (L[s'.yf[j].toNat]'(by omega)):=qa _;have x:idx L s'.yf[j]=some (L[s'.yf[j].toNat]'(by omega)):=(by unfold idx;rw [qp o.1,n]);obtain ⟨k1,k2⟩:=l2 _ _ n;generalize L[s'.yf[j].toNat]'(by omega)=row at *
   have b:∀ t,Bt s'.ya s'.yf[j].toNat t->InS s' t:=fun t ht=>⟨_,qi q,o.1,ht⟩;have E:∀ u,(∃ r∈s'.yf.take j,0<=r/\Bt s'.ya r.toNat u)->u∈Y:=fun u ⟨r,h1,y,v⟩=>a u ⟨r,qa7 h1,y,v⟩;have F:row.length<=4096:=qav (k1.len fun u hu=>a u (b u ((k2 u).1 hu))) I;simp only [kfy,kaq q,qe,kac,hr,x,qb,kaj q (show s'.yf.length<=9223372036854775807 by omega)];refine kdp (Ev.mono (kcy (xs:=row) (step:=kfu row) (fun (m:Nat) (d:List Tm)=>(d,(m:Int))) (fun m d=>SLt d/\∀ t,t∈d↔t∈c\/t∈row.take m) (Q:=fun d=>SLt d/\∀ t,t∈d↔t∈c\/t∈row) (t0:=c) (by omega) ⟨c1,by simp⟩ (fun m d hm ⟨d1,d2⟩=>?_) (fun d ⟨d1,d2⟩=>?_)) ?_)
   ·have G:=qa hm;have z:∀ u∈d,u∈Y:=fun u hu=>by
     rcases (d2 u).1 hu with h | h;exact E u ((c2 u).1 h)
     ·exact a u (b u ((k2 u).1 (qa7 h)))
    have N:=d1.len z;have e1:decide ((d.length:Int)<=4096)=true:=qh (by omega);simp only [kfu,kaq hm,qe,e1,qb,kac,G,kaj hm (show row.length<=9223372036854775807 by omega)];refine kdp (Ev.mono (kye (row[m]) d1 (fun u hu=>w u (z u hu)) (w _ (a _ (b _ ((k2 _).1 (qi hm)))))) fun d' ⟨g1,g2⟩=>?_);refine ⟨_,rfl,d',rfl,g1,fun t=>?_⟩;rw [g2 t,d2 t,qac hm];simp only [qab,qw];exact or_assoc
   refine ⟨_,by simp only [kfu,kal,qd,qb],_,rfl,d1,?_⟩;rw [qal] at d2;exact d2
   ·rintro d ⟨d1,d2⟩;refine ⟨_,rfl,d,rfl,d1,fun t=>?_⟩;rw [d2 t,c2 t,k2 t,qac q];simp only [qab,qw];constructor
    ·rintro (⟨r,h1,y,v⟩ | h);exact ⟨r, .inl h1,y,v⟩
     ·exact ⟨_, .inr rfl,o.1,h⟩
    ·rintro ⟨r,h1 | rfl,y,v⟩;exact .inl ⟨r,h1,y,v⟩
     ·exact .inr v
  refine ⟨_,by simp only [kfy,kal,qd],_,rfl,c1,fun t=>?_⟩;rw [c2 t,qal];exact Iff.rfl
  ·rintro c ⟨c1,c2⟩;have hcl:=c1.len fun u hu=>a u ((c2 u).1 hu);have e1:decide ((4096:Int)<(c.length:Int))=false:=qg (by omega);rw [e1,qd];exact ⟨_,rfl,rfl,c1,fun t=>by rw [c2 t];exact g t⟩
theorem k5m (a:Opn):kjk a a=0:=by unfold kjk;rw [ql (by simp),kz2]
theorem idxN {α:Type} {xs:List α} {a:Int} (h:0<=a):idx xs a=xs[a.toNat]?:=by rw [<- kac,Int.toNat_of_nonneg h]
def RulP (l:La) (ns:List Nod):Prop:=∀ (i:Nat) (n:Nod),ns[i]?=some n->n.ye<(l.symbols.length:Int)/\∀ o∈n.yc,∃ r:Nat,r<l.rules.length/\o.yd=(r:Int)/\kh2 l r=n.ye/\o.yb.map (syAt ns)=kl2 l r
def k0s (ns:List Nod):Prop:=∀ (t:Tm) (i j:Nat),Bt ns i t->Bt ns j t->i=j
theorem k6a {xs:List Int} (h:xs.Pairwise (·<·)) (i:Nat) (x y:Int) (h1:xs[i]?=some x) (a:xs[i+1]?=some y):x<y:=by obtain ⟨k1,rfl⟩:=qf.1 h1;obtain ⟨k2,rfl⟩:=qf.1 a;exact qbx.1 h i (i+1) k1 k2 (by omega)
theorem k07 {l:La} (e:kns l) (hc:kbv l=some 0) {s:Spa} (hf:kc6 s) (hr:RulP l s.ya):kee l s=some 0:=by obtain ⟨b,f,a⟩:=ksq (kqp hf);obtain rfl:b=true:=a.2 hf;have g:=hf.nodes;unfold kee;rw [hc,qb,show ((0:Int) != 0)=false from rfl,qd,f,qb,qa9,qd];have hl:kab (kd5 l s) fuel 0=some (.inl ()):=kin (kd5 l s) s.ya.length (fun k=>(k:Int)) _ (fun k hk=>by have hn:=qa hk;obtain ⟨h1,h⟩:=hr k _ hn;have i:(s.ya[k]).yc.length<=32768:=qav (krw hn) hf.opts;have c:kab (kc0 l s s.ya[k]) fuel 0=some (.inl ()):=kin (kc0 l s s.ya[k]) (s.ya[k]).yc.length (fun k=>(k:Int)) _ (fun j d=>by rw [kaas e hf hn d];obtain ⟨r,r1,r2,r3,r4⟩:=h _ (qi d);obtain ⟨y,y0,y1,y2,_⟩:=ku9 l r1;have:kmy l s.ya k (s.ya[k]).yc[j]=0:=(by unfold kmy;rw [r2,qa0,y0];simp only;rw [qp];unfold shp;rw [kka hn,r4,y1,y2,r3]);rw [ql (by simp [this])]) (by simp only [kc0,kal,qd]);simp only [kd5,kaq hk,qe,kac,hn,qb,kaj hk (show s.ya.length<=9223372036854775807 by omega),c];rw [qg (by omega),qd];rfl) (by simp only [kd5,kal,qd]);rw [hl];rfl
theorem kzv {α:Type} {R:α->α->Prop} (ht:∀ a b c,R a b->R b c->R a c):∀ l:List α,(∀ (k:Nat) (a b:α),l[k]?=some a->l[k+1]?=some b->R a b)->l.Pairwise R
 | [],_=>List.Pairwise.nil
 | [x],_=>List.pairwise_singleton ..
 | x::y::l,h=>by
  have ih:=kzv ht (y::l) fun k a b h1 f=>h (k+1) a b (by simpa using h1) (by simpa using f);have d:R x y:=h 0 x y rfl rfl;refine List.pairwise_cons.2 ⟨fun z e=>?_,ih⟩;rcases qam.1 e with rfl | e;exact d
  ·exact ht x y z d ((List.pairwise_cons.1 ih).1 z e)
section
variable {s:Spa} (hf:kc6 s) (hu:k0s s.ya)
include hf hu
omit hf in
theorem k3w {t:Tm} {i j:Nat} (h1:Bt s.ya i t) (a:Bt s.ya j t):i=j:=hu t i j h1 a
omit hf in
theorem k1f:∀ {vs ws:List Int} {ts:List Tm},Bts s.ya vs ts->Bts s.ya ws ts->vs=ws
 | [],ws,ts,h1,b=>by cases h1;cases b;rfl
 | a::vs,ws,ts,h1,b=>by
  cases h1 with
  | cons a0 ht hs=>
   cases b with
   | cons b0 gt gs=>
    have:=k3w hu ht gt;rw [k1f hs gs];congr 1;omega
end
def prT (X:Int->List Tm):List Int->List (List Tm)
 | []=>[[]]
 | a::vs=>(X a).flatMap fun t=>(prT X vs).map (t::·)
def kjx (c:Int->Nat):List Int->Nat
 | []=>1
 | a::vs=>c a*kjx c vs
theorem kxw (c:Int->Nat) (a:Int):∀ vs:List Int,kjx c (vs++[a])=kjx c vs*c a
 | []=>by simp [kjx]
 | b::vs=>by rw [qbp,kjx,kjx,kxw c a vs,Nat.mul_assoc]
theorem k43 (X:Int->List Tm):∀ vs:List Int,(prT X vs).length=kjx (fun a=>(X a).length) vs
 | []=>rfl
 | a::vs=>by
  rw [prT,kjx,List.length_flatMap,<- k43 X vs];have key:∀ ys:List Tm,(ys.map fun t=>((prT X vs).map (t::·)).length).sum=ys.length*(prT X vs).length:=fun ys=>by
   induction ys with
   | nil=>simp
   | cons y ys ih=>rw [qas,List.sum_cons,ih,qaa,qbd,qbg];omega
  exact key _
theorem k3x {ns:List Nod} {X:Int->List Tm}:∀ {vs:List Int},(∀ a∈vs,0<=a/\∀ t,t∈X a↔Bt ns a.toNat t)->∀ ts,ts∈prT X vs↔Bts ns vs ts
 | [],_,ts=>by
  rw [prT,qw];constructor;rintro rfl;exact .nil
  ·intro h;cases h;rfl
 | a::vs,h,ts=>by
  obtain ⟨a0,ha⟩:=h a (qn ..);have ih:=k3x (X:=X) fun b c=>h b (qj a c);rw [prT,qbe];constructor;rintro ⟨t,ht,d⟩;obtain ⟨us,e,rfl⟩:=qad.1 d;exact .cons a0 ((ha t).1 ht) ((ih us).1 e)
  ·intro c;cases c with
   | @cons _ _ t us h0 ht hs=>exact ⟨t,(ha t).2 ht,qad.2 ⟨us,(ih us).2 hs,rfl⟩⟩
theorem k0a {X:Int->List Tm}:∀ {vs:List Int},(∀ a∈vs,(X a).Nodup)->(prT X vs).Nodup
 | [],_=>List.pairwise_singleton ..
 | a::vs,h=>by
  have ih:=k0a (X:=X) fun b f=>h b (qj a f);unfold prT List.Nodup;rw [List.pairwise_flatMap];refine ⟨fun t _=>?_,List.Pairwise.imp (fun {t u} c x g y hy e=>?_) (h a (qn ..))⟩;rw [List.pairwise_map];exact List.Pairwise.imp (fun {x y} d e=>d (by injection e)) ih
  ·obtain ⟨_,_,rfl⟩:=qad.1 g;obtain ⟨_,_,rfl⟩:=qad.1 hy;injection e with e1 _;exact c e1
def tlO (X:Int->List Tm) (o:Opn):List Tm:=(prT X o.yb).map (Tm.mk o.yd)
def tlN (X:Int->List Tm) (n:Nod):List Tm:=n.yc.flatMap (tlO X)
def tls (ns:List Nod):Nat->Int->List Tm
 | 0,_=>[]
 | i+1,a=>if a=(i:Int) then (match ns[i]? with | some n=>tlN (tls ns i) n | none=>[]) else tls ns i a
def TL (ns:List Nod) (i:Nat):List Tm:=tls ns (i+1) (i:Int)
theorem k2g (ns:List Nod):∀ (i:Nat) (a:Nat),a<i->tls ns i (a:Int)=TL ns a
 | 0,a,h=>by omega
 | i+1,a,h=>by
  by_cases e:a=i;subst e;rfl
  ·rw [tls,ql (by omega)];exact k2g ns i a (by omega)
theorem kaca {ns:List Nod} {i:Nat} {n:Nod} (hn:ns[i]?=some n) (c:∀ o∈n.yc,∀ a∈o.yb,0<=a/\a<(i:Int)):TL ns i=tlN (fun a=>TL ns a.toNat) n:=by
 unfold TL;rw [tls,qp rfl,hn];simp only;unfold tlN;have gen:∀ os:List Opn,(∀ o∈os,∀ a∈o.yb,0<=a/\a<(i:Int))->os.flatMap (tlO (tls ns i))=os.flatMap (tlO fun a=>TL ns a.toNat):=fun os=>by
  induction os with
  | nil=>intro _;rfl
  | cons o os ih=>
   intro h;rw [List.flatMap_cons,List.flatMap_cons,ih fun p hp=>h p (qj _ hp)];congr 1;unfold tlO;congr 1;have gen2:∀ vs:List Int,(∀ a∈vs,0<=a/\a<(i:Int))->prT (tls ns i) vs=prT (fun a=>TL ns a.toNat) vs:=fun vs=>by
    induction vs with
    | nil=>intro _;rfl
    | cons a vs ih2=>
     intro hv;have ha:=hv a (qn ..);have e:tls ns i a=TL ns a.toNat:=(by have:=k2g ns i a.toNat (by omega);rw [Int.toNat_of_nonneg ha.1] at this;exact this);rw [prT,prT,ih2 fun b d=>hv b (qj _ d),e]
   exact gen2 _ (h o (qn ..))
 exact gen _ c
section
variable {s:Spa} (hf:kc6 s) (hu:k0s s.ya)
include hf hu
theorem k3u:∀ (N i:Nat),i<N->i<s.ya.length->(∀ t,t∈TL s.ya i↔Bt s.ya i t)/\(TL s.ya i).Nodup
 | 0,i,h,_=>by omega
 | N+1,i,h,hi=>by
  have hn:=qa hi;have f:=fun o ho=>kpe hf hn (o:=o) ho;have u:∀ o∈(s.ya[i]).yc,∀ a∈o.yb,(0<=a/\∀ t,t∈TL s.ya a.toNat↔Bt s.ya a.toNat t)/\(TL s.ya a.toNat).Nodup:=fun o ho a ha=>by have k:=f o ho a ha;obtain ⟨g1,g2⟩:=k3u N a.toNat (by omega) (by omega);exact ⟨⟨k.1,g1⟩,g2⟩
  have j:∀ o∈(s.ya[i]).yc,∀ ts,ts∈prT (fun a=>TL s.ya a.toNat) o.yb↔Bts s.ya o.yb ts:=fun o ho=>k3x fun a ha=>(u o ho a ha).1;rw [kaca hn f];unfold tlN;refine ⟨fun t=>?_,?_⟩
  ·rw [qbe];constructor;rintro ⟨o,ho,ht⟩;obtain ⟨ts,d,rfl⟩:=qad.1 ht;exact .mk hn ho ((j o ho ts).1 d)
   ·intro k;obtain ⟨n,o,ts,g,ho,rfl,hs⟩:=k.inv;rw [hn] at g;cases g;exact ⟨o,ho,qad.2 ⟨ts,(j o ho ts).2 hs,rfl⟩⟩
  ·unfold List.Nodup;rw [List.pairwise_flatMap];refine ⟨fun o ho=>?_,?_⟩;unfold tlO;rw [List.pairwise_map];exact List.Pairwise.imp (fun {x y} l e=>l (by injection e)) (k0a fun a ha=>(u o ho a ha).2)
   ·have hp:=kzv (R:=fun o p:Opn=>kjk o p<0) (fun a b c=>kvm) _ (hf.node i _ hn).asc;refine List.Pairwise.imp_of_mem (fun {o p} ho m q x v y hy e=>?_) hp;obtain ⟨ts,d,rfl⟩:=qad.1 v;obtain ⟨us,r,rfl⟩:=qad.1 hy;injection e with e1 e2;subst e2;have e3:=k1f hu ((j o ho ts).1 d) ((j p m ts).1 r);have:o=p:=(by cases o;cases p;simp only at e1 e3;rw [e1,e3]);subst this;rw [k5m] at q;omega
omit hu in
theorem kafx {i:Nat} (hi:i<s.ya.length):(TL s.ya i).length=((s.ya[i]).yc.map fun o=>kjx (fun a=>(TL s.ya a.toNat).length) o.yb).sum:=by have hn:=qa hi;rw [kaca hn (fun o ho=>kpe hf hn (o:=o) ho)];unfold tlN;rw [List.length_flatMap];congr 1;refine qbf fun o ho=>?_;unfold tlO;rw [qaa,k43]
end
def cap (C x:Nat):Int:=((min x (C+1):Nat):Int)
theorem k8d (C x:Nat):0<=cap C x/\cap C x<=(C:Int)+1:=by unfold cap;omega
theorem kab5 {C:Nat} (hC:C<=1000000):w64 ((C:Int)+1)=(C:Int)+1:=kgv
theorem capA {C:Nat} (hC:C<=1000000) (a b:Nat):imin (w64 (cap C a+cap C b)) (w64 ((C:Int)+1))=cap C (a+b):=by have h1:=k8d C a;have c:=k8d C b;rw [kab5 hC,kgv];unfold imin cap;split <;> omega
theorem kadx (M a b:Nat) (e:1<=M):min (min a M*min b M) M=min (a*b) M:=by
 by_cases ha:a<=M
 ·by_cases d:b<=M;rw [Nat.min_eq_left ha,Nat.min_eq_left d]
  ·rw [Nat.min_eq_left ha,Nat.min_eq_right (show M<=b by omega)];cases a with
   | zero=>simp
   | succ a=>
    have h1:M<=(a+1)*M:=Nat.le_mul_of_pos_left _ (by omega);have c:M<=(a+1)*b:=qav (show M<=b by omega) (Nat.le_mul_of_pos_left _ (by omega));rw [Nat.min_eq_right h1,Nat.min_eq_right c]
 ·rw [Nat.min_eq_right (show M<=a by omega)];cases b with
  | zero=>simp
  | succ b=>
   have h1:M<=M*min (b+1) M:=Nat.le_mul_of_pos_right _ (by omega);have c:M<=a*(b+1):=qav (show M<=a by omega) (Nat.le_mul_of_pos_right _ (by omega));rw [Nat.min_eq_right h1,Nat.min_eq_right c]
theorem capM {C:Nat} (hC:C<=1000000) (a b:Nat):imin (w64 (cap C a*cap C b)) (w64 ((C:Int)+1))=cap C (a*b):=by
 have e:cap C a*cap C b=((min a (C+1)*min b (C+1):Nat):Int):=by unfold cap;rw [Int.natCast_mul]
 have c:min a (C+1)*min b (C+1)<=1000001*1000001:=Nat.mul_le_mul (by omega) (by omega);rw [kab5 hC,e,kgv];have h:=kadx (C+1) a b (by omega);unfold imin cap;rw [<- h];split <;> omega
section
variable {s:Spa} (hf:kc6 s) {C:Nat} (hC:C<=1000000)
def cT (s:Spa) (a:Int):Nat:=(TL s.ya a.toNat).length
def kih (s:Spa) (n:Nat):Nat:=((List.range n).map fun i=>(TL s.ya i).length).sum
include hf hC
theorem kaa4 {i:Nat} {n:Nod} {o:Opn} (hn:s.ya[i]?=some n) (ho:o∈n.yc) (ways:List Int) (f:∀ a:Nat,a<i->ways[a]?=some (cap C (TL s.ya a).length)) (k:Int):
  kab (kep (C:Int) (k,ways) o) fuel (1,0)=some (cap C (kjx (cT s) o.yb)):=by
 have c:=kpe hf hn ho;have g:=kh1 hf hn ho;have h:=kin (kep (C:Int) (k,ways) o) o.yb.length (fun j=>(cap C (kjx (cT s) (o.yb.take j)),(j:Int))) (cap C (kjx (cT s) o.yb)) (fun j b=>?_) ?_
 ·have e:cap C (kjx (cT s) (o.yb.take 0))=1:=by show cap C 1=1;unfold cap;omega
  rw [e] at h;exact h
 ·have ha:=c _ (qi b);have d:idx ways o.yb[j]=some (cap C (cT s o.yb[j])):=by rw [idxN ha.1,f _ (by omega)];rfl
  simp only [kep,kaq b,qe,kac,qa b,qb,d,kaj b (show o.yb.length<=9223372036854775807 by omega)];rw [capM hC,<- kxw,List.take_append_getElem b]
 ·simp only [kep,kal,qd,qal]
theorem k6s {i:Nat} (hi:i<s.ya.length) (ways:List Int) (d:ways.length=s.ya.length) (g:∀ a:Nat,a<i->ways[a]?=some (cap C (TL s.ya a).length)) (b:∀ a:Nat,i<=a->a<s.ya.length->ways[a]?=some 0) (k:Int):
  Ev (kab (keu s (C:Int) (k,(i:Int),ways)) fuel (0,ways)) fun w=>w.length=s.ya.length/\(∀ a:Nat,a<i+1->w[a]?=some (cap C (TL s.ya a).length))/\∀ a:Nat,i+1<=a->a<s.ya.length->w[a]?=some 0:=by
 have hn:=qa hi;have h:(s.ya[i]).yc.length<=32768:=qav (krw hn) hf.opts
 let part:Nat->Nat:=fun j=>(((s.ya[i]).yc.take j).map fun o=>kjx (cT s) o.yb).sum
 refine kj2 (step:=keu s (C:Int) (k,(i:Int),ways)) (s.ya[i]).yc.length (fun j st=>∃ w,st=((j:Int),w)/\w.length=s.ya.length/\(∀ a:Nat,a<i->w[a]?=some (cap C (TL s.ya a).length))/\w[i]?=some (cap C (part j))/\∀ a:Nat,i+1<=a->a<s.ya.length->w[a]?=some 0) (by omega)
  ⟨ways,rfl,d,g,by rw [b i (qx _) hi];show some 0=some (cap C 0);unfold cap;simp,fun a ha=>b a (by omega)⟩ (fun j st c hst=>?_) (fun st hst=>?_)
 ·obtain ⟨w,rfl,w1,w2,w3,w4⟩:=hst;have f:=kaa4 hf hC hn (qi c) w w2 (j:Int);simp only [keu,kac,hn,qb,kaq c,qe,qa c,f,w3,kaj c (show (s.ya[i]).yc.length<=9223372036854775807 by omega),qa0];rw [capA hC];refine ⟨_,rfl,_,rfl,by rw [List.length_set];exact w1,fun a ha=>?_,?_,fun a h1 l=>?_⟩;rw [List.getElem?_set,ql (by omega)];exact w2 a ha;rw [List.getElem?_set,qp rfl,qp (by omega)];show some (cap C _)=some (cap C (part (j+1)));congr 2;show _=(((s.ya[i]).yc.take (j+1)).map fun o=>kjx (cT s) o.yb).sum;rw [<- List.take_append_getElem c,qaw,qbu];show _=part j+_;simp
  ·rw [List.getElem?_set,ql (by omega)];exact w4 a h1 l
 ·obtain ⟨w,rfl,w1,w2,w3,w4⟩:=hst;refine ⟨.inr w,by simp only [keu,kac,hn,qb,kal,qd],w,rfl,w1,fun a ha=>?_,w4⟩;by_cases e:a=i;subst e;rw [w3,kafx hf hi];show some (cap C (part (s.ya[a]).yc.length))=_;congr 2;show (((s.ya[a]).yc.take (s.ya[a]).yc.length).map fun o=>kjx (cT s) o.yb).sum=_;rw [qal];rfl
  ·exact w2 a (by omega)
theorem k1l:kf8 s (C:Int)=some (cap C (kih s s.ya.length)):=by
 have d:=hf.nodes;unfold kf8;rw [krz 8 (0:Int) s.ya.length,qb];have b:((0:Int),(0:Int),List.replicate s.ya.length (0:Int))=(cap C (kih s 0),((0:Nat):Int),List.replicate s.ya.length (0:Int)):=by
  have e:cap C 0=0:=by unfold cap;simp
  show _=(cap C 0,_,_);rw [e];rfl
 refine Ev.eq (kdp (Ev.mono (kj2 (step:=kgh s (C:Int)) (Q:=fun v=>v=cap C (kih s s.ya.length)) s.ya.length (fun i st=>∃ w,st=(cap C (kih s i),(i:Int),w)/\w.length=s.ya.length/\(∀ a:Nat,a<i->w[a]?=some (cap C (TL s.ya a).length))/\∀ a:Nat,i<=a->a<s.ya.length->w[a]?=some 0) (by omega)
  ⟨List.replicate s.ya.length 0,b,List.length_replicate,fun a ha=>by omega,fun a _ ha=>by rw [List.getElem?_replicate,qp ha]⟩ (fun i st hi hst=>?_) (fun st hst=>?_)) fun v h=>⟨v,rfl,h⟩))
 obtain ⟨w,rfl,w1,w2,w3⟩:=hst;obtain ⟨w',h1,f,c,g⟩:=k6s hf hC hi w w1 w2 w3 (cap C (kih s i));simp only [kgh,kaq hi,qe,h1,qb,kac,c i (by omega),kaj hi (show s.ya.length<=9223372036854775807 by omega)];rw [capA hC];refine ⟨_,rfl,w',?_,f,c,g⟩;congr 2;unfold kih;rw [List.range_succ,qaw,qbu];simp
 ·obtain ⟨w,rfl,_⟩:=hst;exact ⟨.inr _,by simp only [kgh,kal,qd],_,rfl,rfl⟩
omit hC in
theorem k8k:∃ b,kg7 s 1000=some b/\(b=true->s.ya.length<=40/\kih s s.ya.length<=1000):=by
 have g:=hf.nodes;obtain ⟨b,j,d⟩:=ksq (kqp hf);obtain rfl:b=true:=d.2 hf;have f:=k1l hf (C:=1000) (by omega);unfold kg7;by_cases e:s.ya.length<=40
 ·rw [qg (by omega),qd];have c:∀ i,optN (s.ya.take i)<=32768:=fun i=>qav (kmx _ _) hf.opts;obtain ⟨v,hv,_⟩:=kpv (step:=kf3 s) (s0:=(0,0)) (Q:=fun _=>True) (fun st=>∃ i:Nat,st=((optN (s.ya.take i):Int),(i:Int))/\i<=s.ya.length) (fun st=>s.ya.length - st.2.toNat) (by show _ - _<_;omega) ⟨0,by simp [optN],qau _⟩ (fun st hst=>by
   obtain ⟨i,rfl,hi⟩:=hst;by_cases a:i<s.ya.length
   ·have hn:=qa a;simp only [kf3,kaq a,qe,qb];cases decide ((optN (s.ya.take i):Int)<=120) with
    | false=>exact ⟨.inr _,rfl,trivial⟩
    | true=>
     have h1:=c (i+1);have k:=knv (ns:=s.ya) a;rw [qe,kac,hn,qb,kaj a (by omega),show w64 ((optN (s.ya.take i):Int)+((s.ya[i]).yc.length:Int))=(optN (s.ya.take (i+1)):Int) by rw [kgv];omega];exact ⟨_,rfl,⟨i+1,rfl,by omega⟩,by show s.ya.length - ((i+1:Nat):Int).toNat<s.ya.length - (i:Int).toNat;omega⟩
   ·obtain rfl:i=s.ya.length:=(by omega);exact ⟨.inr (optN (s.ya.take s.ya.length):Int),by simp only [kf3,kal,qd,qb],trivial⟩)
  rw [hv,qb];cases decide (v<=120) with
  | false=>exact ⟨false,rfl,fun h=>by cases h⟩
  | true=>
   rw [qe,j,qb,qe];rw [show ((1000:Nat):Int)=1000 from rfl] at f;rw [f,qb,qb];refine ⟨_,rfl,fun h=>⟨e,?_⟩⟩;have:=qbr h;unfold cap at this;omega
 ·rw [qh (by omega),qe];exact ⟨false,rfl,fun h=>by cases h⟩
end
theorem kaaz (t:Tm) (h:t.size<=1000):ka5 t t=some 0:=by rw [kpc t t h h,cmpT_eq0.2 rfl]
theorem k8i (L:List Tm) (hl:L.length<=100000) (a:∀ u∈L,u.size<=1000):kho L L=some true:=by unfold kho;rw [show ((L.length:Int) != (L.length:Int))=false by simp,qd];have h:kab (keq L L) fuel 0=some (.inl ()):=kin (keq L L) L.length (fun k=>(k:Int)) _ (fun k hk=>by simp only [keq,kaq hk,qe,kac,qa hk,qb,kaaz _ (a _ (qi hk)),kaj hk (show L.length<=9223372036854775807 by omega)];rfl) (by simp only [keq,kal,qd]);rw [h];rfl
theorem k58 (all:List Tm) (t:Tm) (hl:all.length<=100000) (c:∀ u∈all,u.size<=1000) (ht:t.size<=1000) (a:t∉all):kgk all t=some (-1):=by unfold kgk;have h:kab (kdd all t) fuel 0=some (.inl ()):=kin (kdd all t) all.length (fun k=>(k:Int)) _ (fun k hk=>by have hm:=qi hk;have b:cmpT all[k] t≠0:=fun e=>a (cmpT_eq0.1 e ▸ hm);simp only [kdd,kaq hk,qe,kac,qa hk,qb,kpc _ _ (c _ hm) ht,kaj hk (show all.length<=9223372036854775807 by omega)];rw [show (cmpT all[k] t == 0)=false by simp [b],qd]) (by simp only [kdd,kal,qd]);rw [h];rfl
theorem un_l1 (L all:List Tm) (hl:all.length+L.length<=100000) (f:∀ u∈all,u.size<=1000) (b:∀ u∈L,u.size<=1000) (hn:L.Nodup) (g:∀ u∈L,u∉all) (e:Int):
  kab (kb6 (L,e)) fuel (0,all)=some (.inl (all++L)):=by
 have h:=kin (kb6 (L,e)) L.length (fun j=>((j:Int),all++L.take j)) (.inl (all++L)) (fun j a=>?_) ?_;simpa using h
 ·have hm:=qi a;have k:(L.take j).length<=L.length:=by rw [qai];omega
  have c:L[j]∉all++L.take j:=fun hc=>by
   rcases qab.1 hc with h1 | h1;exact g _ hm h1
   ·obtain ⟨i,hi,e⟩:=List.mem_take_iff_getElem.1 h1;have d:=qbx.1 hn i j (by omega) a (by omega);exact d e
  have hp:=k58 (all++L.take j) (L[j]) (by rw [qag];omega) (fun u hu=>by
   rcases qab.1 hu with h1 | h1;exact f u h1
   ·exact b u (qa7 h1)) (b _ hm) c
  simp only [kb6,kaq a,qe,kac,qa a,qb,hp,kaj a (show L.length<=9223372036854775807 by omega)];rw [show decide ((0:Int) <= -1)=false from rfl,qd,kcv (by rw [qag,qar];omega),qb,qa8,List.take_append_getElem a]
 ·simp only [kb6,kal,qd,qal]
theorem unamb {s:Spa} (hf:kc6 s) (hu:k0s s.ya) (p:FewT s.ya) (ht:kb3 s=some (s,0)) (q:kih s s.ya.length<=1000):kei s=some true:=by
 have B:=hf.nodes;have c:∀ (i:Nat) (t:Tm),Bt s.ya i t->t.size<=1000:=fun i t h=>by have hi:=k5z h;have h1:=kace hf t i _ (qa hi) h;have w:=(hf.node i _ (qa hi)).size;omega
 have d:∀ i,i<=s.ya.length->kih s i<=kih s s.ya.length:=fun i hi=>by
  have key:∀ n,i<=n->kih s i<=kih s n:=fun n=>by
   induction n with
   | zero=>
     intro h;obtain rfl:i=0:=(by omega);exact qx _
   | succ n ih=>
    intro h;by_cases e:i=n+1;subst e;exact qx _
    ·have:=ih (by omega);have e2:kih s (n+1)=kih s n+(TL s.ya n).length:=(by unfold kih;rw [List.range_succ,qaw,qbu];simp);omega
  exact key _ hi
 unfold kei;rw [ht,qb];simp only;rw [show ((0:Int) != 0)=false from rfl,qd,qb,show ((s.ya.length:Int) != (s.ya.length:Int))=false by simp,qd];obtain ⟨r,hr,all,rfl,f⟩:=kj2 (step:=kdg s (s,0)) (s0:=(0,([]:List Tm))) (Q:=fun v=>∃ all,v = .inl all/\all.length=kih s s.ya.length) s.ya.length
  (fun i st=>∃ all:List Tm,st=((i:Int),all)/\all.length=kih s i/\∀ u∈all,∃ a,a<i/\Bt s.ya a u) (by omega) ⟨[],rfl,rfl,by simp⟩ (fun i st hi hst=>by
   obtain ⟨all,rfl,a1,a2⟩:=hst;have hn:=qa hi;have j:kc6 ⟨s.ya,[(i:Int)]⟩:=⟨hf.nodes,⟨fun x D=>by rw [qw.1 D];show (0:Int)<=(i:Int)/\(i:Int)<(s.ya.length:Int);omega,fun k x y h1 w=>by simp at w⟩,hf.node,hf.opts,hf.con⟩;obtain ⟨X,x1,x2,x3⟩:=p i;have g:∀ t,InS ⟨s.ya,[(i:Int)]⟩ t↔Bt s.ya i t:=fun t=>by
    constructor;rintro ⟨r,hr,_,b⟩;rw [qw.1 hr,qa0] at b;exact b
    ·intro h;exact ⟨(i:Int),qw.2 rfl,by omega,by rw [qa0];exact h⟩
   obtain ⟨⟨L,e⟩,E,rfl,l1,l2⟩:=kzx j p X x1 x2 (fun t h=>x3 t ((g t).1 h));simp only at l1 l2;have l3:∀ t,t∈L↔Bt s.ya i t:=fun t=>(l2 t).trans (g t);obtain ⟨t1,t2⟩:=k3u hf hu (i+1) i (by omega) hi;have z:L.length=(TL s.ya i).length:=Nat.le_antisymm (kq1 _ _ l1.nodup fun u h=>(t1 u).2 ((l3 u).1 h)) (kq1 _ _ t2 fun u h=>(l3 u).2 ((t1 u).1 h));have e2:kih s (i+1)=kih s i+(TL s.ya i).length:=(by unfold kih;rw [List.range_succ,qaw,qbu];simp);have F:=d (i+1) (by omega);have l:=un_l1 L all (by omega) (fun u h=>by obtain ⟨a,_,b⟩:=a2 u h;exact c a u b) (fun u h=>c i u ((l3 u).1 h)) l1.nodup (fun u h hc=>by obtain ⟨a,ha,b⟩:=a2 u hc;have:=k3w hu b ((l3 u).1 h);omega) 0;simp only [kdg,kaq hi,qe,kac,hn,qb,kaj hi (show s.ya.length<=9223372036854775807 by omega)];rw [show (((s.ya[i]).yc.length:Int) != ((s.ya[i]).yc.length:Int))=false by simp,qd];have m:kec (Sad.mk s.ya ([(i:Int)]:List Int))=some (L,0):=E;rw [m,qb,l,qb];refine ⟨_,rfl,all++L,rfl,by rw [qag];omega,fun u o=>?_⟩;rcases qab.1 o with h1 | h1;obtain ⟨a,ha,b⟩:=a2 u h1;exact ⟨a,by omega,b⟩
   ·exact ⟨i,by omega,(l3 u).1 h1⟩) (fun st hst=>by
   obtain ⟨all,rfl,a1,a2⟩:=hst;exact ⟨.inr (.inl all),by simp only [kdg,kal,qd],_,rfl,all,rfl,a1⟩)
 rw [hr,qb,q9];have A:=k1l hf (C:=1000000) (by omega);rw [show ((1000000:Nat):Int)=1000000 from rfl] at A;rw [A,qb,f];congr 1;rw [beq_iff_eq];unfold cap;omega
theorem kae3 (l:La):kia l=some (decide (l.rules.length<=20) && decide (l.symbols.length<=8)):=by
 unfold kia;by_cases h1:l.rules.length<=20
 ·rw [qh (show (l.rules.length:Int)<=20 by omega),qe,qh h1,Bool.true_and];by_cases a:l.symbols.length<=8;rw [qh (show (l.symbols.length:Int)<=8 by omega),qh a];rfl
  ·rw [qg (show ¬ (l.symbols.length:Int)<=8 by omega),qg a];rfl
 ·rw [qg (show ¬ (l.rules.length:Int)<=20 by omega),qd,qg h1,Bool.false_and];rfl
end Go.Proofs.YtchjomeomabamaaGreatDoor
