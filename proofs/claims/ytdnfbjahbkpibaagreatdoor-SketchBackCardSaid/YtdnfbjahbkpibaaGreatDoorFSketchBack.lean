/- SketchBack: the law returns true for every input where the listed tables hold what the program lays into them. -/
import Derived.Test.YtdnfbjahbkpibaaGreatDoorNg
import Derived.Test.YtdnfbjahbkpibaaGreatDoorNu
import Derived.Test.YtdnfbjahbkpibaaGreatDoorSm
import Derived.Test.YtdnfbjahbkpibaaGreatDoorSk
import Derived.Test.YtdnfbjahbkpibaaGreatDoorCg
import Derived.Test.YtdnfbjahbkpibaaGreatDoorHd
import Derived.Deep.Fields
import Derived.Test.YtdnfbjahbkpibaaGreatDoorSim
import Derived.Test.YtdnfbjahbkpibaaGreatDoorZE
import Derived.Test.YtdnfbjahbkpibaaGreatDoorNg
import Derived.Test.YtdnfbjahbkpibaaGreatDoorTT
import Derived.Test.YtdnfbjahbkpibaaGreatDoorRows
import Derived.Lib.LaidTab
import Derived.LaidLaws
import Derived.LaidHandle
import Derived.OpenShut
import Derived.ChangeSame
import Derived.ChangeMaps5
import Derived.JoinedOf
import Derived.Test.YtdnfbjahbkpibaaGreatDoorCards
import Derived.Test.YtdnfbjahbkpibaaGreatDoorTie
import Derived.SevenTiedAt
set_option linter.all false
namespace Go.Proofs.YtdnfbjahbkpibaaGreatDoor
open Go Go.RowKit Go.Proofs.Tryz
theorem k79 {l:La} (b:khu l) (h:List (List Bool)) {k:Nat} (hk:k<l.rules.length):kbi ⟨l,h⟩ (k:Int)=some (kcu l k):=by
 obtain ⟨y,h1,_,a,c⟩:=kn3 l hk;unfold kbi;simp only;rw [kag,h1,qa];cases hc:y.kind == 3 with
 | true=>rw [qe,a]
 | false=>rw [qd,<- a,(b.good y c).noargs (by simpa using hc)]
def kwa (l:La) (j:Nat) (s:Int) (n:Nat):Bool:=(List.range j).any fun i=>decide (kgw l i=s) && rbS l (kcu l i) n
theorem ksz (l:La) (j:Nat) (s:Int) (n:Nat):kwa l (j+1) s n=(kwa l j s n || (decide (kgw l j=s) && rbS l (kcu l j) n)):=by unfold kwa;rw [List.range_succ,List.any_append];simp
theorem k87 (l:La) (s:Int) (n:Nat):hasB l s (n+1)=kwa l l.rules.length s n:=by
 rw [Bool.eq_iff_iff,hasB_iff];unfold kwa;rw [List.any_eq_true];constructor
 ·rintro ⟨t,ht⟩;obtain ⟨i,ts,m,e,hi,h1,rfl,b⟩:=mem_dl.1 ht;obtain rfl:n=m:=by omega
  exact ⟨i,qbq.2 hi,by rw [ql h1,Bool.true_and];exact rbS_iff.2 ⟨ts,b⟩⟩
 ·rintro ⟨i,hi,h⟩;rw [qr,decide_eq_true_iff] at h;obtain ⟨ts,a⟩:=rbS_iff.1 h.2;exact ⟨Tm.mk (i:Int) ts,mem_dl.2 ⟨i,ts,n,rfl,qbq.1 hi,h.1,rfl,a⟩⟩
def rowK (l:La) (K j:Nat) (s:Int) (k:Nat):Bool:=if k<K then hasB l s k else if k=K then kwa l j s (K - 1) else false
def tabK (l:La) (K j:Nat):List (List Bool):=(List.range l.symbols.length).map fun (s:Nat)=>rowB 25 (rowK l K j (s:Int))
theorem knw {l:La} {K j s:Nat} (h:s<l.symbols.length):(tabK l K j)[s]?=some (rowB 25 (rowK l K j (s:Int))):=by simp [tabK,h]
theorem kzm {l:La} {K j K' j':Nat} (h:∀ s k:Nat,s<l.symbols.length->k<25->rowK l K j (s:Int) k=rowK l K' j' (s:Int) k):tabK l K j=tabK l K' j':=by unfold tabK;exact List.map_congr_left fun s hs=>kii fun k hk=>h s k (qbq.1 hs) hk
theorem k5z (l:La) {K j n:Nat} (hn:n<K:=by omega) (hK:K<=25:=by omega):HasT l (tabK l K j) n:=fun s hs=>⟨_,knw hs,fun k h1 a=>by rw [kj0 (by omega)];unfold rowK;rw [qo (by omega)]⟩
theorem kabw (l:La) {K:Nat} (hK:1<=K):tabK l K l.rules.length=tabK l (K+1) 0:=kzm fun s k _ _=>by
 unfold rowK;by_cases h:k<K;rw [qo h,qo (by omega)]
 ·rw [qi h];by_cases a:k=K;subst a;obtain ⟨n,rfl⟩:∃ n,k=n+1:=⟨k - 1,by omega⟩;rw [qo rfl,qo (by omega),k87];rfl
  ·rw [qi a,qi (by omega)];split;rfl
   ·rfl
theorem k8u {l:La} (d:khu l) {K:Nat} (hK:1<=K) (m:K<=24):kab (ksk l (K:Int)) fuel (0,tabK l K 0)=some (tabK l K l.rules.length):=by
 refine kcc l.rules.length (fun j=>((j:Int),tabK l K j)) _ (fun j e=>?_) ?_ (hn:=(by have:=d.rules;omega))
 ·obtain ⟨y,h1,n,g,o⟩:=kn3 l e;have hy:=d.good y o;obtain ⟨s,hs⟩:=qbp hy.sym0;have hs1:s<l.symbols.length:=by have:=hy.sym1;omega
  have p:w64 ((K:Int) - 1)=((K - 1:Nat):Int):=by rw [kc0];omega
  have f:inR l (kcu l j):=by rw [<- g];exact hy.args
  have b:(kcu l j).length<=1000000:=by rw [<- g];have:=hy.few;omega
  unfold ksk;simp only;rw [kdx e,qe,kag,h1,qa,k79 d _ e,qa,p,kx4 (by omega) (k5z l) f b,qa,kai _ (h:=(by have:=d.rules;omega))];have c:kgw l j=(s:Int):=by rw [<- n,hs]
  cases h:rbS l (kcu l j) (K - 1) with
  | false=>
   rw [qd,qa];congr 3;exact kzm fun s k _ _=>by unfold rowK;rw [ksz,h,Bool.and_false,Bool.or_false]
  | true=>
   rw [qe,hs,kag,knw hs1,qa,kag,kj0 (by omega),qa,qa,qa8,qa8,kxv];congr 3;apply qbw;intro q;rw [List.getElem?_set];by_cases i:s=q
   ·subst i;rw [qo rfl,qo (by simp [tabK,hs1]),knw hs1];congr 1;refine kii fun k hk=>?_;unfold rowK;by_cases a:k=K;subst a;rw [qo rfl,qi (by omega),qo rfl,ksz,h,c];simp
    ·rw [qi a,qi a,qi a]
   ·rw [qi i];by_cases hl:q<l.symbols.length;rw [knw hl,knw hl];congr 1;refine kii fun k hk=>?_;unfold rowK;rw [ksz,c,qg (by omega),Bool.false_and,Bool.or_false]
    ·rw [qa4 (by simp [tabK];omega),qa4 (by simp [tabK];omega)]
 ·unfold ksk;simp only;rw [kcz,qd]
def tabL (l:La):List (List Bool):=tabK l 25 0
theorem k44 (l:La) {n:Nat} (hn:n<=24):HasT l (tabL l) n:=k5z l
theorem kaeh {l:La} (a:khu l):kjm l=some ⟨l,tabL l⟩:=by
 have k1:kab (ksa l) fuel (0,[])=some (List.replicate l.symbols.length openRow):=by
  refine kcc l.symbols.length (fun i=>((i:Int),List.replicate i openRow)) _ (fun i hi=>?_) ?_ (hn:=(by have:=a.sym16;omega));unfold ksa;simp only;have:=a.sym16;rw [kdx hi,qe,ket (by simp;omega),qa,kai _,<- List.replicate_succ']
  ·unfold ksa;simp only;rw [kcz,qd]
 have k2:List.replicate l.symbols.length openRow=tabK l 1 0:=by
  apply qbw;intro s;by_cases hs:s<l.symbols.length;rw [knw hs];simp only [List.getElem?_replicate,hs,if_true];congr 1
  ·rw [qa4 (by simp;omega),qa4 (by simp [tabK];omega)]
 have k3:kab (kwh l) fuel (1,tabK l 1 0)=some (tabL l):=by
  refine kcc 24 (fun i=>(((i+1:Nat):Int),tabK l (i+1) 0)) _ (fun i hi=>?_) ?_;unfold kwh;simp only;rw [ql (by omega),qe,k8u a (by omega) (by omega),qa,kabw l (by omega),kai _]
  ·rfl
 unfold kjm;rw [k1,qa,k2,k3];rfl
def kpj (i n:Nat) (ts:List Tm):List Tm:=Tm.mk (i:Int) (ts.take n)::ts.drop n
def enL (l:La):Nat->List Int->List (List Tm)
 | 0,ss=>if ss=[] then [[]] else []
 | _+1,[]=>[]
 | k+1,s::tl=>(plL l s l.rules.length).flatMap fun i=>(enL l k (kcu l i++tl)).map (kpj i (kcu l i).length)
theorem kms {V:Int->Nat->List Tm}:∀ (xs ys:List Int) (n:Nat) (ts:List Tm),ts∈keo V (xs++ys) n↔∃ us vs k,ts=us++vs/\k<=n/\us.length=xs.length/\us∈keo V xs k/\vs∈keo V ys (n - k)
 | [],ys,n,ts=>by
  constructor;intro h;exact ⟨[],ts,0,rfl,qak _,rfl,mem_prodN.2 ⟨rfl,rfl⟩,h⟩
  ·rintro ⟨us,vs,k,rfl,hk,_,b,hv⟩;obtain ⟨rfl,rfl⟩:=mem_prodN.1 b;exact hv
 | x::xs,ys,n,ts=>by
  constructor;intro h;obtain ⟨t,us,k,rfl,hk,ht,b⟩:=mem_prodL.1 h;obtain ⟨us',vs,j,rfl,c,hl,a,hv⟩:=(kms xs ys (n - k) us).1 b;exact ⟨t::us',vs,k+j,rfl,by omega,by simp [hl],mem_prodL.2 ⟨t,us',k,rfl,by omega,ht,by rw [show k+j - k=j by omega];exact a⟩,by rw [show n - (k+j)=n - k - j by omega];exact hv⟩
  ·rintro ⟨us,vs,k,rfl,hk,hl,b,hv⟩;obtain ⟨t,us',j,rfl,c,ht,a⟩:=mem_prodL.1 b;exact mem_prodL.2 ⟨t,us'++vs,j,rfl,by omega,ht,(kms xs ys (n - j) _).2 ⟨us',vs,k - j,rfl,by omega,by simpa using hl,a,by rw [show n - j - (k - j)=n - k by omega];exact hv⟩⟩
theorem kp0 {l:La}:∀ (k:Nat) (ss:List Int) (ts:List Tm),ts∈enL l k ss↔ts∈keo (dl l) ss k
 | 0,[],ts=>by rw [mem_prodN];simp [enL]
 | 0,a::ss,ts=>by
  rw [mem_prodL];simp only [enL];rw [qi (by simp)];constructor;intro h;cases h
  ·rintro ⟨t,us,k,_,hk,ht,_⟩;obtain rfl:k=0:=(by omega);cases ht
 | k+1,[],ts=>by rw [mem_prodN];simp [enL]
 | k+1,s::tl,ts=>by
  simp only [enL,qa1,qai];constructor;rintro ⟨i,hi,us,b,rfl⟩;obtain ⟨h1,c⟩:=k1c hi;obtain ⟨vs,ws,j,rfl,d,hl,hv,e⟩:=(kms _ _ _ _).1 ((kp0 k _ us).1 b);refine mem_prodL.2 ⟨Tm.mk (i:Int) vs,ws,j+1,?_,by omega,mem_dl.2 ⟨i,vs,j,rfl,h1,c,rfl,hv⟩,by rw [show k+1 - (j+1)=k - j by omega];exact e⟩;unfold kpj;rw [<- hl,List.take_left,List.drop_left]
  ·intro h;obtain ⟨t,us,j,rfl,d,ht,f⟩:=mem_prodL.1 h;obtain ⟨i,vs,m,rfl,hi,hs,rfl,hv⟩:=mem_dl.1 ht;have hl:=(knm _ _ _ (fun a k t h=>kmc k a t h) hv).2;refine ⟨i,?_,vs++us,(kp0 k _ _).2 ((kms _ _ _ _).2 ⟨vs,us,m,rfl,by omega,hl,hv,by rw [show k - m=k+1 - (m+1) by omega];exact f⟩),?_⟩;unfold plL;rw [List.mem_filter];exact ⟨qbq.2 hi,by simp [hs]⟩
   ·unfold kpj;rw [<- hl,List.take_left,List.drop_left]
theorem kaiy {l:La} {k:Nat} {ss:List Int} {ts:List Tm} (h:ts∈enL l k ss):ts.length=ss.length:=(knm _ _ _ (fun a k t h=>kmc k a t h) ((kp0 k ss ts).1 h)).2
theorem kxi {σ α:Type} {f g:σ->α->Option σ}:∀ (xs:List α) (s:σ),(∀ x∈xs,∀ s,f s x=g s x)->xs.foldlM f s=xs.foldlM g s
 | [],s,_=>rfl
 | x::xs,s,h=>by rw [qb3,qb3,h x (qv ..)];congr 1;funext s';exact kxi xs s' fun y hy=>h y (qh _ hy)
theorem k19 {σ α β:Type} {f:σ->β->Option σ} {g:α->β}:∀ (xs:List α) (s:σ),(xs.map g).foldlM f s=xs.foldlM (fun s x=>f s (g x)) s
 | [],s=>rfl
 | x::xs,s=>by rw [qa5,qb3,qb3];congr 1;funext s';exact k19 xs s'
theorem kako {α:Type} (xs:List α) {n:Nat} (h:n<=xs.length):cut3 xs 0 (n:Int) (n:Int)=some (xs.take n):=by unfold cut3;rw [qo (by omega)];simp
theorem kaex {α:Type} (xs:List α) {n:Nat} (h:n<=xs.length):cutL xs (n:Int) (xs.length:Int)=some (xs.drop n):=by unfold cutL;rw [qo (by omega)];simp
theorem kad7 {σ:Type} (step:σ->List Tm->Option σ) (i:Nat) (own:List Int) (s:σ) (ts:List Tm) (h:own.length<=ts.length) (a:ts.length<=1000000):kq5 step (i:Int) own s ts=step s (kpj i own.length ts):=by unfold kq5;rw [kako ts h,qa,kaex ts h,qa,ket (by simp;omega),qa];rfl
theorem k7u {l:La} {ss:List Int} {k:Nat} (h:rbS l ss k=true):ss.length<=k:=by
 obtain ⟨ts,b⟩:=rbS_iff.1 h;obtain ⟨h1,c⟩:=knm _ _ _ (fun a k t h=>kmc k a t h) b;have:∀ us:List Tm,us.length<=Tm.sizeL us:=fun us=>by
  induction us with
  | nil=>exact qak _
  | cons t us ih=>rw [Tm.sizeL];have:=t.size_pos;simp only [qag];omega
 have:=this ts;omega
theorem kafs {l:La} (r:khu l):∀ (k n:Nat) (ss:List Int) {σ:Type} (step:σ->List Tm->Option σ) (s s':σ),k<n->k<=24->inR l ss->ss.length<=1000->(enL l k ss).foldlM step s=some s'->klw ⟨l,tabL l⟩ n ss (k:Int) step s=some s':=by
 intro k
 induction k with
 | zero=>
  intro n ss σ step s s' hn hk c f h;obtain ⟨n,rfl⟩:∃ m,n=m+1:=⟨n - 1,by omega⟩;show kp3 (klw ⟨l,tabL l⟩ n) ⟨l,tabL l⟩ ss ((0:Nat):Int) step s=some s';unfold kp3;rw [kx4 (by omega) (k44 l (by omega)) c (by omega),qa];cases ss with
  | nil=>
   rw [ksf,ql rfl];simp only [enL,if_true,qb3,List.foldlM_nil] at h;simp only [qbv,qd,qbf];exact h
  | cons a ss=>
   have:rbS l (a::ss) 0=false:=by
    cases e:rbS l (a::ss) 0 with
    | false=>rfl
    | true=>have:=k7u e;simp at this
   rw [this,Bool.not_false,qe];simp only [enL] at h;rw [qi (by simp)] at h;exact h
 | succ k ih=>
  intro n ss σ step s s' hn hk c f h;obtain ⟨n,rfl⟩:∃ m,n=m+1:=⟨n - 1,by omega⟩;show kp3 (klw ⟨l,tabL l⟩ n) ⟨l,tabL l⟩ ss ((k+1:Nat):Int) step s=some s';unfold kp3;rw [kx4 hk (k44 l hk) c (by omega),qa];cases e:rbS l ss (k+1) with
  | false=>
   have v:enL l (k+1) ss=[]:=(by rw [List.eq_nil_iff_forall_not_mem];intro ts d;have:=rbS_iff.2 ⟨ts,(kp0 _ _ _).1 d⟩;rw [e] at this;cases this);rw [v] at h;exact h
  | true=>
   have t:=k7u e;rw [qbv,qd];cases ss with
   | nil=>rw [ksf] at e;simp at e
   | cons a tl=>
    rw [show (((a::tl).length:Int) == 0)=false by simp;omega,qd];rw [show idx (a::tl) 0=some a from rfl,qa,kaf6 l a (by have:=r.rules;omega),qa];have w:(plL l a l.rules.length).length<=96:=qay (k1e _ _ _) r.rules;obtain ⟨b,u,rfl⟩:=kv7 (step:=kst (klw ⟨l,tabL l⟩ n) ⟨l,tabL l⟩ (a::tl) ((k+1:Nat):Int) ((plL l a l.rules.length).map natI) step) (plL l a l.rules.length).length (by omega)
     (fun i x=>x.1=(i:Int)/\(((plL l a l.rules.length).drop i).flatMap fun i=>(enL l k (kcu l i++tl)).map (kpj i (kcu l i).length)).foldlM step x.2=some s') (fun b=>b=s')
     (fun i x hi hx=>by obtain ⟨j,x⟩:=x;obtain ⟨e1,e2⟩:=hx;simp only at e1 e2;subst e1;obtain ⟨p,hp⟩:∃ p,(plL l a l.rules.length)[i]?=some p:=⟨_,qb hi⟩;have hd:(plL l a l.rules.length).drop i=p::(plL l a l.rules.length).drop (i+1):=(by rw [qao hi,<- qs ((qb hi).symm.trans hp)]);rw [hd,qbr,List.foldlM_append] at e2;obtain ⟨x1,q1,q2⟩:=qm.1 e2;obtain ⟨g,A⟩:=k1c (qj hp);obtain ⟨y,g1,g2,g3,g4⟩:=kn3 l g;have hy:=r.good y g4;have B:(kcu l p).length<=5:=(by rw [<- g3];exact hy.few);have o:inR l (kcu l p++tl):=fun z q=>(qat.1 q).elim (fun q=>hy.args z (g3 ▸ q)) fun q=>c z (qh _ q);have C:tl.length<=k:=(by simpa using t);have D:w64 (((k+1:Nat):Int) - 1)=(k:Int):=(by rw [kc0];omega);rw [k19] at q1;have q3:(enL l k (kcu l p++tl)).foldlM (kq5 step (p:Int) (kcu l p)) x=some x1:=(by rw [<- q1];refine kxi _ _ fun ts d s=>?_;have:=kaiy d;rw [qy] at this;exact kad7 step p _ s ts (by omega) (by omega));refine ⟨(((i+1:Nat):Int),x1),?_,rfl,q2⟩;unfold kst;simp only;rw [qt,kdx hi,qe,kag,qn,hp,qa3,qa];show Option.bind (kbi ⟨l,tabL l⟩ (p:Int)) _=_;rw [k79 r _ g,qa,ket (by simp;omega),qa,ks1,qa,qbz,ket (by omega),qa];show Option.bind (klw ⟨l,tabL l⟩ n (kcu l p++tl) (w64 (((k+1:Nat):Int) - 1)) (kq5 step (p:Int) (kcu l p)) x) _=_;rw [D,ih n _ _ _ _ (by omega) (by omega) o (by rw [qy];omega) q3,qa,kai _])
     (fun x hx=>by obtain ⟨j,x⟩:=x;obtain ⟨e1,e2⟩:=hx;simp only at e1 e2;subst e1;rw [List.drop_length] at e2;refine ⟨x,?_,qs e2⟩;unfold kst;simp only;rw [qt,kcz,qd]) (0,s) ⟨rfl,by rw [List.drop_zero];exact h⟩
    rw [u,qa]
open Go Go.RowKit TV Go.Proofs.Tryz
theorem kaau {i n:Nat} {ts us:List Tm} (h:kpj i n ts=kpj i n us):ts=us:=by unfold kpj at h;injection h with h1 a;injection h1 with _ h1;rw [<- List.take_append_drop n ts,<- List.take_append_drop n us,h1,a]
theorem kabo (l:La) (s:Int) (n:Nat):(plL l s n).Nodup:=List.Pairwise.filter _ List.nodup_range
theorem k2n (l:La):∀ (k:Nat) (ss:List Int),(enL l k ss).Nodup
 | 0,ss=>by simp only [enL];split <;> simp
 | k+1,[]=>by simp [enL]
 | k+1,s::tl=>by
  simp only [enL];unfold List.Nodup;rw [List.pairwise_flatMap];refine ⟨fun i hi=>?_,?_⟩;rw [List.pairwise_map];exact (k2n l k _).imp fun h e=>h (kaau e)
  ·refine (kabo l s _).imp fun h x hx y hy e=>?_;obtain ⟨ts,_,rfl⟩:=qai.1 hx;obtain ⟨us,_,rfl⟩:=qai.1 hy;unfold kpj at e;injection e with e1 _;injection e1 with e1 _;exact h (by omega)
def enT (l:La) (s:Int) (k:Nat):List Tm:=(enL l k [s]).map fun ts=>ts.headD (Tm.mk 0 [])
theorem kvu {l:La} {s:Int} {k:Nat} {ts:List Tm} (h:ts∈enL l k [s]):∃ t,ts=[t]/\t∈dl l s k:=by
 obtain ⟨t,us,j,rfl,b,ht,a⟩:=mem_prodL.1 ((kp0 _ _ _).1 h);obtain ⟨rfl,h0⟩:=mem_prodN.1 a;obtain rfl:j=k:=by omega
 exact ⟨t,rfl,ht⟩
theorem enT_mem {l:La} {s:Int} {k:Nat} {t:Tm}:t∈enT l s k↔t∈dl l s k:=by
 unfold enT;rw [qai];constructor;rintro ⟨ts,a,rfl⟩;obtain ⟨u,rfl,b⟩:=kvu a;exact b
 ·intro h;exact ⟨[t],(kp0 _ _ _).2 (mem_prodL.2 ⟨t,[],k,rfl,qx _,h,mem_prodN.2 ⟨rfl,by omega⟩⟩),rfl⟩
theorem k16 (l:La) (s:Int) (k:Nat):(enT l s k).Nodup:=by unfold enT List.Nodup;rw [List.pairwise_map];refine (k2n l k [s]).imp_of_mem fun {ts us} h1 a h e=>h ?_;obtain ⟨t,rfl,_⟩:=kvu h1;obtain ⟨u,rfl,_⟩:=kvu a;exact qbc (fun x=>[x]) e
theorem kzi {α:Type}:∀ (xs ys:List α),xs.Nodup->(∀ x∈xs,x∈ys)->xs.length<=ys.length
 | [],ys,_,_=>qak _
 | x::xs,ys,hn,hs=>by
  unfold List.Nodup at hn;rw [List.pairwise_cons] at hn;obtain ⟨us,bs,rfl⟩:=List.append_of_mem (hs x (qv ..));have:=kzi xs (us++bs) hn.2 fun y hy=>by
   have:=hs y (qh _ hy);rw [qat,qae] at this;rw [qat];rcases this with h | h | h;exact .inl h;exact absurd h.symm (hn.1 y hy)
   ·exact .inr h
  simp only [qy,qag] at this ⊢;omega
theorem k1h (l:La) (s:Int) (k:Nat):(enT l s k).length<=VN l s k:=by rw [kak3];exact kzi _ _ (k16 l s k) fun t h=>enT_mem.1 h
theorem k6m:∀ (n:Nat) (t:Tm),t.size<=n->t.size<=1000->kfl n t=some t
 | 0,t,h,_=>by have:=t.size_pos;omega
 | n+1,t,h,d=>by show kg8 (kfl n) t=_;unfold kg8;have a:=args_len t;have hl:=kkw (kgl t (kfl n)) t.args id [] (fun i x hx=>by have hi:=kbb hx;have b:=kbm (qj hx);have c:=List.length_take_le i t.args;simp only [kgl,kdr hi,qe,kag,hx,qa];rw [k6m n x (by omega) (by omega),qa,ket (by simp only [qy,qt,qbf,qah];omega),qa,kai _];rfl) (by simp only [kgl,kcp,qd]);rw [show ((0:Int),([]:List Tm))=(0,[]) from rfl,hl,qa,List.map_id,qbz];cases t;rfl
theorem kaed (s:List Tm) (t:Tm) (h:s.length<=1000000):kpt s t=some (s++[t]):=by unfold kpt;rw [ket (by simp;omega),qa,kag,qab (qx _),qb8];simp
theorem k4u {l:La} {s:Int} {k:Nat} (hk:k<=24):∀ (xs:List (List Tm)) (acc:List Tm),(∀ ts∈xs,ts∈enL l k [s])->acc.length+xs.length<=1000000->xs.foldlM (kqx kpt) acc=some (acc++xs.map fun ts=>ts.headD (Tm.mk 0 []))
 | [],acc,_,_=>by simp
 | x::xs,acc,h,hl=>by
  obtain ⟨t,rfl,ht⟩:=kvu (h x (qv ..));simp only [qag] at hl;have b:=kmc k s t ht;rw [qb3];have e:kqx kpt acc [t]=some (acc++[t]):=by unfold kqx;rw [show idx [t] 0=some t from rfl,qa,k6m fuel t (qaz (kan (by omega))) (by omega),qa,kaed _ _ (by omega)]
  rw [e];show List.foldlM (kqx kpt) (acc++[t]) xs=_;rw [k4u hk xs _ (fun ts a=>h ts (qh _ a)) (by simp;omega)];simp
theorem kade {l:La} (c:khu l) (hc:kbs l=some 0) {s k:Nat} (hs:s<l.symbols.length) (g:1<=k) (hk:k<=24) (hv:VN l (s:Int) k<=4096):kkn l (s:Int) (k:Int)=some (enT l (s:Int) k,0):=by
 have f:=k1h l (s:Int) k;have a:errC l 0 (s:Int) (k:Int)=0:=by unfold errC badQ;rw [qg (by omega),qg (by omega)];simp;omega
 have d:en (VN l (s:Int) k)=(VN l (s:Int) k:Int):=by unfold en;omega
 have b:khj l (s:Int) (k:Int)=some ((VN l (s:Int) k:Int),0):=by rw [k9n c hc,a,qi (by simp),qa8];unfold ansC;rw [d,qi (by omega)]
 unfold kkn;rw [kaeh c,qa];unfold kqn;rw [b,qa];simp only;rw [show ((0:Int) != 0)=false from rfl,qd,qg (by omega),qd];cases h0:((VN l (s:Int) k:Int) == 0) with
 | true=>
  have:VN l (s:Int) k=0:=by simpa using h0
  have:enT l (s:Int) k=[]:=qax (by omega);rw [qe,this]
 | false=>
  rw [qd,qa];have i:(enL l k [(s:Int)]).length=(enT l (s:Int) k).length:=by simp [enT]
  have j:=k4u (l:=l) (s:=(s:Int)) hk (enL l k [(s:Int)]) [] (fun ts h=>h) (by simp;omega);have e:inR l [(s:Int)]:=fun y hy=>by obtain rfl:=qav.1 hy;omega
  unfold kyy;rw [show kfk ⟨l,tabL l⟩ (s:Int) (k:Int)=some () from rfl,qa,show kdu ⟨l,tabL l⟩ [(s:Int)] (k:Int)=some () from rfl,qa,kafs c k fuel _ _ _ _ (kan (by omega)) hk e (by simp) j];rfl
def upT (l:La) (s:Int) (n:Nat):List Tm:=(List.range n).flatMap fun i=>enT l s (i+1)
theorem k4c (l:La) (s:Int) (n:Nat):upT l s (n+1)=upT l s n++enT l s (n+1):=by unfold upT;rw [List.range_succ,List.flatMap_append];simp
theorem k1u (l:La) (s:Int) (n:Nat):totC l s (n+1)=totC l s n+VN l s (n+1):=rfl
theorem k75 (l:La) (s:Int):∀ n,(upT l s n).length<=totC l s n
 | 0=>by simp [upT]
 | n+1=>by rw [k4c,k1u,qy];have:=k75 l s n;have:=k1h l s (n+1);omega
theorem kahz (l:La) (s:Int) {i n:Nat} (h:i<=n):totC l s i<=totC l s n:=k39 _ h
theorem upT_mem {l:La} {s:Int} {n:Nat} {t:Tm}:t∈upT l s n↔t.size<=n/\t∈dl l s t.size:=by
 unfold upT;rw [qa1];constructor;rintro ⟨i,hi,h⟩;have h:=enT_mem.1 h;have hs:=kmc _ s t h;rw [qbq] at hi;exact ⟨by omega,by rw [hs];exact h⟩
 ·rintro ⟨h1,a⟩;have:=t.size_pos;exact ⟨t.size - 1,qbq.2 (by omega),enT_mem.2 (by rw [show t.size - 1+1=t.size by omega];exact a)⟩
theorem kacl (l:La) (s:Int) (n:Nat):(upT l s n).Nodup:=by unfold upT List.Nodup;rw [List.pairwise_flatMap];refine ⟨fun i _=>k16 l s (i+1),List.nodup_range.imp fun {i j} h x hx y hy e=>h ?_⟩;have h1:=kmc _ s x (enT_mem.1 hx);have a:=kmc _ s y (enT_mem.1 hy);subst e;omega
theorem kaji {l:La} (e:khu l) (hc:kbs l=some 0) (s:Nat) (hs:s<l.symbols.length) (m:Int):∃ r,ki8 l (s:Int) m=some r/\(r.2=0->1<=m/\m<=24/\r.1=upT l (s:Int) m.toNat):=by
 unfold ki8;rw [k8z e hc,qa];by_cases a:errC l 0 (s:Int) m=0
 ·rw [a,qi (by simp)];obtain ⟨_,_,_,b,c⟩:=kun a;obtain ⟨n,rfl⟩:=qbp (show 0<=m by omega);rw [qa8];unfold ansC;by_cases h1:(1152921504606846976:Int)<en (totC l (s:Int) n);rw [qo h1];exact ⟨_,rfl,fun h=>by simp at h⟩
  ·rw [qi h1];simp only;rw [show ((0:Int) != 0)=false from rfl,qd];by_cases d:(4096:Int)<en (totC l (s:Int) n);rw [ql d,qe];exact ⟨_,rfl,fun h=>by simp at h⟩
   ·rw [qg d,qd];have ht:totC l (s:Int) n<=4096:=(by unfold en at d;omega);have hl:kab (kg7 l (s:Int) (n:Int)) fuel (1,[])=some (upT l (s:Int) n):=by
     refine kcc n (fun i=>(((i+1:Nat):Int),upT l (s:Int) i)) _ (fun i hi=>?_) ?_;have a1:=kahz l (s:Int) (show i+1<=n by omega);have a2:=k1u l (s:Int) i;have a3:=k75 l (s:Int) i;have a4:=k1h l (s:Int) (i+1);unfold kg7;simp only;rw [ql (by omega),qe,kade e hc hs (by omega) (by omega) (by omega),qa,ket (by simp only;omega),qa,kai _,<- k4c]
     ·unfold kg7;simp only;rw [qg (by omega),qd]
    rw [hl,qa];exact ⟨_,rfl,fun _=>⟨b,c,rfl⟩⟩
 ·rw [qo a];simp only;rw [show (errC l 0 (s:Int) m != 0)=true by rw [qbg];exact a,qe];exact ⟨_,rfl,fun h=>absurd h a⟩
set_option maxRecDepth 100000
theorem kxa {α β:Type} {x:Option α} {f g:α->Option β} (h:∀ v,x=some v->f v=g v):Option.bind x f=Option.bind x g:=by
 cases x with
 | none=>rfl
 | some v=>exact h v rfl
theorem kadl {α:Type} {c:Bool} {x y z:α} (h:x=y):(bif c then x else z)=bif c then y else z:=by rw [h]
theorem k2z:∀ n,kld n=kbc n
 | 0=>rfl
 | n+1=>by show knl (kld n)=kdg (kbc n);rw [k2z n];rfl
theorem kacs {l:La} {d:Saa} (hd:d.ya.length<=1000) {s:Int} {x:Dk} (b:kpp l d.ya s x):∀ n,kdc n d x=kda n d x:=by
 induction b with
 | hole hx hk ht=>
  rename_i s x k h;intro n;cases n with
  | zero=>rfl
  | succ n=>
   have a:=kbb hk;show kfp (kdc n) d x=kcn (kda n) d x;unfold kfp kcn;rw [ql (show 0<x.hole by omega),qe,qe,qa,ql (show x.hole<=(d.ya.length:Int) by omega),qe];have e:∀ h,kjx h=keb h:=fun h=>(by funext v;unfold kjx keb;rw [k2z]);refine kxa fun h _=>?_;rw [e h]
 | node hx hr hk ht hl ha ih=>
  rename_i s x k r;intro n;cases n with
  | zero=>rfl
  | succ n=>
   show kfp (kdc n) d x=kcn (kda n) d x;unfold kfp kcn;rw [qg (show ¬ 0<x.hole by omega),qd,qd,qa,qd];have e:kj2 d x (kdc n)=kea d x (kda n):=(by funext v;unfold kj2 kea;refine kadl (kxa fun y hy=>?_);obtain ⟨i0,hi⟩:=kql hy;have a:=kbb hi;rw [ih v.2.toNat y _ hi (qb (by omega)) n]);rw [e]
theorem krl {l:La}:∀ (ss:List Int) (n:Nat) (ts:List Tm),ts∈keo (dl l) ss n↔ts.length=ss.length/\Tm.sizeL ts=n/\∀ (i:Nat) (t:Tm) (b:Int),ts[i]?=some t->ss[i]?=some b->t∈dl l b t.size
 | [],n,ts=>by
  rw [mem_prodN];constructor;rintro ⟨rfl,rfl⟩;exact ⟨rfl,rfl,fun i t b h=>by simp at h⟩
  ·rintro ⟨h1,d,_⟩;obtain rfl:=qax h1;exact ⟨rfl,d.symm⟩
 | a::ss,n,ts=>by
  rw [mem_prodL];constructor
  ·rintro ⟨t,us,k,rfl,hk,ht,f⟩;obtain ⟨h1,d,e⟩:=(krl ss (n - k) us).1 f;have hs:=kmc k a t ht;refine ⟨by simp [h1],by rw [Tm.sizeL];omega,fun i x b hx c=>?_⟩;cases i with
   | zero=>
    simp at hx c;subst hx c;rw [hs];exact ht
   | succ i=>
    simp at hx c;exact e i x b hx c
  ·rintro ⟨h1,d,e⟩;cases ts with
   | nil=>simp at h1
   | cons t us=>
    rw [Tm.sizeL] at d;exact ⟨t,us,t.size,rfl,by omega,e 0 t a rfl rfl,(krl ss _ us).2 ⟨by simpa using h1,by omega,fun i x b hx c=>e (i+1) x b (by simpa using hx) (by simpa using c)⟩⟩
theorem k0p {l:La} (g:khu l):∀ (n:Nat) (t:Tm) (s:Int),t.size<=n->(t∈dl l s t.size↔Fits l s t)
 | 0,t,_,h=>by have:=t.size_pos;omega
 | n+1,t,s,h=>by
  have c:∀ {k:Nat} {r:Ru},l.rules[k]?=some r->kih r=r.args.length:=fun {k r} hr=>by
   have o:=g.good r (qj hr);unfold kih;cases hk:r.kind != 3 with
   | true=>rw [o.noargs (qbg.1 hk)];rfl
   | false=>rfl
  constructor;intro hd;obtain ⟨i,ts,m,e,hi,hs,rfl,p⟩:=mem_dl.1 hd;obtain ⟨y,g1,g2,g3,g4⟩:=kn3 l hi;obtain ⟨p1,p2,p3⟩:=(krl _ _ _).1 p;refine .mk (k:=i) rfl g1 (by rw [g2,hs]) (by rw [c g1,g3];exact p1) fun j a b ha q=>?_;have d:a.size<(Tm.mk (i:Int) ts).size:=kbm (t:=Tm.mk (i:Int) ts) (qj ha);exact (k0p g n a b (by omega)).1 (p3 j a b ha (by rw [<- g3];exact q))
  ·intro u;cases u with
   | mk hk hr hs hl ha=>
    rename_i k r;have f:=kbb hr;obtain ⟨y,g1,g2,g3,g4⟩:=kn3 l f;obtain rfl:y=r:=(by rw [g1] at hr;exact qs hr);have d:t.size=Tm.sizeL t.args+1:=by cases t;simp [Tm.size,Tm.args];try omega
    refine mem_dl.2 ⟨k,t.args,Tm.sizeL t.args,d,f,by rw [<- g2,hs],by cases t;simp [Tm.rule] at hk;rw [hk];rfl,(krl _ _ _).2 ⟨by rw [hl,c g1,g3],rfl,fun i a b h1 v=>?_⟩⟩;have w:=kbm (qj h1);exact (k0p g n a b (by omega)).2 (ha i a b h1 (by rw [g3];exact v))
theorem k5w {l:La} (a:khu l) {s:Int} {n:Nat} {t:Tm}:t∈upT l s n↔t.size<=n/\Fits l s t:=by rw [upT_mem,k0p a t.size t s (qx _)]
def kok (hs:List Sab) (c:List Int) (h:Int):Tm:=match hs[(h - 1).toNat]?,c[(h - 1).toNat]? with
 | some x,some n=>x.yb[n.toNat]?.getD (Tm.mk 0 [])
 | _,_=>Tm.mk 0 []
mutual
def kep (hs:List Sab) (c:List Int):Dk->Tm
 | .mk r h l=>if 0<h then kok hs c h else Tm.mk r (kvl hs c l)
def kvl (hs:List Sab) (c:List Int):List Dk->List Tm
 | []=>[]
 | x::l=>kep hs c x::kvl hs c l
end
theorem k2v (hs:List Sab) (c:List Int):∀ l:List Dk,kvl hs c l=l.map (kep hs c)
 | []=>by simp [kvl]
 | x::l=>by simp [kvl,k2v hs c l]
theorem knx (hs:List Sab) (c:List Int) (x:Dk):kep hs c x=if 0<x.hole then kok hs c x.hole else Tm.mk x.rule (x.args.map (kep hs c)):=by cases x;simp only [kep,k2v,Dk.hole,Dk.rule,Dk.args];rfl
structure ChP (hs:List Sab) (c:List Int):Prop where
 len:c.length=hs.length
 ok:∀ (i:Nat) (h:Sab) (n:Int),hs[i]?=some h->c[i]?=some n->0<=n/\n<(h.yb.length:Int)
theorem kyq {hs:List Sab} {c:List Int} (hc:ChP hs c) (k:Nat) (h:Sab) (hk:hs[k]?=some h):∃ (n:Int) (t:Tm),c[k]?=some n/\0<=n/\h.yb[n.toNat]?=some t/\kok hs c ((k:Int)+1)=t:=by
 have hl:=kbb hk;have a:k<c.length:=by have:=hc.len;omega
 have e1:c[k]?=some c[k]:=qb a;obtain ⟨h0,h1⟩:=hc.ok k h _ hk e1;have e2:h.yb[c[k].toNat]?=some (h.yb[c[k].toNat]'(by omega)):=qb (by omega);refine ⟨_,_,e1,h0,e2,?_⟩;unfold kok;rw [show ((k:Int)+1 - 1).toNat=k by omega,hk,e1];simp only [e2,qbe]
variable {l:La} {hs:List Sab} {c:List Int}
theorem k2m {f:Dk->Tm}:∀ (m:List Dk),(∀ y∈m,(f y).size<=20*y.nodes)->Tm.sizeL (m.map f)<=20*Dk.nodesL m
 | [],_=>by simp [Tm.sizeL,Dk.nodesL]
 | y::m,h=>by simp only [qa5,Tm.sizeL,Dk.nodesL];have h1:=h y (qv ..);have b:=k2m m fun z a=>h z (qh _ a);omega
theorem kac0 (a:∀ h∈hs,∀ t∈h.yb,t.size<=20) (k:Int):(kok hs c k).size<=20:=by
 have h1:(Tm.mk 0 []).size<=20:=by decide
 unfold kok;split
 ·rename_i x n hx hn;cases b:x.yb[n.toNat]? with
  | none=>exact h1
  | some t=>exact a x (qj hx) t (qj b)
 ·exact h1
theorem kaav (a:∀ h∈hs,∀ t∈h.yb,t.size<=20) (x:Dk):(kep hs c x).size<=20*x.nodes:=by
 induction x using Dk.ind with
 | h r k m ih=>
  rw [knx];split;have:=kac0 (c:=c) a (Dk.mk r k m).hole;have:=(Dk.mk r k m).nodes_pos;omega
  ·show Tm.sizeL (m.map _)+1<=20*(Dk.nodesL m+1);have:=k2m m ih;omega
variable {d:Saa}
theorem k8f (r:Int) (ts:List Tm) (h:ts.length<=1000000):kim r ts=some (Tm.mk r ts):=by
 unfold kim;by_cases h0:ts.length=0;rw [qax h0];rfl
 ·rw [ql (show (ts.length:Int) > 0 by omega),qe,k5s 32 _ _];rfl
theorem k2t:∀ (n:Nat) (t:Tm),t.size<=n->t.size<=1000->kg3 n t=some t
 | 0,t,h,_=>by have:=t.size_pos;omega
 | n+1,t,h,d=>by show kij (kg3 n) t=_;unfold kij;have a:=args_len t;have hl:=kkw (khn t (kg3 n)) t.args id [] (fun i x hx=>by have hi:=kbb hx;have b:=kbm (qj hx);have c:=List.length_take_le i t.args;simp only [khn,kdr hi,qe,kag,hx,qa];rw [k2t n x (by omega) (by omega),qa,ket (by simp only [qy,qt,qbf,qah];omega),qa,kai _];rfl) (by simp only [khn,kcp,qd]);rw [show ((0:Int),([]:List Tm))=(0,[]) from rfl,hl,qa,List.map_id,qbz,k8f _ _ (by omega)];cases t;rfl
theorem k14 {l:La} (j:d.ya.length<=1000) (g:∀ h∈d.ya,∀ t∈h.yb,t.size<=20) (hc:ChP d.ya c):∀ (n:Nat) (x:Dk) (s:Int),x.nodes<=n->x.nodes<=1000->kpp l d.ya s x->khg n d x c=some (kep d.ya c x)
 | 0,x,_,h,_,_=>by have:=x.nodes_pos;omega
 | n+1,x,s,h,hx,o=>by
  show kkb (khg n) d x c=_;unfold kkb;have p:=Dk.args_len x;cases o with
  | hole a hk ht=>
   rename_i k q;obtain ⟨m,t,e1,e2,e3,e4⟩:=kyq hc _ _ hk;have u:=kbb hk;obtain ⟨m,rfl⟩:=qbp e2;have b:=g _ (qj hk) t (qj e3);rw [ql (show (0:Int)<x.hole by omega),qe,show w64 (x.hole - 1)=(k:Int) by rw [kc0];omega,kag,hk,qa,kag,e1,qa,kag,show q.yb[m]?=some t from e3,qa,k2t fuel t (qaz (kan (by omega))) (by omega),knx,qo (by omega),a,e4];rfl
  | node a hr hk ht hl ha=>
   rename_i k r;rw [qg (show ¬ (0:Int)<x.hole by omega),qd];have e:=kkw (kjc d x c (khg n)) x.args (kep d.ya c) [] (fun i y hy=>by have hi:=kbb hy;have b:=Dk.args_nodes (qj hy);have v:=List.length_take_le i x.args;have f:i<r.args.length:=(by omega);simp only [kjc,kdr hi,qe,kag,hy,qa];rw [k14 j g hc n y _ (by omega) (by omega) (ha i y _ hy (qb f)),qa,ket (by simp only [qy,qt,qbf,qah];omega),qa,kai _]) (by simp only [kjc,kcp,qd]);rw [e,qa,qbz,k8f _ _ (by rw [qt];omega),qa,knx,qi (by omega)]
theorem k8j {l:La} {hs:List Sab}:∀ (n:Nat) (x:Dk) (s:Int),x.nodes<=n->x.nodes<=1000->kpp l hs s x->numB n x (hs.length:Int)=some true
 | 0,x,_,h,_,_=>by have:=x.nodes_pos;omega
 | n+1,x,s,h,hx,e=>by
  show nbB (numB n) x (hs.length:Int)=_;unfold nbB;have f:=Dk.args_len x;cases e with
  | hole a hk ht=>
   rename_i k j;have:=kbb hk;rw [qg (show ¬ x.hole<0 by omega),qd,qg (show ¬ (hs.length:Int)<x.hole by omega),ql (show 0<x.hole by omega)];rfl
  | node a hr hk ht hl ha=>
   rename_i k r;rw [qg (show ¬ x.hole<0 by omega),qd,qg (show ¬ (hs.length:Int)<x.hole by omega),qg (show ¬ 0<x.hole by omega)];have c:kab (nbL (numB n) x.args (hs.length:Int)) fuel 0=some (.inl ()):=by
    refine Ev.eq (Ev.mono (kwo (P:=fun _=>True) (B:=fun _:Int=>False) x.args.length (by omega) (fun i hi _=>?_) (by simp only [nbL,kcp,qd])) fun r hr=>?_);have e1:=qb hi;have g:=Dk.args_nodes (q9 hi);have d:i<r.args.length:=(by omega);simp only [nbL,nb1,kdr hi,qe,kag,e1,qa];rw [k8j n x.args[i] _ (by omega) (by omega) (ha i _ _ e1 (qb d))];exact ⟨_,rfl,rfl,trivial⟩
    ·cases r with
     | inl u=>rfl
     | inr b=>exact hr.elim
   unfold nbC nbI;rw [c];rfl
def kgv:List Sab->Nat
 | []=>1
 | h::hs=>h.yb.length*kgv hs
theorem kyu (h:Sab):∀ hs:List Sab,kgv (hs++[h])=kgv hs*h.yb.length
 | []=>by simp [kgv]
 | g::hs=>by simp only [List.cons_append,kgv,kyu h hs,Nat.mul_assoc]
theorem k5m:∀ {hs:List Sab},(∀ h∈hs,h.yb.length<=64)->kgv hs<=64 ^ hs.length
 | [],_=>by simp [kgv]
 | h::hs,k=>by simp only [kgv,qag,Nat.pow_succ];rw [Nat.mul_comm];exact Nat.mul_le_mul (k5m fun g a=>k g (qh _ a)) (k h (qv ..))
theorem k1y:∀ {hs:List Sab},(∀ h∈hs,1<=h.yb.length)->1<=kgv hs
 | [],_=>qx _
 | h::hs,k=>Nat.mul_le_mul (k h (qv ..)) (k1y fun g a=>k g (qh _ a))
def gT (h:Sab) (c:List Int):List (List Int):=(List.range h.yb.length).map fun (n:Nat)=>c++[(n:Int)]
def chF (hs:List Sab):List (List Int):=hs.foldl (fun out h=>out.flatMap (gT h)) [[]]
theorem kt0 (hs:List Sab) (h:Sab):chF (hs++[h])=(chF hs).flatMap (gT h):=by unfold chF;rw [List.foldl_append];rfl
theorem kym (h:Sab) (out:List (List Int)):(out.flatMap (gT h)).length=out.length*h.yb.length:=by
 induction out with
 | nil=>simp
 | cons c out ih=>rw [qbr,qy,ih,qag,qa7,Nat.one_mul];unfold gT;rw [qt,List.length_range];omega
theorem kajx (c:List Int):cpL (List.replicate (c.length+1) (0:Int)) c=c++[0]:=by unfold cpL;rw [List.take_zero,qbz,qbu,Nat.min_eq_left (by omega),qbm,qb4,List.drop_replicate];simp
theorem kaih (c:List Int) (n:Int):(c++[0]).set c.length n=c++[n]:=by rw [List.set_append_right _ _ (qx _),qb8];rfl
theorem k9y {hs:List Sab} (w:hs.length<=6) (g:∀ h∈hs,h.yb.length<=64):ki6 hs=some (chF hs)/\(chF hs).length=kgv hs/\∀ c,c∈chF hs↔ChP hs c:=by
 have len:∀ i,i<=hs.length->(chF (hs.take i)).length=kgv (hs.take i):=fun i=>by
  induction i with
  | zero=>intro _;rw [List.take_zero];rfl
  | succ i ih=>intro hi;rw [qar (show i<hs.length by omega),kt0,kym,ih (by omega),kyu]
 have few:∀ i,i<=hs.length->(chF (hs.take i)).length<=1073741824*64:=fun i hi=>by rw [len i hi];have h1:=k5m (hs:=hs.take i) fun h hh=>g h (qbl hh);rw [qad,Nat.min_eq_left hi] at h1;exact qay h1 (qay (Nat.pow_le_pow_right (by decide) (show i<=6 by omega)) (by decide))
 have fewL:∀ i,i<=hs.length->∀ c∈chF (hs.take i),c.length=i:=fun i=>by
  induction i with
  | zero=>intro _ c hc;rw [List.take_zero] at hc;rw [qav.1 hc];rfl
  | succ i ih=>
   intro hi c hc;rw [qar (show i<hs.length by omega),kt0,qa1] at hc;obtain ⟨c0,h0,h1⟩:=hc;obtain ⟨n,_,rfl⟩:=qai.1 h1;rw [qy,ih (by omega) c0 h0,qah]
 have memL:∀ i,i<=hs.length->∀ c,c∈chF (hs.take i)↔ChP (hs.take i) c:=fun i=>by
  induction i with
  | zero=>
   intro _ c;rw [List.take_zero];constructor;intro hc;rw [qav.1 hc];exact ⟨rfl,fun i h n e=>by cases e⟩
   ·intro hc;exact qav.2 (qax hc.len)
  | succ i ih=>
   intro hi c;have o:i<hs.length:=(by omega);have f:(hs.take i).length=i:=(by rw [qad];omega);rw [qar o,kt0,qa1];constructor
   ·rintro ⟨c0,h0,h1⟩;obtain ⟨n,hn,rfl⟩:=qai.1 h1;have r:=(ih (by omega) c0).1 h0;have hl:=r.len;refine ⟨by rw [qy,qy,hl];rfl,fun j h m e1 e2=>?_⟩;by_cases y:j<i;rw [qac (by omega)] at e1;rw [qac (by omega)] at e2;exact r.ok j h m e1 e2
    ·have p:=kbb e1;rw [qy,qah] at p;obtain rfl:j=i:=(by omega);rw [qab (by omega),f,qb8] at e1;rw [qab (by omega),hl,f,qb8] at e2;cases e1;cases e2;have:=qbq.1 hn;omega
   ·intro hc;have hl:=hc.len;rw [qy,f,qah] at hl;obtain ⟨c0,m,rfl⟩:∃ c0 m,c=c0++[m]:=by
     rcases List.eq_nil_or_concat c with rfl | ⟨a,b,rfl⟩;cases hl
     ·exact ⟨a,b,by simp⟩
    rw [qy,qah] at hl;have hm:=hc.ok i hs[i] m (by rw [qab (by omega),f,qb8];rfl) (by rw [qab (by omega),show i - c0.length=0 by omega];rfl);refine ⟨c0,(ih (by omega) c0).2 ⟨by omega,fun j h n e1 e2=>?_⟩,qai.2 ⟨m.toNat,qbq.2 (by omega),by rw [show ((m.toNat:Nat):Int)=m by omega]⟩⟩;exact hc.ok j h n (by rw [qac (kbb e1)];exact e1) (by rw [qac (kbb e2)];exact e2)
 refine ⟨?_,by rw [<- qbm (l:=hs)];exact len _ (qx _),fun c=>by have:=memL hs.length (qx _) c;rwa [qbm] at this⟩;unfold ki6;refine Ev.eq (kk6 (Ev.mono (kmb (Q:=fun v=>v=chF hs) hs.length (fun i s=>s=((i:Int),chF (hs.take i))) (by omega) (by rw [List.take_zero];rfl) (fun i s hi e=>?_) fun s e=>?_) fun v hv=>⟨_,rfl,hv⟩))
 ·subst e;have hh:=g _ (q9 hi);have t:=few i (by omega);simp only [kis,kdr hi,qe,kag,qb hi,qa];have e2:chF (hs.take (i+1))=(chF (hs.take i)).flatMap (gT hs[i]):=by rw [qar hi,kt0]
  have d:=few (i+1) (by omega);rw [e2,kym] at d;refine kk6 (Ev.mono (kmb (Q:=fun v=>v=chF (hs.take (i+1))) (chF (hs.take i)).length (fun k s=>s=((k:Int),((chF (hs.take i)).take k).flatMap (gT hs[i]))) (by omega) (by rw [List.take_zero];rfl) (fun k s hk e=>?_) fun s e=>?_) fun v hv=>?_);subst e;have e3:=qb hk;have hcl:=fewL i (by omega) _ (q9 hk);simp only [kix,kdr hk,qe,kag,e3,qa];have u:(((chF (hs.take i)).take k).flatMap (gT hs[i])).length+hs[i].yb.length<=1073741824*64:=(by rw [kym,qad,Nat.min_eq_left (qaz hk),<- Nat.succ_mul];exact qay (qau _ hk) d);have q:=kkw (kg5 hs[i] (chF (hs.take i))[k]) (List.range hs[i].yb.length) (fun n=>(chF (hs.take i))[k]++[(n:Int)]) (((chF (hs.take i)).take k).flatMap (gT hs[i])) (fun n x hx=>by have hn:=kbb hx;rw [List.length_range] at hn;obtain rfl:x=n:=(by rw [List.getElem?_range hn] at hx;cases hx;rfl);simp only [kg5,kdr hn,qe];rw [kai _,k5s 8 _ _,qa,kajx];have:k3x (List.replicate ((chF (hs.take i))[k].length+1) (0:Int)) ((chF (hs.take i))[k]++[0])=some ():=qo (by rw [qbu,qy];rfl);rw [this,qa,kag,qab (qx _),qb8,show ([(0:Int)])[0]?=some 0 from rfl,qa,qa8,kaih];rw [ket (by rw [qy,qt,qad,List.length_range,qah];omega),qa,kai _]) (by rw [List.length_range];simp only [kg5,kcp,qd]) (hn:=(by rw [List.length_range];omega));rw [q,qa,kai _];refine ⟨_,rfl,?_⟩;show _=_;rw [qar hk,List.flatMap_append,qbr,List.flatMap_nil,List.append_nil];rfl;subst e;exact kr4 (chF (hs.take (i+1))) (by simp only [kix,kcp,qd];rw [qbm,<- e2]) rfl
  ·subst hv;rw [kai _];exact ⟨_,rfl,rfl⟩
 ·subst e;exact kr4 (chF hs) (by simp only [kis,kcp,qd];rw [qbm]) rfl
def SLt (xs:List Tm):Prop:=xs.Pairwise fun a b=>cmpT a b<0
def SLe (xs:List Tm):Prop:=∀ (i j:Nat) (a b:Tm),i<j->xs[i]?=some a->xs[j]?=some b->0<=cmpT b a
theorem kabi {xs:List Tm} (h:SLe xs) {m n:Nat} {u a b:Tm} (hm:m<=n) (d:xs[m]?=some u) (c:xs[n]?=some b) (ha:xs[n+1]?=some a) (f:cmpT a b≠0):cmpT u a<0:=by
 have an:=fun x y=>cmpT_ord.anti x y trivial;have h1:=h n (n+1) b a (by omega) c ha;have g:=h m (n+1) u a (by omega) d ha;have i:cmpT a u≠0:=fun e=>by
  have e:=cmpT_eq0.1 e;subst e;by_cases hmn:m=n;subst hmn;rw [d] at c;cases c;exact f (cmpT_eq0.2 rfl)
  ·have j:=h m n a b (by omega) d c;have:=an a b;omega
 have:=an a u;omega
theorem k5c {P:List Tm} {a:Tm} (c:SLt P) (ha:∀ u∈P,cmpT u a<0):SLt (P++[a]):=List.pairwise_append.2 ⟨c,List.pairwise_singleton _ _,fun u d b e=>by rw [qav.1 e];exact ha u d⟩
theorem k9e (eq:Tm->Tm->Option Bool) (xs:List Tm) (w:∀ a∈xs,∀ b∈xs,eq a b=some (cmpT a b == 0)) (D:SLe xs) (hl:xs.length<=1000000):Ev (kqg eq xs) fun r=>SLt r/\(∀ t,t∈r↔t∈xs)/\r.length<=xs.length:=by
 unfold kqg;refine keq (fun k=>?_) fun k=>?_
 ·have k:=qbd k;refine ⟨xs,rfl,?_,fun _=>Iff.rfl,qx _⟩
  match xs,k with
  | [],_=>exact List.Pairwise.nil
  | [a],_=>exact List.pairwise_singleton _ _
  | a::b::l,h=>simp only [qag] at h;omega
 have k:=qbb k;have take_mem:∀ {i:Nat} {u:Tm},u∈xs.take (i+1)->∃ m,m<=i/\xs[m]?=some u:=fun {i u} h=>by obtain ⟨m,hm,rfl⟩:=qaj.1 h;rw [qad] at hm;exact ⟨m,by omega,by rw [List.getElem_take,qb]⟩
 refine kk6 (Ev.mono (kmb (Q:=fun r=>Sum.elim (fun _=>False) (fun q=>SLt (q.getD xs)/\(∀ t,t∈q.getD xs↔t∈xs)/\(q.getD xs).length<=xs.length) (.inr r:Unit ⊕ Option (List Tm))) (xs.length - 1) (fun i s=>s=((i+1:Nat):Int)/\SLt (xs.take (i+1))) (by omega) ⟨rfl,?_⟩ (fun i s hi d=>?_) fun s d=>?_) fun r hr=>⟨_,rfl,hr⟩)
 ·match xs,k with
  | [],_=>exact List.Pairwise.nil
  | a::l,_=>exact List.pairwise_singleton _ _
 ·obtain ⟨rfl,d⟩:=d;have hk:i+1<xs.length:=by omega
  have n:i<xs.length:=by omega
  have e1:=qb hk;have e0:=qb n;unfold k3k;rw [kdr hk,qe,kag,e1,qa,show w64 (((i+1:Nat):Int) - 1)=(i:Int) by rw [kc0];omega,kag,e0,qa,w _ (q9 hk) _ (q9 n),qa];refine keq (fun hv=>?_) fun hv=>?_
  ·have hv:=cmpT_eq0.1 (eq_of_beq hv);rw [show ktr ((i+1:Nat):Int) (xs.length:Int) (xs.length:Int)=some () from qo (by omega),qa];refine kk6 (Ev.mono (kmb (Q:=fun p=>∃ kk:Nat,p.1=(kk:Int)/\kk<xs.length/\p.2.length=xs.length/\SLt (p.2.take kk)/\∀ t,t∈p.2.take kk↔t∈xs) (xs.length - (i+1) - 1) (fun j s=>s.1=((j+1:Nat):Int)/\∃ kk:Nat,s.2.1=(kk:Int)/\s.2.2.length=xs.length/\kk<=i+1+j/\SLt (s.2.2.take kk)/\(∀ t,t∈s.2.2.take kk↔t∈xs.take (i+1+j+1))/\s.2.2.drop (i+1+j)=xs.drop (i+1+j)) (by omega) ⟨rfl,i+1,rfl,rfl,by omega,d,fun t=>?_,rfl⟩ (fun j s E B=>?_) fun s B=>?_) fun p hp=>?_);rw [show i+1+0+1=(i+1)+1 from rfl,qar hk,qat,qav];refine ⟨.inl,fun h=>h.elim id fun h=>?_⟩;rw [h,hv,qar n];exact List.mem_append_right _ (List.mem_singleton_self _)
   ·obtain ⟨k2,q,cur⟩:=s;obtain ⟨rfl,kk,rfl,hcl,x,hS,e,v⟩:=B;simp only at hcl hS e v;have f:i+1+j+1<xs.length:=(by omega);have g:i+1+j<xs.length:=(by omega);have g1:cur[i+1+j+1]?=some xs[i+1+j+1]:=(by have:=qbc (fun l:List Tm=>l[1]?) v;simp only [qam] at this;rw [this,qb f]);have g0:cur[i+1+j]?=some xs[i+1+j]:=(by have:=qbc (fun l:List Tm=>l[0]?) v;simp only [qam,Nat.add_zero] at this;rw [this,qb g]);have a1:cfAt cur ((i+1:Nat):Int) ((j+1:Nat):Int)=some xs[i+1+j+1]:=(by unfold cfAt;rw [ql (by rw [qa8];omega),qe,qa8,show ((i+1:Nat):Int)+((j+1:Nat):Int)=((i+1+j+1:Nat):Int) by omega,kag,g1]);have a0:cfAt cur ((i+1:Nat):Int) (w64 (((j+1:Nat):Int) - 1))=some xs[i+1+j]:=(by unfold cfAt;rw [show w64 (((j+1:Nat):Int) - 1)=(j:Int) by rw [kc0];omega,ql (by rw [qa8];omega),qe,qa8,show ((i+1:Nat):Int)+(j:Int)=((i+1+j:Nat):Int) by omega,kag,g0]);have c:cur.drop (i+1+(j+1))=xs.drop (i+1+(j+1)):=(by have:=qbc (List.drop 1) v;rw [List.drop_drop,List.drop_drop] at this;exact this);have y:xs.take (i+1+(j+1)+1)=xs.take (i+1+j+1)++[xs[i+1+j+1]]:=qar f;unfold cfIn;simp only;rw [ql (show ((j+1:Nat):Int)<((cur.length - (((i+1:Nat):Int)).toNat:Nat):Int) by rw [qa8];omega),qe,a1,qa,a0,qa,w _ (q9 f) _ (q9 g),qa];refine keq (fun hv=>?_) fun hv=>?_
    ·have hv:cmpT xs[i+1+j+1] xs[i+1+j]≠0:=(by simpa using hv);have z:kk<cur.length:=(by omega);rw [kag,qb z,qa,kai _,kai _,qa8];have e5:(cur.set kk xs[i+1+j+1]).take (kk+1)=cur.take kk++[xs[i+1+j+1]]:=(by rw [qar (by rw [qb9];exact z),List.take_set_of_le (qx _),List.getElem_set_self]);refine ⟨_,rfl,rfl,kk+1,rfl,by rw [qb9];exact hcl,by omega,?_,fun t=>?_,?_⟩;show SLt ((cur.set kk xs[i+1+j+1]).take (kk+1));rw [e5];refine k5c hS fun u C=>?_;obtain ⟨m,hm,o⟩:=take_mem ((e u).1 C);exact kabi D hm o (qb g) (qb f) hv;show t∈(cur.set kk xs[i+1+j+1]).take (kk+1)↔_;rw [e5,y,qat,qat,e]
     ·show (cur.set kk xs[i+1+j+1]).drop (i+1+(j+1))=_;rw [List.drop_set_of_lt (by omega),c]
    ·have hv:xs[i+1+j+1]=xs[i+1+j]:=cmpT_eq0.1 (by simpa using hv);rw [kai _];refine ⟨_,rfl,rfl,kk,rfl,hcl,by omega,hS,fun t=>?_,c⟩;rw [e,y,qat,qav];refine ⟨.inl,fun h=>h.elim id fun h=>?_⟩;rw [h,hv,qar g];exact List.mem_append_right _ (List.mem_singleton_self _)
   ·obtain ⟨k2,q,cur⟩:=s;obtain ⟨rfl,kk,rfl,hcl,x,hS,e,v⟩:=B;simp only at hcl hS e v;refine kr4 ((kk:Int),cur) ?_ ⟨kk,rfl,by omega,hcl,hS,fun t=>?_⟩;unfold cfIn;simp only;rw [qg (by rw [qa8];omega)];rfl
    ·rw [e,List.take_of_length_le (by omega)]
   ·obtain ⟨q,cur⟩:=p;obtain ⟨kk,rfl,x,hcl,hS,e⟩:=hp;simp only at hcl hS e ⊢;rw [show ktr (kk:Int) (cur.length:Int) (cur.length:Int)=some () from qo (by omega),qa,qa8,ql (by omega),qe];have A:cutL (cur.take kk++List.replicate (cur.length - kk) (Tm.mk 0 [])) 0 (kk:Int)=some (cur.take kk):=(by unfold cutL;rw [qo ⟨by omega,by omega,by rw [qy,qad,qbu];omega⟩,qa8];rw [List.take_append_of_le_length (by rw [qad];omega),List.take_take,Nat.min_self];rfl);rw [A,qa];exact ⟨_,rfl,hS,e,by show (cur.take kk).length<=_;rw [qad];omega⟩
  ·have hv:cmpT xs[i+1] xs[i]≠0:=(by simpa using hv);rw [kai _];refine ⟨_,rfl,rfl,?_⟩;rw [qar hk];refine k5c d fun u C=>?_;obtain ⟨m,hm,o⟩:=take_mem C;exact kabi D hm o e0 e1 hv
 ·obtain ⟨rfl,d⟩:=d;rw [show xs.length - 1+1=xs.length by omega] at d ⊢;rw [qbm] at d;exact ⟨_,by unfold k3k;rw [kcp];rfl,none,rfl,d,fun _=>Iff.rfl,qx _⟩
theorem kaax (xs:List Tm):SLe (kgu xs):=by
 have an:=fun x y=>cmpT_ord.anti x y trivial;have tr:=fun x y z=>cmpT_ord.trans x y z trivial trivial trivial;have h:=List.pairwise_mergeSort (le:=fun x y=>decide (cmpT x y<=0)) (fun a b c h1 g=>by
  simp only [qbn] at h1 g ⊢;exact tr a b c h1 g) (fun a b=>by
  have:=an a b;simp only [qb1,qbn];omega) xs
 intro i j a b d ha f;have hi:=kbb ha;have k:=kbb f;rw [qb hi] at ha;rw [qb k] at f;cases ha;cases f;have:=List.pairwise_iff_getElem.1 h i j hi k d;have:=qbd this;have:=an (kgu xs)[i] (kgu xs)[j];have e:(cmpT (kgu xs)[i] (kgu xs)[j])<=0:=by assumption
 omega
theorem sorted_mem {xs:List Tm} {t:Tm}:t∈kgu xs↔t∈xs:=(List.mergeSort_perm _ _).mem_iff
structure kabt (l:La) (d:Saa):Prop where
 light:k54 d
 six:d.ya.length<=6
 holes:∀ h∈d.ya,k9q l h
 body:kpp l d.ya (-1) d.yc
section
variable {l:La} {d:Saa} (hd:kabt l d)
include hd
theorem k92:kmx d.yc (d.ya.length:Int)=some true:=k8j fuel d.yc (-1) (qaz (kan (by have:=hd.light.nodes;omega))) (by have:=hd.light.nodes;omega) hd.body
theorem kakt {c:List Int} (hc:ChP d.ya c):khg fuel d d.yc c=some (kep d.ya c d.yc):=k14 (by have:=hd.six;omega) hd.light.sizes hc fuel d.yc (-1) (qaz (kan (by have:=hd.light.nodes;omega))) (by have:=hd.light.nodes;omega) hd.body
theorem kaa2 (c:List Int):(kep d.ya c d.yc).size<=1000:=by have:=kaav (c:=c) hd.light.sizes d.yc;have:=hd.light.nodes;omega
theorem all_d (k:kgv d.ya<=300) (e:kjo d=some ((kgv d.ya:Int),0)):Ev (kna d) fun r=>r.2=0/\SLt r.1/\(∀ t,t∈r.1↔∃ c,ChP d.ya c/\kep d.ya c d.yc=t)/\r.1.length<=kgv d.ya:=by
 have l:=k1y (hs:=d.ya) fun h hh=>(hd.holes h hh).pos;obtain ⟨e1,e2,e3⟩:=k9y hd.six fun h hh=>(hd.holes h hh).few;unfold kna;rw [e,qa];simp only [show ((0:Int) != 0)=false from rfl,qd];rw [qg (by omega),qd,k92 hd,qa,qbv,qd,ql (by omega),qe,e1,qa];have f:=kkw (kj7 d (chF d.ya)) (chF d.ya) (fun c=>kep d.ya c d.yc) [] (fun i c hc=>by have hi:=kbb hc;simp only [kj7,kdr hi,qe,kag,hc,qa];rw [kakt hd ((e3 c).1 (qj hc)),qa,ket (by simp only [qy,qt,qbf,qah,qad];omega),qa,kai _]) (by simp only [kj7,kcp,qd]);rw [f,qa,qa,qbz];have g:∀ t∈(chF d.ya).map fun c=>kep d.ya c d.yc,t.size<=1000:=fun t ht=>by obtain ⟨c,_,rfl⟩:=qai.1 ht;exact kaa2 hd c
 have hst:kqf ((chF d.ya).map fun c=>kep d.ya c d.yc)=some (kgu ((chF d.ya).map fun c=>kep d.ya c d.yc)):=by unfold kqf;rw [show Nat.blt ((chF d.ya).map fun c=>kep d.ya c d.yc).length 4611686018427387904=true from Nat.blt_eq.mpr (by rw [qt];omega),show (((chF d.ya).map fun c=>kep d.ya c d.yc).all fun t=>Nat.ble t.size 1000)=true from qu.2 fun t ht=>Nat.ble_eq.mpr (g t ht)];rfl
 rw [hst,qa];have m:(kgu ((chF d.ya).map fun c=>kep d.ya c d.yc)).length=kgv d.ya:=by rw [kgu,List.length_mergeSort,qt,e2]
 obtain ⟨r,r1,r2,r3,r4⟩:=k9e kkv (kgu ((chF d.ya).map fun c=>kep d.ya c d.yc)) (fun a ha b n=>by unfold kkv;rw [cmp_prog a b (g a (sorted_mem.1 ha)) (g b (sorted_mem.1 n))];rfl) (kaax _) (by omega);rw [r1,qa];refine ⟨_,rfl,rfl,r2,fun t=>?_,by show r.length<=_;omega⟩;rw [r3,sorted_mem,qai];exact ⟨fun ⟨c,h1,j⟩=>⟨c,(e3 c).1 h1,j⟩,fun ⟨c,h1,j⟩=>⟨c,(e3 c).2 h1,j⟩⟩
end
inductive BodyZ (l:La) (hs:List Sab):Int->Dk->Prop
 | hole {s:Int} {x:Dk} {k:Nat} {h:Sab} (hx:x.hole=(k:Int)+1) (h0:x.rule=0) (h1:x.args=[]) (hk:hs[k]?=some h) (ht:0<=s->h.yf=s):BodyZ l hs s x
 | node {s:Int} {x:Dk} {k:Nat} {r:Ru} (hx:x.hole=0) (hr:x.rule=(k:Int)) (hk:l.rules[k]?=some r) (ht:0<=s->r.symbol=s) (hl:x.args.length=r.args.length) (ha:∀ (i:Nat) (a:Dk) (b:Int),x.args[i]?=some a->r.args[i]?=some b->BodyZ l hs b a):BodyZ l hs s x
theorem BodyZ.toP {l:La} {hs:List Sab} {s:Int} {x:Dk} (h:BodyZ l hs s x):kpp l hs s x:=by
 induction h with
 | hole hx _ _ hk ht=>exact .hole hx hk ht
 | node hx hr hk ht hl _ ih=>exact .node hx hr hk ht hl ih
structure ky7 (l:La) (t:Tm) (x:Dk):Prop where
 fill:∀ hs c,kep hs c x=t
 body:∀ (hs:List Sab) (s:Int),Fits l s t->BodyZ l hs s x
 nodes:x.nodes<=t.size
theorem k25:∀ (xs:List Dk) (ts:List Tm),xs.length=ts.length->(∀ (i:Nat) (x:Dk) (t:Tm),xs[i]?=some x->ts[i]?=some t->x.nodes<=t.size)->Dk.nodesL xs<=Tm.sizeL ts
 | [],ts,_,_=>qak _
 | x::xs,[],h,_=>by simp at h
 | x::xs,t::ts,h,hi=>by have h1:=k25 xs ts (by simpa using h) fun i y u hy a=>hi (i+1) y u (by simpa using hy) (by simpa using a);have b:=hi 0 x t rfl rfl;rw [Dk.nodesL,Tm.sizeL];omega
theorem k4z {r:Int} {xs:List Dk} {t:Tm} (h:xs.length=t.args.length) (hi:∀ (i:Nat) (x:Dk) (u:Tm),xs[i]?=some x->t.args[i]?=some u->x.nodes<=u.size):(Dk.mk r 0 xs).nodes<=t.size:=by
 have h1:=k25 xs t.args h hi;have a:=Dk.nodes_eq (Dk.mk r 0 xs);have c:t.size=Tm.sizeL t.args+1:=by cases t;simp [Tm.size,Tm.args];try omega
 have b:(Dk.mk r 0 xs).args=xs:=rfl;rw [b] at a;omega
theorem k2p {l:La} (q:khu l):∀ (n:Nat) (t:Tm),t.size<=n->t.size<=1000->∃ x,ka1 n t [] false=some x/\ky7 l t x
 | 0,t,h,_=>by have:=t.size_pos;omega
 | n+1,t,h,y=>by
  have v:=args_len t;have ih:∀ a∈t.args,∃ x,ka1 n a [] false=some x/\ky7 l a x:=fun a ha=>by have:=kbm ha;exact k2p q n a (by omega) (by omega)
  have f:∀ a∈t.args,ka1 n a [] false=some ((ka1 n a [] false).getD (Dk.mk 0 0 []))/\ky7 l a ((ka1 n a [] false).getD (Dk.mk 0 0 [])):=fun a ha=>by obtain ⟨x,h1,g⟩:=ih a ha;rw [h1];exact ⟨rfl,g⟩
  have hl:=kkw (kex t [] false (ka1 n)) t.args (fun a=>(ka1 n a [] false).getD (Dk.mk 0 0 [])) [] (fun i x hx=>by have hi:=kbb hx;have hm:=qj hx;have w:=List.length_take_le i t.args;simp only [kex,kdr hi,qe,kag,hx,qa,qd];rw [(f x hm).1];simp only [qa,qbe];rw [ket (by simp only [qy,qt,qbf,qah];omega)];simp only [qa];rw [kai _]) (by simp only [kex,kcp,qd]);refine ⟨Dk.mk t.rule 0 (t.args.map fun a=>(ka1 n a [] false).getD (Dk.mk 0 0 [])),?_,fun hs c=>?_,fun hs s d=>?_,k4z (qt ..) fun i x u hx e=>by rw [qn,e,qa3] at hx;obtain rfl:=qs hx;exact (f u (qj e)).2.nodes⟩;show kgz (ka1 n) t [] false=_;unfold kgz;simp only [qd,qa];rw [show ((0:Int),([]:List Dk))=(0,[]) from rfl,hl,qa,qbz];rw [knx,qi (by simp [Dk.hole])];have:(Dk.mk t.rule 0 (t.args.map fun a=>(ka1 n a [] false).getD (Dk.mk 0 0 []))).args.map (kep hs c)=t.args:=(by show (t.args.map _).map _=_;rw [List.map_map];exact (List.map_congr_left fun a ha=>(f a ha).2.fill hs c).trans (List.map_id _));rw [this];cases t;rfl
  ·cases d with
   | mk hk hr j m ha=>
    rename_i k r;have o:=q.good r (qj hr);have p:kih r=r.args.length:=by
     unfold kih;cases hk:r.kind != 3 with
     | true=>rw [o.noargs (qbg.1 hk)];rfl
     | false=>rfl
    refine .node (k:=k) rfl hk hr (fun _=>j) (by show (t.args.map _).length=_;rw [qt,m,p]) fun i a b h1 g=>?_;have h1:(t.args.map fun a=>(ka1 n a [] false).getD (Dk.mk 0 0 []))[i]?=some a:=h1;rw [qn,qq] at h1;obtain ⟨u,e,rfl⟩:=h1;exact (f u (qj e)).2.body hs b (ha i u b e g)
inductive AtP:Tm->List Int->Tm->Prop
 | here {t:Tm}:AtP t [] t
 | arg {t a u:Tm} {p:List Int} {i:Nat} (h:t.args[i]?=some a) (ha:AtP a p u):AtP t ((i:Int)::p) u
structure kaf3 (l:La) (t u:Tm) (x:Dk):Prop where
 fill:∀ hs c,kep hs c x=t↔kok hs c 1=u
 body:∀ (hs:List Sab) (h:Sab) (s:Int) (k:Nat) (r:Ru),hs[0]?=some h->u.rule=(k:Int)->l.rules[k]?=some r->h.yf=r.symbol->Fits l s t->BodyZ l hs s x
 nodes:x.nodes<=t.size
theorem k1r {l:La} (S:khu l):∀ (n:Nat) (t:Tm) (p:List Int) (u:Tm),t.size<=n->t.size<=1000->AtP t p u->∃ x,ka1 n t p true=some x/\kaf3 l t u x
 | 0,t,_,_,h,_,_=>by have:=t.size_pos;omega
 | n+1,t,p,u,h,hz,T=>by
  have ac:=args_len t;cases T with
  | here=>
   refine ⟨Dk.mk 0 1 [],rfl,fun hs c=>?_,fun hs h s k r hh hk hr E f=>?_,t.size_pos⟩;rw [knx,qo (by simp [Dk.hole])];exact Iff.rfl
   ·cases f with
    | mk K g F L M=>
     rename_i k' r';obtain rfl:k=k':=(by omega);obtain rfl:r=r':=(by rw [hr] at g;exact qs g);exact .hole (k:=0) (by rfl) rfl rfl hh fun _=>by rw [E,F]
  | arg hi ha=>
   rename_i a p i;have U:=qj hi;have N:=kbb hi;have ad:=kbm U;obtain ⟨xo,V,H⟩:=k1r S n a p u (by omega) (by omega) ha;have hf:∀ b∈t.args,ka1 n b [] false=some ((ka1 n b [] false).getD (Dk.mk 0 0 []))/\ky7 l b ((ka1 n b [] false).getD (Dk.mk 0 0 [])):=fun b d=>(by have:=kbm d;obtain ⟨x,h1,X⟩:=k2p S n b (by omega) (by omega);rw [h1];exact ⟨rfl,X⟩);obtain ⟨sh,O⟩:∃ sh:Tm->Dk,sh=fun b=>(ka1 n b [] false).getD (Dk.mk 0 0 []):=⟨_,rfl⟩;obtain ⟨G,R⟩:∃ G:Nat->Dk,G=fun q=>if q=i then xo else sh (t.args.getD q (Tm.mk 0 [])):=⟨_,rfl⟩;have C:∀ q b,t.args[q]?=some b->t.args.getD q (Tm.mk 0 [])=b:=fun q b d=>(by rw [List.getD_eq_getElem?_getD,d];rfl);have hl:kab (kex t ((i:Int)::p) true (ka1 n)) fuel (0,[])=some ((List.range t.args.length).map G):=by
    refine kcc t.args.length (fun j=>((j:Int),(List.range j).map G)) _ (fun j P=>?_) ?_
    ·obtain ⟨b,d⟩:∃ b,t.args[j]?=some b:=⟨_,qb P⟩;have Y:=qj d;have Z:(List.range (j+1)).map G=(List.range j).map G++[G j]:=(by rw [List.range_succ,List.map_append];rfl);rw [Z];simp only [kex,kdr P,qe,kag,d,qa,show idx ((i:Int)::p) 0=some (i:Int) from rfl];by_cases o:j=i;subst o;obtain rfl:a=b:=(by rw [hi] at d;exact qs d);rw [beq_self_eq_true];simp only [qe];rw [ks1];simp only [qa];rw [V];simp only [qa];rw [ket (by simp;omega)];simp only [qa];rw [kai _,show G j=xo by rw [R];simp]
     ·rw [show ((j:Int) == (i:Int))=false by simp;omega];simp only [qd];rw [(hf b Y).1];simp only [qa,qbe];rw [ket (by simp;omega)];simp only [qa];rw [kai _,show G j=(ka1 n b [] false).getD (Dk.mk 0 0 []) by rw [R];simp only [qi o];rw [C j b d,O]]
    ·simp only [kex,kcp,qd]
   have I:∀ q,q<t.args.length->((List.range t.args.length).map G)[q]?=some (G q):=fun q D=>(by simp [D]);have A:G i=xo:=(by rw [R];simp);have J:∀ q b,q≠i->t.args[q]?=some b->ky7 l b (G q):=fun q b D d=>(by rw [R];simp only [qi D];rw [C q b d,O];exact (hf b (qj d)).2);refine ⟨Dk.mk t.rule 0 ((List.range t.args.length).map G),?_,fun hs c=>?_,fun hs h s k r hh hk hr E f=>?_,k4z (by simp) fun q y b hy d=>by
    have D:=kbb d;rw [I q D] at hy;obtain rfl:=qs hy;by_cases v:q=i;subst v;obtain rfl:a=b:=(by rw [hi] at d;exact qs d);rw [A];exact H.nodes
    ·exact (J q b v d).nodes⟩
   show kgz (ka1 n) t ((i:Int)::p) true=_;unfold kgz;simp only [qe,qa];rw [show ((((i:Int)::p).length:Int) == 0)=false by simp;omega,qd,hl,qa]
   ·rw [knx,qi (by simp [Dk.hole]),<- H.fill hs c];have w:t=Tm.mk t.rule t.args:=(by cases t;rfl);constructor;intro e;have e2:((List.range t.args.length).map G).map (kep hs c)=t.args:=(by rw [w] at e;injection e);have:=qbc (fun m:List Tm=>m[i]?) e2;simp only [qn,hi] at this;rw [show (List.range t.args.length)[i]?=some i by simp [N]] at this;simp only [qa3,A] at this;exact qs this
    ·intro e;have e2:((List.range t.args.length).map G).map (kep hs c)=t.args:=by
      apply qbw;intro q;by_cases D:q<t.args.length
      ·obtain ⟨b,d⟩:∃ b,t.args[q]?=some b:=⟨_,qb D⟩;rw [qn,I q D,d,qa3];congr 1;by_cases v:q=i;subst v;rw [A,e];rw [hi] at d;exact qs d
       ·exact (J q b v d).fill hs c
      ·rw [qa4 (by simp;omega),qa4 (by omega)]
     show Tm.mk t.rule (((List.range t.args.length).map G).map (kep hs c))=t;rw [e2];exact w.symm
   ·cases f with
    | mk K g F L M=>
     rename_i k' r';have aa:=S.good r' (qj g);have ab:kih r'=r'.args.length:=by
      unfold kih;cases hk:r'.kind != 3 with
      | true=>rw [aa.noargs (qbg.1 hk)];rfl
      | false=>rfl
     refine .node (k:=k') rfl K g (fun _=>F) (by show ((List.range t.args.length).map G).length=_;rw [qt,List.length_range,L,ab]) fun j y b h1 X=>?_;have h1:((List.range t.args.length).map G)[j]?=some y:=h1;have P:j<t.args.length:=(by have:=kbb h1;simpa using this);rw [I j P] at h1;obtain rfl:=qs h1;obtain ⟨z,B⟩:∃ z,t.args[j]?=some z:=⟨_,qb P⟩;have Q:=M j z b B X;by_cases o:j=i;subst o;obtain rfl:z=a:=(by rw [hi] at B;exact (qs B).symm);rw [A];exact H.body hs h b k r hh hk hr E Q
     ·exact (J j z o B).body hs b Q
theorem k8d:∀ (n:Nat) (t:Tm),t.size<=n->t.size<=1000->kc8 n t=some t
 | 0,t,h,_=>by have:=t.size_pos;omega
 | n+1,t,h,d=>by show kek (kc8 n) t=_;unfold kek;have a:=args_len t;have hl:=kkw (kd9 t (kc8 n)) t.args id [] (fun i x hx=>by have hi:=kbb hx;have b:=kbm (qj hx);have c:=List.length_take_le i t.args;simp only [kd9,kdr hi,qe,kag,hx,qa];rw [k8d n x (by omega) (by omega),qa,ket (by simp only [qy,qt,qbf,qah];omega),qa,kai _];rfl) (by simp only [kd9,kcp,qd]);rw [show ((0:Int),([]:List Tm))=(0,[]) from rfl,hl,qa,List.map_id,qbz];cases t;rfl
theorem kab1:∀ (n:Nat) (t:Tm),t.size<=n->t.size<=1000->kjw n t=some t
 | 0,t,h,_=>by have:=t.size_pos;omega
 | n+1,t,h,d=>by show kk1 (kjw n) t=_;unfold kk1;have a:=args_len t;have hl:=kkw (kj6 t (kjw n)) t.args id [] (fun i x hx=>by have hi:=kbb hx;have b:=kbm (qj hx);have c:=List.length_take_le i t.args;simp only [kj6,kdr hi,qe,kag,hx,qa];rw [kab1 n x (by omega) (by omega),qa,ket (by simp only [qy,qt,qbf,qah];omega),qa,kai _];rfl) (by simp only [kj6,kcp,qd]);rw [show ((0:Int),([]:List Tm))=(0,[]) from rfl,hl,qa,List.map_id,qbz];cases t;rfl
theorem AtP.size {t u:Tm} {p:List Int} (h:AtP t p u):u.size<=t.size:=by
 induction h with
 | here=>exact qx _
 | arg h _ ih=>have:=kbm (qj h);omega
theorem kacz:∀ (n:Nat) (t:Tm) (p:List Int) (u:Tm),p.length<n->t.size<=1000->AtP t p u->kfq n t p=some (u,0)
 | 0,_,_,_,h,_,_=>by omega
 | n+1,t,p,u,h,d,b=>by
  show kfy (kfq n) t p=_;unfold kfy;cases b with
  | here=>rw [show ((([]:List Int).length:Int) == 0)=true from rfl,qe,k8d fuel t (qaz (kan (by omega))) d,qa]
  | arg hi ha=>
   rename_i a p i;have c:=kbb hi;have e:=kbm (qj hi);simp only [qag] at h;rw [show ((((i:Int)::p).length:Int) == 0)=false by simp;omega,qd];simp only [show idx ((i:Int)::p) 0=some (i:Int) from rfl,qa];rw [qg (by omega),qd,qa,qg (by omega),qd,kag,hi,qa,ks1,qa,kacz n a p u (by omega) (by omega) ha,qa]
theorem kahy (t:Tm) (p:List Int) (l:t.size<=1000) (hp:p.length<=1000):∃ r,ksi t p=some r/\(r.2=0->AtP t p r.1):=by
 obtain ⟨b,h1,n⟩:=k4q (step:=knd p) p.length (by omega)
  (fun j x=>x.1=(j:Int)/\(Tm.mk x.2.1 x.2.2).size<=1000/\∀ u,AtP (Tm.mk x.2.1 x.2.2) (p.drop j) u->AtP t p u)
  (fun b=>(∃ q:Int×List Tm,b = .inl q/\(Tm.mk q.1 q.2).size<=1000/\AtP t p (Tm.mk q.1 q.2))\/∃ e:Tm×Int,b = .inr e/\e.2≠0)
  (fun j x g hx=>by
   obtain ⟨k,ru,ar⟩:=x;obtain ⟨e1,e2,e3⟩:=hx;simp only at e1 e2 e3;subst e1;obtain ⟨v,hv⟩:∃ v,p[j]?=some v:=⟨_,qb g⟩;have hd:p.drop j=v::p.drop (j+1):=(by rw [qao g,<- qs ((qb g).symm.trans hv)]);unfold knd;simp only;rw [kdx g,qe,kag,hv,qa];by_cases o:0<=v/\v<(ar.length:Int);obtain ⟨i,s⟩:=o;obtain ⟨m,rfl⟩:=qbp i;have hm:m<ar.length:=(by omega);obtain ⟨a,ha⟩:∃ a,ar[m]?=some a:=⟨_,qb hm⟩;have w:a.size<(Tm.mk ru ar).size:=kbm (t:=Tm.mk ru ar) (qj ha);rw [qg (show ¬ ((m:Int)<0) by omega),qd,qa,qg (show ¬ ((ar.length:Int)<=(m:Int)) by omega),qd,kag,ha,qa,kai _];have c:Tm.mk a.rule a.args=a:=(by cases a;rfl);exact .inl ⟨_,rfl,rfl,by simp only;rw [c];omega,fun u d=>e3 u (by rw [hd];exact .arg (t:=Tm.mk ru ar) ha (by simp only at d;rw [c] at d;exact d))⟩
   ·right;by_cases f:v<0;rw [ql f,qe,qa,qe];exact ⟨_,rfl, .inr ⟨_,rfl,by simp⟩⟩
    ·rw [qg f,qd,qa,ql (by omega),qe];exact ⟨_,rfl, .inr ⟨_,rfl,by simp⟩⟩)
  (fun x hx=>by obtain ⟨k,ru,ar⟩:=x;obtain ⟨e1,e2,e3⟩:=hx;simp only at e1 e2 e3;subst e1;unfold knd;simp only;rw [kcz,qd];exact ⟨_,rfl, .inl ⟨_,rfl,e2,e3 _ (by rw [List.drop_length];exact .here)⟩⟩)
  (0,t.rule,t.args) ⟨rfl,by cases t;exact l,fun u d=>by cases t;exact d⟩
 unfold ksi;rw [h1,qa];rcases n with ⟨q,rfl,q1,q2⟩ | ⟨e,rfl,y⟩;simp only [qan];rw [kab1 fuel _ (qaz (kan (by omega))) q1,qa];exact ⟨_,rfl,fun _=>q2⟩
 ·exact ⟨_,rfl,fun h=>absurd h y⟩
theorem k9t {l:La} (hl:koj l) (hc:kch l=some 0) {s:Int} {t:Tm} (a:t.size<=1000) (h:OkT l s t):khb l s t=some 0:=by obtain ⟨c,h1,b,_⟩:=k0a l s t hl a;obtain ⟨v,k1,k2⟩:=k2o hc s t a;rw [b] at k1;obtain rfl:=qs k1;rw [h1,k2.2 h]
theorem kacj {l:La} (hl:koj l) (hc:kch l=some 0) (s:Int) {t:Tm} (a:t.size<=1000):∃ c,khb l s t=some c/\(c=0->OkT l s t):=by obtain ⟨c,h1,b,_⟩:=k0a l s t hl a;obtain ⟨v,k1,k2⟩:=k2o hc s t a;rw [b] at k1;obtain rfl:=qs k1;exact ⟨c,h1,k2.1⟩
theorem kacr {l:La} (hl:koj l) (hc:kch l=some 0) {h:Sab} (m:0<=h.yf) (hs1:h.yf<(l.symbols.length:Int)) (hp:k9q l h) (c:∀ t∈h.yb,t.size<=24) (hn:h.yb.Nodup):klv l h=some 0:=by
 have g:=hp.few;have j:=hp.pos;have l2:kab (kjp l h) fuel 0=some (.inl ()):=by refine kcc h.yb.length (fun i=>(i:Int)) _ (fun i hi=>?_) (by simp only [kjp,kcp,qd]);have g1:h.yb[i]?=some h.yb[i]:=qb hi;have hm:=q9 hi;simp only [kjp,kdr hi,qe,kag,g1,qa];rw [k9t hl hc (by have:=c _ hm;omega) (hp.ok _ hm),qa,kai _];rfl
 have l1:kab (kja h) fuel 0=some (.inl ()):=by
  refine kcc h.yb.length (fun i=>(i:Int)) _ (fun i hi=>?_) (by simp only [kja,kcp,qd]);have g1:h.yb[i]?=some h.yb[i]:=qb hi;have n:=c _ (q9 hi);have b:(h.yb.take i).length=i:=by rw [qad];omega
  have d:kab (kbd (h.yb.take i) h.yb[i]) fuel 0=some (.inl ()):=by refine kcc i (fun k=>(k:Int)) _ (fun k hk=>?_) (by simp only [kbd,b,kcp,qd]);have a:k<h.yb.length:=(by omega);have g2:(h.yb.take i)[k]?=some h.yb[k]:=(by rw [List.getElem?_take_of_lt hk,qb a]);have o:=c _ (q9 a);simp only [kbd,b,kdr hk,qe,kag,g2,qa,kkm];rw [cmp_prog _ _ (by omega) (by omega),qa,qa];have f:h.yb[k]≠h.yb[i]:=fun e=>(by have:=(List.pairwise_iff_getElem.1 hn) k i a hi hk;exact this e);have p:(cmpT h.yb[i] h.yb[k] == 0)=false:=(by rw [qas];exact fun e=>f (cmpT_eq0.1 e).symm);rw [p,qd,kai _]
  simp only [kja,kdr hi,qe,kag,g1,qa,kxm _ _ (qaz hi),kb9,kci,d,kai _ (h:=(show i<=9223372036854775806 by omega))];rfl
 unfold klv;rw [qg (show ¬ (h.yf<0) by omega),qd,qa,qg (show ¬ ((l.symbols.length:Int)<=h.yf) by omega),qd,qg (show ¬ ((h.yb.length:Int)<1) by omega),qd,qa,qg (show ¬ ((64:Int)<(h.yb.length:Int)) by omega),qd,l2,qa];simp only [qan];rw [l1,qa];rfl
theorem k1l {l:La} {d:Saa} (hd:d.ya.length<=1000) (hl:l.rules.length<=1000) (g:∀ r∈l.rules,GoodR l r):∀ (n:Nat) (x:Dk) (s:Int),x.nodes<=n->x.nodes<=1000->BodyZ l d.ya s x->khf n l d x s=some 0
 | 0,x,_,h,_,_=>by have:=x.nodes_pos;omega
 | n+1,x,s,h,q,j=>by
  show kj5 (khf n) l d x s=_;unfold kj5;have m:=Dk.args_len x;cases j with
  | hole hx h0 h1 hk ht=>
   rename_i k hh;have b:=kbb hk;rw [ql (show (0:Int)<x.hole by omega),qe,qg (show ¬ ((d.ya.length:Int)<x.hole) by omega),qd,h0,show ((0:Int) != 0)=false from rfl,qd,h1];simp only [qbf,qa];rw [show decide ((0:Int)<((0:Nat):Int))=false from rfl,qd];by_cases hs:0<=s;rw [ql hs,qe,show w64 (x.hole - 1)=(k:Int) by rw [kc0];omega,kag,hk,qa,qa,ht hs,show (s != s)=false by simp,qd]
   ·rw [qg hs,qd,qa,qd]
  | node hx hr hk ht c ha=>
   rename_i k r;have b:=kbb hk;have o:=g r (qj hk);rw [hx,show decide ((0:Int)<0)=false from rfl,qd,qd,hr,qg (show ¬ ((k:Int)<0) by omega),qd,qg (show ¬ ((l.rules.length:Int)<=(k:Int)) by omega),qa,qd,kag,hk,qa];have e:(bif decide (0<=s) then some (r.symbol != s) else some false:Option Bool)=some false:=by
    by_cases hs:0<=s;rw [ql hs,qe,ht hs];simp
    ·rw [qg hs,qd]
   have a:kab (kjb l d x (khf n) r) fuel 0=some (.inl ()):=(by refine kcc x.args.length (fun i=>(i:Int)) _ (fun i hi=>?_) (by simp only [kjb,kcp,qd]);have g1:x.args[i]?=some x.args[i]:=qb hi;have f:i<r.args.length:=(by omega);have g2:r.args[i]?=some r.args[i]:=qb f;have p:=Dk.args_nodes (qj g1);simp only [kjb,kdr hi,qe,kag,g1,g2,qa];rw [k1l hd hl g n _ _ (by omega) (by omega) (ha i _ _ g1 g2),qa,kai _];rfl);rw [e,qa,qd,c,show ((r.args.length:Int) != (r.args.length:Int))=false by simp,qd,a,qa];rfl
theorem ky2 {d:Saa} (g:d.ya.length<=1000) (a:∀ h∈d.ya,h.yb.length<=1000) (c:∀ h∈d.ya,∀ t∈h.yb,t.size<=24):∀ (n:Nat) (x:Dk),x.nodes<=n->x.nodes<=1000->Ev (kda n d x) fun _=>True
 | 0,x,h,_=>by have:=x.nodes_pos;omega
 | n+1,x,h,hx=>by
  show Ev (kcn (kda n) d x) _;unfold kcn;have l:=Dk.args_len x;refine k6o (keq (fun _=>⟨_,rfl,trivial⟩) fun _=>⟨_,rfl,trivial⟩) fun v hv=>keq (fun f=>?_) fun f=>?_
  ·subst f;have o:0<x.hole/\x.hole<=(d.ya.length:Int):=by
    cases hd:decide (0<x.hole) with
    | false=>rw [hd] at hv;cases hv
    | true=>
     rw [hd] at hv;exact ⟨qbd hd,qbd (qs hv)⟩
   obtain ⟨k,p⟩:∃ k:Nat,x.hole=(k:Int)+1:=⟨(x.hole - 1).toNat,by omega⟩;have hk:k<d.ya.length:=(by omega);have hh:=q9 hk;rw [show w64 (x.hole - 1)=(k:Int) by rw [kc0];omega,kag,qb hk,qa];refine k6o (kmb (Q:=fun _=>True) d.ya[k].yb.length (fun i s=>s.2=(i:Int)) (by have:=a _ hh;omega) rfl (fun i s hi e=>?_) fun s e=>?_) fun _ _=>⟨_,rfl,trivial⟩;obtain ⟨m,j⟩:=s;obtain rfl:j=(i:Int):=e;have q:=c _ hh _ (q9 hi);have:=a _ hh;simp only [keb,kdr hi,qe,kag,qb hi,qa];rw [kvf fuel _ (qaz (kan (by omega))) (by omega),qa];exact ⟨_,rfl,kai _⟩
   ·obtain ⟨m,j⟩:=s;obtain rfl:j=_:=e;exact kr4 m (by simp only [keb,kcp,qd]) trivial
  ·refine k6o (kmb (Q:=fun _=>True) x.args.length (fun i s=>s.2=(i:Int)) (by omega) rfl (fun i s hi e=>?_) fun s e=>?_) fun _ _=>⟨_,rfl,trivial⟩;obtain ⟨m,j⟩:=s;obtain rfl:j=(i:Int):=e;have r:=Dk.args_nodes (q9 hi);simp only [kea,kdr hi,qe,kag,qb hi,qa];obtain ⟨v,h1,_⟩:=ky2 g a c n x.args[i] (by omega) (by omega);rw [h1,qa];exact ⟨_,rfl,kai _⟩
   ·obtain ⟨m,j⟩:=s;obtain rfl:j=_:=e;exact kr4 m (by simp only [kea,kcp,qd]) trivial
theorem k80 (l:La) (d:Saa) (b:d.ya.length<=1000) (a:∀ h∈d.ya,h.yb.length<=1000) (c:∀ h∈d.ya,∀ t∈h.yb,t.size<=24) (x:Dk) (hx:x.nodes<=1000) (s:Int) (e:kpp l d.ya s x):∃ v,kdc fuel d x=some v:=by obtain ⟨v,h1,_⟩:=ky2 b a c fuel x (qaz (kan (by omega))) hx;exact ⟨v,by rw [kacs b e,h1]⟩
theorem kacx (x:Dk) (h:Sab) (hp:1<=h.yb.length) (a:h.yb.length<=64):kjo (Saa.mk x [h])=some ((h.yb.length:Int),0):=by
 have l2:kab (kkk (Saa.mk x [h])) fuel 0=some (.inl ()):=by
  refine kcc 1 (fun i=>(i:Int)) _ (fun i hi=>?_) rfl;obtain rfl:i=0:=by omega
  unfold kkk;rw [show decide (((0:Nat):Int)<((Saa.mk x [h]).ya.length:Int))=true from rfl,qe,show idx (Saa.mk x [h]).ya ((0:Nat):Int)=some h from rfl,qa,show ((h.yb.length:Int) == 0)=false by (rw [qas];omega),qd];rfl
 have l1:kab (kie (Saa.mk x [h])) fuel (1,0)=some (.inl (h.yb.length:Int)):=by
  have b:quo .i64 1152921504606846976 (h.yb.length:Int)=some (((1152921504606846976 / h.yb.length:Nat):Int)):=kaaq 1152921504606846976 h.yb.length (by omega);have hd:1<=1152921504606846976 / h.yb.length:=(Nat.le_div_iff_mul_le (by omega)).2 (by omega);refine kcc 1 (fun i=>(if i=0 then (1,0) else ((h.yb.length:Int),1):Int×Int)) _ (fun i hi=>?_) rfl;obtain rfl:i=0:=by omega
  show kie (Saa.mk x [h]) ((1:Int),(0:Int))=some (.inl ((h.yb.length:Int),(1:Int)));unfold kie;simp only;rw [show decide ((0:Int)<(([h]:List Sab).length:Int))=true from rfl,qe,show idx [h] (0:Int)=some h from rfl,qa,b,qa,qg (show ¬ (((1152921504606846976 / h.yb.length:Nat):Int)<1) by omega),qd];rw [show w64 (1*(h.yb.length:Int))=(h.yb.length:Int) by rw [Int.one_mul,kc0]];rfl
 unfold kjo;rw [l2,qa];simp only [qan];rw [l1,qa];rfl
open Go Go.RowKit Go.ChangeShapes Go.WideShapes Go.ChangeAt Go.Proofs.Tryz
theorem kz8 {n:Int} (h:(Lit.int .i64 n).wf=true):kgo n:=by simpa [Lit.wf,IntKind.min,IntKind.max,IntKind.signed,IntKind.bits,kgo] using h
variable {H:Type} {enc:TypeId×Value->H} {w:World} {base:Nat} {spare:Nat->Bool} {held:Bool}
theorem cells_ty:prog.cellsOf 3=1/\prog.cellsOf 2=1/\prog.cellsOf 9=1/\prog.cellsOf 22=1/\prog.cellsOf 64=1/\prog.cellsOf 23=1/\prog.cellsOf 24=1 /\
  prog.cellsOf 66=4/\prog.cellsOf 89=2/\prog.cellsOf 68=9/\prog.cellsOf 26=4:=⟨by kernel_rfl,by kernel_rfl,by kernel_rfl,by kernel_rfl,by kernel_rfl,by kernel_rfl,by kernel_rfl,by kernel_rfl,by kernel_rfl,by kernel_rfl,by kernel_rfl⟩
theorem ks7 {fuel:Nat} {cs:List Value} {x:DataW H×List MemPlace} (h:DataW.trod enc prog w base spare held fuel 9 cs=some x):∃ s,cs=[.string s]/\ksv s:=by obtain ⟨s,hs,_,hl⟩:=DataW.trod_string underlying9 h;exact ⟨s,hs,by unfold maxLen at hl;exact hl⟩
theorem kl7 {fuel:Nat} {cs:List Value} {x:DataW H×List MemPlace} (h:DataW.trod enc prog w base spare held fuel 3 cs=some x):∃ n,cs=[.int .i64 n]/\kgo n:=by obtain ⟨n,hn,_,a⟩:=DataW.trod_int underlying3 h;exact ⟨n,hn,kz8 a⟩
theorem kacc {fuel:Nat} {cs:List Value} {x:DataW H×List MemPlace} (h:DataW.trod enc prog w base spare held fuel 2 cs=some x):∃ n,cs=[.int .i64 n]/\kgo n:=by obtain ⟨n,hn,_,a⟩:=DataW.trod_int underlying2 h;exact ⟨n,hn,kz8 a⟩
theorem ktf {fuel:Nat} {cs:List Value} {x:DataW H×List MemPlace} (h:DataW.trod enc prog w base spare held fuel 22 cs=some x):∃ v ns,cs=[v]/\Ints Any w v ns:=
 ksh IntR 1 underlying22 cells_ty.1 h fun n cs' y _ hy=>by obtain ⟨k,h1,a⟩:=kl7 hy;exact ⟨k,h1,a⟩
theorem k8w:∀ (fuel:Nat) (cs:List Value) (x:DataW H×List MemPlace),DataW.trod enc prog w base spare held fuel 66 cs=some x->∃ t,RepVa Any w cs t:=by
 obtain ⟨z1,z2,z3,z4,z5,z6,z7,z8,z9,z10,z11⟩:=cells_ty;intro fuel
 induction fuel using Nat.strongRecOn with
 | _ fuel ih=>
  intro cs x h;obtain ⟨xs,n,f,_,a,c,b⟩:=DataW.trod_struct underlying66 h;rw [z8] at a
  match cs,a with
  | [c0,c1,c2,c3],_=>
   have h0:=b 0 _ rfl;have h1:=b 1 _ rfl;have d:=b 2 _ rfl;have e:=b 3 _ rfl;rw [qb (by rw [c];decide)] at h0 h1 d e;obtain ⟨t,e0,ht⟩:=kl7 h0;obtain ⟨m,e1,hm⟩:=kacc h1;obtain ⟨s,e2,hs⟩:=ks7 d;obtain ⟨v,ts,e3,g⟩:=ksh (RepVa Any w) 4 underlying64 z8 e fun k cs' y hk hy=>ih k (by omega) cs' y hy;simp [z1,z2,z3,z4,z5,z6,z7,z8] at e0 e1 e2 e3;subst e0 e1 e2 e3;exact ⟨.mk t m s ts,RepVa.of ht hm hs g⟩
theorem k65 {fuel:Nat} {cs:List Value} {x:DataW H×List MemPlace} (h:DataW.trod enc prog w base spare held fuel 89 cs=some x):∃ t,k3o Any w cs t:=by
 obtain ⟨z1,z2,z3,z4,z5,z6,z7,z8,z9,z10,z11⟩:=cells_ty;obtain ⟨xs,n,d,_,a,b,c⟩:=DataW.trod_struct underlying89 h;rw [z9] at a
 match cs,a with
 | [c0,c1],_=>
  have h0:=c 0 _ rfl;have h1:=c 1 _ rfl;rw [qb (by rw [b];decide)] at h0 h1;obtain ⟨s,e0,hs⟩:=ks7 h0;obtain ⟨t,e1,ht⟩:=kl7 h1;simp [z1,z2,z3,z4,z5,z6,z7,z8] at e0 e1;subst e0 e1;exact ⟨⟨s,t⟩,rfl,hs,ht⟩
theorem kab6 {fuel:Nat} {cs:List Value} {x:DataW H×List MemPlace} (h:DataW.trod enc prog w base spare held fuel 68 cs=some x):∃ t,k3i Any w cs t:=by
 obtain ⟨z1,z2,z3,z4,z5,z6,z7,z8,z9,z10,z11⟩:=cells_ty;obtain ⟨xs,n,m,_,d,f,e⟩:=DataW.trod_struct underlying68 h;rw [z10] at d
 match cs,d with
 | [c0,c1,c2,c3,c4,c5,c6,c7,c8],_=>
  have h0:=e 0 _ rfl;have h1:=e 1 _ rfl;have i:=e 2 _ rfl;have j:=e 3 _ rfl;have k:=e 4 _ rfl;have l:=e 5 _ rfl;rw [qb (by rw [f];decide)] at h0 h1 i j k l;obtain ⟨a,e0,ha⟩:=kl7 h0;obtain ⟨b,e1,o⟩:=kl7 h1;obtain ⟨c,e2,hc⟩:=kl7 i;obtain ⟨v,hv⟩:=k8w _ _ _ j;obtain ⟨s,e4,hs⟩:=ks7 k;obtain ⟨u,ns,e5,g⟩:=ktf l;simp [z1,z2,z3,z4,z5,z6,z7,z8] at e0 e1 e2 e4 e5 hv;subst e0 e1 e2 e4 e5;exact ⟨⟨a,b,c,v,s,ns⟩,c3,c4,c5,c6,_,rfl,ha,o,hc,hs,hv,g⟩
theorem k3c {fuel:Nat} {cs:List Value} {x:DataW H×List MemPlace} (h:DataW.trod enc prog w base spare held fuel 26 cs=some x):∃ t,kagy Any w cs t:=by
 obtain ⟨z1,z2,z3,z4,z5,z6,z7,z8,z9,z10,z11⟩:=cells_ty;obtain ⟨xs,n,j,_,a,c,b⟩:=DataW.trod_struct underlying26 h;rw [z11] at a
 match cs,a with
 | [c0,c1,c2,c3],_=>
  have h0:=b 0 _ rfl;have h1:=b 1 _ rfl;have g:=b 2 _ rfl;have i:=b 3 _ rfl;rw [qb (by rw [c];decide)] at h0 h1 g i;obtain ⟨s,e0,hs⟩:=ks7 h0;obtain ⟨v1,n1,e1,d⟩:=ktf h1;obtain ⟨v2,n2,e2,e⟩:=ksh (k3o Any w) 2 underlying23 z9 g fun k cs' y hk hy=>k65 hy;obtain ⟨v3,n3,e3,f⟩:=ksh (k3i Any w) 9 underlying24 z10 i fun k cs' y hk hy=>kab6 hy;simp [z1,z2,z3,z4,z5,z6,z7,z8] at e0 e1 e2 e3;subst e0 e1 e2 e3;exact ⟨⟨s,n1,n2,n3⟩,_,_,_,rfl,hs,d,e,f⟩
theorem k03 {r:Reach} {b0:Nat} {v:Value} {d:DataW H} {p:List MemPlace} (hv:Value.okWide prog w r b0 26 v) (h:DataW.Trod enc prog w base spare held 26 v d p):∃ t,LaV Any w v t:=by obtain ⟨cs,rfl,a⟩:=okWide_struct underlying26 hv;obtain ⟨fuel,b⟩:=h;obtain ⟨t,ht⟩:=k3c b;exact ⟨t,cs.toList,by simp,by simpa [Value.cells] using ht⟩
theorem kab7 {n:Int} (h:(Lit.int .i64 n).wf=true):kgo n:=by simpa [Lit.wf,IntKind.min,IntKind.max,IntKind.signed,IntKind.bits,kgo] using h
theorem ktp:prog.cellsOf 29=2:=by kernel_rfl
theorem kac9:prog.cellsOf 3=1:=by kernel_rfl
theorem k60:prog.cellsOf 27=1:=by kernel_rfl
theorem kadn:∀ (fuel:Nat) (cs:List Value) (x:DataW H×List MemPlace),DataW.trod enc prog w base spare held fuel 29 cs=some x->∃ t,RepTm Any w cs t:=by
 intro fuel
 induction fuel using Nat.strongRecOn with
 | _ fuel ih=>
  intro cs x h;obtain ⟨xs,n,i,_,a,b,g⟩:=DataW.trod_struct underlying29 h;rw [ktp] at a
  match cs,a with
  | [c0,c1],_=>
   have h0:=g 0 _ rfl;have h1:=g 1 _ rfl;have e0:xs[0]?=some (xs[0]'(by rw [b];decide)):=qb _;have e1:xs[1]?=some (xs[1]'(by rw [b];decide)):=qb _;rw [e0] at h0;rw [e1] at h1;obtain ⟨r,c,_,d⟩:=DataW.trod_int underlying3 h0;obtain ⟨v,ts,hv,hs⟩:=ksh (RepTm Any w) 2 underlying27 ktp h1 fun m cs' y hm hy=>ih m (by omega) cs' y hy;have e:c0 = .int .i64 r:=(by simpa [kac9] using c);have f:c1=v:=(by simpa [k60] using hv);subst e f;exact ⟨.mk r ts,RepTm.of (kab7 d) hs⟩
theorem k89 {r:Reach} {b0:Nat} {v:Value} {d:DataW H} {p:List MemPlace} (hv:Value.okWide prog w r b0 29 v) (h:DataW.Trod enc prog w base spare held 29 v d p):∃ t,TmV Any w v t:=by
 obtain ⟨cs,rfl,a⟩:=okWide_struct underlying29 hv;obtain ⟨fuel,b⟩:=h;obtain ⟨t,ht⟩:=kadn fuel _ _ b;rw [ktp] at a;obtain ⟨l⟩:=cs
 match l,a with
 | [c0,c1],_=>exact ⟨t,c0,c1,rfl,ht⟩
def CRw (w:World) (cs:List Value) (x:FV) (size:Nat):Prop:=x.cells.length=size/\(∀ y∈x.cells,y.single=true)/\∀ (j:Nat) (u:Value) (y:FV),cs[j]?=some u->x.cells[j]?=some y->RF Any w u y
theorem kpz {cs:List Value} (xs:List FV) (h:∀ (j:Nat) (y:FV),xs[j]?=some y->y.single=true/\∀ u,cs[j]?=some u->RF Any w u y) (hl:cs.length=xs.length:=by rfl):CRw w cs (.agg xs) xs.length:=by refine ⟨rfl,fun y hy=>?_,fun j u y a hy=>(h j y hy).2 u a⟩;obtain ⟨j,b⟩:=qb7.1 hy;exact (h j y b).1
theorem k0l {v:Value} {ns:List Int} (h:Ints Any w v ns):RF Any w v (eL 1 eI ns):=
 kwm (R:=IntR) _ _ h fun cs x _ hx=>kakl hx.1 rfl
theorem kagn:∀ (x:Va) (cs:List Value),RepVa Any w cs x->CRw w cs (eVaR x) 4/\inV x:=by
 refine Va.ind fun t n s l ih=>?_;intro cs h;obtain ⟨v,rfl,ht,hn,hs,hv⟩:=h.form;have c:RF Any w v (.lst 4 l.length (ktc l)):=by have:=kwm eVaR 4 hv fun cs x hx hr=>(ih x hx cs hr).1;rw [kx5];have e:eL 4 eVaR l = .lst 4 l.length (l.map eVaR):=rfl;rw [<- e];exact this
 refine ⟨kpz [eI t,eI n,eS s, .lst 4 l.length (ktc l)] fun j y hy=>?_,?_⟩
 ·match j with
  | 0=>simp at hy;subst hy;exact ⟨rfl,fun u a=>by simp at a;subst a;exact .atom rfl⟩
  | 1=>simp at hy;subst hy;exact ⟨rfl,fun u a=>by simp at a;subst a;exact .atom rfl⟩
  | 2=>simp at hy;subst hy;exact ⟨rfl,fun u a=>by simp at a;subst a;exact .atom rfl⟩
  | 3=>simp at hy;subst hy;exact ⟨rfl,fun u a=>by simp at a;subst a;exact c⟩
  | j+4=>simp at hy
 ·obtain ⟨A,cap,_,h1,g,f⟩:=hv;have all:∀ x∈l,inV x:=fun x hx=>by obtain ⟨i,hi⟩:=qb7.1 hx;obtain ⟨b,o,cs,_,_,_,_,hr⟩:=f i x hi;exact (ih x hx cs hr).2
  have gen:∀ l:List Va,(∀ x∈l,inV x)->kzt 9223372036854775807 l/\kv3 l:=fun l=>by
   induction l with
   | nil=>exact fun _=>⟨trivial,trivial⟩
   | cons y l ih=>exact fun h=>⟨⟨(h y (qv ..)).1,(ih fun z d=>h z (qh _ d)).1⟩,(h y (qv ..)).2,(ih fun z d=>h z (qh _ d)).2⟩
  obtain ⟨g1,g2⟩:=gen l all;exact ⟨⟨by omega,g1⟩,hs,g2⟩
theorem sy_cr {cs:List Value} {x:Sy} (h:k3o Any w cs x):CRw w cs (eSy x) 2:=by
 obtain ⟨rfl,hs,ht⟩:=h;refine kpz [eS x.name,eI x.type] fun j y hy=>?_
 match j with
 | 0=>simp at hy;subst hy;exact ⟨rfl,fun u a=>by simp at a;subst a;exact .atom rfl⟩
 | 1=>simp at hy;subst hy;exact ⟨rfl,fun u a=>by simp at a;subst a;exact .atom rfl⟩
 | j+2=>simp at hy
theorem kagm {cs:List Value} {x:Ru} (h:k3i Any w cs x):CRw w cs (eRu x) 9/\kzy x:=by
 obtain ⟨c0,c1,c2,c3,v,rfl,h1,g,i,m,e,f⟩:=h;obtain ⟨k,kw⟩:=kagn _ _ e;obtain ⟨sy,kd,inp,c,op,ar⟩:=x;obtain ⟨t,n,s,l⟩:=c;obtain ⟨v',b,ht,hn,hs,hv⟩:=e.form;simp only [List.cons.injEq,and_true] at b;obtain ⟨rfl,rfl,rfl,rfl⟩:=b;have d:RF Any w c3 (eL 4 eVaR l):=kwm eVaR 4 hv fun cs x hx hr=>(kagn x cs hr).1;refine ⟨kpz [eI sy,eI kd,eI inp,eI t,eI n,eS s,eL 4 eVaR l,eS op,eL 1 eI ar] fun j y hy=>?_,(by obtain ⟨A,cap,_,q1,q2,_⟩:=f;exact qay q1 q2),kw⟩
 match j with
 | 0=>simp at hy;subst hy;exact ⟨rfl,fun u a=>by simp at a;subst a;exact .atom rfl⟩
 | 1=>simp at hy;subst hy;exact ⟨rfl,fun u a=>by simp at a;subst a;exact .atom rfl⟩
 | 2=>simp at hy;subst hy;exact ⟨rfl,fun u a=>by simp at a;subst a;exact .atom rfl⟩
 | 3=>simp at hy;subst hy;exact ⟨rfl,fun u a=>by simp at a;subst a;exact .atom rfl⟩
 | 4=>simp at hy;subst hy;exact ⟨rfl,fun u a=>by simp at a;subst a;exact .atom rfl⟩
 | 5=>simp at hy;subst hy;exact ⟨rfl,fun u a=>by simp at a;subst a;exact .atom rfl⟩
 | 6=>simp at hy;subst hy;exact ⟨rfl,fun u a=>by simp at a;subst a;exact d⟩
 | 7=>simp at hy;subst hy;exact ⟨rfl,fun u a=>by simp at a;subst a;exact .atom rfl⟩
 | 8=>simp at hy;subst hy;exact ⟨rfl,fun u a=>by simp at a;subst a;exact k0l f⟩
 | j+9=>simp at hy
theorem k6b (cs:List Value) (xs:List FV) (hl:cs.length=xs.length) (h:CRw w cs (.agg xs) xs.length):RF Any w (.agg cs.toArray) (.agg xs):=
 .agg (by simpa using hl) (fun x hx=>h.2.1 x hx) fun i v x hv hx=>h.2.2 i v x (by simpa using hv) hx
theorem la_rf {v:Value} {x:La} (h:LaV Any w v x):RF Any w v (eLa x)/\koj x:=by
 obtain ⟨cs,rfl,v1,v2,v3,rfl,hn,h1,c,d⟩:=h;have r1:=k0l h1;have r2:RF Any w v2 (eL 2 eSy x.symbols):=kwm eSy 2 c fun cs x _ hr=>sy_cr hr;have r3:RF Any w v3 (eL 9 eRu x.rules):=kwm eRu 9 d fun cs x _ hr=>(kagm hr).1;refine ⟨k6b _ [eS x.name,eL 1 eI x.inputs,eL 2 eSy x.symbols,eL 9 eRu x.rules] rfl (kpz _ fun j y hy=>?_),?_⟩
 ·match j with
  | 0=>simp at hy;subst hy;exact ⟨rfl,fun u a=>by simp at a;subst a;exact .atom rfl⟩
  | 1=>simp at hy;subst hy;exact ⟨rfl,fun u a=>by simp at a;subst a;exact r1⟩
  | 2=>simp at hy;subst hy;exact ⟨rfl,fun u a=>by simp at a;subst a;exact r2⟩
  | 3=>simp at hy;subst hy;exact ⟨rfl,fun u a=>by simp at a;subst a;exact r3⟩
  | j+4=>simp at hy
 ·refine ⟨hn,?_,?_,?_,fun y hy=>?_,fun r hr=>?_⟩;obtain ⟨A,cap,_,q1,q2,_⟩:=h1;exact qay q1 q2;obtain ⟨A,cap,_,q1,q2,_⟩:=c;exact qay q1 q2;obtain ⟨A,cap,_,q1,q2,_⟩:=d;exact qay q1 q2;obtain ⟨A,cap,_,_,_,hx⟩:=c;obtain ⟨i,hi⟩:=qb7.1 hy;obtain ⟨b,o,cs,_,_,_,_,e⟩:=hx i y hi;exact e.2.1
  ·obtain ⟨A,cap,_,_,_,hx⟩:=d;obtain ⟨i,hi⟩:=qb7.1 hr;obtain ⟨b,o,cs,_,_,_,_,e⟩:=hx i r hi;exact (kagm e).2
theorem tm_cr:∀ (x:Tm) (cs:List Value),RepTm Any w cs x->CRw w cs (eTmR x) 2:=by
 refine Tm.ind fun r l ih=>?_;intro cs h;obtain ⟨v,rfl,hr,hv⟩:=h.form;have b:RF Any w v (.lst 2 l.length (ktq l)):=by have:=kwm eTmR 2 hv fun cs x hx hr=>ih x hx cs hr;rw [kxw];have c:eL 2 eTmR l = .lst 2 l.length (l.map eTmR):=rfl;rw [<- c];exact this
 refine kpz [eI r, .lst 2 l.length (ktq l)] fun j y hy=>?_
 match j with
 | 0=>simp at hy;subst hy;exact ⟨rfl,fun u a=>by simp at a;subst a;exact .atom rfl⟩
 | 1=>simp at hy;subst hy;exact ⟨rfl,fun u a=>by simp at a;subst a;exact b⟩
 | j+2=>simp at hy
theorem tm_rf {v:Value} {x:Tm} (h:TmV Any w v x):RF Any w v (eTm x):=by obtain ⟨c0,c1,rfl,hr⟩:=h;have k:=tm_cr x _ hr;rw [kf7] at k;exact k6b [c0,c1] [eI x.rule,eL 2 eTmR x.args] rfl k
theorem in_La {r:Reach} {b0:Nat} {v:Value} {d:DataW H} {p:List MemPlace} (hv:Value.okWide prog w r b0 26 v) (h:DataW.Trod enc prog w base spare held 26 v d p):∃ x,RF Any w v (eLa x)/\koj x:=by obtain ⟨x,hx⟩:=k03 hv h;exact ⟨x,la_rf hx⟩
theorem in_Tm {r:Reach} {b0:Nat} {v:Value} {d:DataW H} {p:List MemPlace} (hv:Value.okWide prog w r b0 29 v) (h:DataW.Trod enc prog w base spare held 29 v d p):∃ x,RF Any w v (eTm x)/\True:=by obtain ⟨x,hx⟩:=k89 hv h;exact ⟨x,tm_rf hx,trivial⟩
theorem AtP.fits {l:La} {t u:Tm} {p:List Int} (h:AtP t p u) (d:khu l):∀ {s:Int},Fits l s t->∃ s',Fits l s' u:=by
 induction h with
 | here=>exact fun {s} c=>⟨s,c⟩
 | @arg t a u p i hi _ ih=>
  intro s c;cases c with
  | mk hk hr hs hl ha=>
   rename_i k r;have e:=d.good r (qj hr);have f:kih r<=r.args.length:=k4y r;have g:=kbb hi;obtain ⟨b,j⟩:∃ b,r.args[i]?=some b:=⟨_,qb (show i<r.args.length by omega)⟩;exact ih (ha _ _ b hi j)
structure kagf (l:La) (t:Tm) (p:List Int) (m:Int) (d:Saa):Prop where
 good:khu l
 checkP:kbs l=some 0
 checkR:kch l=some 0
 m1:1<=m
 m24:m<=24
 rest:∃ (u:Tm) (x:Dk) (k:Nat) (r:Ru) (s:Int) (v:Int),AtP t p u/\kaf3 l t u x/\u.rule=(k:Int)/\l.rules[k]?=some r/\Fits l s t/\Fits l r.symbol u/\d=Saa.mk x [Sab.mk r.symbol (upT l r.symbol m.toNat)] /\
  1<=(upT l r.symbol m.toNat).length/\(upT l r.symbol m.toNat).length<=64/\kdc fuel d x=some v/\v<=32
theorem kahq {l:La} (hl:koj l) {t:Tm} (L:t.size<=30) {p:List Int} (hp:p.length<=40) (m:Int):Ev (klx l t p m) fun r=>r.2=0->kagf l t p m r.1:=by
 have no:∀ {d:Saa} {c:Int},c≠0->((d,c):Saa×Int).2=0->kagf l t p m (d,c).1:=fun h J=>absurd J h;obtain ⟨c,c1,c2,c3⟩:=kaay l hl;unfold klx;rw [c1,qa];refine keq (fun h=>⟨_,rfl,no (qbg.1 h)⟩) fun h=>?_;obtain rfl:c=0:=qa0.1 h;have o:=c3 rfl;by_cases B:0<=t.rule/\t.rule<(l.rules.length:Int)
 ·obtain ⟨h0,h1⟩:=B;obtain ⟨k0,C⟩:=qbp h0;have q:k0<l.rules.length:=by omega
  obtain ⟨r0,D⟩:∃ r,l.rules[k0]?=some r:=⟨_,qb q⟩;rw [qg (show ¬ t.rule<0 by omega),qd,qa,qg (show ¬ ((l.rules.length:Int)<=t.rule) by omega),qd,C,kag,D,qa];obtain ⟨c,k1,k2⟩:=kacj hl c2 r0.symbol (show t.size<=1000 by omega);rw [k1,qa];refine keq (fun h=>⟨_,rfl,no (qbg.1 h)⟩) fun h=>?_;have j:=k2 (qa0.1 h);obtain ⟨ra,a1,a2⟩:=kahy t p (by omega) (by omega);rw [a1,qa];refine keq (fun h=>⟨_,rfl,no (qbg.1 h)⟩) fun h=>?_;have i:=a2 (qa0.1 h);obtain ⟨su,n⟩:=i.fits o j.fits;obtain ⟨u,eu⟩:∃ u,u=ra.1:=⟨_,rfl⟩;rw [<- eu] at i n ⊢;have w:=n;cases w with
  | mk hk hr hs I E=>
   rename_i k r;rw [hk,kag,hr,qa];have y:=o.good r (qj hr);obtain ⟨sy,g⟩:=qbp y.sym0;obtain ⟨ru,u1,u2⟩:=kaji o c1 sy (by have:=y.sym1;omega) m;rw [g,u1,qa];refine keq (fun h=>⟨_,rfl,no (qbg.1 h)⟩) fun h=>?_;obtain ⟨m1,m2,m3⟩:=u2 (qa0.1 h);rw [m3];refine keq (fun _=>⟨_,rfl,no (by decide)⟩) fun z=>keq (fun _=>⟨_,rfl,no (by decide)⟩) fun A=>?_;have z:=qas.1 z;have A:=qbb A;obtain ⟨x,x1,x2⟩:=k1r o fuel t p u (qaz (kan (by omega))) (by omega) i;rw [x1,qa];have F:Fits l r.symbol u:=(by rw [hs];exact n);have G:BodyZ l [Sab.mk (sy:Int) (upT l (sy:Int) m.toNat)] (-1) x:=by
    have K:=x2.body [Sab.mk (sy:Int) (upT l (sy:Int) m.toNat)] _ r0.symbol k r rfl hk hr g.symm j.fits;cases K with
    | hole a b c d e=>exact .hole a b c d fun h=>by omega
    | node a b c d e f=>exact .node a b c (fun h=>by omega) e f
   obtain ⟨v,hv⟩:=k80 l (Saa.mk x [Sab.mk (sy:Int) (upT l (sy:Int) m.toNat)]) (by simp) (fun h hh=>by
    obtain rfl:=qav.1 hh;show (upT l (sy:Int) m.toNat).length<=1000;omega) (fun h hh t ht=>by
    obtain rfl:=qav.1 hh;have:=(upT_mem.1 ht).1;omega) x (by have:=x2.nodes;omega) (-1) G.toP
   rw [hv,qa];refine keq (fun _=>⟨_,rfl,no (by decide)⟩) fun H=>⟨_,rfl,fun _=>⟨o,c1,c2,m1,m2,u,x,k,r,r0.symbol,v,i,x2,hk,hr,j.fits,F,by rw [g],by rw [g];omega,by rw [g];omega,hv,by have:=qbb H;omega⟩⟩
 ·have:(bif decide (t.rule<0) then some true else some (decide ((l.rules.length:Int)<=t.rule)):Option Bool)=some true:=by
   by_cases h0:t.rule<0;rw [ql h0];rfl
   ·rw [qg h0,ql (by omega)];rfl
  rw [this,qa,qe];exact ⟨_,rfl,no (by decide)⟩
theorem kafg (t:Tm) (A:List Tm) (e:Int) (ht:t.size<=1000) (hA:∀ a∈A,a.size<=1000) (hl:A.length<=1000000):∃ b,kab (kcx t (A,e)) fuel (false,0)=some b/\(b=true↔t∈A):=by
 refine kv7 A.length (by omega) (fun i x=>x.2=(i:Int)/\(x.1=true↔t∈A.take i)) (fun b=>b=true↔t∈A) (fun i x hi hx=>?_) (fun x hx=>?_) (false,0) ⟨rfl,by simp⟩
 ·obtain ⟨f,j⟩:=x;obtain ⟨e1,e2⟩:=hx;simp only at e1 e2;subst e1;obtain ⟨a,ha⟩:∃ a,A[i]?=some a:=⟨_,qb hi⟩;have hm:=qj ha;have c:A.take (i+1)=A.take i++[a]:=by rw [List.take_add_one,ha];rfl
  unfold kcx;simp only;rw [kdx hi,qe,kai _];cases f with
  | true=>
   rw [qe,qa];exact ⟨_,rfl,rfl,by simp only [true_iff];rw [c,qat];exact .inl (e2.1 rfl)⟩
  | false=>
   rw [qd,kag,ha,qa,kaio _ _ (hA a hm) ht,qa,qa];refine ⟨_,rfl,rfl,?_⟩;simp only;rw [beq_iff_eq,cmpT_eq0,c,qat,qav];constructor;exact fun h => .inr h.symm
   ·rintro (h | h);have:=e2.2 h;cases this
    ·exact h.symm
 ·obtain ⟨f,j⟩:=x;obtain ⟨e1,e2⟩:=hx;simp only at e1 e2;subst e1;unfold kcx;simp only;rw [kcz,qd];exact ⟨_,rfl,by rw [qbm] at e2;exact e2⟩
theorem kahn (h:Sab) (u:Tm) (d:u∈h.yb):∃ c,ChP [h] c/\kok [h] c 1=u:=by
 obtain ⟨n,hn,rfl⟩:=qaj.1 d;have hc:ChP [h] [(n:Int)]:=⟨rfl,fun i f m hi hm=>by
  have a:i=0:=by have:=kbb hi;simpa using this
  subst a;cases hi;cases hm;omega⟩
 obtain ⟨m,t,h1,_,b,e⟩:=kyq hc 0 h rfl;cases h1;refine ⟨_,hc,?_⟩;rw [qa8,qb hn] at b;exact e.trans (qs b).symm
theorem kad1 {h:Sab} {c:List Int} (hc:ChP [h] c):kok [h] c 1∈h.yb:=by obtain ⟨m,t,_,_,b,a⟩:=kyq hc 0 h rfl;have a:kok [h] c 1=t:=a;rw [a];exact qj b
theorem k1g (l:La) (t:Tm) (x:kel) (hl:koj l):ke3 l t x=some true:=by
 refine Ev.eq ?_;unfold ke3;have aw:kfg=some true:=rfl;have g:Ev (Option.bind (ke0 l) fun v1=>(bif (!v1) then (some (true)) else (Option.bind (kbj t 30) fun v2=>(bif (!v2) then (some (true)) else (some (decide (40<(List.length x.yi:Int))))))):Option Bool) fun v=>v=false->t.size<=30/\x.yi.length<=40:=by
  have Y:∃ b,ke0 l=some b:=by unfold ke0;cases decide ((List.length l.rules:Int)<=20) <;> exact ⟨_,rfl⟩
  obtain ⟨b,C⟩:=Y;rw [C,qa];refine keq (fun _=>⟨_,rfl,fun h=>by cases h⟩) fun _=>?_;rw [show kbj t 30=some (decide (t.size<=30)) from kq3 t 30 (by omega),qa];refine keq (fun _=>⟨_,rfl,fun h=>by cases h⟩) fun q=>⟨_,rfl,fun h=>?_⟩;have q:decide (t.size<=30)=true:=by simpa using q
  have h:=qbb h;exact ⟨qbd q,by omega⟩
 obtain ⟨b,g1,g2⟩:=g;rw [g1,qa,aw];refine keq (fun _=>⟨_,rfl,rfl⟩) fun C=>?_;obtain ⟨Z,hp⟩:=g2 C;obtain ⟨ro,o1,o2⟩:=kahq hl Z hp x.yj;rw [o1,qa];have gl:Ev ((bif (ro.2 != 0) then (some (true)) else (Option.bind (kd5 (ro.1)) fun v7=>(some (!v7)))):Option Bool) fun v=>v=false->ro.2=0/\k54 ro.1:=by refine keq (fun _=>⟨_,rfl,fun h=>by cases h⟩) fun h0=>?_;obtain ⟨lb,q1,q2⟩:=kac4 ro.1;rw [q1,qa];exact ⟨_,rfl,fun h=>⟨qa0.1 h0,q2 (by simpa using h)⟩⟩
 obtain ⟨b2,gl1,gl2⟩:=gl;rw [gl1,qa];refine keq (fun _=>⟨_,rfl,rfl⟩) fun K=>?_;obtain ⟨h0,o⟩:=gl2 K;obtain ⟨D,L,M,aa,S,u,y,k,r,s,v,B,p,N,E,O,P,hd,ab,T,F,U⟩:=o2 h0;have z:=D.good r (qj E);obtain ⟨d,ed⟩:∃ d,d=ro.1:=⟨_,rfl⟩;rw [<- ed] at hd o F ⊢;obtain ⟨hh,eh⟩:∃ hh,hh=Sab.mk r.symbol (upT l r.symbol x.yj.toNat):=⟨_,rfl⟩;rw [<- eh] at hd;have j:hh.yb=upT l r.symbol x.yj.toNat:=by rw [eh]
 have A:hh.yf=r.symbol:=by rw [eh]
 subst hd;have G:∀ w∈hh.yb,w.size<=24:=fun w q=>by rw [j] at q;have:=(upT_mem.1 q).1;omega
 have m:k9q l hh:=⟨by rw [j];omega,by rw [j];omega,fun w q=>by have ac:=G w q;rw [j] at q;rw [A];exact ⟨z.sym0,z.sym1,by have:=depth_le_size w;omega,((k5w D).1 q).2⟩⟩;have H:BodyZ l [hh] (-1) y:=by
  have C:=p.body [hh] hh s k r rfl N E A O;cases C with
  | hole a b c d e=>exact .hole a b c d fun h=>by omega
  | node a b c d e f=>exact .node a b c (fun h=>by omega) e f
 have V:kabt l (Saa.mk y [hh]):=⟨o,by simp,fun h Q=>by obtain rfl:=qav.1 Q;exact m,H.toP⟩;have n:kgv [hh]=hh.yb.length:=by simp [kgv]
 obtain ⟨ra,a1,a2,_,a4,a5⟩:=all_d V (by show kgv [hh]<=300;rw [n,j];omega) (by rw [kacx y hh m.pos m.few];show _=some ((kgv [hh]:Int),0);rw [n]);have a5:ra.1.length<=kgv [hh]:=a5;have I:kji l (Saa.mk y [hh])=some 0:=by
  have l1:kab (kkj l (Saa.mk y [hh])) fuel 0=some (.inl ()):=by refine kcc 1 (fun i=>(i:Int)) _ (fun i hi=>?_) rfl;obtain rfl:i=0:=(by omega);unfold kkj;rw [show decide (((0:Nat):Int)<((Saa.mk y [hh]).ya.length:Int))=true from rfl,qe,show idx (Saa.mk y [hh]).ya ((0:Nat):Int)=some hh from rfl,qa,kacr hl M (by rw [A];exact z.sym0) (by rw [A];exact z.sym1) m G (by rw [j];exact kacl _ _ _),qa];rfl
  have R:khf fuel l (Saa.mk y [hh]) y (-1)=some 0:=k1l (by simp) (by have:=D.rules;omega) D.good fuel y (-1) (qaz (kan (by have:=p.nodes;omega))) (by have:=p.nodes;omega) H;unfold kji;rw [L,qa,show ((0:Int) != 0)=false from rfl,qd,show decide ((6:Int)<((Saa.mk y [hh]).ya.length:Int))=false from rfl,qd,l1,qa];simp only [qan];rw [R,qa,show ((0:Int) != 0)=false from rfl,qd,F,qa,qg (by omega),qd]
 rw [kacz fuel t x.yi u (kan (by omega)) (by omega) B,qa,a1,qa];simp only [show ((0:Int) != 0)=false from rfl,qd];rw [a2,show ((0:Int) != 0)=false from rfl,qd,I,qa,show ((0:Int) != 0)=false from rfl,qa,qd];obtain ⟨fb,f1,f2⟩:=kafg t ra.1 ra.2 (by omega) (fun a ha=>by obtain ⟨c,hc,rfl⟩:=(a4 a).1 ha;exact kaa2 V c) (by rw [n] at a5;rw [j] at a5;omega);rw [f1,qa,ksx fuel u (qaz (kan (by have:=B.size;omega))) (by have:=B.size;omega),qa];have J:fb=decide ((u.size:Int)<=x.yj):=by
  rw [Bool.eq_iff_iff,f2,decide_eq_true_iff,a4];constructor;rintro ⟨c,hc,hc2⟩;have:=(p.fill [hh] c).1 hc2;have X:=kad1 hc;rw [this,j] at X;have:=(upT_mem.1 X).1;omega
  ·intro h;obtain ⟨c,hc,hc2⟩:=kahn hh u (by rw [j];exact (k5w D).2 ⟨by omega,P⟩);exact ⟨c,hc,(p.fill [hh] c).2 hc2⟩
 rw [J,beq_self_eq_true,qe];exact ⟨_,rfl,rfl⟩
open Go Go.RowKit Go.Proofs Go.Proofs.Tryz
variable {P:Program} {sp:Nat->Bool}
def k8x : List (String × DataW Unit) := [("math/bits.deBruijn32tab", Rows.laid_math_bits_deBruijn32tab), ("math/bits.deBruijn64tab", Rows.laid_math_bits_deBruijn64tab), ("internal/strconv.uint64pow10", Rows.laid_internal_strconv_uint64pow10), ("unicode/utf8.acceptRanges", Rows.laid_unicode_utf8_acceptRanges), ("unicode/utf8.first", Rows.laid_unicode_utf8_first)]
theorem ku5 {H:Type} {enc:TypeId×Value->H} {a:Assume} {C:Checked} {os:Os} {f:FuncId} {fn:Func} {s:ChangeSpec} {conds:List PathCond} {apart fresh b again:Bool} {X:World->Array Value->Prop}
  (o:∀ (w w':World) (args:Array Value),w.heap=w'.heap->X w args->X w' args)
  (own:ownKnob C.prog.godebug=none) (started:os.Started) (noInit:C.prog.inits.idxOf? f=none) (k:C.prog.funcs[f]?=some fn)
  (witness:∃ (w:World) (tape:Tape) (i:Input),w.os=os/\(w.forCall tape i).Shaped C.prog/\i.vars=[]/\Input.okWide C.prog (w.forCall tape i) .any w.heap.size f i /\
   ((s.pre enc C.prog fn conds apart (w.forCall tape i).memory i.args/\X (w.forCall tape i).memory i.args)/\sizedMet enc C.prog fn (OpenSpec.ofChange s) apart (w.forCall tape i).memory i.args)/\a.holds C.prog (lone (Frame.enter C.prog f i.args .normal) [] (w.forCall tape i)))
  (contract:∀ (W:World) (base:Nat) (args:Array Value) (ds gs:List (DataW H)) (before:List MemPlace),
   (∀ (j:Nat) t v,fn.params[j]?=some t->args[j]?=some v->Value.okWide C.prog W .any base t v) ->
   DataW.Whole enc C.prog fn.params.toList s.vars apart W args.toList ds gs before->X W args->W.ShapedOpen C.prog ->
   Calls C.prog f args W fun e W'=>∃ v,e = .returned v/\s.post enc C.prog fn apart fresh b again W args v W'):
  ReturnsInHanded a C os f .any (fun w args=>(s.pre enc C.prog fn conds apart w args/\X w args)/\sizedMet enc C.prog fn (OpenSpec.ofChange s) apart w args) (s.post enc C.prog fn apart fresh b again):=by
 refine returnsInHanded_of_calls own started noInit witness ?_;intro w tape i _ l _ m c h;obtain ⟨_,_,_,fn',d,_,_,_,_,g⟩:=m;have e:fn'=fn:=qs (d.symm.trans k);subst e;obtain ⟨⟨⟨ds,gs,before,p,hc⟩,hx⟩,r⟩:=c;have n:=DataW.Whole.of_heap (w':=w.forCall tape i) (by rfl) p;refine (contract (w.forCall tape i) w.heap.size i.args ds gs before g n (o _ _ _ (by rfl) hx) l).mono fun e W' ⟨v,q,hp⟩=>?_;subst q;exact ChangeSpec.post_blind hp
noncomputable def k1m (os:Os):World:=
 let w0:=World.holding prog os ⟨#[],#[],[]⟩
 { w0 with heap:=(((((w0.heap).modify 0 (fun | Obj.cells _ t fr=>Obj.cells gv0 t fr | o=>o)).modify 1 (fun | Obj.cells _ t fr=>Obj.cells gv1 t fr | o=>o)).modify 2 (fun | Obj.cells _ t fr=>Obj.cells gv2 t fr | o=>o)).modify 4 (fun | Obj.cells _ t fr=>Obj.cells gv4 t fr | o=>o)).modify 5 (fun | Obj.cells _ t fr=>Obj.cells gv5 t fr | o=>o) }
theorem k27 (os:Os) (args:Array Value):laidMetH prog k8x ((k1m os).forCall (fun _ _=>0) ⟨#[],args,[]⟩).memory:=
 laidMetH_of_parts (laidMet_of_run' 8 (by kernel_rfl) (by kernel_rfl)) (by kernel_rfl)
theorem pl_ty:prog.cellsOf 3=1/\prog.cellsOf 22=1/\prog.cellsOf 31=2:=⟨by kernel_rfl,by kernel_rfl,by kernel_rfl⟩
theorem kakb {r:Reach} {b0:Nat} {v:Value} {d:DataW H} {p:List MemPlace} (hv:Value.okWide prog w r b0 31 v) (h:DataW.Trod enc prog w base spare held 31 v d p):∃ x,RF Any w v (kh0 x)/\True:=by
 obtain ⟨z1,z2,z3⟩:=pl_ty;obtain ⟨cs,rfl,g⟩:=okWide_struct underlying31 hv;obtain ⟨fuel,e⟩:=h;obtain ⟨xs,n,i,_,b,f,e⟩:=DataW.trod_struct underlying31 e;rw [z3] at b;obtain ⟨c0,c1,rfl⟩:∃ c0 c1,cs=#[c0,c1]:=by
  have b:cs.toList.length=2:=by simpa [Value.cells] using b
  match hc:cs.toList,b with
  | [c0,c1],_=>exact ⟨c0,c1,by cases cs;simp_all⟩
 have h0:=e 0 _ rfl;have h1:=e 1 _ rfl;rw [qb (by rw [f];decide)] at h0 h1;obtain ⟨v,ns,e0,k⟩:=ktf h0;obtain ⟨a,e1,ha⟩:=kl7 h1;simp [z1,z2,Value.cells] at e0 e1;subst e0 e1;refine ⟨⟨ns,a⟩,k6b [c0, .int .i64 a] [(eL 1 eI) ns,eI a] rfl (kpz _ fun j y hy=>?_),trivial⟩
 match j with
 | 0=>simp at hy;subst hy;exact ⟨rfl,fun u c=>by simp at c;subst c;exact k0l k⟩
 | 1=>simp at hy;subst hy;exact ⟨rfl,fun u c=>by simp at c;subst c;exact .atom rfl⟩
 | j+2=>simp at hy
open Go Go.RowKit Go.ChangeShapes Go.WideShapes Go.Proofs.Tryz
theorem kakz:laidOutB Tryz.checked.prog=true:=by as_aux_lemma=>kernel_rfl
theorem kahf:mapsRowed Tryz.checked.prog=true:=by as_aux_lemma=>kernel_rfl
theorem kah5:Tryz.checked.prog.stopsHeard=true:=by as_aux_lemma=>kernel_rfl
theorem k9w:Tryz.checked.prog.mayEnter=true:=by as_aux_lemma=>kernel_rfl
theorem kakw:Tryz.checked.prog.make=some .cut:=by as_aux_lemma=>kernel_rfl
set_option maxRecDepth 100000 in
theorem kw3 (os:Os) (started:os.Started) (H:Type) (enc:TypeId×Value->H):
  ReturnsInHanded {} Tryz.checked os 3 .any (fun w args=>(Rows.sketchBackSpec.pre enc prog Tryz.f3 Rows.sketchBackRow.domain false w args/\laidMetH prog Rows.sketchBackRow.laid w)/\sizedMet enc prog Tryz.f3 (OpenSpec.ofChange Rows.sketchBackSpec) false w args) (Rows.sketchBackSpec.post enc prog Tryz.f3 false true false false):=by
 refine ku5 (C:=Tryz.checked) (X:=fun w _=>laidMetH prog k8x w) (fun _ _ _ hh h=>h.of_heap hh) kad9 started (by kernel_rfl) func3
  (ChangeSpec.witness_at (enc:=enc) (C:=Tryz.checked) (os:=os) (X:=fun w _=>laidMetH prog k8x w) false (k1m os) #[.agg #[.string ⟨#[]⟩, .slice none 0 0, .slice none 0 0, .slice none 0 0], .agg #[.int .i64 0, .slice none 0 0], .agg #[.slice none 0 0, .int .i64 0]] 8 rfl (by kernel_rfl) (by kernel_rfl) (by kernel_rfl) (by kernel_rfl) (by kernel_rfl) (k27 os _)) ?_
 intro W base args ds gs before b g u k;have a:∀ (j:Nat) t v,Tryz.f3.params[j]?=some t->args[j]?=some v->Value.okWide prog W .any base t v:=b;have c:=g;obtain ⟨p,q,d,l,rfl,m,n⟩:=g;have hA:DataW.TrodAll enc prog W 0 (fun _=>true) true Tryz.f3.params.toList args.toList ds p:=d;rw [Tryz.params3] at hA a;obtain ⟨v0,vs0,d0,ds0,p0,q0,f,rfl,rfl,h0,r0⟩:=trodAll_cons hA;obtain ⟨v1,vs1,d1,ds1,p1,q1,rfl,rfl,rfl,h1,r1⟩:=trodAll_cons r0;obtain ⟨v2,vs2,d2,ds2,p2,q2,rfl,rfl,rfl,o,r2⟩:=trodAll_cons r1;obtain ⟨rfl,rfl,rfl⟩:=trodAll_nil r2;obtain rfl:args=#[v0,v1,v2]:=by cases args;simp_all
 obtain ⟨rfl,rfl⟩:=trodVars_none l;obtain ⟨x0,e0,b0⟩:=in_La (a 0 26 v0 rfl rfl) h0;obtain ⟨x1,e1,_⟩:=in_Tm (a 1 29 v1 rfl rfl) h1;obtain ⟨x2,e2,_⟩:=kakb (a 2 31 v2 rfl rfl) o;refine (kacy [eLa x0,eTm x1,kh0 x2] (knt x0 x1 x2 true (k1g x0 x1 x2 b0)) rfl ?_).mono fun e W' ⟨r,s⟩=>?_
 ·intro i v x hv hx
  match i with
  | 0=>simp at hv hx;subst hv hx;exact e0
  | 1=>simp at hv hx;subst hv hx;exact e1
  | 2=>simp at hv hx;subst hv hx;exact e2
  | i+3=>simp at hv
 subst r;exact ⟨_,rfl,kae7 kafb (by rw [Tryz.params3];intro t ht;simp at ht;rcases ht with rfl | rfl | rfl <;> exact ⟨by kernel_rfl,qbd (by kernel_rfl)⟩) rfl underlying4 rfl rfl c s⟩
set_option maxHeartbeats 4000000 in
theorem kw4:joinedFacts Tryz.checked.prog 3 Tryz.f3 Rows.sketchBackSpec Rows.sketchBackRow=true:=by
 unfold joinedFacts;simp only [k9w,kahv,kakw,kakz,kahf,kah5,qr,Bool.and_true]
 repeat' apply And.intro
 all_goals (as_aux_lemma=>kernel_rfl)
theorem kx6:Rows.SketchBackSaid:=
 OpenClaim.holds_of_wide 3 Tryz.f3 rfl rfl rfl rfl rfl rfl rfl ⟨rfl,rfl,rfl,rfl,rfl⟩ rfl rfl rfl rfl rfl (by kernel_rfl) func3 kw4
  (qbd (by kernel_rfl)) (by unfold Func.isWrapper;rw [qi (qbb (by kernel_rfl))];exact ⟨rfl,rfl⟩)
  (fun os started H enc _=>kw3 os started H enc)
theorem sketchBack_card_holds:Rows.SketchBackCardSaid:=
 Claim7.holds_tied_plain_at .later [] [.data, .data, .data, .data, .pinned] true (true, "f609954bdea13bc5d1fe2bb8a7f1bd874e81da2938ab155d6f95a11331fb7e5f") true kx6 (fun _ h => by cases h) (by kernel_rfl) (fun _ h => by cases h) sketchBack_row_tie rfl ⟨rfl, rfl⟩ (by kernel_rfl) rfl
  (fun f fn b a=>by
   obtain rfl : f = 3 := qs ((show prog.funcNamed "synthesis/synthesislaw34.SketchBack" = some 3 by kernel_rfl).symm.trans b) |>.symm;obtain rfl:fn=Tryz.f3:=(qs (func3.symm.trans a)).symm;exact ⟨by kernel_rfl,fun j t ht=>by
    rw [Tryz.params3] at ht
    match j with
    | 0=>obtain rfl:=qs ht;exact (show prog.wantsStandIn 26=false by kernel_rfl)
    | 1=>obtain rfl:=qs ht;exact (show prog.wantsStandIn 29=false by kernel_rfl)
    | 2=>obtain rfl:=qs ht;exact (show prog.wantsStandIn 31=false by kernel_rfl)
    | j+3=>simp at ht⟩)
  (by kernel_rfl)
end Go.Proofs.YtdnfbjahbkpibaaGreatDoor
