import Derived.Test.YtaimpcnpifoidaaGreatDoorGu
import Derived.Test.YtaimpcnpifoidaaGreatDoorVd
import Derived.Test.YtaimpcnpifoidaaGreatDoorVd
import Derived.Test.YtaimpcnpifoidaaGreatDoorOq
import Derived.Test.YtaimpcnpifoidaaGreatDoorZE
import Derived.Lib.DecodeNEq
import Derived.Lib.ItoaNum
set_option linter.all false
set_option maxRecDepth 100000
namespace Go.Proofs.YtaimpcnpifoidaaGreatDoor
open Go Go.RowKit
def kgm (m s:Nat):Int:=if s<=m then (m:Int) - (s:Int) else -1
theorem k15 {l:List Tm} {i:Nat} (h:i<l.length):Tm.sizeL (l.take (i+1))=Tm.sizeL (l.take i)+l[i].size:=by rw [List.take_succ_eq_append_getElem h,Tm.sizeL_snoc]
theorem kr0 (l:List Tm) (i:Nat):i<=l.length->i<=Tm.sizeL (l.take i)/\Tm.sizeL (l.take i)<=Tm.sizeL l:=by
  intro hi
  induction i with
  | zero=>exact ⟨qz _,by simp [Tm.sizeL]⟩
  | succ i ih=>
    have h1:=ih (by omega);have h2:=k15 (l:=l) (i:=i) (by omega);have h3:=Tm.size_pos l[i];refine ⟨by omega,?_⟩;have:Tm.sizeL l=Tm.sizeL (l.take (i+1))+Tm.sizeL (l.drop (i+1)):=by
      have gen:∀ a b:List Tm,Tm.sizeL (a++b)=Tm.sizeL a+Tm.sizeL b:=fun a b=>by
        induction a with
        | nil=>simp [Tm.sizeL]
        | cons x a ih=>simp only [qam,Tm.sizeL,ih];omega
      rw [<- gen,qa9]
    omega
theorem kxv:∀ (n:Nat) (t:Tm) (m:Nat),m<=10000->m<n->kel n t (m:Int)=some (kgm m t.size)/\kiy n t (m:Int)=some (kgm m t.size)
  | 0,t,m,_,h=>by omega
  | n+1,t,m,hm,hn=>by
    show khk (kel n) t (m:Int)=_/\kl7 (kiy n) t (m:Int)=_;obtain ⟨r0,l⟩:=t;have g:(Tm.mk r0 l).size=Tm.sizeL l+1:=rfl;have a:w64 ((m:Int) - 1)=kgm m (1+Tm.sizeL (l.take 0)):=(by rw [kdn (by omega) (by omega)];simp only [List.take_zero,Tm.sizeL,kgm];split <;> omega);obtain ⟨r,r',h1,h2,h3,o⟩:=kj9 (step:=kii (Tm.mk r0 l) (kiy n)) (step':=kec (Tm.mk r0 l) (kel n)) (min l.length m) (by omega)
      (fun i=>(kgm m (1+Tm.sizeL (l.take i)),(i:Int))) (fun i=>(kgm m (1+Tm.sizeL (l.take i)),(i:Int))) (fun r r'=>Sum.elim id id r=kgm m (Tm.sizeL l+1)/\r'=kgm m (Tm.sizeL l+1)) (fun i hi=>by
      have c:i<l.length:=(by omega);have e1:(Tm.mk r0 l).args[i]?=some l[i]:=qc c;have b1:decide ((i:Int)<((Tm.mk r0 l).args.length:Int))=true:=qe (by show (i:Int)<(l.length:Int);omega);have e:=kr0 l i (by omega);simp only [kii,kec,b1,qf,qa,kak,e1];by_cases hp:1+Tm.sizeL (l.take i)<=m
      · have hv:kgm m (1+Tm.sizeL (l.take i))=((m - (1+Tm.sizeL (l.take i)):Nat):Int):=by unfold kgm;rw [qj hp];omega
        obtain ⟨q1,q2⟩:=kxv n l[i] (m - (1+Tm.sizeL (l.take i))) (by omega) (by omega);have d:kgm (m - (1+Tm.sizeL (l.take i))) l[i].size=kgm m (1+Tm.sizeL (l.take (i+1))):=(by rw [k15 c];unfold kgm;split <;> split <;> omega);rw [hv,qe (show (0:Int)<=((m - (1+Tm.sizeL (l.take i)):Nat):Int) by omega),qb (show ¬ ((m - (1+Tm.sizeL (l.take i)):Nat):Int)<0 by omega)];simp only [qf,qd,q1,q2,qa,d,kcf (n:=i) (by omega)]
        first | exact .inl ⟨rfl,rfl⟩ | exact .inl ⟨trivial,trivial⟩
      · have hv:kgm m (1+Tm.sizeL (l.take i)) = -1:=by unfold kgm;rw [qg hp]
        have f:kgm m (Tm.sizeL l+1) = -1:=(by unfold kgm;rw [qg (by omega)]);rw [hv,f];exact .inr ⟨_,_,rfl,rfl,rfl,rfl⟩) (by
      have e:=kr0 l (min l.length m) (by omega);by_cases p:l.length<=m
      · have b:min l.length m=l.length:=by omega
        have b1:decide ((l.length:Int)<((Tm.mk r0 l).args.length:Int))=false:=qb (by show ¬ (l.length:Int)<(l.length:Int);omega);have f:kgm m (1+Tm.sizeL l)=kgm m (Tm.sizeL l+1):=(by rw [Nat.add_comm]);simp only [b,kii,kec,b1,qd,qa,List.take_length,f];exact ⟨_,_,rfl,rfl,rfl,rfl⟩
      · have b:min l.length m=m:=by omega
        rw [b] at e;have b1:decide ((m:Int)<((Tm.mk r0 l).args.length:Int))=true:=qe (by show (m:Int)<(l.length:Int);omega);have c:m<l.length:=(by omega);have e1:(Tm.mk r0 l).args[m]?=some l[m]:=qc c;have hv:kgm m (1+Tm.sizeL (l.take m)) = -1:=(by unfold kgm;rw [qg (by omega)]);have f:kgm m (Tm.sizeL l+1) = -1:=(by unfold kgm;rw [qg (by omega)]);simp only [b,kii,kec,b1,qf,qa,kak,e1,hv,f];exact ⟨_,_,rfl,rfl,rfl,rfl⟩)
    have j:kaa (kii (Tm.mk r0 l) (kiy n)) fuel (w64 ((m:Int) - 1),0)=some r:=(by rw [a];simpa using h1);have k:kaa (kec (Tm.mk r0 l) (kel n)) fuel (w64 ((m:Int) - 1),0)=some r':=(by rw [a];simpa using h2);unfold khk kl7;rw [j,k,g,<- o];refine ⟨rfl,?_⟩;rw [o,<- h3];cases r <;> rfl
theorem kpq {t:Tm}:Tm.sizeL t.args+1=t.size:=by cases t;rfl
theorem km8 (l:List Tm):l.length<=Tm.sizeL l:=by have:=(kr0 l l.length (qy _)).1;rw [List.take_length] at this;exact this
theorem k8u {l:List Tm} {i:Nat} (h:i<l.length):Tm.depthL (l.take (i+1))=max (Tm.depthL (l.take i)) l[i].depth:=by rw [List.take_succ_eq_append_getElem h,Tm.depthL_snoc]
theorem k44 (t:Tm):t.depth<=t.size:=by
  refine Tm.ind (P:=fun t=>t.depth<=t.size) (fun r l ih=>?_) t;show Tm.depthL l+1<=Tm.sizeL l+1;have:∀ l:List Tm,(∀ t∈l,t.depth<=t.size)->Tm.depthL l<=Tm.sizeL l:=fun l=>by
    induction l with
    | nil=>exact fun _=>qy _
    | cons x l ih=>
      intro h;have h1:=h x (qt ..);have h2:=ih fun t ht=>h t (qn _ ht);show max x.depth (Tm.depthL l)<=x.size+Tm.sizeL l;omega
  have:=this l ih;omega
theorem k60:∀ (n:Nat) (t:Tm),t.size<=1000->t.size<=n->kd9 n t=some (t.depth:Int)
  | 0,t,_,h=>by have:=Tm.size_pos t;omega
  | n+1,t,ht,hn=>by
    show kg2 (kd9 n) t=_;obtain ⟨r0,l⟩:=t;have e:(Tm.mk r0 l).size=Tm.sizeL l+1:=rfl;have d:=km8 l;have hl:=kwv (step:=ke7 (Tm.mk r0 l) (kd9 n)) l.length (by omega) (fun i=>((Tm.depthL (l.take i):Int),(i:Int))) (Tm.depthL l:Int) (fun i hi=>by
      have e1:(Tm.mk r0 l).args[i]?=some l[i]:=qc hi;have b1:decide ((i:Int)<((Tm.mk r0 l).args.length:Int))=true:=qe (by show (i:Int)<(l.length:Int);omega);have hs:=Tm.sizeL_mem (qv hi);have q:=k60 n l[i] (by omega) (by omega);have a:imax (Tm.depthL (l.take i):Int) (l[i].depth:Int)=(Tm.depthL (l.take (i+1)):Int):=(by rw [k8u hi];unfold imax;split <;> omega);simp only [ke7,b1,qf,kak,e1,qa,q,a,kcf (n:=i) (by omega)]) (by
      have b1:decide ((l.length:Int)<((Tm.mk r0 l).args.length:Int))=false:=qb (by show ¬ (l.length:Int)<(l.length:Int);omega);simp only [ke7,b1,qd,List.take_length])
    have b:kaa (ke7 (Tm.mk r0 l) (kd9 n)) fuel (0,0)=some (Tm.depthL l:Int):=(by simpa [Tm.depthL] using hl);unfold kg2;rw [b,qa];have hd:=k44 (Tm.mk r0 l);have c:(Tm.mk r0 l).depth=Tm.depthL l+1:=rfl;rw [kcf (by omega),c]
theorem kz0:∀ (n:Nat) (t:Tm) (k:Nat),k<=1000->t.size<=1000->t.size<=n->khs n t (k:Int)=some (decide (t.depth<=k))
  | 0,t,k,_,_,h=>by have:=Tm.size_pos t;omega
  | n+1,t,k,hk,ht,hn=>by
    show kle (khs n) t (k:Int)=_;obtain ⟨r0,l⟩:=t;have e:(Tm.mk r0 l).size=Tm.sizeL l+1:=rfl;have f:(Tm.mk r0 l).depth=Tm.depthL l+1:=rfl;have d:=km8 l;unfold kle;by_cases h0:k=0
    · subst h0
      rw [qb (show ¬ (Tm.mk r0 l).depth<=0 by omega)];rfl
    · have c0:((k:Int) == 0)=false:=by rw [qae];omega
      rw [c0];have hl:=klu (step:=kjd (Tm.mk r0 l) (k:Int) (khs n)) l.length (by omega) (fun i=>(i:Int)) (fun i=>if (l.drop i).all (fun t=>decide (t.depth<=k - 1))=true then .inl () else .inr false) (fun i hi=>by
        have e1:(Tm.mk r0 l).args[i]?=some l[i]:=qc hi;have b1:decide ((i:Int)<((Tm.mk r0 l).args.length:Int))=true:=qe (by show (i:Int)<(l.length:Int);omega);have hs:=Tm.sizeL_mem (qv hi);have a:w64 ((k:Int) - 1)=((k - 1:Nat):Int):=(by rw [kdn (by omega) (by omega)];omega);have q:=kz0 n l[i] (k - 1) (by omega) (by omega) (by omega);have hd:l.drop i=l[i]::l.drop (i+1):=qaa hi;simp only [kjd,b1,qf,kak,e1,qa,a,q,hd,List.all_cons,kcf (n:=i) (by omega)];cases decide (l[i].depth<=k - 1) with
        | true=>exact .inl ⟨rfl,by simp⟩
        | false=>exact .inr rfl) (by
        have b1:decide ((l.length:Int)<((Tm.mk r0 l).args.length:Int))=false:=qb (by show ¬ (l.length:Int)<(l.length:Int);omega);simp only [kjd,b1,qd,List.drop_length,List.all_nil,qa6])
      have c:kaa (kjd (Tm.mk r0 l) (k:Int) (khs n)) fuel 0=some (if l.all (fun t=>decide (t.depth<=k - 1))=true then .inl () else .inr false):=(by simpa using hl);have b:l.all (fun t=>decide (t.depth<=k - 1))=decide ((Tm.mk r0 l).depth<=k):=by
        have gen:∀ l:List Tm,l.all (fun t=>decide (t.depth<=k - 1))=decide (Tm.depthL l<=k - 1):=fun l=>by
          induction l with
          | nil=>simp [Tm.depthL]
          | cons x l ih=>
            rw [List.all_cons,ih,<- Bool.decide_and];exact qbj.2 (by show _↔max x.depth (Tm.depthL l)<=k - 1;omega)
        rw [gen];exact qbj.2 (by omega)
      simp only [qd];rw [c,b,qa];cases decide ((Tm.mk r0 l).depth<=k) <;> rfl
theorem kxu:∀ (n:Nat) (l:La) (s:Int) (t:Tm),t.size<=1000->t.size<=n->(∀ x∈l.rules,x.kind≠3->x.args.length=0)->∃ c,khw n l s t=some c/\keo n l s t=some c
  | 0,l,s,t,_,h,_=>by have:=Tm.size_pos t;omega
  | n+1,l,s,t,ht,hn,hr=>by
    show ∃ c,kll (khw n) l s t=some c/\khg (keo n) l s t=some c;obtain ⟨r0,ts⟩:=t;have m:(Tm.mk r0 ts).size=Tm.sizeL ts+1:=rfl;have k:=km8 ts;unfold kll khg;have b:(Tm.mk r0 ts).rule=r0:=rfl;have a:(Tm.mk r0 ts).args=ts:=rfl;simp only [b,a];by_cases h0:r0<0
    · rw [qe h0];exact ⟨1,rfl,rfl⟩
    by_cases h1:(l.rules.length:Int)<=r0
    · rw [qb h0,qe h1];exact ⟨1,rfl,rfl⟩
    rw [qb h0,qb h1];obtain ⟨x,o,d⟩:=kvd (xs:=l.rules) (i:=r0) (by omega) (by omega);simp only [qd,qa,o];cases x.symbol != s with
    | true=>exact ⟨3,rfl,rfl⟩
    | false=>
      have e:khy x=some (x.args.length:Int):=by
        unfold khy;by_cases hk:x.kind=3
        · rw [show (x.kind != 3)=false by rw [qap];exact hk];rfl
        · rw [show (x.kind != 3)=true by rw [qbl];exact hk,hr x d hk];rfl
      simp only [qd,e,qa];by_cases hl:(ts.length:Int)=(x.args.length:Int)
      · rw [show ((ts.length:Int) != (x.args.length:Int))=false by rw [qap];exact hl]
        obtain ⟨r,h1,h2⟩:=krr (step:=ki8 l (Tm.mk r0 ts) (khw n) x) (step':=kfk l (Tm.mk r0 ts) (keo n) x) ts.length (by omega) (fun i=>(i:Int)) (fun i hi=>by
          have e1:ts[i]?=some ts[i]:=qc hi;have f:i<x.args.length:=(by omega);have e2:x.args[i]?=some x.args[i]:=qc f;have b1:decide ((i:Int)<(ts.length:Int))=true:=qe (by omega);have hs:=Tm.sizeL_mem (qv hi);obtain ⟨c,c1,c2⟩:=kxu n l x.args[i] ts[i] (by omega) (by omega) hr;simp only [ki8,kfk,a,b1,qf,kak,e1,e2,qa,c1,c2,kcf (n:=i) (by omega)];cases c != 0 with
          | true=>exact .inr ⟨_,rfl,rfl⟩
          | false=>exact .inl ⟨rfl,rfl⟩) (.inl ()) (by
          have b1:decide ((ts.length:Int)<(ts.length:Int))=false:=qb (by omega);simp only [ki8,a,b1,qd]) (by
          have b1:decide ((ts.length:Int)<(ts.length:Int))=false:=qb (by omega);simp only [kfk,a,b1,qd])
        have g:kaa (ki8 l (Tm.mk r0 ts) (khw n) x) fuel 0=some r:=(by simpa using h1);have j:kaa (kfk l (Tm.mk r0 ts) (keo n) x) fuel 0=some r:=(by simpa using h2);simp only [qd,g,j,qa];cases r <;> exact ⟨_,rfl,rfl⟩
      · rw [show ((ts.length:Int) != (x.args.length:Int))=true by rw [qbl];exact hl]
        exact ⟨4,rfl,rfl⟩
theorem kafd (t:Tm) (m:Nat) (hm:m<=10000):kf2 t (m:Int)=some (decide (t.size<=m)):=by unfold kf2;rw [(kxv fuel t m hm (kbk (by omega))).1,qa];refine q9 some (qbj.2 ?_);unfold kgm;split <;> omega
theorem kabs (l:La) (s:Int) (t:Tm) (hl:kk5 l) (ht:t.size<=1000):∃ c,knp l s t=some c/\kh3 l s t=some c/\(c=0->k5c l/\khw fuel l s t=some 0):=by
  obtain ⟨c,c1,c2,c3⟩:=kad0 l hl;unfold knp kh3;rw [c1,c2];simp only [qa];by_cases hc:c=0
  · subst hc
    have e:((0:Int) != 0)=false:=rfl;rw [e];simp only [qd];by_cases s0:s<0
    · rw [qe s0];exact ⟨1,rfl,rfl,fun h=>absurd h (by decide)⟩
    by_cases s1:(l.symbols.length:Int)<=s
    · rw [qb s0,qe s1];exact ⟨1,rfl,rfl,fun h=>absurd h (by decide)⟩
    have f:kiy fuel t 4096=some (kgm 4096 t.size):=(kxv fuel t 4096 (by omega) (kbk (by omega))).2;have g:kf2 t 4096=some (decide (t.size<=4096)):=kafd t 4096 (by omega);have hs:khs fuel t 32=some (decide (t.depth<=32)):=kz0 fuel t 32 (by omega) (by omega) (Nat.le_of_lt (kbk (by omega)));have hd:=k60 fuel t (by omega) (Nat.le_of_lt (kbk (by omega)));have a:decide (kgm 4096 t.size<0)=false:=qb (by unfold kgm;split <;> omega);rw [qb s0,qb s1];simp only [qd,qa,f,g,hs,hd,a,qe (show t.size<=4096 by omega),qab];have b:(!(decide (t.depth<=32)))=decide ((32:Int)<(t.depth:Int)):=(by rw [<- decide_not];exact qbj.2 (by omega));rw [b];cases decide ((32:Int)<(t.depth:Int)) with
    | true=>exact ⟨2,rfl,rfl,fun h=>absurd h (by decide)⟩
    | false=>
      obtain ⟨d,d1,d2⟩:=kxu fuel l s t (by omega) (Nat.le_of_lt (kbk (by omega))) (fun x i hk=>by rw [((c3 rfl).good x i).noargs hk];rfl);simp only [qd,d1,d2,qa];exact ⟨d,rfl,rfl,fun h=>⟨c3 rfl,by rw [h]⟩⟩
  · rw [show (c != 0)=true by rw [qbl];exact hc]
    exact ⟨c,rfl,rfl,fun h=>absurd h hc⟩
theorem w64n (n:Nat) (h:n<=9223372036854775807):w64 (n:Int)=n:=kdn (by omega) (by omega)
theorem w64s (n:Nat) (h:n<=9223372036854775806):w64 ((n:Int)+1)=((n+1:Nat):Int):=kcf (by omega)
theorem kgj {σ β:Type} {st:σ->Option (σ ⊕ β)} {s s':σ} {n:Nat} (h:st s=some (.inl s')):kaa st (n+1) s=kaa st n s':=by rw [kaa,h]
theorem kbm {σ β:Type} {st:σ->Option (σ ⊕ β)} {s:σ} {b:β} {n:Nat} (h:st s=some (.inr b)):kaa st (n+1) s=some b:=by rw [kaa,h]
def mk (s:List Bool) (i:Nat):Bool:=s.getD i false
theorem kaga {α γ:Type} {a b:List α} {g:γ} {step:Int->Option (Int ⊕ (Unit ⊕ γ))} (hl:a.length=b.length) (hn:a.length<=4000000000)
    (hs:∀ i (h:i<a.length) (k:i<b.length),∃ t:Bool,step (i:Int)=(bif t then some (.inr (.inr g)) else some (.inl (w64 ((i:Int)+1))))/\(t=false↔a[i]=b[i])) (f:step (a.length:Int)=some (.inr (.inl ()))):
    Ev (kaa step fuel 0) fun r=>(r = .inl ()/\a=b)\/(r = .inr g/\a≠b):=by
  refine kj5 a.length (fun i s=>s=(i:Int)/\∀ j (h1:j<a.length) (h2:j<b.length),j<i->a[j]=b[j]) (by omega) ⟨rfl,fun j _ _ h=>by omega⟩ (fun i s hi ⟨e,h⟩=>?_) (fun s ⟨e,h⟩=>?_)
  · subst e
    obtain ⟨t,h1,h2⟩:=hs i hi (by omega);rw [h1];cases t with
    | true=>exact kaf (.inr ⟨rfl,fun c=>by subst c;exact absurd (h2.2 rfl) (by decide)⟩)
    | false=>
      refine kaf ⟨w64s i (by omega),fun j a1 a2 l=>?_⟩;by_cases d:j=i
      · subst d;exact h2.1 rfl
      · exact h j a1 a2 (by omega)
  · subst e
    rw [f];exact kaf ⟨_,rfl, .inl ⟨rfl,List.ext_getElem hl fun j h1 h2=>h j h1 h2 h1⟩⟩
theorem k9m {α:Type} {a b:List α}:((a.length:Int) != (b.length:Int))=!decide (a.length=b.length):=by
  by_cases h:a.length=b.length
  · rw [h];simp
  · rw [qb h,qbb,qbl];omega
theorem kaf2 {a b:List Int} (ha:a.length<=4000000000):Ev (kc7 a b) fun c=>c=true↔a=b:=by
  unfold kc7;rw [k9m];by_cases h:a.length=b.length
  · rw [qe h,qab,qd]
    refine ked ((kaga (g:=false) h ha (fun i h1 h2=>⟨a[i] != b[i],?_,by simp⟩) ?_).mono fun r hr=>?_)
    · simp only [kg6,kbd h1,qf,kak,qc h1,qc h2,qa]
    · simp only [kg6,kfm,qd]
    · rcases hr with ⟨rfl,hr⟩ | ⟨rfl,hr⟩
      · exact kaf (by simp [hr])
      · exact kaf (by simp [hr])
  · rw [qb h,qbb,qf]
    exact kaf (by simp;intro e;exact h (by rw [e]))
theorem beqB_iff {a b:BA}:(a.toList == b.toList)=true↔a=b:=by rw [beq_iff_eq];exact ⟨kkn,fun h=>by rw [h]⟩
def modR (r:Ru):Prop:=r.args.length<=4000000000/\okV r.const
theorem kam7 {a b:Ru} (h1:a.symbol=b.symbol) (h2:a.kind=b.kind) (h3:a.input=b.input) (c:a.op=b.op) (d:a.args=b.args) (e:a.const=b.const):a=b:=by cases a;cases b;simp_all
theorem kafn {a b:Ru} {S:List Int->List Int->Option Bool} {E:Va->Va->Option Bool} (hS:Ev (S a.args b.args) fun c=>c=true↔a.args=b.args) (g:E a.const b.const=some (eqV a.const b.const)):
    Ev (Option.bind ((bif (a.symbol == b.symbol) then (bif (a.kind == b.kind) then (bif (a.input == b.input) then (bif (a.op.toList == b.op.toList) then (Option.bind (S a.args b.args) fun v1=>(bif v1 then (Option.bind (E a.const b.const) fun v2=>(some (v2))) else (some (false)))) else (some (false))) else (some (false))) else (some (false))) else (some (false))):Option Bool) fun v4=>some v4) fun c=>c=true↔a=b:=by
  refine ked ?_;have hne:∀ {p:Prop},¬ p->(false=true↔p):=fun h=>by simp [h]
  refine kdx (fun h1=>?_) fun h1=>kaf (kaf (hne fun e=>by subst e;simp at h1));refine kdx (fun h2=>?_) fun h2=>kaf (kaf (hne fun e=>by subst e;simp at h2));refine kdx (fun h3=>?_) fun h3=>kaf (kaf (hne fun e=>by subst e;simp at h3));refine kdx (fun f=>?_) fun f=>kaf (kaf (hne fun e=>by subst e;simp at f));refine ked (hS.mono fun c hc=>?_);refine kdx (fun d=>?_) fun d=>kaf (kaf (hne fun e=>by subst e;rw [hc.2 rfl] at d;cases d));rw [g];refine kaf (kaf ?_);rw [eqV_iff];exact ⟨fun i=>kam7 (eq_of_beq h1) (eq_of_beq h2) (eq_of_beq h3) (beqB_iff.1 f) (hc.1 d) i,fun e=>by rw [e]⟩
theorem kaef {a b:Ru} (ha:modR a) (d:modR b):True/\(Ev (kd0 a b) fun c=>c=true↔a=b):=
  ⟨trivial,kafn (S:=kc7) (E:=kcd) (kaf2 ha.1) (ks8 ha.2 d.2)⟩
theorem GoodR.mod {l:La} {r:Ru} (h:GoodR l r):modR r:=⟨by have:=h.few;omega,h.fine⟩
def syD:Sy:=⟨⟨#[]⟩,0⟩
theorem ktj {β:Type} {step:Int->Option (Int ⊕ β)} {b0:β} (n:Nat) (hn:n<=9223372036854775807) (G:Nat->Prop) (Bad:β->Prop)
    (hs:∀ i,i<n->(∀ j,j<i->G j)->Ev (step (i:Int)) fun r=>(r = .inl (w64 ((i:Int)+1))/\G i)\/∃ b,r = .inr b/\Bad b/\¬ G i) (d:step (n:Int)=some (.inr b0)):
    Ev (kaa step fuel 0) fun r=>(r=b0/\∀ i,i<n->G i)\/(Bad r/\¬ ∀ i,i<n->G i):=by
  refine kj5 n (fun i s=>s=(i:Int)/\∀ j,j<i->G j) (by omega) ⟨rfl,fun j c=>by omega⟩ (fun i s hi ⟨e,h⟩=>?_) (fun s ⟨e,h⟩=>?_)
  · subst e
    obtain ⟨r,h1,h2⟩:=hs i hi h;rcases h2 with ⟨rfl,h2⟩ | ⟨b,rfl,h2,h3⟩
    · refine ⟨_,h1,w64s i (by omega),fun j c=>?_⟩
      rcases Nat.lt_succ_iff_lt_or_eq.1 c with c | rfl
      · exact h j c
      · exact h2
    · exact ⟨_,h1, .inr ⟨h2,fun a=>h3 (a i hi)⟩⟩
  · subst e
    exact ⟨_,d,_,rfl, .inl ⟨rfl,h⟩⟩
def letC (c:UInt8):Prop:=(97<=c.toNat/\c.toNat<=122)\/(65<=c.toNat/\c.toNat<=90)
def digC (c:UInt8):Prop:=48<=c.toNat/\c.toNat<=57
def kok (s:BA):Prop:=(1<=s.size/\s.size<=24)/\∀ i (h:i<s.data.toList.length),letC s.data.toList[i]\/(0<i/\(s.data.toList[i]=45\/digC s.data.toList[i]))
theorem k7w {s:BA} (hs:s.size<=9223372036854775807):Ev (kek s) fun b=>b=true↔kok s:=by
  unfold kek;have k:s.data.toList.length=s.size:=by rw [<- ka9]
  refine ked ((ktj (b0 := .inl ()) s.size hs (fun i=>∀ h:i<s.data.toList.length,letC s.data.toList[i]\/(0<i/\(s.data.toList[i]=45\/digC s.data.toList[i]))) (fun b=>b = .inr false) (fun i hi _=>?_) (by simp only [kcs,qb (show ¬ ((s.size:Nat):Int)<(s.size:Int) by omega),qd])).mono fun r hr=>?_)
  · have a:i<s.data.toList.length:=by omega
    have l:byt s (i:Int)=some ((s.data.toList[i]'a).toNat:Int):=(by rw [ko0,qc a];rfl);generalize hc:s.data.toList[i]'a=c at l;have g:(((c.toNat:Int) != 45)=true)↔c≠45:=(by rw [qbl];refine ⟨fun h e=>h (by rw [e];rfl),fun h e=>h (qbo.1 (show c.toNat=45 by omega))⟩);unfold kcs;simp only [qe (show (i:Int)<(s.size:Int) by omega),qf,l,qa];have e1:(bif decide (97<=(c.toNat:Int)) then bif decide ((c.toNat:Int)<=122) then some true else bif decide (65<=(c.toNat:Int)) then some (decide ((c.toNat:Int)<=90)) else some false
        else bif decide (65<=(c.toNat:Int)) then some (decide ((c.toNat:Int)<=90)) else some false:Option Bool)=some (decide ((97<=c.toNat/\c.toNat<=122)\/(65<=c.toNat/\c.toNat<=90))):=by
      rw [show decide (97<=(c.toNat:Int))=decide (97<=c.toNat) by rw [qbj];omega,show decide ((c.toNat:Int)<=122)=decide (c.toNat<=122) by rw [qbj];omega,show decide (65<=(c.toNat:Int))=decide (65<=c.toNat) by rw [qbj];omega,show decide ((c.toNat:Int)<=90)=decide (c.toNat<=90) by rw [qbj];omega];by_cases q1:97<=c.toNat <;> by_cases q2:c.toNat<=122 <;> by_cases q3:65<=c.toNat <;> by_cases q4:c.toNat<=90 <;> simp [q1,q2,q3,q4] <;> omega
    rw [e1,qa];by_cases hl:letC c
    · rw [qe (show (97<=c.toNat/\c.toNat<=122)\/(65<=c.toNat/\c.toNat<=90) from hl)]
      exact kaf (.inl ⟨rfl,fun _=>by rw [hc];exact .inl hl⟩)
    · rw [qb (show ¬ ((97<=c.toNat/\c.toNat<=122)\/(65<=c.toNat/\c.toNat<=90)) from hl)]
      simp only [qbb,qf];by_cases h0:i=0
      · subst h0
        simp only [Int.natCast_zero,qbr,qf,qa];refine kaf (.inr ⟨_,rfl,rfl,fun d=>?_⟩);have:=d a;rw [hc] at this;rcases this with h | ⟨h,_⟩
        · exact hl h
        · omega
      · have j:((i:Int) == 0)=false:=by rw [qae];omega
        simp only [j,qd];by_cases f:c=45
        · have:((c.toNat:Int) != 45)=false:=by rw [f];rfl
          simp only [this,qd,qa];exact kaf (.inl ⟨rfl,fun _=>by rw [hc];exact .inr ⟨by omega, .inl f⟩⟩)
        · simp only [g.2 f,qf]
          by_cases q1:(c.toNat:Int)<48
          · simp only [qe q1,qf,qa]
            refine kaf (.inr ⟨_,rfl,rfl,fun d=>?_⟩);have:=d a;rw [hc] at this;rcases this with h | ⟨_,h | h⟩
            · exact hl h
            · exact f h
            · have:=h.1;omega
          · by_cases q2:57<(c.toNat:Int)
            · simp only [qb q1,qe q2,qd,qf,qa]
              refine kaf (.inr ⟨_,rfl,rfl,fun d=>?_⟩);have:=d a;rw [hc] at this;rcases this with h | ⟨_,h | h⟩
              · exact hl h
              · exact f h
              · have:=h.2;omega
            · simp only [qb q1,qb q2,qd,qa]
              exact kaf (.inl ⟨rfl,fun _=>by rw [hc];exact .inr ⟨by omega, .inr ⟨by omega,by omega⟩⟩⟩)
  · rcases hr with ⟨rfl,hr⟩ | ⟨rfl,hr⟩
    · simp only [qh]
      have hp:kok s↔(1<=s.size/\s.size<=24):=⟨fun h=>h.1,fun h=>⟨h,fun i hi=>hr i (by omega) hi⟩⟩;rw [hp];refine ked (kdx (fun h=>kaf (kaf ?_)) fun h=>kaf (kaf ?_))
      · have:=qal h
        rw [decide_eq_true_eq];omega
      · have:=qa1 h
        simp;omega
    · exact kaf ⟨fun h=>by simp at h,fun h=>absurd (fun i _ a=>h.2 i a) hr⟩
def tyOf (l:La) (a:Int):Int:=(l.symbols.getD a.toNat syD).type
theorem k8b {l:La} {a:Int} (h0:0<=a) (h1:a<(l.symbols.length:Int)):∃ x,idx l.symbols a=some x/\x.type=tyOf l a:=by
  refine ⟨l.symbols[a.toNat]'(by omega),?_,?_⟩
  · unfold idx;rw [qj h0,qc]
  · unfold tyOf;rw [List.getD_eq_getElem?_getD,qc (by omega)];rfl
def ValidR (l:La) (r:Ru):Prop:=
  (0<=r.symbol/\r.symbol<(l.symbols.length:Int)) /\
  ((r.kind=1/\r.const=kcw/\r.op=⟨#[]⟩/\r.args=[]/\(0<=r.input/\r.input<(l.inputs.length:Int))/\l.inputs.getD r.input.toNat 0=tyOf l r.symbol) \/
   (r.kind=2/\r.input=0/\r.op=⟨#[]⟩/\r.args=[]/\kah fuel r.const=some 0/\r.const.type=tyOf l r.symbol) \/
   (r.kind=3/\r.input=0/\r.const=kcw/\∃ o,ka7 r.op=some (o,true)/\r.args.length=o.f_Args.length/\(∀ i (h:i<r.args.length),(0<=r.args[i]/\r.args[i]<(l.symbols.length:Int))/\o.f_Args[i]?=some (tyOf l r.args[i]))/\tyOf l r.symbol=o.f_Result))
theorem k8h {x:Va}:eqV x kcw=true↔x=kcw:=eqV_iff
theorem k86 {s:BA}:(s.toList == (⟨#[]⟩:BA).toList)=true↔s=⟨#[]⟩:=beqB_iff
theorem k9h {α:Type} {xs:List α}:((xs.length:Int) == 0)=true↔xs=[]:=by
  rw [beq_iff_eq];cases xs with
  | nil=>simp
  | cons x xs=>simp;omega
theorem kai3 {a b c:Bool} {p q r:Prop} (ha:a=true↔p) (d:b=true↔q) (hc:c=true↔r):Ev (bif a then bif b then some c else some false else some false:Option Bool) fun x=>x=true↔p/\q/\r:=by cases a <;> cases b <;> simp at ha d <;> refine kaf ?_ <;> simp [ha,d,hc]
theorem kah2 (r:Ru):Ev (kc2 r) fun b=>b=true↔(r.kind=1/\r.const=kcw/\r.op=⟨#[]⟩/\r.args=[])\/(r.kind=2/\r.input=0/\r.op=⟨#[]⟩/\r.args=[])\/(r.kind≠1/\r.kind≠2/\r.input=0/\r.const=kcw):=by
  unfold kc2;rw [krx,qa];refine kdx (fun h1=>?_) fun h1=>kdx (fun h2=>?_) fun h2=>?_
  · have h1:=eq_of_beq h1
    refine ked ((kai3 k8h k86 k9h).mono fun c hc=>kaf (hc.trans ?_));simp [h1]
  · have h2:=eq_of_beq h2
    refine ked ((kai3 beq_iff_eq k86 k9h).mono fun c hc=>kaf (hc.trans ?_));simp [h2]
  · have h1:r.kind≠1:=by simpa using h1
    have h2:r.kind≠2:=(by simpa using h2);refine ked (kdx (fun h=>kaf (kaf ?_)) fun h=>kaf (kaf ?_))
    · have h:=eq_of_beq h
      rw [k8h];simp [h1,h2,h]
    · have h:r.input≠0:=by simpa using h
      simp [h1,h2,h]
theorem out_iff {a n:Int}:Ev (bif decide (a<0) then some true else some (decide (n<=a)):Option Bool) fun b=>b=true↔¬ (0<=a/\a<n):=by
  refine kdx (fun h=>kaf ?_) fun h=>kaf ?_
  · have:=qal h;simp;omega
  · have:=qa1 h;rw [decide_eq_true_eq];omega
theorem kiz {c:Int} {p:Prop} (h1:c≠0) (h2:¬ p):c=0↔p:=⟨fun h=>absurd h h1,fun h=>absurd h h2⟩
theorem kaf0 {l:La} {r:Ru} (ha:r.args.length<=9223372036854775807) (hs:0<=r.symbol/\r.symbol<(l.symbols.length:Int)):Ev (kcv l r) fun c=>c=0↔∃ o,ka7 r.op=some (o,true)/\r.args.length=o.f_Args.length/\(∀ i (h:i<r.args.length),(0<=r.args[i]/\r.args[i]<(l.symbols.length:Int))/\o.f_Args[i]?=some (tyOf l r.args[i]))/\tyOf l r.symbol=o.f_Result:=by
  obtain ⟨⟨o,ok⟩,_,m⟩:=kub r.op;unfold kcv;rw [m,qa];refine kdx (fun h=>kaf ?_) fun h=>?_
  · have h:ok=false:=by simpa using h
    subst h;exact kiz (by decide) fun ⟨o',h1,_⟩=>by simp at h1
  have h:ok=true:=by simpa using h
  subst h;rw [k9m];refine kdx (fun h=>kaf ?_) fun h=>?_
  · have h:¬ r.args.length=o.f_Args.length:=by simpa using h
    exact kiz (by decide) fun ⟨o',h1,h2,_⟩=>by simp at h1;subst h1;exact h h2
  have hl:r.args.length=o.f_Args.length:=by simpa using h
  refine ked ((ktj (b0 := .inl ()) r.args.length ha (fun i=>∀ h:i<r.args.length,(0<=r.args[i]/\r.args[i]<(l.symbols.length:Int))/\o.f_Args[i]?=some (tyOf l r.args[i])) (fun b=>∃ e:Int,b = .inr e/\e≠0) (fun i hi _=>?_) (by simp only [kbb,kfm,qd])).mono fun v hv=>?_)
  · unfold kbb
    simp only [kbd hi,qf,kak,qc hi,qa];refine ked (out_iff.mono fun b k=>?_);refine kdx (fun h=>kaf (.inr ⟨_,rfl,⟨1,rfl,by decide⟩,fun d=>k.1 h (d hi).1⟩)) fun h=>?_;have hr:0<=r.args[i]/\r.args[i]<(l.symbols.length:Int):=Classical.byContradiction fun hn=>(by rw [k.2 hn] at h;cases h);obtain ⟨x,f,a⟩:=k8b hr.1 hr.2;have g:i<o.f_Args.length:=(by omega);rw [f,qa,qc g,qa];refine kdx (fun h=>kaf (.inr ⟨_,rfl,⟨3,rfl,by decide⟩,fun d=>?_⟩)) fun h=>kaf (.inl ⟨rfl,fun _=>⟨hr,?_⟩⟩)
    · have:=(d hi).2
      rw [ql] at this;rw [a,<- this] at h;simp at h
    · rw [qap] at h
      rw [<- h,a]
  · rcases hv with ⟨rfl,hv⟩ | ⟨⟨e,rfl,n⟩,hv⟩
    · simp only [qh]
      obtain ⟨x,f,a⟩:=k8b hs.1 hs.2;rw [f,qa];refine kdx (fun h=>kaf ?_) fun h=>kaf ?_
      · refine kiz (by decide) fun ⟨o',h1,_,_,p⟩=>?_
        simp at h1;subst h1;rw [a,p] at h;simp at h
      · rw [qap,a] at h
        exact ⟨fun _=>⟨o,rfl,hl,fun i hi=>hv i hi hi,h⟩,fun _=>rfl⟩
    · exact kaf (kiz n fun ⟨o',h1,_,h3,_⟩=>by simp at h1;subst h1;exact hv fun i hi j=>h3 i j)
theorem k55 {l:La} {r:Ru} (hr:kt1 r) (ha:r.args.length<=9223372036854775807):Ev (kc1 l r) fun c=>c=0↔ValidR l r:=by
  unfold kc1 ValidR;refine ked (out_iff.mono fun b i=>?_);refine kdx (fun h=>kaf (kiz (by decide) fun d=>i.1 h d.1)) fun h=>?_;have hs:0<=r.symbol/\r.symbol<(l.symbols.length:Int):=Classical.byContradiction fun hn=>by rw [i.2 hn] at h;cases h
  obtain ⟨z,n,j⟩:=kah2 r;have g:Ev (bif decide (r.kind<1) then some true else bif decide (3<r.kind) then some true else Option.bind (kc2 r) fun v3=>some (!v3):Option Bool) fun b=>b=false↔(1<=r.kind/\r.kind<=3)/\z=true:=by
    refine kdx (fun h=>kaf ?_) fun h=>kdx (fun h2=>kaf ?_) fun h2=>?_
    · have:=qal h;simp;omega
    · have:=qal h2;simp;omega
    · have:=qa1 h;have:=qa1 h2
      rw [n,qa];refine kaf ?_;rw [Bool.not_eq_false'];exact ⟨fun h=>⟨by omega,h⟩,fun h=>h.2⟩
  refine ked (g.mono fun f m=>?_);refine kdx (fun h=>kaf (kiz (by decide) fun d=>?_)) fun h=>?_
  · have a:z=true:=by
      rw [j];rcases d.2 with h | h | h
      · exact .inl ⟨h.1,h.2.1,h.2.2.1,h.2.2.2.1⟩
      · exact .inr (.inl ⟨h.1,h.2.1,h.2.2.1,h.2.2.2.1⟩)
      · exact .inr (.inr ⟨by omega,by omega,h.2.1,h.2.2.1⟩)
    have:f=false:=m.2 ⟨by rcases d.2 with h | h | h <;> omega,a⟩;rw [this] at h;cases h
  obtain ⟨hk,a⟩:=m.1 h;have a:=j.1 a;obtain ⟨x,o,e⟩:=k8b hs.1 hs.2;rw [o,qa];refine kdx (fun h1=>?_) fun h1=>kdx (fun h2=>?_) fun h2=>?_
  · have h1:=eq_of_beq h1
    obtain ⟨_,g1,g2,g3⟩:r.kind=1/\r.const=kcw/\r.op=⟨#[]⟩/\r.args=[]:=by
      rcases a with h | h | h
      · exact h
      · have:=h.1;omega
      · exact absurd h1 h.1
    refine ked (out_iff.mono fun b i=>?_);refine kdx (fun h=>kaf (kiz (by decide) fun d=>?_)) fun h=>?_
    · rcases d.2 with q | q | q
      · exact i.1 h q.2.2.2.2.1
      · have:=q.1;omega
      · have:=q.1;omega
    have k:0<=r.input/\r.input<(l.inputs.length:Int):=Classical.byContradiction fun hn=>(by rw [i.2 hn] at h;cases h);have hid:idx l.inputs r.input=some (l.inputs.getD r.input.toNat 0):=(by unfold idx;rw [qj k.1,List.getD_eq_getElem?_getD,qc (by omega)];rfl);rw [hid,qa];refine kdx (fun h=>kaf (kiz (by decide) fun d=>?_)) fun h=>kaf ⟨fun _=>⟨hs, .inl ⟨h1,g1,g2,g3,k,?_⟩⟩,fun _=>rfl⟩
    · rcases d.2 with q | q | q
      · rw [e,q.2.2.2.2.2] at h;simp at h
      · have:=q.1;omega
      · have:=q.1;omega
    · rw [qap,e] at h;exact h
  · have h1:r.kind≠1:=by simpa using h1
    have h2:=eq_of_beq h2;obtain ⟨_,g1,g2,g3⟩:r.kind=2/\r.input=0/\r.op=⟨#[]⟩/\r.args=[]:=by
      rcases a with h | h | h
      · exact absurd h.1 h1
      · exact h
      · exact absurd h2 h.2.1
    obtain ⟨c,c1,c2,_⟩:=ky4 hr.2;rw [c2,qa];refine kdx (fun h=>kaf (kiz (by simpa using h) fun d=>?_)) fun h=>?_
    · rcases d.2 with q | q | q
      · exact h1 q.1
      · have:=q.2.2.2.2.1
        rw [c1] at this;rw [qq this] at h;simp at h
      · have:=q.1;omega
    rw [qap] at h;subst h;refine kdx (fun h=>kaf (kiz (by decide) fun d=>?_)) fun h=>kaf ⟨fun _=>⟨hs, .inr (.inl ⟨h2,g1,g2,g3,c1,?_⟩)⟩,fun _=>rfl⟩
    · rcases d.2 with q | q | q
      · exact h1 q.1
      · rw [e,q.2.2.2.2.2] at h;simp at h
      · have:=q.1;omega
    · rw [qap,e] at h;exact h
  · have h1:r.kind≠1:=by simpa using h1
    have h2:r.kind≠2:=(by simpa using h2);obtain ⟨_,_,g1,g2⟩:r.kind≠1/\r.kind≠2/\r.input=0/\r.const=kcw:=by
      rcases a with h | h | h
      · exact absurd h.1 h1
      · exact absurd h.1 h2
      · exact h
    refine ked ((kaf0 ha hs).mono fun c hc=>kaf (hc.trans ⟨fun h=>⟨hs, .inr (.inr ⟨by omega,g1,g2,h⟩)⟩,fun h=>?_⟩));rcases h.2 with q | q | q
    · exact absurd q.1 h1
    · exact absurd q.1 h2
    · exact q.2.2.2
def kyy (t:Int):Prop:=1<=t/\t<=8
theorem k4q (t:Int):Ev (kgp t) fun b=>b=true↔kyy t:=by rw [kxs];exact kaf (by unfold tyB kyy;simp)
structure klh (l:La):Prop where
  name:kok l.name
  inputs:l.inputs.length<=4
  typs:∀ i (h:i<l.inputs.length),kyy l.inputs[i]
  sym1:1<=l.symbols.length
  sym16:l.symbols.length<=16
  names:∀ i (h:i<l.symbols.length),kok l.symbols[i].name
  once:∀ i j (h:i<l.symbols.length) (h2:j<l.symbols.length),i<j->l.symbols[i].name≠l.symbols[j].name
  types:∀ i (h:i<l.symbols.length),kyy l.symbols[i].type
  rules:l.rules.length<=96
  valid:∀ i (h:i<l.rules.length),ValidR l l.rules[i]
  diff:∀ i j (h:i<l.rules.length) (h2:j<l.rules.length),i<j->l.rules[i]≠l.rules[j]
theorem kalv {l:La} {i:Nat} (hi:i<l.symbols.length) (hn:l.symbols.length<=9223372036854775807):Ev (kaa (kci l (i:Int)) fuel 0) fun (r:Unit ⊕ Int)=>(r = .inl ()/\∀ k,k<i->∀ h:k<l.symbols.length,l.symbols[k].name≠l.symbols[i].name)\/(r = .inr 6/\¬ ∀ k,k<i->∀ h:k<l.symbols.length,l.symbols[k].name≠l.symbols[i].name):=by
  refine ktj (β:=Unit ⊕ Int) (b0 := .inl ()) i (by omega) (fun k=>∀ h:k<l.symbols.length,l.symbols[k].name≠l.symbols[i].name) (fun (b:Unit ⊕ Int)=>b = .inr 6) (fun k hk _=>?_) (by simp only [kci,kfm,qd]);have a:k<l.symbols.length:=by omega
  unfold kci;simp only [kbd hk,qf,kak,qc hi,qc a,qa];refine kdx (fun h=>kaf (.inr ⟨_,rfl,rfl,fun c=>c a (beqB_iff.1 h)⟩)) fun h=>kaf (.inl ⟨rfl,fun _ e=>?_⟩);rw [beqB_iff.2 e] at h;cases h
theorem kajx {l:La} {i:Nat} (hi:i<l.rules.length) (hn:l.rules.length<=9223372036854775807) (hm:∀ k,k<=i->∀ h:k<l.rules.length,modR l.rules[k]):Ev (kaa (kb4 l (i:Int)) fuel 0) fun (r:Unit ⊕ Int)=>(r = .inl ()/\∀ k,k<i->∀ h:k<l.rules.length,l.rules[k]≠l.rules[i])\/(r = .inr 6/\¬ ∀ k,k<i->∀ h:k<l.rules.length,l.rules[k]≠l.rules[i]):=by
  refine ktj (β:=Unit ⊕ Int) (b0 := .inl ()) i (by omega) (fun k=>∀ h:k<l.rules.length,l.rules[k]≠l.rules[i]) (fun (b:Unit ⊕ Int)=>b = .inr 6) (fun k hk _=>?_) (by simp only [kb4,kfm,qd]);have a:k<l.rules.length:=by omega
  obtain ⟨c,hc,d⟩:=(kaef (hm k (by omega) a) (hm i (qy _) hi)).2;unfold kb4;simp only [kbd hk,qf,kak,qc hi,qc a,qa,hc];refine kdx (fun h=>kaf (.inr ⟨_,rfl,rfl,fun f=>f a (d.1 h)⟩)) fun h=>kaf (.inl ⟨rfl,fun _ e=>?_⟩);rw [d.2 e] at h;cases h
theorem ValidR.modR {l:La} {r:Ru} (hr:kt1 r) (h:ValidR l r):modR r:=by
  obtain ⟨c,hc,a⟩:=k55 (l:=l) hr (by
    rcases h.2 with q | q | q
    · rw [q.2.2.2.1];simp
    · rw [q.2.2.2.1];simp
    · obtain ⟨o,h1,h2,_⟩:=q.2.2.2
      have:=kqm h1 rfl;simp only at this;omega)
  rw [a.2 h] at hc;exact (k37 hr hc).mod
theorem kaee {l:La} (C:kk5 l) (h1:l.name.size<=9223372036854775807) (h2:l.symbols.length<=9223372036854775807) (h3:∀ x∈l.symbols,x.name.size<=9223372036854775807) (D:l.rules.length<=9223372036854775807) (E:∀ r∈l.rules,r.args.length<=9223372036854775807):Ev (kcq l) fun c=>c=0↔klh l:=by
  unfold kcq;refine ked ((k7w h1).mono fun b n=>?_);refine kdx (fun h=>kaf (kiz (by decide) fun a=>?_)) fun h=>?_
  · rw [n.2 a.name] at h;cases h
  have g1:kok l.name:=n.1 (by simpa using h);refine kdx (fun h=>kaf (kiz (by decide) fun a=>?_)) fun h=>?_
  · have:=qal h;have:=a.inputs;omega
  have g2:=qa1 h;refine ked ((ktj (b0 := .inl ()) l.inputs.length (by omega) (fun i=>∀ h:i<l.inputs.length,kyy l.inputs[i]) (fun b=>∃ e:Int,b = .inr e/\e≠0) (fun i hi _=>?_) (by simp only [kc5,kfm,qd])).mono fun v hv=>?_)
  · obtain ⟨t,ht,q⟩:=k4q l.inputs[i]
    unfold kc5;simp only [kbd hi,qf,kak,qc hi,qa,ht];refine kdx (fun h=>kaf (.inr ⟨_,rfl,⟨3,rfl,by decide⟩,fun a=>?_⟩)) fun h=>kaf (.inl ⟨rfl,fun _=>q.1 (by simpa using h)⟩);rw [q.2 (a hi)] at h;cases h
  rcases hv with ⟨rfl,hv⟩ | ⟨⟨e,rfl,s⟩,hv⟩
  rotate_left
  · exact kaf (kiz s fun a=>hv fun i hi d=>a.typs i d)
  simp only [qh];have u:Ev (bif decide ((l.symbols.length:Int)<1) then some true else some (decide (16<(l.symbols.length:Int))):Option Bool) fun b=>b=false↔1<=l.symbols.length/\l.symbols.length<=16:=by
    refine kdx (fun h=>kaf ?_) fun h=>kaf ?_
    · have:=qal h;simp;omega
    · have:=qa1 h;rw [decide_eq_false_iff_not];omega
  refine ked (u.mono fun b n=>?_);refine kdx (fun h=>kaf (kiz (by decide) fun a=>?_)) fun h=>?_
  · rw [n.2 ⟨a.sym1,a.sym16⟩] at h;cases h
  have g3:=n.1 h;refine ked ((ktj (b0 := .inl ()) l.symbols.length h2 (fun i=>∀ h:i<l.symbols.length,kok l.symbols[i].name/\(∀ k,k<i->∀ h:k<l.symbols.length,l.symbols[k].name≠l.symbols[i].name)/\kyy l.symbols[i].type) (fun b=>∃ e:Int,b = .inr e/\e≠0) (fun i hi _=>?_) (by simp only [kc4,kfm,qd])).mono fun v f=>?_)
  · unfold kc4
    simp only [kbd hi,qf,kak,qc hi,qa];refine ked ((k7w (h3 _ (qv hi))).mono fun b n=>?_);refine kdx (fun h=>kaf (.inr ⟨_,rfl,⟨5,rfl,by decide⟩,fun a=>?_⟩)) fun h=>?_
    · rw [n.2 (a hi).1] at h;cases h
    refine ked ((kalv hi h2).mono fun r hr=>?_);rcases hr with ⟨rfl,hr⟩ | ⟨rfl,hr⟩
    rotate_left
    · exact kaf (.inr ⟨_,rfl,⟨6,rfl,by decide⟩,fun a=>hr (a hi).2.1⟩)
    simp only [qh];refine ked ((k4q _).mono fun c hc=>?_);refine kdx (fun h=>kaf (.inr ⟨_,rfl,⟨3,rfl,by decide⟩,fun a=>?_⟩)) fun F=>kaf (.inl ⟨rfl,fun _=>⟨n.1 (by simpa using h),hr,hc.1 (by simpa using F)⟩⟩);rw [hc.2 (a hi).2.2] at h;cases h
  rcases f with ⟨rfl,f⟩ | ⟨⟨e,rfl,s⟩,f⟩
  rotate_left
  · exact kaf (kiz s fun a=>f fun i hi d=>⟨a.names i d,fun k hk g=>a.once k i g d hk,a.types i d⟩)
  simp only [qh];refine kdx (fun h=>kaf (kiz (by decide) fun a=>?_)) fun h=>?_
  · have:=qal h;have:=a.rules;omega
  have g4:=qa1 h;refine ked ((ktj (b0 := .inl ()) l.rules.length D (fun i=>∀ h:i<l.rules.length,ValidR l l.rules[i]/\∀ k,k<i->∀ h:k<l.rules.length,l.rules[k]≠l.rules[i]) (fun b=>∃ e:Int,b = .inr e/\e≠0) (fun i hi w=>?_) (by simp only [ka6,kfm,qd])).mono fun v m=>?_)
  · have o:=qv hi
    unfold ka6;simp only [kbd hi,qf,kak,qc hi,qa];refine ked ((k55 (l:=l) (C.wide _ o) (E _ o)).mono fun c hc=>?_);refine kdx (fun h=>kaf (.inr ⟨_,rfl,⟨c,rfl,by simpa using h⟩,fun a=>?_⟩)) fun h=>?_
    · rw [hc.2 (a hi).1] at h;simp at h
    have y:ValidR l l.rules[i]:=hc.1 (by simpa using h);refine ked ((kajx hi D fun k hk g=>?_).mono fun r hr=>?_)
    · have z:=C.wide _ (qv g)
      by_cases B:k=i
      · subst B;exact y.modR z
      · exact (w k (by omega) g).1.modR z
    rcases hr with ⟨rfl,hr⟩ | ⟨rfl,hr⟩
    · exact kaf (.inl ⟨rfl,fun _=>⟨y,hr⟩⟩)
    · exact kaf (.inr ⟨_,rfl,⟨6,rfl,by decide⟩,fun a=>hr (a hi).2⟩)
  rcases m with ⟨rfl,m⟩ | ⟨⟨e,rfl,s⟩,m⟩
  · refine kaf ⟨fun _=>⟨g1,by omega,fun i hi=>hv i hi hi,g3.1,g3.2,fun i hi=>(f i hi hi).1,fun i j hi A p=>(f j A A).2.1 i p hi,fun i hi=>(f i hi hi).2.2,by omega,fun i hi=>(m i hi hi).1,fun i j hi A p=>(m j A A).2 i p hi⟩,fun _=>rfl⟩
  · exact kaf (kiz s fun a=>m fun i hi d=>⟨a.valid i d,fun k hk g=>a.diff k i g d hk⟩)
def hd:List UInt8->Int
  | []=>0
  | c::_=>(c.toNat:Int)
def decN (n:Nat):List UInt8:=if h:n<10 then [UInt8.ofNat (48+n)] else decN (n / 10)++[UInt8.ofNat (48+n % 10)]
def kd8 (n:Int):List UInt8:=if n<0 then 45::decN n.natAbs else decN n.natAbs
def hexD (n:Nat):UInt8:=if n<10 then UInt8.ofNat (48+n) else UInt8.ofNat (87+n)
def kmf (c:UInt8):Bool:=decide (32<=c.toNat) && decide (c.toNat<=126)
def escB (c:UInt8):List UInt8:=if c=34\/c=92 then [92,c] else if kmf c=true then [c] else [92,120,hexD (c.toNat / 16),hexD (c.toNat % 16)]
def kfz (l:List UInt8):List UInt8:=34::(l.flatMap escB++[34])
def kc8:List (List UInt8)->List UInt8
  | []=>[]
  | [x]=>x
  | x::y::l=>x++(44::32::kc8 (y::l))
mutual
def kad:Va->List UInt8
  | .mk t n s l=>if t=1 then (if n=1 then [116,114,117,101] else [102,97,108,115,101]) else if t=2 then kd8 n else if t=4 then [48,120,hexD (n.toNat / 16),hexD (n.toNat % 16)]
    else if t=3 then kfz s.data.toList else if t=8 then 114::kfz s.data.toList
    else if t=5 then 91::(kc8 (kkw l)++[93]) else if t=6 then 123::(kc8 (kkw l)++[125]) else 60::(kc8 (kkw l)++[62])
def kkw:List Va->List (List UInt8)
  | []=>[]
  | v::l=>kad v::kkw l
end
def dig (c:UInt8):Prop:=48<=(c.toNat:Int)/\(c.toNat:Int)<=57
def valD (n:Int) (ds:List UInt8):Int:=ds.foldl (fun a c=>a*10+((c.toNat:Int) - 48)) n
theorem kk0 {n:Nat} (h:n<256):(UInt8.ofNat n).toNat=n:=by simp [UInt8.toNat_ofNat,Nat.mod_eq_of_lt h]
theorem kza (n:Nat):∃ d ds,decN n=d::ds/\(∀ c∈d::ds,dig c)/\valD ((d.toNat:Int) - 48) ds=n/\(0<n->48<d.toNat)/\∀ k,0<k->n<10 ^ k->ds.length<k:=by
  induction n using Nat.strongRecOn with
  | ind n ih=>
    rw [decN];by_cases h:n<10
    · rw [dif_pos h]
      have e:(UInt8.ofNat (48+n)).toNat=48+n:=kk0 (by omega);refine ⟨_,[],rfl,fun c hc=>?_,?_,fun h0=>by rw [e];omega,fun k hk _=>hk⟩
      · rcases qac.1 hc with rfl | hc
        · unfold dig;rw [e];omega
        · cases hc
      · show ((UInt8.ofNat (48+n)).toNat:Int) - 48=n
        rw [e];omega
    · rw [dif_neg h]
      obtain ⟨d,ds,h1,h2,h3,f,g⟩:=ih (n / 10) (by omega);have e:(UInt8.ofNat (48+n % 10)).toNat=48+n % 10:=kk0 (by omega);refine ⟨d,ds++[UInt8.ofNat (48+n % 10)],by rw [h1];rfl,fun c hc=>?_,?_,fun h0=>f (by omega),fun k hk a=>?_⟩
      · rw [<- qam] at hc
        rcases qao.1 hc with hc | hc
        · exact h2 c hc
        · rcases qac.1 hc with rfl | hc
          · unfold dig;rw [e];omega
          · cases hc
      · unfold valD at h3 ⊢
        rw [List.foldl_append,h3];show (((n / 10:Nat):Int))*10+(((UInt8.ofNat (48+n % 10)).toNat:Int) - 48)=n;rw [e];omega
      · obtain ⟨j,rfl⟩:∃ j,k=j+1:=⟨k - 1,by omega⟩
        have b:0<j:=by
          rcases Nat.eq_zero_or_pos j with rfl | b
          · simp at a;omega
          · exact b
        have:=g j b (by rw [Nat.pow_succ] at a;omega);rw [qr,qbg];omega
theorem kw8 (s:BA):toBA (s.data.toList.map fun c=>(c.toNat:Int))=s:=by
  have key:∀ (l:List UInt8) (r:BA),(l.map fun c=>(c.toNat:Int)).foldl (fun r n=>r.push (UInt8.ofNat n.toNat)) r=⟨r.data++l.toArray⟩:=by
    intro l
    induction l with
    | nil=>intro r;simp
    | cons c l ih=>
      intro r;rw [qa8,List.foldl_cons,ih];simp [ByteArray.push]
  unfold toBA;rw [key];cases s;simp [ByteArray.empty,ByteArray.emptyWithCapacity];(try rfl)
def kgq {α:Type} (sh:α->List UInt8) (l:List α):List UInt8:=l.flatMap fun v=>44::32::sh v
theorem knr {α:Type} (sh:α->List UInt8):∀ (l:List α) (v:α),kc8 ((v::l).map sh)=sh v++kgq sh l
  | [],v=>by simp [kc8,kgq]
  | w::l,v=>by have:=knr sh l w;rw [qa8] at this;rw [qa8,qa8,kc8,this];simp [kgq]
def k2m (least most:Nat) (s:BA):Prop:=least<=s.size/\s.size<=most/\∀ c∈s.data.toList,kmf c=true
def kqz (v:Va):Prop:=∃ n,v=Va.mk 2 n ⟨#[]⟩ [] /\ -1000000<=n/\n<=1000000
def kqr (v:Va):Prop:=∃ s,v=Va.mk 3 0 s []/\k2m 0 64 s
def kwo (lo hi:Nat) (v:Va):Prop:=∃ l,v=Va.mk 6 0 ⟨#[]⟩ l/\lo<=l.length/\l.length<=hi/\∀ x∈l,kqr x
def kir (v:Va):Prop:=
  (v=Va.mk 1 0 ⟨#[]⟩ []\/v=Va.mk 1 1 ⟨#[]⟩ [])\/kqz v\/(∃ n,v=Va.mk 4 n ⟨#[]⟩ []/\0<=n/\n<=255)\/kqr v\/(∃ s,v=Va.mk 8 0 s []/\k2m 1 40 s) \/
  (∃ l,v=Va.mk 5 0 ⟨#[]⟩ l/\l.length<=16/\∀ x∈l,kqz x)\/kwo 0 16 v \/
  (∃ l,v=Va.mk 7 0 ⟨#[]⟩ l/\l.length<=8/\∃ m,1<=m/\m<=8/\∀ x∈l,kwo m m x)
theorem kkv:∀ l:List Va,kkw l=l.map kad
  | []=>rfl
  | v::l=>by rw [kkw,kkv l];rfl
def knk (c:Int):Bool:=decide (32<=c) && decide (c<=126)
def atI (s:BA) (i:Nat):Int:=hd (s.data.toList.drop i)
theorem kib {s:BA} {i:Nat} (h:i<s.size):byt s (i:Int)=some (atI s i)/\s.data.toList.drop i=(s.data.toList[i]'(by rw [<- ka9];exact h))::s.data.toList.drop (i+1)/\atI s i=((s.data.toList[i]'(by rw [<- ka9];exact h)).toNat:Int):=by
  have a:i<s.data.toList.length:=by rw [<- ka9];exact h
  have d:=qaa a;refine ⟨?_,d,?_⟩
  · rw [ko0,qc a,atI,d];rfl
  · rw [atI,d];rfl
def wl (w:BA):List Int:=w.data.toList.map fun c=>(c.toNat:Int)
theorem kxy {a b:BA} (h:a.data.toList=b.data.toList):a=b:=by cases a;cases b;congr 1;exact Array.toList_inj.1 h
theorem kqe (c:Int):kko c=some (knk c):=by unfold kko knk;cases decide (32<=c) <;> cases decide (c<=126) <;> rfl
theorem kv9 (s:BA) (a b:Nat):(s.extract a b).data.toList=(s.data.toList.take b).drop a:=by simp [ByteArray.data_extract,Array.toList_extract,List.drop_take]
def iB (l:List UInt8):List Int:=l.map fun c=>(c.toNat:Int)
def mkB (l:List UInt8):BA:=⟨l.toArray⟩
theorem kb9 (l:List UInt8):(mkB l).data.toList=l:=by simp [mkB]
theorem kb8 (l:List UInt8):(mkB l).size=l.length:=by rw [ka9,kb9]
theorem kab6 (a b:List UInt8):mkB a++mkB b=mkB (a++b):=by apply kxy;rw [kb9];simp [ByteArray.data_append,mkB]
theorem k9d (l:List UInt8):toBA (iB l)=mkB l:=by
  have:=kw8 (mkB l)
  rwa [kb9] at this
theorem k3z (a b:List UInt8):iB a++iB b=iB (a++b):=by simp [iB]
theorem k1m (l:List UInt8):(iB l).length=l.length:=by simp [iB]
theorem k7x (l:List UInt8):ofBA (mkB l)=iB l:=by unfold ofBA iB;rw [kb9]
theorem kaml (c:UInt8):([(c.toNat:Int)]:List Int)=iB [c]:=rfl
theorem kuh {acc:List UInt8} {c:UInt8} {n:Int} (hn:n=(c.toNat:Int)) (h:acc.length<=4000000000):kao (iB acc) n=some (iB (acc++[c])):=by subst hn;have:=ki2 (b:=1) (xs:=iB acc) (ys:=[(c.toNat:Int)]) (by rw [k1m];simp;omega);simp only [kao,kca,qa,this];rw [kaml,k3z]
theorem kqu {acc l:List UInt8} {s:BA} (hs:s=mkB l) (h:acc.length<=4000000000) (hl:l.length<=4000000000):kal (iB acc) s=some (iB (acc++l)):=by
  subst hs;have:appS (iB acc) (mkB l)=some (iB (acc++l)):=by unfold appS;rw [k1m,kb8,qj (by omega),k7x,k3z]
  simp only [kal,kca,qa,this]
theorem kvw (c:UInt8):byt (⟨#[48,49,50,51,52,53,54,55,56,57,97,98,99,100,101,102]⟩:BA) (Int.fdiv (c.toNat:Int) (2 ^ (4:Nat)))=some ((hexD (c.toNat / 16)).toNat:Int) /\
    byt (⟨#[48,49,50,51,52,53,54,55,56,57,97,98,99,100,101,102]⟩:BA) (iand .u8 (c.toNat:Int) 15)=some ((hexD (c.toNat % 16)).toNat:Int) /\
    ke5 (w64 (Int.tdiv (c.toNat:Int) 16))=some (mkB [hexD (c.toNat / 16)])/\ke5 (Int.tmod (c.toNat:Int) 16)=some (mkB [hexD (c.toNat % 16)]):=by
  have key:∀ n:Fin 256,byt (⟨#[48,49,50,51,52,53,54,55,56,57,97,98,99,100,101,102]⟩:BA) (Int.fdiv ((n.val:Nat):Int) (2 ^ (4:Nat)))=some ((hexD (n.val / 16)).toNat:Int) /\
    byt (⟨#[48,49,50,51,52,53,54,55,56,57,97,98,99,100,101,102]⟩:BA) (iand .u8 ((n.val:Nat):Int) 15)=some ((hexD (n.val % 16)).toNat:Int):=by decide
  have key2:∀ n:Fin 256,ke5 (w64 (Int.tdiv ((n.val:Nat):Int) 16))=some (mkB [hexD (n.val / 16)])/\ke5 (Int.tmod ((n.val:Nat):Int) 16)=some (mkB [hexD (n.val % 16)]):=by decide
  have hc:=c.toNat_lt;exact ⟨(key ⟨c.toNat,hc⟩).1,(key ⟨c.toNat,hc⟩).2,(key2 ⟨c.toNat,hc⟩).1,(key2 ⟨c.toNat,hc⟩).2⟩
theorem kaad {acc:List UInt8} {c:UInt8} {n:Int} (hn:n=(c.toNat:Int)) (h:acc.length<=3000000000):kf1 (iB acc) n=some (iB (acc++[hexD (c.toNat / 16),hexD (c.toNat % 16)])):=by subst hn;have h1:=kuh (acc:=acc) (c:=hexD (c.toNat / 16)) rfl (by omega);have h2:=kuh (acc:=acc++[hexD (c.toNat / 16)]) (c:=hexD (c.toNat % 16)) rfl (by simp;omega);rw [qan] at h2;simp only [kf1,(kvw c).1,(kvw c).2.1,qa,h1,h2];rfl
def hex4 (c:UInt8):List UInt8:=[92,120,hexD (c.toNat / 16),hexD (c.toNat % 16)]
theorem kahs (v:List UInt8) (hv:v.length<=1000000):∀ (k m:Nat) (acc:List UInt8) (n:Nat),m+k=v.length->k<n->acc.length+4*k<=2000000000 ->
    kaa (ki7 (iB v)) n ((m:Int),iB acc)=some (iB (acc++(v.drop m).flatMap hex4)):=by
  intro k
  induction k with
  | zero=>
    intro m acc n hm hn hl;obtain ⟨n,rfl⟩:∃ j,n=j+1:=⟨n - 1,by omega⟩;rw [qaq (by omega)];refine kbm ?_;have:decide ((m:Int)<((iB v).length:Int))=false:=qb (by rw [k1m];omega);simp only [ki7,this,qd];simp
  | succ k ih=>
    intro m acc n hm hn hl;obtain ⟨n,rfl⟩:∃ j,n=j+1:=⟨n - 1,by omega⟩;have a:m<v.length:=(by omega);rw [qaa a,qa0,<- qan,<- ih (m+1) (acc++hex4 v[m]) n (by omega) (by omega) (by simp [hex4];omega)];refine kgj ?_;have d1:decide ((m:Int)<((iB v).length:Int))=true:=qe (by rw [k1m];omega);have e1:idx (iB v) (m:Int)=some (v[m].toNat:Int):=(by rw [kak];simp [iB,a]);have h1:=kqu (acc:=acc) (l:=[92,120]) (s:=⟨#[92,120]⟩) rfl (by omega) (by decide);have h2:=kaad (acc:=acc++[92,120]) (c:=v[m]) rfl (by simp;omega);rw [qan] at h2;simp only [ki7,d1,qf,e1,qa,h1,h2,w64s m (by omega)];rfl
theorem kafr {s:BA} {j:Nat} (h:j<s.size):(s.get! j).toNat=(s.data.toList[j]'(by rw [<- ka9];exact h)).toNat:=by obtain ⟨a⟩:=s;have b:j<a.size:=h;show (a[j]!).toNat=_;rw [getElem!_pos a j b];rfl
theorem kaa0 (n b0 b1 b2 b3:Nat) (hn:1<=n) (h0:128<=b0):128<=(Lib.decodeN n b0 b1 b2 b3).1/\1<=(Lib.decodeN n b0 b1 b2 b3).2/\(Lib.decodeN n b0 b1 b2 b3).2<=n/\(Lib.decodeN n b0 b1 b2 b3).2<=4/\(2<=(Lib.decodeN n b0 b1 b2 b3).2->128<=b1)/\(3<=(Lib.decodeN n b0 b1 b2 b3).2->128<=b2)/\(4<=(Lib.decodeN n b0 b1 b2 b3).2->128<=b3):=by
  unfold Lib.decodeN
  repeat' split
  all_goals refine ⟨?_,?_,?_,?_,?_,?_,?_⟩
  all_goals (simp only;omega)
theorem kaii:∀ n:Fin 256,idx gt2 ((n.val:Nat):Int)=some (Lib.firstT n.val:Int)/\w64 (iand .u8 (Lib.firstT n.val:Int) 7)=((Lib.firstT n.val % 8:Nat):Int) /\
    (Lib.firstT n.val<240->(idx gt3 (Int.fdiv (Lib.firstT n.val:Int) (2 ^ (4:Nat)))).map (fun r=>(r.f_lo,r.f_hi))=some ((Lib.accLo (Lib.firstT n.val / 16):Int),(Lib.accHi (Lib.firstT n.val / 16):Int)))/\(Lib.firstT n.val<240\/Lib.firstT n.val=240\/Lib.firstT n.val=241)/\(Lib.firstT n.val<240->2<=Lib.firstT n.val % 8/\Lib.firstT n.val % 8<=4):=by decide
theorem kal8 (n b0 b1 b2 b3 sz lo hi:Nat):(Lib.slowN n b0 b1 b2 b3 sz lo hi).2=if n<sz then 1 else if b1<lo\/hi<b1 then 1 else if sz<=2 then 2 else if b2<128\/191<b2 then 1 else if sz<=3 then 3 else if b3<128\/191<b3 then 1 else 4:=by
  unfold Lib.slowN
  repeat' split
  all_goals first | rfl | omega
theorem kakr {s:BA} (hs:s.size<=1000000) {i:Nat} (hi:i<s.size):∃ t r,cutS s (i:Int) (s.size:Int)=some t/\kb1 t=some (r,((Utf8.decode s i).2:Int)):=by
  have hd:(s.extract i s.size).data.toList=s.data.toList.drop i:=by rw [kv9,List.take_of_length_le (by rw [<- ka9];exact qy _)]
  generalize ht:s.extract i s.size=t at hd;have l:t.size=s.size - i:=by rw [ka9,hd,qau,<- ka9]
  have f:cutS s (i:Int) (s.size:Int)=some t:=by unfold cutS;rw [qj ⟨by omega,by omega,by omega⟩,<- ht];rfl
  have j:∀ k:Nat,i+k<s.size->byt t (k:Int)=some ((s.get! (i+k)).toNat:Int):=fun k hk=>by rw [ko0,hd,qat,qc (by rw [<- ka9];exact hk),kafr hk];rfl
  have d:∀ k:Nat,(s.get! k).toNat<256:=fun k=>UInt8.toNat_lt _;rw [Lib.decode_at];have b0:=j 0 (by omega);have m:=j 1;have n:=j 2;have o:=j 3;rw [Nat.add_zero] at b0;have h0:=d i;have h1:=d (i+1);have h2:=d (i+2);have h3:=d (i+3);generalize (s.get! i).toNat=c0 at *
  generalize (s.get! (i+1)).toNat=c1 at *
  generalize (s.get! (i+2)).toNat=c2 at *
  generalize (s.get! (i+3)).toNat=c3 at *
  refine ⟨t,?_⟩;have hne:(!(t.toList == (⟨#[]⟩:BA).toList))=true:=by rw [Bool.not_eq_true',qae];intro h;have:=q9 ByteArray.size (kkn h);rw [l,show (⟨#[]⟩:BA).size=0 from rfl] at this;omega
  have b0':byt t 0=some (c0:Int):=b0;by_cases ha:c0<128
  · have d1:decide ((c0:Int)<128)=true:=qe (by omega)
    have:Lib.decodeN (s.size - i) c0 c1 c2 c3=(c0,1):=(by unfold Lib.decodeN;rw [qj ha]);rw [this];exact ⟨_,f,by simp only [kb1,hne,qf,b0',qa,d1];rfl⟩
  · have d1:decide ((c0:Int)<128)=false:=qb (by omega)
    obtain ⟨f1,f2,f3,f4,f5⟩:=kaii ⟨c0,h0⟩;simp only at f1 f2 f3 f4 f5;have d2:decide ((t.size:Int)<1)=false:=qb (by omega);have goal:∀ r,(∃ a,kaq t=some (a,(r:Int)))->∃ a,cutS s (i:Int) (s.size:Int)=some t/\kb1 t=some (a,(r:Int)):=fun r ⟨a,h⟩=>
      ⟨a,f,by simp only [kb1,hne,qf,b0',qa,d1,qd,h]⟩
    refine goal _ ?_;rcases f4 with f4 | f4
    · have e:=Lib.slow_eq (s.size - i) c0 c1 c2 c3 (by omega) h1 h2 h3 f4
      rw [<- e,kal8];have d3:decide ((240:Int)<=(Lib.firstT c0:Int))=false:=qb (by omega);obtain ⟨v4,g,g'⟩:=qm.1 (f3 f4);obtain ⟨glo,ghi⟩:=Prod.mk.inj g';obtain ⟨g1,g2⟩:=f5 f4;generalize Lib.firstT c0 % 8=sz at *
      generalize Lib.accLo (Lib.firstT c0 / 16)=lo at *
      generalize Lib.accHi (Lib.firstT c0 / 16)=b at *
      by_cases k1:s.size - i<sz
      · rw [qj k1]
        have d4:decide ((t.size:Int)<(sz:Int))=true:=qe (by omega);exact ⟨65533,by simp only [kaq,d2,qd,b0',qa,f1,d3,g,glo,ghi,f2,d4,qf];rfl⟩
      · rw [qg k1]
        have d4:decide ((t.size:Int)<(sz:Int))=false:=qb (by omega);have b1':byt t 1=some (c1:Int):=m (by omega);have c1b:(bif (decide ((c1:Int)<(lo:Int))) then (some (true)) else (some (decide ((b:Int)<(c1:Int)))):Option Bool)=some (decide (c1<lo\/b<c1)):=by
          by_cases q:c1<lo
          · rw [qe (show (c1:Int)<(lo:Int) by omega),qe (show c1<lo\/b<c1 from .inl q)];rfl
          · rw [qb (show ¬ (c1:Int)<(lo:Int) by omega),qd]
            congr 1;by_cases q':b<c1
            · rw [qe (show (b:Int)<(c1:Int) by omega),qe (show c1<lo\/b<c1 from .inr q')]
            · rw [qb (show ¬ (b:Int)<(c1:Int) by omega),qb (by omega)]
        by_cases k2:c1<lo\/b<c1
        · rw [qj k2]
          exact ⟨65533,by simp only [kaq,d2,qd,b0',qa,f1,d3,g,glo,ghi,f2,d4,b1',c1b,qe k2,qf];rfl⟩
        · rw [qg k2]
          by_cases k3:sz<=2
          · rw [qj k3]
            have d5:decide ((sz:Int)<=2)=true:=qe (by omega);exact ⟨_,by simp only [kaq,d2,qd,b0',qa,f1,d3,g,glo,ghi,f2,d4,b1',c1b,qb k2,d5,qf];rfl⟩
          · rw [qg k3]
            have d5:decide ((sz:Int)<=2)=false:=qb (by omega);have b2':byt t 2=some (c2:Int):=n (by omega);have c2b:∀ c:Nat,(bif (decide ((c:Int)<128)) then (some (true)) else (some (decide (191<(c:Int)))):Option Bool)=some (decide (c<128\/191<c)):=fun c=>by
              by_cases q:c<128
              · rw [qe (show (c:Int)<128 by omega),qe (show c<128\/191<c from .inl q)];rfl
              · rw [qb (show ¬ (c:Int)<128 by omega),qd]
                congr 1;by_cases q':191<c
                · rw [qe (show 191<(c:Int) by omega),qe (show c<128\/191<c from .inr q')]
                · rw [qb (show ¬ 191<(c:Int) by omega),qb (by omega)]
            by_cases k4:c2<128\/191<c2
            · rw [qj k4]
              exact ⟨65533,by simp only [kaq,d2,qd,b0',qa,f1,d3,g,glo,ghi,f2,d4,b1',c1b,qb k2,d5,b2',c2b,qe k4,qf];rfl⟩
            · rw [qg k4]
              by_cases k5:sz<=3
              · rw [qj k5]
                have d6:decide ((sz:Int)<=3)=true:=qe (by omega);exact ⟨_,by simp only [kaq,d2,qd,b0',qa,f1,d3,g,glo,ghi,f2,d4,b1',c1b,qb k2,d5,b2',c2b,qb k4,d6,qf];rfl⟩
              · rw [qg k5]
                have d6:decide ((sz:Int)<=3)=false:=qb (by omega);have b3':byt t 3=some (c3:Int):=o (by omega);by_cases k6:c3<128\/191<c3
                · rw [qj k6]
                  exact ⟨65533,by simp only [kaq,d2,qd,b0',qa,f1,d3,g,glo,ghi,f2,d4,b1',c1b,qb k2,d5,b2',c2b,qb k4,d6,b3',qe k6,qf];rfl⟩
                · rw [qg k6]
                  exact ⟨_,by simp only [kaq,d2,qd,b0',qa,f1,d3,g,glo,ghi,f2,d4,b1',c1b,qb k2,d5,b2',c2b,qb k4,d6,b3',qb k6];rfl⟩
    · have:(Lib.decodeN (s.size - i) c0 c1 c2 c3).2=1:=by
        rcases f4 with f4 | f4
        · rw [Lib.ascii_eq _ _ _ _ _ f4]
        · rw [Lib.bad_eq _ _ _ _ _ h0 f4]
      rw [this];have d3:decide ((240:Int)<=(Lib.firstT c0:Int))=true:=qe (by omega);exact ⟨_,by simp only [kaq,d2,qd,b0',qa,f1,d3,qf];rfl⟩
theorem kxx {s:BA} {i w:Nat} (h:i+w<=s.size):cutS s (i:Int) ((i+w:Nat):Int)=some (mkB ((s.data.toList.drop i).take w)):=by unfold cutS;rw [qj ⟨by omega,by omega,by omega⟩];congr 1;apply kxy;rw [kb9,show ((i:Int).toNat)=i from rfl,show (((i+w:Nat):Int).toNat)=i+w from rfl,kv9,List.drop_take];congr 1;omega
theorem kam8 {l:List UInt8} (h:l.length<=4000000000):s2b (mkB l)=some (iB l):=by unfold s2b;rw [kb8,qj (by omega),k7x]
theorem kam0 {s:BA} {i:Nat} (hi:i<s.size) (c:UInt8) (hc:s.data.toList[i]?=some c):(c.toNat<128/\Utf8.decode s i=(c.toNat,1)) \/
    (128<=c.toNat/\128<=(Utf8.decode s i).1/\1<=(Utf8.decode s i).2/\i+(Utf8.decode s i).2<=s.size/\∀ x∈(s.data.toList.drop i).take (Utf8.decode s i).2,128<=x.toNat):=by
  have d:∀ k:Nat,i+k<s.size->∀ x,s.data.toList[i+k]?=some x->(s.get! (i+k)).toNat=x.toNat:=fun k hk x a=>by rw [kafr hk];rw [qc (by rw [<- ka9];exact hk)] at a;rw [qq a]
  have h0:=d 0 hi c hc;rw [Nat.add_zero] at h0;rw [Lib.decode_at,h0];by_cases h:c.toNat<128
  · exact .inl ⟨h,by unfold Lib.decodeN;rw [qj h]⟩
  · obtain ⟨k1,k2,k3,k4,k5,k6,k7⟩:=kaa0 (s.size - i) c.toNat (s.get! (i+1)).toNat (s.get! (i+2)).toNat (s.get! (i+3)).toNat (by omega) (by omega)
    refine .inr ⟨by omega,k1,k2,by omega,fun x a=>?_⟩;obtain ⟨k,hk⟩:=qbs.1 a;rw [qaj] at hk;split at hk
    · rename_i e
      rw [qat] at hk;have b:i+k<s.size:=(by omega);have:=d k b x hk;rcases (by omega:k=0\/k=1\/k=2\/k=3) with rfl | rfl | rfl | rfl
      · rw [Nat.add_zero,hc] at hk;cases hk;omega
      · rw [<- this];exact k5 (by omega)
      · rw [<- this];exact k6 (by omega)
      · rw [<- this];exact k7 (by omega)
    · cases hk
theorem k3j {c:UInt8} (h1:c.toNat≠34) (h2:c.toNat≠92) (h3:¬ (32<=c.toNat/\c.toNat<=126)):escB c=hex4 c:=by unfold escB hex4;rw [qg (by rintro (rfl | rfl) <;> simp_all),qg (by unfold kmf;simpa using h3)]
theorem k4f {c:UInt8} (h1:c.toNat≠34) (h2:c.toNat≠92) (h3:32<=c.toNat/\c.toNat<=126):escB c=[c]:=by unfold escB;rw [qg (by rintro (rfl | rfl) <;> simp_all),qj (by unfold kmf;simpa using h3)]
theorem kai6 {c:UInt8} (h:c.toNat=34\/c.toNat=92):escB c=[92,c]:=by
  unfold escB;rw [qj];rcases h with h | h
  · exact .inl (UInt8.toNat.inj h)
  · exact .inr (UInt8.toNat.inj h)
theorem kago {l:List UInt8} (h:∀ x∈l,escB x=hex4 x):l.flatMap escB=l.flatMap hex4:=by
  induction l with
  | nil=>rfl
  | cons x l ih=>rw [qa0,qa0,h x (qt ..),ih fun y a=>h y (qn _ a)]
theorem k3h (c:UInt8):wu8 ((c.toNat:Nat):Int)=(c.toNat:Int):=by have:=c.toNat_lt;simp [wu8,IntKind.wrap,IntKind.signed,IntKind.bits,IntKind.min,IntKind.max];omega
theorem kabg {s:BA} (hs:s.size<=100000):∀ (d i:Nat) (acc:List UInt8) (n:Nat),s.size - i=d->i<=s.size->d<n->acc.length+4*d<=1000000000 ->
    kaa (kf7 s) n (iB acc,i)=some (iB (acc++(s.data.toList.drop i).flatMap escB)):=by
  intro d
  induction d using Nat.strongRecOn with
  | ind d ih=>
    intro i acc n hd hi hn hl;obtain ⟨n,rfl⟩:∃ m,n=m+1:=⟨n - 1,by omega⟩;by_cases h:i<s.size
    · have k:i<s.data.toList.length:=by rw [<- ka9];exact h
      have e:=qaa k;have g:s.data.toList[i]?=some s.data.toList[i]:=qc k;generalize s.data.toList[i]=c at e g;have d1:decide (i<ByteArray.size s)=true:=qe h;have a:=kam0 h c g;by_cases o:c.toNat=34\/c.toNat=92
      · obtain ⟨g1,g2⟩:c.toNat<128/\Utf8.decode s i=(c.toNat,1):=by
          rcases a with a | a
          · exact a
          · omega
        rw [e,qa0,kai6 o,<- qan,<- ih (d - 1) (by omega) (i+1) (acc++[92,c]) n (by omega) (by omega) (by omega) (by simp;omega)];refine kgj ?_;have e1:(bif (((c.toNat:Nat):Int) == 34) then (some (true)) else (some (((c.toNat:Nat):Int) == 92)):Option Bool)=some true:=(by rcases o with o | o <;> rw [o] <;> rfl);have w1:=kuh (acc:=acc) (c:=92) (n:=92) rfl (by omega);have w2:=kuh (acc:=acc++[92]) (c:=c) rfl (by simp;omega);rw [qan] at w2;simp only [kf7,d1,qf,g2,e1,qa,w1,k3h,w2];rfl
      · have e1:∀ r:Nat,r≠34->r≠92->(bif (((r:Nat):Int) == 34) then (some (true)) else (some (((r:Nat):Int) == 92)):Option Bool)=some false:=fun r h1 h2=>by rw [show ((r:Int) == 34)=false by rw [qae];omega,show ((r:Int) == 92)=false by rw [qae];omega];rfl
        by_cases hp:32<=c.toNat/\c.toNat<=126
        · obtain ⟨g1,g2⟩:c.toNat<128/\Utf8.decode s i=(c.toNat,1):=by
            rcases a with a | a
            · exact a
            · omega
          have u:knk (c.toNat:Int)=true:=(by unfold knk;simp;omega);rw [e,qa0,k4f (by omega) (by omega) hp,<- qan,<- ih (d - 1) (by omega) (i+1) (acc++[c]) n (by omega) (by omega) (by omega) (by simp;omega)];refine kgj ?_;have w2:=kuh (acc:=acc) (c:=c) rfl (by omega);simp only [kf7,d1,qf,g2,e1 c.toNat (by omega) (by omega),qa,qd,kqe,u,k3h,w2]
        · obtain ⟨t,r,v,j⟩:=kakr (by omega) h
          -- what is escaped
          obtain ⟨q1,q2,q3,q4,q5⟩:(Utf8.decode s i).1≠34/\(Utf8.decode s i).1≠92/\knk ((Utf8.decode s i).1:Int)=false/\(1<=(Utf8.decode s i).2/\i+(Utf8.decode s i).2<=s.size)/\∀ x∈(s.data.toList.drop i).take (Utf8.decode s i).2,escB x=hex4 x:=by
            rcases a with ⟨g1,g2⟩ | ⟨g1,g2,g3,g4,g5⟩
            · rw [g2]
              refine ⟨by omega,by omega,by unfold knk;simp;omega,⟨by omega,by show i+1<=_;omega⟩,fun x b=>?_⟩;rw [e] at b;simp at b;rw [b];exact k3j (by omega) (by omega) hp
            · exact ⟨by omega,by omega,by unfold knk;simp;omega,⟨g3,g4⟩,fun x b=>k3j (by have:=g5 x b;omega) (by have:=g5 x b;omega) (by have:=g5 x b;omega)⟩
          obtain ⟨r',w,p⟩:∃ r' w,Utf8.decode s i=(r',w):=⟨_,_,rfl⟩;rw [p] at q1 q2 q3 q4 q5 j;simp only at q1 q2 q3 q4 q5 j;have f:s.data.toList.drop i=(s.data.toList.drop i).take w++s.data.toList.drop (i+w):=(by rw [<- List.drop_drop,qa9]);have q:((s.data.toList.drop i).take w).length=w:=(by rw [qah,qau,<- ka9];omega);have y:(((s.data.toList.drop i).take w).flatMap hex4).length<=4*w:=by
            have gen:∀ l:List UInt8,(l.flatMap hex4).length=4*l.length:=fun l=>by
              induction l with
              | nil=>rfl
              | cons x l ih=>rw [qa0,qr,ih,qu];simp [hex4];omega
            rw [gen,q];exact qy _
          rw [f,List.flatMap_append,kago q5,<- qan,<- ih (d - w) (by omega) (i+w) (acc++((s.data.toList.drop i).take w).flatMap hex4) n (by omega) (by omega) (by omega) (by simp only [qr];omega)];refine kgj ?_;have ew:w64 ((i:Int)+(w:Int))=((i+w:Nat):Int):=(by rw [<- w64n (i+w) (by omega)];congr 1);have b:=kahs ((s.data.toList.drop i).take w) (by omega) w 0 acc fuel (by omega) (kbk (by omega)) (by omega);rw [qaz] at b;simp only [kf7,d1,qf,p,e1 r' q1 q2,qa,qd,kqe,q3,v,j,ew,kxx q4.2,kam8 (l:=(s.data.toList.drop i).take w) (by omega)];rw [show (0:Int)=((0:Nat):Int) from rfl,b];rfl
    · rw [qaq (by rw [<- ka9];omega)]
      refine kbm ?_;have d1:decide (i<ByteArray.size s)=false:=qb h;simp only [kf7,d1,qd];simp
theorem k9t (c:UInt8):(escB c).length<=4:=by unfold escB;split <;> (try split) <;> simp
theorem k01 (l:List UInt8):(l.flatMap escB).length<=4*l.length:=by
  induction l with
  | nil=>exact qy _
  | cons x l ih=>rw [qa0,qr,qu];have:=k9t x;omega
theorem k7k {s:BA} (hs:s.size<=100000):kkr s=some (mkB (kfz s.data.toList)):=by have h1:=kuh (acc:=[]) (c:=34) (n:=34) rfl (by simp);have h2:=kabg hs (s.size - 0) 0 [34] fuel rfl (by omega) (kbk (by omega)) (by simp;omega);have hl:=k01 s.data.toList;rw [<- ka9] at hl;rw [qaz] at h2;have h3:=kuh (acc:=[34]++s.data.toList.flatMap escB) (c:=34) (n:=34) rfl (by simp only [qr,qbg];omega);have a:kao [] 34=some (iB [34]):=h1;simp only [kkr,a,qa,h2,h3,ka3,k9d];unfold kfz;simp
theorem kif {a b:List UInt8} (h:a.length+b.length<=4000000000):cat (mkB a) (mkB b)=some (mkB (a++b)):=by rw [k8a (by rw [kb8,kb8];omega),kab6]
theorem k8z {s:BA} (hs:s.size<=100000):∀ (d i:Nat) (acc:List UInt8) (n:Nat),i+d=s.size->d<n->acc.length+4*d<=1000000000 ->
    kaa (kdz s) n (mkB acc,(i:Int))=some (mkB (acc++(s.data.toList.drop i).flatMap escB)):=by
  intro d
  induction d with
  | zero=>
    intro i acc n hd hn hl;obtain ⟨n,rfl⟩:∃ m,n=m+1:=⟨n - 1,by omega⟩;rw [qaq (by rw [<- ka9];omega)];refine kbm ?_;have d1:decide ((i:Int)<(s.size:Int))=false:=qb (by omega);simp only [kdz,d1,qd];simp
  | succ d ih=>
    intro i acc n hd hn hl;obtain ⟨n,rfl⟩:∃ m,n=m+1:=⟨n - 1,by omega⟩;have h:i<s.size:=(by omega);obtain ⟨b1,b2,b3⟩:=kib h;generalize s.data.toList[i]'(by rw [<- ka9];exact h)=c at b2 b3;have e:cutS s (i:Int) ((i+1:Nat):Int)=some (mkB [c]):=(by rw [kxx (by omega),b2];rfl);have g:w64 (c.toNat:Int)=(c.toNat:Int):=(by have:=c.toNat_lt;exact kdn (by omega) (by omega));rw [b2,qa0,<- qan,<- ih (i+1) (acc++escB c) n (by omega) (by omega) (by have:=k9t c;simp only [qr];omega)];refine kgj ?_;by_cases f:c.toNat=34\/c.toNat=92
    · have e1:(bif ((c.toNat:Int) == 34) then (some (true)) else (some ((c.toNat:Int) == 92)):Option Bool)=some true:=by rcases f with f | f <;> rw [f] <;> rfl
      have c1:cat (mkB acc) (⟨#[92]⟩:BA)=some (mkB (acc++[92])):=kif (b:=[92]) (by simp;omega);have c2:=kif (a:=acc++[92]) (b:=[c]) (by simp;omega);rw [qan] at c2;simp only [kdz,kbd h,qf,b1,b3,qa,e1,c1,w64s i (by omega),e,c2,kai6 f];rfl
    · have e1:(bif ((c.toNat:Int) == 34) then (some (true)) else (some ((c.toNat:Int) == 92)):Option Bool)=some false:=by rw [show ((c.toNat:Int) == 34)=false by rw [qae];omega,show ((c.toNat:Int) == 92)=false by rw [qae];omega];rfl
      by_cases hp:32<=c.toNat/\c.toNat<=126
      · have e2:(bif (decide ((c.toNat:Int)<32)) then (some (true)) else (some (decide (126<(c.toNat:Int)))):Option Bool)=some false:=by rw [qb (by omega),qb (by omega)];rfl
        simp only [kdz,kbd h,qf,qd,b1,b3,g,qa,e1,e2,w64s i (by omega),e,kif (a:=acc) (b:=[c]) (by simp;omega),k4f (show c.toNat≠34 by omega) (by omega) hp]
      · have e2:(bif (decide ((c.toNat:Int)<32)) then (some (true)) else (some (decide (126<(c.toNat:Int)))):Option Bool)=some true:=by
          by_cases q:c.toNat<32
          · rw [qe (by omega)];rfl
          · rw [qb (by omega),qe (by omega)];rfl
        have c1:cat (mkB acc) (⟨#[92,120]⟩:BA)=some (mkB (acc++[92,120])):=kif (b:=[92,120]) (by simp;omega);have c2:=kif (a:=acc++[92,120]) (b:=[hexD (c.toNat / 16)]) (by simp;omega);have c3:=kif (a:=acc++[92,120]++[hexD (c.toNat / 16)]) (b:=[hexD (c.toNat % 16)]) (by simp;omega);simp only [kdz,kbd h,qf,qd,b1,b3,g,qa,e1,e2,w64s i (by omega),c1,(kvw c).2.2.1,(kvw c).2.2.2,c2,c3,k3j (show c.toNat≠34 by omega) (by omega) hp];simp [hex4]
theorem k4p {s:BA} (hs:s.size<=100000):kju s=some (mkB (kfz s.data.toList)):=by have h2:=k8z hs s.size 0 [34] fuel (by omega) (kbk (by omega)) (by simp;omega);have hl:=k01 s.data.toList;rw [<- ka9] at hl;rw [qaz] at h2;have a:kaa (kdz s) fuel ((⟨#[34]⟩:BA),0)=some (mkB ([34]++s.data.toList.flatMap escB)):=h2;have h3:cat (mkB ([34]++s.data.toList.flatMap escB)) (⟨#[34]⟩:BA)=some (mkB ([34]++s.data.toList.flatMap escB++[34])):=kif (b:=[34]) (by simp only [qr,qbg];omega);simp only [kju,a,qa,h3];unfold kfz;simp
theorem kyb (n:Nat):Lib.decDigits n=decN n:=by
  induction n using Nat.strongRecOn with
  | ind n ih=>
    rw [Lib.decDigits,decN];split
    · rfl
    · rw [ih (n / 10) (by omega)]
theorem kagi {n:Int} (h1 : -9223372036854775808<=n) (h2:n<=9223372036854775807):kzr n 10=some (mkB (kd8 n)):=by
  unfold kzr;rw [qj ⟨rfl,h1,h2⟩];congr 1;unfold mkB Lib.itoa kd8;split
  · rw [kyb]
  · rw [kyb,show n.toNat=n.natAbs by omega]
theorem k0j (n:Nat) (h:n<100000000000):(decN n).length<=11:=by obtain ⟨d,ds,h1,_,_,_,a⟩:=kza n;rw [h1,qu];have:=a 11 (by omega) (by simpa using h);omega
theorem k6m {m:Int} (h0:0<=m) (h1:m<=9):toBA [wu8 (w64 (48+m))]=mkB [UInt8.ofNat (48+m.toNat)]:=by rcases (by omega:m=0\/m=1\/m=2\/m=3\/m=4\/m=5\/m=6\/m=7\/m=8\/m=9) with rfl | rfl | rfl | rfl | rfl | rfl | rfl | rfl | rfl | rfl <;> rfl
theorem kah0:∀ (m:Nat) (tl:List UInt8) (n:Nat),m<9223372036854775807->m<n->tl.length+(decN m).length<=1000000 ->
    ∃ d:Nat,∃ t:List UInt8,d<=9/\kaa kfy n ((m:Int),mkB tl)=some ((d:Int),mkB t)/\[UInt8.ofNat (48+d)]++t=decN m++tl:=by
  intro m
  induction m using Nat.strongRecOn with
  | ind m ih=>
    intro tl n hm hn hl;obtain ⟨n,rfl⟩:∃ j,n=j+1:=⟨n - 1,by omega⟩;by_cases h:m<10
    · have d1:decide ((10:Int)<=(m:Int))=false:=qb (by omega)
      refine ⟨m,tl,by omega,kbm (by simp only [kfy,d1,qd]),?_⟩;rw [decN,dif_pos h]
    · have d1:decide ((10:Int)<=(m:Int))=true:=qe (by omega)
      have e0:decN m=decN (m / 10)++[UInt8.ofNat (48+m % 10)]:=(by rw [decN,dif_neg h]);rw [e0] at hl ⊢;simp only [qr,qbg] at hl;obtain ⟨d,t,h1,h2,h3⟩:=ih (m / 10) (by omega) (UInt8.ofNat (48+m % 10)::tl) n (by omega) (by omega) (by simp;omega);refine ⟨d,t,h1,?_,by rw [h3];simp⟩;rw [<- h2];refine kgj ?_;have e1:Int.tmod (m:Int) 10=((m % 10:Nat):Int):=rfl;have e2:w64 (Int.tdiv (m:Int) 10)=((m / 10:Nat):Int):=(by rw [show Int.tdiv (m:Int) 10=((m / 10:Nat):Int) from rfl];exact kdn (by omega) (by omega));have e3:=k6m (m:=((m % 10:Nat):Int)) (by omega) (by omega);have e4:=kif (a:=[UInt8.ofNat (48+m % 10)]) (b:=tl) (by simp;omega);rw [show (((m % 10:Nat):Int)).toNat=m % 10 from rfl] at e3;simp only [kfy,d1,qf,e1,e2,e3,qa,e4];rfl
theorem kz4 (k m:Nat) (h:m<100000000000):kfh (k+1) (m:Int)=some (mkB (decN m)):=by show kgf (kfh k) (m:Int)=_;have d1:decide ((m:Int)<0)=false:=qb (by omega);have hl:=k0j m h;obtain ⟨d,t,h1,h2,h3⟩:=kah0 m [] fuel (by omega) (kbk (by omega)) (by simp;omega);have c:kaa kfy fuel ((m:Int),(⟨#[]⟩:BA))=some ((d:Int),mkB t):=h2;rw [List.append_nil] at h3;have e3:=k6m (m:=(d:Int)) (by omega) (by omega);rw [show ((d:Int)).toNat=d from rfl] at e3;have e:=q9 List.length h3;simp only [qr,qbg] at e;simp only [kgf,d1,qd,c,qa,e3,kif (a:=[UInt8.ofNat (48+d)]) (b:=t) (by simp;omega),h3]
theorem kabu {n:Int} (h1 : -1000000<=n) (h2:n<=1000000):kfh fuel n=some (mkB (kd8 n)):=by
  rw [knj];unfold kd8;by_cases h:n<0
  · rw [qj h]
    show kgf (kfh 18446744073709551615) n=_;have d1:decide (n<0)=true:=qe h;have ew:w64 (0 - n)=(n.natAbs:Int):=(by rw [show 0 - n=(n.natAbs:Int) by omega];exact kdn (by omega) (by omega));have hp:=kz4 18446744073709551614 n.natAbs (by omega);have hl:=k0j n.natAbs (by omega);have hc:cat (⟨#[45]⟩:BA) (mkB (decN n.natAbs))=some (mkB ([45]++decN n.natAbs)):=kif (a:=[45]) (by simp;omega);simp only [kgf,d1,qf,ew,hp,qa,hc];rfl
  · rw [qg h]
    have:=kz4 18446744073709551615 n.natAbs (by omega)
    rwa [show ((n.natAbs:Nat):Int)=n by omega] at this
theorem kue (v:Va) (l:List Va):kgq kad (v::l)=[44,32]++kad v++kgq kad l:=by simp [kgq]
theorem k6r {B:Nat}:∀ (l:List Va),(∀ x∈l,(kad x).length<=B)->(kgq kad l).length<=l.length*(B+2)
  | [],_=>qz _
  | v::l,h=>by rw [kue];have h1:=h v (qt ..);have h2:=k6r l fun x a=>h x (qn _ a);simp only [qr,qu,qaf];rw [qbn,Nat.one_mul];omega
theorem k4z {B:Nat} (l:List Va) (h:∀ x∈l,(kad x).length<=B):(kc8 (l.map kad)).length<=l.length*(B+2):=by
  cases l with
  | nil=>exact qz _
  | cons v l=>
    have:=k6r (v::l) h;rw [kue] at this;rw [knr];simp only [qr] at this ⊢;omega
theorem kxb {l:List Va} {B C:Nat} (e:C<=3000000000) {r22:List Int->List Va->Option (List Int)} (hl:l.length<=1000) (f:B<=100000) (c:∀ x∈l,(kad x).length<=B)
    (H:∀ x∈l,∀ acc:List UInt8,acc.length<=C->kc3 r22 (iB acc) x=some (iB (acc++kad x))):
    ∀ (k m:Nat) (acc:List UInt8) (n:Nat),m+k=l.length->k<n->acc.length+k*(B+2)<=C ->
    kaa (kds l r22) n ((m:Int),iB acc)=some (iB (acc++if m=0 then kc8 (l.map kad) else kgq kad (l.drop m))):=by
  intro k
  induction k with
  | zero=>
    intro m acc n hm hn ha;obtain ⟨n,rfl⟩:∃ j,n=j+1:=⟨n - 1,by omega⟩;have d1:decide ((m:Int)<(l.length:Int))=false:=qb (by omega);refine kbm ?_;simp only [kds,d1,qd];by_cases h:m=0
    · rw [qj h,qar (by omega:l.length=0)]
      simp [kc8]
    · rw [qg h,qaq (by omega)]
      simp [kgq]
  | succ k ih=>
    intro m acc n hm hn ha;obtain ⟨n,rfl⟩:∃ j,n=j+1:=⟨n - 1,by omega⟩;have a:m<l.length:=(by omega);have e1:idx l (m:Int)=some l[m]:=(by rw [kak,qc a]);have b:=qv a;have d:=c _ b;rw [qbn,Nat.one_mul] at ha;by_cases h:m=0
    · subst h
      have d2:decide ((0:Int)<((0:Nat):Int))=false:=rfl;have w:=H _ b acc (by omega);have hc:l.map kad=(l[0]::l.drop 1).map kad:=(by rw [List.getElem_cons_drop,qaz]);rw [qj rfl,hc,knr,<- qan];have:=ih 1 (acc++kad l[0]) n (by omega) (by omega) (by simp only [qr];omega);rw [qg (by omega)] at this;rw [<- this];refine kgj ?_;simp only [kds,kbd a,qf,e1,qa,d2,qd,w,w64s 0 (by omega)]
    · have d2:decide ((0:Int)<(m:Int))=true:=qe (by omega)
      have w1:=kqu (acc:=acc) (l:=[44,32]) (s:=⟨#[44,32]⟩) rfl (by omega) (by decide);have w:=H _ b (acc++[44,32]) (by simp only [qr,qu,qaf];omega);rw [qg h,qaa a,kue,<- qan,<- qan];have:=ih (m+1) (acc++[44,32]++kad l[m]) n (by omega) (by omega) (by simp only [qr,qu,qaf];omega);rw [qg (by omega)] at this;rw [<- this];refine kgj ?_;simp only [kds,kbd a,qf,e1,qa,d2,w1,w,w64s m (by omega)]
theorem kad2 {l:List Va} {B:Nat} {r29:Va->Option BA} (hl:l.length<=1000) (g:B<=100000) (e:∀ x∈l,(kad x).length<=B) (H:∀ x∈l,r29 x=some (mkB (kad x))):
    ∀ (k m:Nat) (acc:List UInt8) (n:Nat),m+k=l.length->k<n->acc.length+k*(B+2)<=1000000000 ->
    kaa (kfp l r29) n (mkB acc,(m:Int))=some (mkB (acc++if m=0 then kc8 (l.map kad) else kgq kad (l.drop m))):=by
  intro k
  induction k with
  | zero=>
    intro m acc n hm hn ha;obtain ⟨n,rfl⟩:∃ j,n=j+1:=⟨n - 1,by omega⟩;have d1:decide ((m:Int)<(l.length:Int))=false:=qb (by omega);refine kbm ?_;simp only [kfp,d1,qd];by_cases h:m=0
    · rw [qj h,qar (by omega:l.length=0)]
      simp [kc8]
    · rw [qg h,qaq (by omega)]
      simp [kgq]
  | succ k ih=>
    intro m acc n hm hn ha;obtain ⟨n,rfl⟩:∃ j,n=j+1:=⟨n - 1,by omega⟩;have c:m<l.length:=(by omega);have e1:idx l (m:Int)=some l[m]:=(by rw [kak,qc c]);have d:=qv c;have f:=e _ d;have w:=H _ d;rw [qbn,Nat.one_mul] at ha;by_cases h:m=0
    · subst h
      have d2:decide ((0:Int)<((0:Nat):Int))=false:=rfl;have hc:l.map kad=(l[0]::l.drop 1).map kad:=(by rw [List.getElem_cons_drop,qaz]);rw [qj rfl,hc,knr,<- qan];have:=ih 1 (acc++kad l[0]) n (by omega) (by omega) (by simp only [qr];omega);rw [qg (by omega)] at this;rw [<- this];refine kgj ?_;simp only [kfp,kbd c,qf,e1,qa,d2,qd,w,kif (a:=acc) (b:=kad l[0]) (by omega),w64s 0 (by omega)]
    · have d2:decide ((0:Int)<(m:Int))=true:=qe (by omega)
      have c1:cat (mkB acc) (⟨#[44,32]⟩:BA)=some (mkB (acc++[44,32])):=kif (b:=[44,32]) (by simp;omega);have c2:=kif (a:=acc++[44,32]) (b:=kad l[m]) (by simp only [qr,qu,qaf];omega);rw [qg h,qaa c,kue,<- qan,<- qan];have:=ih (m+1) (acc++[44,32]++kad l[m]) n (by omega) (by omega) (by simp only [qr,qu,qaf];omega);rw [qg (by omega)] at this;rw [<- this];refine kgj ?_;simp only [kfp,kbd c,qf,e1,qa,d2,c1,c2,w,w64s m (by omega)]
def okW (C B n m:Nat) (v:Va):Prop:=(∀ acc:List UInt8,acc.length<=C->kc3 (kbw n) (iB acc) v=some (iB (acc++kad v)))/\kbt m v=some (mkB (kad v))/\(kad v).length<=B
theorem k87 {C B n m:Nat} (e:C<=3000000000) {l:List Va} (hl:l.length<=1000) (d:B<=100000) (h:∀ x∈l,okW C B n m x) (acc:List UInt8) (ha:acc.length+110000000<=C):
    kbw (n+1) (iB acc) l=some (iB (acc++kc8 (l.map kad)))/\ken (m+1) l=some (mkB (kc8 (l.map kad))):=by
  have hk:l.length*(B+2)<=1000*(100000+2):=Nat.mul_le_mul hl (by omega);have h1:=kxb e (r22:=kbw n) hl d (fun x a=>(h x a).2.2) (fun x a=>(h x a).1) l.length 0 acc fuel (by omega) (kbk (by omega)) (by omega);have h2:=kad2 (r29:=kbt m) hl d (fun x a=>(h x a).2.2) (fun x a=>(h x a).2.1) l.length 0 [] fuel (by omega) (kbk (by omega)) (by simp;omega);rw [qj rfl] at h1 h2;constructor
  · show kfd (kbw n) (iB acc) l=_
    have b:kaa (kds l (kbw n)) fuel (0,iB acc)=some (iB (acc++kc8 (l.map kad))):=h1;simp only [kfd,b,qa]
  · show klm (kbt m) (ken m) l=_
    have c:kaa (kfp l (kbt m)) fuel ((⟨#[]⟩:BA),0)=some (mkB (kc8 (l.map kad))):=h2;simp only [klm,c,qa]
theorem kadu {n:Int} (h1 : -1000000<=n) (h2:n<=1000000):(kd8 n).length<=12:=by
  have:=k0j n.natAbs (by omega);unfold kd8;split
  · simp only [qu];omega
  · omega
theorem kaaf {v:Va} (h:kqz v) (n m:Nat):okW 3000000000 300 n (m+1) v:=by
  obtain ⟨k,rfl,h1,h2⟩:=h;have hs:kad (Va.mk 2 k ⟨#[]⟩ [])=kd8 k:=by simp [kad]
  have hl:=kadu h1 h2;refine ⟨fun acc ha=>?_,?_,by rw [hs];omega⟩
  · have w:=kqu (acc:=acc) (l:=kd8 k) (s:=mkB (kd8 k)) rfl (by omega) (by omega)
    simp only [kc3,show ((Va.mk 2 k ⟨#[]⟩ []).type == 1)=false from rfl,show ((Va.mk 2 k ⟨#[]⟩ []).type == 2)=true from rfl,qd,qf,kkg,show (Va.mk 2 k ⟨#[]⟩ []).num=k from rfl,kagi (show -9223372036854775808<=k by omega) (by omega),qa,w,qi,qh,hs]
  · rw [show ∀ v,kbt (m+1) v=kcg (kbt m) (ken m) v from fun _=>rfl]
    simp only [kcg,show ((Va.mk 2 k ⟨#[]⟩ []).type == 1)=false from rfl,show ((Va.mk 2 k ⟨#[]⟩ []).type == 2)=true from rfl,qd,qf,show (Va.mk 2 k ⟨#[]⟩ []).num=k from rfl,kabu h1 h2,qa,hs]
theorem k12 (l:List UInt8):(kfz l).length<=4*l.length+2:=by have:=k01 l;unfold kfz;simp only [qu,qr,qaf];omega
theorem k96 {v:Va} (h:kqr v) (n m:Nat):okW 3000000000 300 n (m+1) v:=by
  obtain ⟨s,rfl,h1,h2,_⟩:=h;have hs:kad (Va.mk 3 0 s [])=kfz s.data.toList:=by simp [kad]
  have hl:=k12 s.data.toList;rw [<- ka9] at hl;refine ⟨fun acc ha=>?_,?_,by rw [hs];omega⟩
  · have w:=kqu (acc:=acc) (l:=kfz s.data.toList) (s:=mkB (kfz s.data.toList)) rfl (by omega) (by omega)
    simp only [kc3,show ((Va.mk 3 0 s []).type == 1)=false from rfl,show ((Va.mk 3 0 s []).type == 2)=false from rfl,show ((Va.mk 3 0 s []).type == 4)=false from rfl,show ((Va.mk 3 0 s []).type == 8)=false from rfl,show ((Va.mk 3 0 s []).type == 3)=true from rfl,qd,qf,show (Va.mk 3 0 s []).text=s from rfl,k7k (show s.size<=100000 by omega),qa,w,qi,qh,hs]
  · rw [show ∀ v,kbt (m+1) v=kcg (kbt m) (ken m) v from fun _=>rfl]
    simp only [kcg,show ((Va.mk 3 0 s []).type == 1)=false from rfl,show ((Va.mk 3 0 s []).type == 2)=false from rfl,show ((Va.mk 3 0 s []).type == 4)=false from rfl,show ((Va.mk 3 0 s []).type == 3)=true from rfl,qd,qf,show (Va.mk 3 0 s []).text=s from rfl,k4p (show s.size<=100000 by omega),qa,hs]
theorem k0e {t:Int} {a b:UInt8} {l:List Va} {C B n m:Nat} (g:2000000000<=C/\C<=3000000000) (ht:(t=5/\a=91/\b=93)\/(t=6/\a=123/\b=125)\/(t=7/\a=60/\b=62)) (hl:l.length<=16) (i:B<=5000) (h:∀ x∈l,okW C B n m x):okW (C - 100000) (l.length*(B+2)+2) (n+1) (m+2) (Va.mk t 0 ⟨#[]⟩ l)/\kad (Va.mk t 0 ⟨#[]⟩ l)=a::(kc8 (l.map kad)++[b]):=by
  have hs:kad (Va.mk t 0 ⟨#[]⟩ l)=a::(kc8 (l.map kad)++[b]):=by rcases ht with ⟨rfl,rfl,rfl⟩ | ⟨rfl,rfl,rfl⟩ | ⟨rfl,rfl,rfl⟩ <;> simp [kad,kkv]
  have j:=k4z l fun x e=>(h x e).2.2;have hk:l.length*(B+2)<=16*(5000+2):=Nat.mul_le_mul hl (by omega);refine ⟨⟨fun acc ha=>?_,?_,by rw [hs];simp only [qu,qr,qaf];omega⟩,hs⟩
  · have w0:=fun c:UInt8=>kqu (acc:=acc) (l:=[c]) (s:=⟨#[c]⟩) rfl (by omega) (by simp)
    have w1:kbw (n+1) (iB (acc++[a])) l=some (iB (acc++[a]++kc8 (l.map kad))):=(by have h1:=kxb g.2 (r22:=kbw n) (by omega) (show B<=100000 by omega) (fun x e=>(h x e).2.2) (fun x e=>(h x e).1) l.length 0 (acc++[a]) fuel (by omega) (kbk (by omega)) (by simp only [qr,qu,qaf];omega);rw [qj rfl] at h1;show kfd (kbw n) (iB (acc++[a])) l=_;have f:kaa (kds l (kbw n)) fuel (0,iB (acc++[a]))=_:=h1;simp only [kfd,f,qa]);have w2:=fun c:UInt8=>kqu (acc:=acc++[a]++kc8 (l.map kad)) (l:=[c]) (s:=⟨#[c]⟩) rfl (by simp only [qr,qu,qaf];omega) (by simp);rw [hs];rcases ht with ⟨rfl,rfl,rfl⟩ | ⟨rfl,rfl,rfl⟩ | ⟨rfl,rfl,rfl⟩
    all_goals
      simp only [kc3,show (Va.mk _ 0 (⟨#[]⟩:BA) l).items=l from rfl];show (Option.bind (kal (iB acc) _) _:Option (List Int)).bind _=_;rw [w0,qa,w1,qa,w2];simp
  · rw [show ∀ v,kbt (m+2) v=kcg (kbt (m+1)) (ken (m+1)) v from fun _=>rfl]
    have h2:=(k87 g.2 (by omega) (by omega) h [] (by simp;omega)).2;rw [hs];have c1:=fun c:UInt8=>kif (a:=[c]) (b:=kc8 (l.map kad)) (by simp;omega);have c2:=fun c d:UInt8=>kif (a:=[c]++kc8 (l.map kad)) (b:=[d]) (by simp only [qr,qu,qaf];omega);rcases ht with ⟨rfl,rfl,rfl⟩ | ⟨rfl,rfl,rfl⟩ | ⟨rfl,rfl,rfl⟩
    all_goals
      simp only [kcg];show (Option.bind (ken (m+1) l) _:Option BA)=_;rw [h2,qa];show (Option.bind (cat (mkB [_]) _) _:Option BA)=_;rw [c1,qa];show (Option.bind (cat _ (mkB [_])) _:Option BA)=_;rw [c2];rfl
theorem kkz {C C' B B' n m:Nat} {v:Va} (a:C'<=C) (b:B<=B') (h:okW C B n m v):okW C' B' n m v:=⟨fun acc ha=>h.1 acc (by omega),h.2.1,by have:=h.2.2;omega⟩
theorem k7p (m:Nat) (v:Va):kbt (m+1) v=kcg (kbt m) (ken m) v:=rfl
theorem k7d {k:Int} (h:k=0\/k=1) (n m:Nat):okW 3000000000 300 n (m+1) (Va.mk 1 k ⟨#[]⟩ []):=by
  rcases h with rfl | rfl
  · refine ⟨fun acc ha=>?_,rfl,by decide⟩
    have w:=kqu (acc:=acc) (l:=[102,97,108,115,101]) (s:=⟨#[102,97,108,115,101]⟩) rfl (by omega) (by decide);rw [show kad (Va.mk 1 0 ⟨#[]⟩ [])=[102,97,108,115,101] from rfl];simp only [kc3,show ((Va.mk 1 0 ⟨#[]⟩ []).type == 1)=true from rfl,qf,show ((Va.mk 1 0 ⟨#[]⟩ []).num == 1)=false from rfl,ki5,ke3,qd,qa,w,qi,qh]
  · refine ⟨fun acc ha=>?_,rfl,by decide⟩
    have w:=kqu (acc:=acc) (l:=[116,114,117,101]) (s:=⟨#[116,114,117,101]⟩) rfl (by omega) (by decide);rw [show kad (Va.mk 1 1 ⟨#[]⟩ [])=[116,114,117,101] from rfl];simp only [kc3,show ((Va.mk 1 1 ⟨#[]⟩ []).type == 1)=true from rfl,qf,show ((Va.mk 1 1 ⟨#[]⟩ []).num == 1)=true from rfl,ki5,ke3,qa,w,qi,qh]
theorem kaim {k:Int} (h0:0<=k) (h1:k<=255) (n m:Nat):okW 2900000000 300 n (m+1) (Va.mk 4 k ⟨#[]⟩ []):=by
  obtain ⟨c,rfl⟩:∃ c:UInt8,k=(c.toNat:Int):=⟨UInt8.ofNat k.toNat,by rw [kk0 (by omega)];omega⟩;have hs:kad (Va.mk 4 (c.toNat:Int) ⟨#[]⟩ [])=[48,120,hexD (c.toNat / 16),hexD (c.toNat % 16)]:=by simp [kad]
  refine ⟨fun acc ha=>?_,?_,by rw [hs];simp⟩
  · have w:=kqu (acc:=acc) (l:=[48,120]) (s:=⟨#[48,120]⟩) rfl (by omega) (by decide)
    have w2:=kaad (acc:=acc++[48,120]) (c:=c) rfl (by simp;omega);rw [hs];simp only [kc3,show ((Va.mk 4 (c.toNat:Int) ⟨#[]⟩ []).type == 1)=false from rfl,show ((Va.mk 4 (c.toNat:Int) ⟨#[]⟩ []).type == 2)=false from rfl,show ((Va.mk 4 (c.toNat:Int) ⟨#[]⟩ []).type == 4)=true from rfl,qf,qd,show (Va.mk 4 (c.toNat:Int) ⟨#[]⟩ []).num=(c.toNat:Int) from rfl,k3h,qa,w,w2,qi,qh];simp
  · rw [k7p,hs]
    have c1:cat (⟨#[48,120]⟩:BA) (mkB [hexD (c.toNat / 16)])=some (mkB ([48,120]++[hexD (c.toNat / 16)])):=kif (a:=[48,120]) (by simp);have c2:=kif (a:=[48,120]++[hexD (c.toNat / 16)]) (b:=[hexD (c.toNat % 16)]) (by simp);simp only [kcg,show ((Va.mk 4 (c.toNat:Int) ⟨#[]⟩ []).type == 1)=false from rfl,show ((Va.mk 4 (c.toNat:Int) ⟨#[]⟩ []).type == 2)=false from rfl,show ((Va.mk 4 (c.toNat:Int) ⟨#[]⟩ []).type == 4)=true from rfl,qf,qd,show (Va.mk 4 (c.toNat:Int) ⟨#[]⟩ []).num=(c.toNat:Int) from rfl,(kvw c).2.2.1,(kvw c).2.2.2,qa,c1,c2];rfl
theorem kafl {s:BA} (h:s.size<=40) (n m:Nat):okW 2900000000 300 n (m+1) (Va.mk 8 0 s []):=by
  have hs:kad (Va.mk 8 0 s [])=114::kfz s.data.toList:=by simp [kad]
  have hl:=k12 s.data.toList;rw [<- ka9] at hl;refine ⟨fun acc ha=>?_,?_,by rw [hs];simp only [qu];omega⟩
  · have w:=kuh (acc:=acc) (c:=114) (n:=114) rfl (by omega)
    have w2:=kqu (acc:=acc++[114]) (l:=kfz s.data.toList) (s:=mkB (kfz s.data.toList)) rfl (by simp;omega) (by omega);rw [hs];simp only [kc3,show ((Va.mk 8 0 s []).type == 1)=false from rfl,show ((Va.mk 8 0 s []).type == 2)=false from rfl,show ((Va.mk 8 0 s []).type == 4)=false from rfl,show ((Va.mk 8 0 s []).type == 8)=true from rfl,qf,qd,show (Va.mk 8 0 s []).text=s from rfl,k7k (show s.size<=100000 by omega),qa,w,w2,qi,qh];simp
  · rw [k7p,hs]
    have c1:cat (⟨#[114]⟩:BA) (mkB (kfz s.data.toList))=some (mkB ([114]++kfz s.data.toList)):=kif (a:=[114]) (by simp;omega);simp only [kcg,show ((Va.mk 8 0 s []).type == 1)=false from rfl,show ((Va.mk 8 0 s []).type == 2)=false from rfl,show ((Va.mk 8 0 s []).type == 4)=false from rfl,show ((Va.mk 8 0 s []).type == 3)=false from rfl,show ((Va.mk 8 0 s []).type == 8)=true from rfl,qf,qd,show (Va.mk 8 0 s []).text=s from rfl,k4p (show s.size<=100000 by omega),qa,c1];rfl
theorem k9p {v:Va} {lo hi:Nat} (c:hi<=16) (h:kwo lo hi v) (n m:Nat):okW 2999900000 5000 (n+1) (m+3) v:=by obtain ⟨l,rfl,h1,h2,h3⟩:=h;have:=(k0e (t:=6) (a:=123) (b:=125) (C:=3000000000) (n:=n) (m:=m+1) (by omega) (.inr (.inl ⟨rfl,rfl,rfl⟩)) (by omega) (B:=300) (by omega) fun x d=>k96 (h3 x d) n m).1;have hk:l.length*(300+2)<=16*(300+2):=qa7 _ (by omega);exact kkz (by omega) (by omega) this
theorem kvm {v:Va} (h:kir v) (n m:Nat):okW 2500000000 60000 (n+2) (m+5) v:=by
  rcases h with (rfl | rfl) | h | ⟨k,rfl,h0,h1⟩ | h | ⟨s,rfl,h⟩ | ⟨l,rfl,h1,h2⟩ | h | ⟨l,rfl,h1,k,h2,h3,d⟩
  · exact kkz (by omega) (by omega) (k7d (.inl rfl) (n+2) (m+4))
  · exact kkz (by omega) (by omega) (k7d (.inr rfl) (n+2) (m+4))
  · exact kkz (by omega) (by omega) (kaaf h (n+2) (m+4))
  · exact kkz (by omega) (by omega) (kaim h0 h1 (n+2) (m+4))
  · exact kkz (by omega) (by omega) (k96 h (n+2) (m+4))
  · exact kkz (by omega) (by omega) (kafl h.2.1 (n+2) (m+4))
  · have:=(k0e (t:=5) (a:=91) (b:=93) (C:=3000000000) (n:=n+1) (m:=m+3) (by omega) (.inl ⟨rfl,rfl,rfl⟩) h1 (B:=300) (by omega) fun x c=>kaaf (h2 x c) (n+1) (m+2)).1
    have hk:l.length*(300+2)<=16*(300+2):=qa7 _ (by omega);exact kkz (by omega) (by omega) this
  · exact kkz (by omega) (by omega) (k9p (by omega) h (n+1) (m+2))
  · have:=(k0e (t:=7) (a:=60) (b:=62) (C:=2999900000) (n:=n+1) (m:=m+3) (by omega) (.inr (.inr ⟨rfl,rfl,rfl⟩)) (by omega) (B:=5000) (by omega) fun x c=>k9p (show k<=16 by omega) (d x c) n m).1
    have hk:l.length*(5000+2)<=8*(5000+2):=qa7 _ (by omega);exact kkz (by omega) (by omega) this
theorem kajl:∃ k,fuel=k+9:=⟨18446744073709551607,by unfold fuel;omega⟩
theorem written {l:List Va} (hl:l.length<=1000) (h:∀ x∈l,kir x):kbw fuel [] l=some (iB (kc8 (l.map kad)))/\ken fuel l=some (mkB (kc8 (l.map kad)))/\(kc8 (l.map kad)).length<=l.length*60002:=by obtain ⟨k,hk⟩:=kajl;rw [hk];generalize fuel=ff at hk;have h1:=k87 (C:=2500000000) (B:=60000) (n:=k+8) (m:=k+8) (by omega) hl (by omega) (fun x a=>kvm (h x a) (k+6) (k+3)) [] (by simp);exact ⟨h1.1,h1.2,k4z l fun x a=>(kvm (h x a) 0 0).2.2⟩
theorem ksn {m a b:Int} (h:kh4 m a b=some 0):a<=m/\m<=b:=by
  unfold kh4 at h;by_cases h1:m<a
  · rw [qe h1] at h;simp at h
  · rw [qb h1] at h
    by_cases h2:b<m
    · rw [qe h2] at h;simp at h
    · omega
theorem k19 {s:BA} {a b:Nat} (hs:s.size<=9223372036854775807) (h:kio s (a:Int) (b:Int)=some 0):k2m a b s:=by
  unfold kio at h;by_cases h1:(s.size:Int)<(a:Int)
  · rw [qe h1] at h;simp at h
  · rw [qb h1] at h
    by_cases h2:(b:Int)<(s.size:Int)
    · rw [qe h2] at h;simp at h
    · rw [qb h2,kov s hs] at h
      cases d:s.data.toList.all knv with
      | false=>rw [d] at h;simp at h
      | true=>exact ⟨by omega,by omega,fun c hc=>qs.1 d c hc⟩
theorem kjk {s:BA} (h:(s.toList == (⟨#[]⟩:BA).toList)=true):s=⟨#[]⟩:=kkn (by simpa using h)
theorem kj0 {l:List Va} (h:((l.length:Int) == 0)=true):l=[]:=qar (by have:=eq_of_beq h;omega)
theorem k7i {v:Va} (h:kir v) (ht:v.type=2):kqz v:=by
  rcases h with (rfl | rfl) | h | ⟨k,rfl,h0,h1⟩ | ⟨s,rfl,h⟩ | ⟨s,rfl,h⟩ | ⟨l,rfl,h1,h2⟩ | ⟨l,rfl,h⟩ | ⟨l,rfl,h1,k,h2,h3,a⟩
  all_goals first | exact h | (simp [Va.type] at ht)
theorem k73 {v:Va} (h:kir v) (ht:v.type=3):kqr v:=by
  rcases h with (rfl | rfl) | ⟨k,rfl,h0,h1⟩ | ⟨k,rfl,h0,h1⟩ | h | ⟨s,rfl,h⟩ | ⟨l,rfl,h1,h2⟩ | ⟨l,rfl,h⟩ | ⟨l,rfl,h1,k,h2,h3,a⟩
  all_goals first | exact h | (simp [Va.type] at ht)
theorem k58 {v:Va} (h:kir v) (ht:v.type=6):kwo 0 16 v:=by
  rcases h with (rfl | rfl) | ⟨k,rfl,h0,h1⟩ | ⟨k,rfl,h0,h1⟩ | ⟨s,rfl,h⟩ | ⟨s,rfl,h⟩ | ⟨l,rfl,h1,h2⟩ | h | ⟨l,rfl,h1,k,h2,h3,a⟩
  all_goals first | exact h | (simp [Va.type] at ht)
theorem ktw {n:Nat} {l:List Va} {t:Int} (wl:∀ x∈l,inV x) (f:l.length<=9223372036854775807) (hc:∀ x∈l,x.type=t->∃ c,kah n x=some c) (h:kfi (n+1) l t=some 0):l.length<=16/\∀ x∈l,x.type=t/\kah n x=some 0:=by
  have h:kfb (kah n) (kfi n) (kit n) l t=some 0:=h;by_cases d:(16:Int)<(l.length:Int)
  · simp only [kfb,qe d,qf] at h;cases h
  · simp only [kfb,qb d,qd] at h
    refine ⟨by omega,?_⟩;have hst:∀ (i:Nat) (hi:i<l.length),(kam l t (kah n) (i:Int)=some (.inl ((i+1:Nat):Int))/\l[i].type=t/\kah n l[i]=some 0)\/∃ c,c≠0/\kam l t (kah n) (i:Int)=some (.inr (.inr c)):=fun i hi=>by
      have e1:l[i]?=some l[i]:=qc hi;have g:=kcf (n:=i) (by omega);cases ht:(l[i].type != t) with
      | true=>exact .inr ⟨3,by decide,by simp only [kam,kbd hi,kak,e1,ht,qf,qa]⟩
      | false=>
        have e:l[i].type=t:=(by rwa [qap] at ht);obtain ⟨c,k1⟩:=hc _ (qv hi) e;cases a:(c != 0) with
        | true=>exact .inr ⟨c,by simpa using a,by simp only [kam,kbd hi,kak,e1,ht,k1,a,qf,qd,qa]⟩
        | false=>exact .inl ⟨by simp only [kam,kbd hi,kak,e1,ht,k1,a,g,qf,qd,qa],e,by rw [k1];rw [qap] at a;rw [a]⟩
    cases hr:kaa (kam l t (kah n)) fuel 0 with
    | none=>rw [hr] at h;cases h
    | some r=>
      obtain ⟨r2,r3,f1,f2,f3⟩:=kj9 (step:=kam l t (kah n)) (step':=kam l t (kah n)) l.length (by omega) (fun i=>(i:Int)) (fun i=>(i:Int)) (fun r r'=>∀ c,r = .inr c->c≠0) (fun i hi=>by
        rcases hst i hi with ⟨a1,_⟩ | ⟨c,h0,a1⟩
        · exact .inl ⟨a1,a1⟩
        · exact .inr ⟨_,_,a1,a1,fun c' h=>by cases h;exact h0⟩) ⟨.inl (), .inl (),by simp [kam],by simp [kam],fun c h=>by cases h⟩
      have f1':kaa (kam l t (kah n)) fuel 0=some r2:=(by simpa using f1);rw [hr] at f1';cases f1';rw [hr,qa] at h;cases r with
      | inr c=>exact absurd (qq h) (f3 c rfl)
      | inl u=>
        intro x j;obtain ⟨i,hi,rfl⟩:=qad.1 j;have b:=kqo (step:=kam l t (kah n)) l.length (fun i=>(i:Int)) (.inl u) (fun i hi=>by
          rcases hst i hi with ⟨a1,_⟩ | ⟨c,_,a1⟩
          · exact .inl a1
          · exact .inr ⟨_,a1,fun h=>by cases h⟩) fuel 0 hr i (qz _) hi
        rcases hst i hi with ⟨_,h⟩ | ⟨c,_,a1⟩
        · exact h
        · rw [a1] at b;cases b
theorem kai4 {n:Nat} {l:List Va} (wl:∀ x∈l,inV x) (j:l.length<=9223372036854775807) (hc:∀ x∈l,x.type=6->∃ c,kah n x=some c) (h:kit (n+1) l=some 0):l.length<=8/\∃ k,1<=k/\k<=8/\∀ x∈l,x.type=6/\x.items.length=k/\kah n x=some 0:=by
  have h:khq (kah n) (kfi n) (kit n) l=some 0:=h;by_cases d:(8:Int)<(l.length:Int)
  · simp only [khq,qe d,qf] at h;cases h
  · simp only [khq,qb d,qd] at h
    refine ⟨by omega,?_⟩;have hst:∀ (i:Nat) (hi:i<l.length),(kaz l (kah n) (i:Int)=some (.inl ((i+1:Nat):Int))/\l[i].type=6/\(1<=l[i].items.length/\l[i].items.length<=8/\l[i].items.length=(l[0]'(by omega)).items.length)/\kah n l[i]=some 0)\/∃ c,c≠0/\kaz l (kah n) (i:Int)=some (.inr (.inr c)):=fun i hi=>by
      have e1:l[i]?=some l[i]:=qc hi;have e0:idx l 0=some (l[0]'(by omega)):=(by rw [show (0:Int)=((0:Nat):Int) from rfl,kak,qc]);have o:=kcf (n:=i) (by omega);cases ht:(l[i].type != 6) with
      | true=>exact .inr ⟨3,by decide,by simp only [kaz,kbd hi,kak,e1,ht,qf,qa]⟩
      | false=>
        have e:l[i].type=6:=(by rwa [qap] at ht);obtain ⟨c,k1⟩:=hc _ (qv hi) e;by_cases m:1<=l[i].items.length/\l[i].items.length<=8/\l[i].items.length=(l[0]'(by omega)).items.length
        · have e3:(bif decide ((l[i].items.length:Int)<1) then some true else bif decide (8<(l[i].items.length:Int)) then some true else (some ((l[i].items.length:Int) != ((l[0]'(by omega)).items.length:Int)):Option Bool))=some false:=by rw [qb (by omega),qb (by omega),m.2.2];simp
          cases a:(c != 0) with
          | true=>exact .inr ⟨c,by simpa using a,by simp only [kaz,kbd hi,kak,e1,e0,ht,e3,k1,a,qf,qd,qa]⟩
          | false=>exact .inl ⟨by simp only [kaz,kbd hi,kak,e1,e0,ht,e3,k1,a,o,qf,qd,qa],e,m,by rw [k1];rw [qap] at a;rw [a]⟩
        · have e3:(bif decide ((l[i].items.length:Int)<1) then some true else bif decide (8<(l[i].items.length:Int)) then some true else (some ((l[i].items.length:Int) != ((l[0]'(by omega)).items.length:Int)):Option Bool))=some true:=by
            by_cases q1:(l[i].items.length:Int)<1
            · rw [qe q1];rfl
            · by_cases q2:8<(l[i].items.length:Int)
              · rw [qe q2,qb q1];rfl
              · rw [qb q1,qb q2,qd,qd]
                congr 1;simp;omega
          exact .inr ⟨2,by decide,by simp only [kaz,kbd hi,kak,e1,e0,ht,e3,qf,qd,qa]⟩
    cases hr:kaa (kaz l (kah n)) fuel 0 with
    | none=>rw [hr] at h;cases h
    | some r=>
      obtain ⟨r2,r3,f1,f2,f3⟩:=kj9 (step:=kaz l (kah n)) (step':=kaz l (kah n)) l.length (by omega) (fun i=>(i:Int)) (fun i=>(i:Int)) (fun r r'=>∀ c,r = .inr c->c≠0) (fun i hi=>by
        rcases hst i hi with ⟨a1,_⟩ | ⟨c,h0,a1⟩
        · exact .inl ⟨a1,a1⟩
        · exact .inr ⟨_,_,a1,a1,fun c' h=>by cases h;exact h0⟩) ⟨.inl (), .inl (),by simp [kaz],by simp [kaz],fun c h=>by cases h⟩
      have f1':kaa (kaz l (kah n)) fuel 0=some r2:=(by simpa using f1);rw [hr] at f1';cases f1';rw [hr,qa] at h;cases r with
      | inr c=>exact absurd (qq h) (f3 c rfl)
      | inl u=>
        have all:∀ (i:Nat) (hi:i<l.length),l[i].type=6/\(1<=l[i].items.length/\l[i].items.length<=8/\l[i].items.length=(l[0]'(by omega)).items.length)/\kah n l[i]=some 0:=fun i hi=>by
          have b:=kqo (step:=kaz l (kah n)) l.length (fun i=>(i:Int)) (.inl u) (fun i hi=>by
            rcases hst i hi with ⟨a1,_⟩ | ⟨c,_,a1⟩
            · exact .inl a1
            · exact .inr ⟨_,a1,fun h=>by cases h⟩) fuel 0 hr i (qz _) hi
          rcases hst i hi with ⟨_,h⟩ | ⟨c,_,a1⟩
          · exact h
          · rw [a1] at b;cases b
        by_cases f:0<l.length
        · have z:=(all 0 f).2.1
          refine ⟨(l[0]'f).items.length,z.1,z.2.1,fun x g=>?_⟩;obtain ⟨i,hi,rfl⟩:=qad.1 g;have:=all i hi;exact ⟨this.1,this.2.1.2.2,this.2.2⟩
        · exact ⟨1,by omega,by omega,fun x g=>by rw [qar (by omega:l.length=0)] at g;cases g⟩
theorem va_t (t m:Int) (s:BA) (l:List Va):(Va.mk t m s l).type=t:=rfl
theorem va_n (t m:Int) (s:BA) (l:List Va):(Va.mk t m s l).num=m:=rfl
theorem va_s (t m:Int) (s:BA) (l:List Va):(Va.mk t m s l).text=s:=rfl
theorem va_l (t m:Int) (s:BA) (l:List Va):(Va.mk t m s l).items=l:=rfl
theorem kah4:∀ (n:Nat) (x:Va),2*rkT x.type<=n->inV x->kah n x=some 0->kir x:=by
  intro n
  induction n using Nat.strongRecOn with
  | ind n ih=>
    intro x hn o h;have j:1<=rkT x.type:=(by unfold rkT;split <;> (try split) <;> omega);obtain ⟨n,rfl⟩:∃ m,n=m+2:=⟨n - 2,by omega⟩;replace h:kb2 (kah (n+1)) (kfi (n+1)) (kit (n+1)) x=some 0:=h;obtain ⟨lx,sx,wx⟩:=k3y o;by_cases h0:x.type<1
    · simp [kb2,h0] at h
    by_cases p:8<x.type
    · simp [kb2,h0,p] at h
    have g:∀ k (y:Va),2*rkT y.type<=k->inV y->∃ c,kah k y=some c:=fun k y h1 h2=>(by obtain ⟨c,hc,_⟩:=(k29 k).1 y h1 h2;exact ⟨c,hc⟩);have ht:x.type=1\/x.type=2\/x.type=3\/x.type=4\/x.type=5\/x.type=6\/x.type=7\/x.type=8:=(by omega);obtain ⟨t,m,s,l⟩:=x;simp only [va_t,va_n,va_s,va_l] at *
    cases i:(s.toList == (⟨#[]⟩:BA).toList) <;> cases hm:(m == 0) <;> cases hl:((l.length:Int) == 0) <;>
      rcases ht with rfl | rfl | rfl | rfl | rfl | rfl | rfl | rfl <;>
      simp only [kb2,keu,va_t,va_n,va_s,va_l,i,hm,hl] at h <;> simp at h
    · obtain ⟨c,hc⟩:=kpc s 0 64 sx
      rw [hc] at h;simp at h;subst h;obtain rfl:=kj0 hl;obtain rfl:=eq_of_beq hm;exact .inr (.inr (.inr (.inl ⟨s,rfl,k19 (a:=0) (b:=64) sx hc⟩)))
    · obtain ⟨c,hc⟩:=kpc s 1 40 sx
      rw [hc] at h;simp at h;subst h;obtain rfl:=kj0 hl;obtain rfl:=eq_of_beq hm;exact .inr (.inr (.inr (.inr (.inl ⟨s,rfl,k19 (a:=1) (b:=40) sx hc⟩))))
    · obtain ⟨c,hc,_⟩:=kiw m 0 1
      rw [hc] at h;simp at h;subst h;obtain rfl:=kj0 hl;obtain rfl:=kjk i;have hr:=ksn hc;rcases (by omega:m=0\/m=1) with rfl | rfl
      · exact .inl (.inl rfl)
      · exact .inl (.inr rfl)
    · obtain ⟨c,hc,_⟩:=kiw m (-1000000) 1000000
      rw [hc] at h;simp at h;subst h;obtain rfl:=kj0 hl;obtain rfl:=kjk i;have hr:=ksn hc;exact .inr (.inl ⟨m,rfl,hr.1,hr.2⟩)
    · obtain ⟨c,hc,_⟩:=kiw m 0 255
      rw [hc] at h;simp at h;subst h;obtain rfl:=kj0 hl;obtain rfl:=kjk i;have hr:=ksn hc;exact .inr (.inr (.inl ⟨m,rfl,hr.1,hr.2⟩))
    · obtain rfl:=kjk i
      obtain rfl:=eq_of_beq hm;have e:2<=n:=(by have:rkT 5=2:=rfl;omega);obtain ⟨h1,h2⟩:=ktw wx lx (fun y d f=>g n y (by rw [f];exact e) (wx y d)) h;exact .inr (.inr (.inr (.inr (.inr (.inl ⟨l,rfl,h1,fun y d=>k7i (ih n (by omega) y (by rw [(h2 y d).1];exact e) (wx y d) (h2 y d).2) (h2 y d).1⟩)))))
    · obtain rfl:=kjk i
      obtain rfl:=eq_of_beq hm;have e:2<=n:=(by have:rkT 6=2:=rfl;omega);obtain ⟨h1,h2⟩:=ktw wx lx (fun y d f=>g n y (by rw [f];exact e) (wx y d)) h;exact .inr (.inr (.inr (.inr (.inr (.inr (.inl ⟨l,rfl,qz _,h1,fun y d=>k73 (ih n (by omega) y (by rw [(h2 y d).1];exact e) (wx y d) (h2 y d).2) (h2 y d).1⟩))))))
    · obtain rfl:=kjk i
      obtain rfl:=eq_of_beq hm;have e:4<=n:=(by have:rkT 7=3:=rfl;omega);obtain ⟨h1,k,k1,k2,h2⟩:=kai4 wx lx (fun y d f=>g n y (by rw [f];exact e) (wx y d)) h;refine .inr (.inr (.inr (.inr (.inr (.inr (.inr ⟨l,rfl,h1,k,k1,k2,fun y d=>?_⟩))))));obtain ⟨l',rfl,_,_,q⟩:=k58 (ih n (by omega) y (by rw [(h2 y d).1];exact e) (wx y d) (h2 y d).2.2) (h2 y d).1;have hk:l'.length=k:=(h2 _ d).2.1;exact ⟨l',rfl,by omega,by omega,q⟩
    · obtain ⟨c,hc,_⟩:=kiw m 0 1
      rw [hc] at h;simp at h;subst h;obtain rfl:=kj0 hl;obtain rfl:=kjk i;have hr:=ksn hc;rcases (by omega:m=0\/m=1) with rfl | rfl
      · exact .inl (.inl rfl)
      · exact .inl (.inr rfl)
    · obtain ⟨c,hc,_⟩:=kiw m (-1000000) 1000000
      rw [hc] at h;simp at h;subst h;obtain rfl:=kj0 hl;obtain rfl:=kjk i;have hr:=ksn hc;exact .inr (.inl ⟨m,rfl,hr.1,hr.2⟩)
    · obtain ⟨c,hc⟩:=kpc s 0 64 sx
      rw [hc] at h;simp at h;subst h;obtain rfl:=kj0 hl;obtain rfl:=eq_of_beq hm;exact .inr (.inr (.inr (.inl ⟨s,rfl,k19 (a:=0) (b:=64) sx hc⟩)))
    · obtain ⟨c,hc,_⟩:=kiw m 0 255
      rw [hc] at h;simp at h;subst h;obtain rfl:=kj0 hl;obtain rfl:=kjk i;have hr:=ksn hc;exact .inr (.inr (.inl ⟨m,rfl,hr.1,hr.2⟩))
    · obtain rfl:=kjk i
      obtain rfl:=eq_of_beq hm;have e:2<=n:=(by have:rkT 5=2:=rfl;omega);obtain ⟨h1,h2⟩:=ktw wx lx (fun y d f=>g n y (by rw [f];exact e) (wx y d)) h;exact .inr (.inr (.inr (.inr (.inr (.inl ⟨l,rfl,h1,fun y d=>k7i (ih n (by omega) y (by rw [(h2 y d).1];exact e) (wx y d) (h2 y d).2) (h2 y d).1⟩)))))
    · obtain rfl:=kjk i
      obtain rfl:=eq_of_beq hm;have e:2<=n:=(by have:rkT 6=2:=rfl;omega);obtain ⟨h1,h2⟩:=ktw wx lx (fun y d f=>g n y (by rw [f];exact e) (wx y d)) h;exact .inr (.inr (.inr (.inr (.inr (.inr (.inl ⟨l,rfl,qz _,h1,fun y d=>k73 (ih n (by omega) y (by rw [(h2 y d).1];exact e) (wx y d) (h2 y d).2) (h2 y d).1⟩))))))
    · obtain rfl:=kjk i
      obtain rfl:=eq_of_beq hm;have e:4<=n:=(by have:rkT 7=3:=rfl;omega);obtain ⟨h1,k,k1,k2,h2⟩:=kai4 wx lx (fun y d f=>g n y (by rw [f];exact e) (wx y d)) h;refine .inr (.inr (.inr (.inr (.inr (.inr (.inr ⟨l,rfl,h1,k,k1,k2,fun y d=>?_⟩))))));obtain ⟨l',rfl,_,_,q⟩:=k58 (ih n (by omega) y (by rw [(h2 y d).1];exact e) (wx y d) (h2 y d).2.2) (h2 y d).1;have hk:l'.length=k:=(h2 _ d).2.1;exact ⟨l',rfl,by omega,by omega,q⟩
    · obtain ⟨c,hc⟩:=kpc s 1 40 sx
      rw [hc] at h;simp at h;subst h;obtain rfl:=kj0 hl;obtain rfl:=eq_of_beq hm;exact .inr (.inr (.inr (.inr (.inl ⟨s,rfl,k19 (a:=1) (b:=40) sx hc⟩))))
theorem ok_of {x:Va} (a:inV x) (h:kah fuel x=some 0):kir x:=kah4 fuel x (qbd (Nat.mul_le_mul_left 2 (k7b x.type)) (Nat.le_of_lt (kbk (by omega)))) a h
def nOk (n:Int):Prop := -1000<=n/\n<=1000
structure WrR (r:Ru):Prop where
  sym:nOk r.symbol
  inp:nOk r.input
  args:∀ a∈r.args,nOk a
  few:r.args.length<=1000
  op:r.op.size<=1000
  const:r.kind=2->kir r.const/\kjh r.const=some (mkB (kad r.const),0)/\klx r.const=some (mkB (kad r.const),0)
theorem kael {v:Va} (h:kir v):(kad v).length<=60000:=(kvm h 0 0).2.2
structure WrL (l:La):Prop where
  name:l.name.size<=1000
  inputs:l.inputs.length<=1000
  ins:∀ t∈l.inputs,nOk t
  symbols:l.symbols.length<=1000
  names:∀ x∈l.symbols,x.name.size<=1000/\nOk x.type
  rules:l.rules.length<=96
  ruls:∀ r∈l.rules,WrR r
theorem k8s {x:Va} (d:inV x) (h:kah fuel x=some 0):kir x/\kjh x=some (mkB (kad x),0)/\klx x=some (mkB (kad x),0):=by
  have a:=ok_of d h;obtain ⟨c,c1,c2,_⟩:=ky4 d;obtain rfl:c=0:=by rw [h] at c1;exact (qq c1).symm
  obtain ⟨w1,_,_⟩:=written (l:=[x]) (by simp) (fun y f=>by rw [qbf.1 f];exact a);have g:kc8 ([x].map kad)=kad x:=by simp [kc8]
  rw [g] at w1;refine ⟨a,?_,?_⟩
  · have hl:kaa (ki9 [x]) fuel 0=some (.inl ()):=by
      refine (kj5 (s0:=(0:Int)) (Q:=(·=Sum.inl ())) 1 (fun i s=>s=(i:Int)) (by omega) rfl (fun i s hi e=>?_) (fun s e=>?_)).eq
      · subst e
        obtain rfl:i=0:=(by omega);refine knn (s:=1) ?_ rfl;simp only [ki9,Int.natCast_zero,show decide ((0:Int)<(([x]:List Va).length:Int))=true from rfl,show idx [x] 0=some x from rfl,qf,qa,h,bne_self_eq_false,qd];rfl
      · subst e
        exact knl (b := .inl ()) rfl rfl
    simp only [kjh,kkx,hl,qa,qh,w1,ka3,k9d]
  · obtain ⟨k,hk⟩:=kajl
    have ht:kbt fuel x=some (mkB (kad x)):=(by rw [hk];exact (kvm a (k+4) (k+4)).2.1);simp only [klx,c2,qa,bne_self_eq_false,qd,ht]
theorem kaam {s:BA} {o:Saa} (h:ka7 s=some (o,true)):s∈opNames:=by refine Classical.byContradiction fun hn=>?_;rw [(kuf s hn).2] at h;simp at h
theorem k48:opNames.all (fun s=>decide (s.size<=100))=true:=by kernel_rfl
theorem kaeg {l:La} {r:Ru} (hl:klh l) (b:kt1 r) (h:ValidR l r):WrR r:=by
  have c:=hl.sym16;have e:=hl.inputs;have hs:=h.1;rcases h.2 with q | q | q
  · exact ⟨⟨by omega,by omega⟩,⟨by have:=q.2.2.2.2.1;omega,by have:=q.2.2.2.2.1;omega⟩,by rw [q.2.2.2.1];simp,by rw [q.2.2.2.1];simp,by rw [q.2.2.1];exact qz _,fun h2=>by have:=q.1;omega⟩
  · exact ⟨⟨by omega,by omega⟩,by rw [q.2.1];exact ⟨by decide,by decide⟩,by rw [q.2.2.2.1];simp,by rw [q.2.2.2.1];simp,by rw [q.2.2.1];exact qz _,fun h2=>k8s b.2 q.2.2.2.2.1⟩
  · obtain ⟨q1,q2,q3,o,q4,q5,q6,q7⟩:=q
    have d:=kqm q4 rfl;simp only at d;refine ⟨⟨by omega,by omega⟩,by rw [q2];exact ⟨by decide,by decide⟩,fun a ha=>?_,by omega,?_,fun h2=>by omega⟩
    · obtain ⟨i,hi,rfl⟩:=qad.1 ha
      have:=(q6 i hi).1;exact ⟨by omega,by omega⟩
    · have:=qal (qs.1 k48 _ (kaam q4))
      omega
theorem kadj {l:La} (a:kk5 l) (hl:klh l):WrL l:=by
  refine ⟨by have:=hl.name.1;omega,by have:=hl.inputs;omega,fun t ht=>?_,by have:=hl.sym16;omega,fun x b=>?_,hl.rules,fun r hr=>?_⟩
  · obtain ⟨i,hi,rfl⟩:=qad.1 ht
    have:=hl.typs i hi;exact ⟨by have:=this.1;omega,by have:=this.2;omega⟩
  · obtain ⟨i,hi,rfl⟩:=qad.1 b
    have h1:=(hl.names i hi).1;have h2:=hl.types i hi;exact ⟨by omega,by have:=h2.1;omega,by have:=h2.2;omega⟩
  · obtain ⟨i,hi,rfl⟩:=qad.1 hr
    exact kaeg hl (a.wide _ (qv hi)) (hl.valid i hi)
theorem kaeh {l:La} (a:kk5 l):∃ c,kep l=some c/\kcq l=some c/\(c=0↔klh l)/\(c=0->k5c l):=by
  obtain ⟨c,c1,c2,c3⟩:=kad0 l a;obtain ⟨d,d1,d2⟩:=kaee a a.name a.symbols a.names a.rules (fun r hr=>(a.wide r hr).1);obtain rfl:d=c:=by rw [d1] at c2;exact qq c2
  exact ⟨d,c1,c2,d2,c3⟩
end Go.Proofs.YtaimpcnpifoidaaGreatDoor
