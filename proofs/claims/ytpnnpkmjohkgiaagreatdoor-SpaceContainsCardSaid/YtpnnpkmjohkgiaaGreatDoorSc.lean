import Derived.Test.YtpnnpkmjohkgiaaGreatDoorSb
import Derived.Test.YtpnnpkmjohkgiaaGreatDoorDe
set_option linter.all false
set_option maxRecDepth 100000
namespace Go.Proofs.YtpnnpkmjohkgiaaGreatDoor
open Go Go.RowKit
def kcg (m s:Nat):Int:=if s<=m then (m:Int) - (s:Int) else -1
theorem kee {l:List Tm} {i:Nat} (h:i<l.length):Tm.sizeL (l.take (i+1))=Tm.sizeL (l.take i)+l[i].size:=by rw [qa0 h,Tm.sizeL_snoc]
theorem kdd (l:List Tm) (i:Nat):i<=l.length->i<=Tm.sizeL (l.take i)/\Tm.sizeL (l.take i)<=Tm.sizeL l:=by
 intro hi
 induction i with
 | zero=>exact ⟨qak _,by simp [Tm.sizeL]⟩
 | succ i ih=>
  have h1:=ih (by omega);have c:=kee (l:=l) (i:=i) (by omega);have d:=Tm.size_pos l[i];refine ⟨by omega,?_⟩;have:Tm.sizeL l=Tm.sizeL (l.take (i+1))+Tm.sizeL (l.drop (i+1)):=by
   have gen:∀ a b:List Tm,Tm.sizeL (a++b)=Tm.sizeL a+Tm.sizeL b:=fun a b=>by
    induction a with
    | nil=>simp [Tm.sizeL]
    | cons x a ih=>simp only [List.cons_append,Tm.sizeL,ih];omega
   rw [<- gen,List.take_append_drop]
  omega
theorem kj7 (l:List Tm):l.length<=Tm.sizeL l:=by have:=(kdd l l.length (qx _)).1;rw [qa7] at this;exact this
theorem kqy:∀ (n:Nat) (t:Tm) (m:Nat),m<=10000->m<n->kb4 n t (m:Int)=some (kcg m t.size)
 | 0,t,m,_,h=>by omega
 | n+1,t,m,hm,hn=>by
  show kcw (kb4 n) t (m:Int)=_;obtain ⟨r0,l⟩:=t;have f:(Tm.mk r0 l).size=Tm.sizeL l+1:=rfl;have b:w64 ((m:Int) - 1)=kcg m (1+Tm.sizeL (l.take 0)):=by rw [ke2 (by omega) (by omega)];simp only [List.take_zero,Tm.sizeL,kcg];split <;> omega
  have key:Ev (kai (kb1 (Tm.mk r0 l) (kb4 n)) fuel (kcg m (1+Tm.sizeL (l.take 0)),0)) fun r=>r=kcg m (Tm.sizeL l+1):=by
   refine km8 (min l.length m) (fun i s=>s=(kcg m (1+Tm.sizeL (l.take i)),(i:Int))) (by omega) rfl (fun i s hi hs=>?_) (fun s hs=>?_)
   ·subst hs;have d:i<l.length:=(by omega);have e1:(Tm.mk r0 l).args[i]?=some l[i]:=qa d;have b1:decide ((i:Int)<((Tm.mk r0 l).args.length:Int))=true:=qo (by show (i:Int)<(l.length:Int);omega);have e:=kdd l i (by omega);simp only [kb1,b1,qe,qc,kak,e1];by_cases hp:1+Tm.sizeL (l.take i)<=m;have hv:kcg m (1+Tm.sizeL (l.take i))=((m - (1+Tm.sizeL (l.take i)):Nat):Int):=(by unfold kcg;rw [qq hp];omega);have q1:=kqy n l[i] (m - (1+Tm.sizeL (l.take i))) (by omega) (by omega);have c:kcg (m - (1+Tm.sizeL (l.take i))) l[i].size=kcg m (1+Tm.sizeL (l.take (i+1))):=(by rw [kee d];unfold kcg;split <;> split <;> omega);rw [hv,qo (show (0:Int)<=((m - (1+Tm.sizeL (l.take i)):Nat):Int) by omega)];simp only [qe,q1,qc,c,kjd (n:=i) (by omega)];exact ⟨_,rfl,rfl⟩
    ·have hv:kcg m (1+Tm.sizeL (l.take i)) = -1:=(by unfold kcg;rw [qh hp]);have hf:kcg m (Tm.sizeL l+1) = -1:=(by unfold kcg;rw [qh (by omega)]);rw [hv,hf];exact ⟨_,rfl,rfl⟩
   ·subst hs;have e:=kdd l (min l.length m) (by omega);by_cases g:l.length<=m;have a:min l.length m=l.length:=(by omega);have b1:decide ((l.length:Int)<((Tm.mk r0 l).args.length:Int))=false:=qn (by show ¬ (l.length:Int)<(l.length:Int);omega);have hf:kcg m (1+Tm.sizeL l)=kcg m (Tm.sizeL l+1):=(by rw [Nat.add_comm]);simp only [a,kb1,b1,qg,qc,qa7,hf];exact ⟨_,rfl,_,rfl,rfl⟩
    ·have a:min l.length m=m:=(by omega);rw [a] at e;have b1:decide ((m:Int)<((Tm.mk r0 l).args.length:Int))=true:=qo (by show (m:Int)<(l.length:Int);omega);have hv:kcg m (1+Tm.sizeL (l.take m)) = -1:=(by unfold kcg;rw [qh (by omega)]);have hf:kcg m (Tm.sizeL l+1) = -1:=(by unfold kcg;rw [qh (by omega)]);simp only [a,kb1,b1,qe,qc,hv,hf];exact ⟨_,rfl,_,rfl,rfl⟩
  obtain ⟨r,h1,j⟩:=key;unfold kcw;rw [b,h1,j,f];rfl
theorem ktz (t:Tm) (m:Nat) (hm:m<=10000):kcy t (m:Int)=some (decide (t.size<=m)):=by unfold kcy;rw [kqy fuel t m hm (kfh (by omega)),qc];refine congrArg some (decide_eq_decide.2 ?_);unfold kcg;split <;> omega
theorem kl2:∀ (n:Nat) (t:Tm) (m:Nat),m<=10000->m<n->kcp n t (m:Int)=some (decide (t.size<=m),kcg m t.size)
 | 0,t,m,_,h=>by omega
 | n+1,t,m,hm,hn=>by
  show kdu (kcp n) t (m:Int)=_;obtain ⟨r0,l⟩:=t;have f:(Tm.mk r0 l).size=Tm.sizeL l+1:=rfl;unfold kdu;rw [f];cases m with
  | zero=>rfl
  | succ B=>
   have e1:w64 (((B+1:Nat):Int) - 1)=(B:Int):=(by rw [ke2 (by omega) (by omega)];omega);rw [e1,qn (show ¬ (B:Int)<0 by omega),qg];have key:Ev (kai (kar l (kcp n)) fuel (0,(B:Int))) fun r=>(r = .inl ((B:Int) - Tm.sizeL l)/\Tm.sizeL l<=B)\/(∃ k:Nat,r = .inr ((k:Int),-1))/\B<Tm.sizeL l:=by
    refine km8 (min l.length B) (fun i s=>s=((i:Int),(B:Int) - Tm.sizeL (l.take i))/\Tm.sizeL (l.take i)<=B) (by omega) ⟨by simp [Tm.sizeL],by simp [Tm.sizeL]⟩ (fun i s hi hs=>?_) (fun s hs=>?_)
    ·obtain ⟨rfl,e⟩:=hs;have a:i<l.length:=(by omega);have c:=kdd l (i+1) (by omega);have hv:(B:Int) - Tm.sizeL (l.take i)=((B - Tm.sizeL (l.take i):Nat):Int):=(by omega);simp only [kar,qo (show (i:Int)<(l.length:Int) by omega),qe,kak,qa a,qc,hv,kl2 n l[i] (B - Tm.sizeL (l.take i)) (by omega) (by omega),kjd (n:=i) (by omega)];rw [kee a] at c;by_cases hp:l[i].size<=B - Tm.sizeL (l.take i)
     ·rw [qo hp];refine ⟨_,rfl,?_,?_⟩;rw [kee a];unfold kcg;rw [qq hp];congr 1;omega
      ·rw [kee a];omega
     ·rw [qn hp];refine ⟨_,rfl, .inr ⟨⟨i,?_⟩,by omega⟩⟩;unfold kcg;rw [qh hp]
    ·obtain ⟨rfl,e⟩:=hs;by_cases j:l.length<=B;have b:min l.length B=l.length:=(by omega);rw [b,qa7] at e ⊢;exact ⟨_,by simp only [kar,ka2,qg],_,rfl, .inl ⟨rfl,e⟩⟩
     ·have b:min l.length B=B:=(by omega);rw [b] at e ⊢;have a:B<l.length:=(by omega);have c:=kdd l B (by omega);have d:=kdd l (B+1) (by omega);have o:=Tm.size_pos l[B];have hv:(B:Int) - Tm.sizeL (l.take B)=((0:Nat):Int):=(by omega);simp only [kar,qo (show (B:Int)<(l.length:Int) by omega),qe,kak,qa a,qc,hv,kl2 n l[B] 0 (by omega) (by omega)];rw [qn (show ¬ l[B].size<=0 by omega)];rw [kee a] at d;refine ⟨_,rfl,_,rfl, .inr ⟨⟨B,?_⟩,by omega⟩⟩;unfold kcg;rw [qh (by omega)]
   obtain ⟨r,h1,g⟩:=key;show Option.bind (ka4 (kcp n) l (B:Int)) _=_;unfold ka4 kbg;rw [h1,qc];unfold kcg;rcases g with ⟨rfl,g⟩ | ⟨⟨k,rfl⟩,g⟩;rw [qo (show Tm.sizeL l+1<=B+1 by omega),qq (by omega)];simp only [qu,qc];rw [qn (show ¬ (0:Int) <= -1 by omega)];congr 2;omega
   ·rw [qn (show ¬ Tm.sizeL l+1<=B+1 by omega),qh (by omega)];simp only [qv,qc];rw [qo (show (0:Int)<=(k:Int) by omega)];rfl
theorem k0k (t:Tm):kfr t=some (decide (t.size<=24)):=by unfold kfr;have:=kl2 fuel t 24 (by omega) (kfh (by omega));rw [show ((24:Nat):Int)=24 from rfl] at this;rw [this];rfl
section
variable {s:Spa}
theorem kyo (hf:kc2 s):∀ (t:Tm) (i:Nat) (n:Nod),s.f_Nodes[i]?=some n->Bt s.f_Nodes i t->(t.size:Int)=n.f_Size:=by
 refine Tm.ind fun r l ih=>?_;intro i n hn d;obtain ⟨n',o,ts,b,ho,e,hs⟩:=d.inv;rw [hn] at b;cases b;cases e;have f:=(hf.node i n hn).opt o ho;have key:∀ (vs:List Int) (ts:List Tm),Bts s.f_Nodes vs ts->(∀ t∈ts,∀ (i:Nat) (n:Nod),s.f_Nodes[i]?=some n->Bt s.f_Nodes i t->(t.size:Int)=n.f_Size)->(Tm.sizeL ts:Int)=(vs.map (szAt s.f_Nodes)).sum:=fun vs=>by
  induction vs with
  | nil=>intro ts h _;cases h;rfl
  | cons a vs ih2=>
   intro ts h hi;cases h with
   | @cons _ _ t ts h0 ht hs=>
    have h1:=ih2 _ hs fun t ht=>hi t (qp _ ht);have c:=ksq ht;have hm:=qa c;have g:=hi t (q9 ..) _ _ hm ht;have j:szAt s.f_Nodes a=s.f_Nodes[a.toNat].f_Size:=(by unfold szAt;rw [hm];rfl);simp only [Tm.sizeL,qa9,List.sum_cons];omega
 have h1:=key _ _ hs ih;have g:=f.size;show ((Tm.sizeL l+1:Nat):Int)=_;omega
open Classical in
def OwnP (s:Spa) (t:Tm) (l:List Int):Prop:=l.Pairwise (·<·)/\(∀ a,a∈l↔0<=a/\Bt s.f_Nodes a.toNat t)/\l.length<=s.f_Nodes.length
theorem k1w (a b:Int):kfc a b=some (decide (a<b)):=by simp only [kfc,kdc,bne_self_eq_false,qc,qg]
theorem ky0 {n:Int} (h0:0<=n) (h1:n<18446744073709551616):wu64 n=n:=by unfold wu64 IntKind.wrap IntKind.signed IntKind.bits;simp only;rw [show (2:Int) ^ 64=18446744073709551616 from rfl,Int.emod_eq_of_lt h0 h1];simp
theorem mid_p {a b:Nat} (h:a+b<=1000000):w64 (Int.fdiv (wu64 (w64 ((a:Int)+(b:Int)))) (2 ^ (1:Nat)))=(((a+b) / 2:Nat):Int):=by
 have e1:w64 ((a:Int)+(b:Int))=((a+b:Nat):Int):=by rw [ke2 (by omega) (by omega)];omega
 have e2:wu64 ((a+b:Nat):Int)=((a+b:Nat):Int):=ky0 (by omega) (by omega);rw [e1,e2];have e3:Int.fdiv ((a+b:Nat):Int) (2 ^ (1:Nat))=(((a+b) / 2:Nat):Int):=by rw [Int.fdiv_eq_ediv_of_nonneg _ (by decide)];omega
 rw [e3,ke2 (by omega) (by omega)]
theorem bs_ok (xs:List Int) (x:Int) (hp:xs.Pairwise (·<·)) (hl:xs.length<=10000):Ev (kby xs x) fun p=>p.2=decide (x∈xs):=by
 unfold kby;have a:∀ (i j:Nat) (hi:i<xs.length) (q:j<xs.length),i<j->xs[i]<xs[j]:=fun i j hi q e=>List.pairwise_iff_getElem.1 hp i j hi q e;refine kda (Ev.mono (kwa (step:=kbj xs x) (Q:=fun r=>∃ i:Nat,r=(i:Int)/\i<=xs.length/\(∀ k (hk:k<xs.length),k<i->xs[k]<x)/\∀ k (hk:k<xs.length),i<=k->x<=xs[k]) (fun p=>∃ i j:Nat,p=((i:Int),(j:Int))/\i<=j/\j<=xs.length/\(∀ k (hk:k<xs.length),k<i->xs[k]<x)/\∀ k (hk:k<xs.length),j<=k->x<=xs[k]) (fun p=>(p.2 - p.1).toNat) (by simp;omega) ⟨0,xs.length,rfl,by omega,by omega,fun k hk h=>by omega,fun k hk h=>by omega⟩ ?_) ?_)
 ·rintro p ⟨i,j,rfl,h1,s,f,l⟩;by_cases e:i<j
  ·have hm:(i+j) / 2<xs.length:=(by omega);simp only [kbj,qo (show (i:Int)<(j:Int) by omega),qe,mid_p (show i+j<=1000000 by omega),kak,qa hm,qc,k1w];by_cases c:xs[(i+j) / 2]<x
   ·rw [qo c];simp only [qe,qc];rw [kjd (n:=(i+j) / 2) (by omega)];refine ⟨_,rfl,⟨(i+j) / 2+1,j,rfl,by omega,s,fun k hk g=>?_,l⟩,by simp;omega⟩;by_cases d:k=(i+j) / 2;subst d;exact c
    ·have:=a k ((i+j) / 2) hk hm (by omega);omega
   ·rw [qn c];simp only [qg,qc];refine ⟨_,rfl,⟨i,(i+j) / 2,rfl,by omega,by omega,f,fun k hk g=>?_⟩,by simp;omega⟩;by_cases d:k=(i+j) / 2;subst d;omega
    ·have:=a ((i+j) / 2) k hm hk (by omega);omega
  ·simp only [kbj,qn (show ¬ (i:Int)<(j:Int) by omega),qg];exact ⟨_,rfl,i,rfl,by omega,f,fun k hk g=>l k hk (by omega)⟩
 ·rintro r ⟨i,rfl,h1,f,l⟩;by_cases hi:i<xs.length
  ·simp only [qo (show (i:Int)<(xs.length:Int) by omega),qe,kak,qa hi,qc,kd2,bne_self_eq_false];by_cases m:xs[i]=x;rw [show (xs[i] == x)=true by simp [m]];exact ⟨_,rfl,(qo (by rw [<- m];exact qt hi)).symm⟩
   ·rw [show (xs[i] == x)=false by simp [m]];refine ⟨_,rfl,(qn fun o=>?_).symm⟩;obtain ⟨k,hk,rfl⟩:=qab.1 o;rcases Nat.lt_trichotomy k i with b | b | b;have:=f k hk b;omega;subst b;exact m rfl
    ·have:=a i k hi hk b;have:=l i hi (qx _);omega
  ·simp only [qn (show ¬ (i:Int)<(xs.length:Int) by omega),qg,qc];refine ⟨_,rfl,(qn fun o=>?_).symm⟩;obtain ⟨k,hk,rfl⟩:=qab.1 o;have:=f k hk (by omega);omega
open Classical in
theorem k1r (hf:kc2 s) {i:Nat} {n:Nod} {o:Opn} (hn:s.f_Nodes[i]?=some n) (ho:o∈n.f_Options) (r:Int) (ts:List Tm) (x:ts.length<=1000) (acc:List (List Int)) (y:acc.length=ts.length) (b:∀ (j:Nat) (l:List Int),acc[j]?=some l->∃ u,ts[j]?=some u/\OwnP s u l):
  ke1 acc r o=some (decide (o.f_Rule=r/\Bts s.f_Nodes o.f_Args ts)):=by
 have z:=hf.nodes;have A:=km9 hf hn ho;unfold ke1;by_cases h1:o.f_Rule=r
 ·rw [show (o.f_Rule != r)=false by simp [h1],qg,qc];by_cases w:o.f_Args.length=acc.length
  ·rw [show ((o.f_Args.length:Int) != (acc.length:Int))=false by simp [w],qg];have d:∀ k,k<o.f_Args.length->kdj acc o (k:Int)=if decide (¬ ((o.f_Args[k]?).getD 0)∈(acc[k]?).getD [])=true then some (.inr (.inr false)) else some (.inl ((k+1:Nat):Int)):=fun k hk=>by
    have c:k<acc.length:=(by omega);obtain ⟨u,f,e⟩:=b k acc[k] (qa c);obtain ⟨p,hp,v⟩:=bs_ok acc[k] o.f_Args[k] e.1 (by have:=e.2.2;omega);simp only [kdj,ka6 hk,qe,kak,qa hk,qa c,qc,hp,v,qah,kal hk (show o.f_Args.length<=9223372036854775807 by omega)];by_cases hm:o.f_Args[k]∈acc[k];simp [hm]
    ·simp [hm]
   rcases kcq (step:=kdj acc o) o.f_Args.length (by omega) (fun k=>decide (¬ ((o.f_Args[k]?).getD 0)∈(acc[k]?).getD [])) (fun _ => .inr false) (.inl ()) d (by simp only [kdj,ka2,qg]) with ⟨k,hk,g,_,hr⟩ | ⟨g,hr⟩;rw [hr,qc];rw [qai] at g;have c:k<acc.length:=(by omega);obtain ⟨u,f,e⟩:=b k acc[k] (qa c);rw [qa hk,qa c] at g;have:¬ (o.f_Rule=r/\Bts s.f_Nodes o.f_Args ts):=fun h=>g ((e.2.1 _).2 (h.2.get k _ u (qa hk) f));rw [qn this];rfl
   ·rw [hr,qc];have:o.f_Rule=r/\Bts s.f_Nodes o.f_Args ts:=(by refine ⟨h1,Bts.of (by omega) fun j a t ha ht=>?_⟩;have B:=kbo ha;have m:j<acc.length:=(by omega);have q:=g j B;rw [qaq,Decidable.not_not,ha,qa m] at q;obtain ⟨u,f,e⟩:=b j acc[j] (qa m);rw [ht] at f;cases f;exact (e.2.1 a).1 q);rw [qo this];rfl
  ·rw [show ((o.f_Args.length:Int) != (acc.length:Int))=true by simp;omega,qe];rw [qn fun h=>w (by have:=h.2.len;omega)]
 ·rw [show (o.f_Rule != r)=true by simp [h1],qe,qc,qe];rw [qn fun h=>h1 h.1]
open Classical in
theorem kys (hf:kc2 s) {i:Nat} {n:Nod} (hn:s.f_Nodes[i]?=some n) (t:Tm) (f:t.args.length<=1000) (acc:List (List Int)) (g:acc.length=t.args.length) (b:∀ (j:Nat) (l:List Int),acc[j]?=some l->∃ u,t.args[j]?=some u/\OwnP s u l):
  ka0 n.f_Options acc t=some (decide (Bt s.f_Nodes i t)):=by
 have m:n.f_Options.length<=32768:=qay (ki3 hn) hf.opts;unfold ka0 kbc;have a:Bt s.f_Nodes i t↔∃ o∈n.f_Options,o.f_Rule=t.rule/\Bts s.f_Nodes o.f_Args t.args:=by
  constructor;intro h;obtain ⟨n',o,ts,c,ho,p,hs⟩:=h.inv;rw [hn] at c;cases c;subst p;exact ⟨o,ho,rfl,hs⟩
  ·rintro ⟨o,ho,h1,q⟩;obtain ⟨r,l⟩:=t;have h1:o.f_Rule=r:=h1;subst h1;exact .mk hn ho q
 rcases kcq (step:=ka1 n.f_Options acc t) n.f_Options.length (by omega) (fun k=>decide (∃ o,n.f_Options[k]?=some o/\o.f_Rule=t.rule/\Bts s.f_Nodes o.f_Args t.args)) (fun k => .inr (k:Int)) (.inl ()) (fun k hk=>by
  have ho:=qa hk;simp only [ka1,kes,ka6 hk,qe,kak,ho,qc,kal hk (show n.f_Options.length<=9223372036854775807 by omega),k1r hf hn (qt hk) t.rule t.args f acc g b];by_cases h:n.f_Options[k].f_Rule=t.rule/\Bts s.f_Nodes n.f_Options[k].f_Args t.args;rw [qo h,qq (qo ⟨_,rfl,h⟩)];rfl
  ·rw [qn h,qh (by rw [qai];rintro ⟨o,e,v⟩;cases e;exact h v)];rfl) (by simp only [ka1,ka2,qg]) with ⟨k,hk,d,_,hr⟩ | ⟨d,hr⟩
 rw [hr];rw [qai] at d;obtain ⟨o,ho,h⟩:=d;rw [qo (a.2 ⟨o,qk ho,h⟩)];simp only [qc,qv];rw [qo (by omega)]
 ·rw [hr];have:¬ Bt s.f_Nodes i t:=fun h=>by obtain ⟨o,ho,h⟩:=a.1 h;obtain ⟨k,hk⟩:=qag.1 ho;have:=d k (kbo hk);rw [qaq] at this;exact this ⟨o,hk,h⟩
  rw [qn this];rfl
open Classical in
theorem knz (hf:kc2 s):∀ (n:Nat) (t:Tm),t.size<=n->t.size<=1000->Ev (kdy n s t) (OwnP s t)
 | 0,t,h,_=>by have:=Tm.size_pos t;omega
 | n+1,t,hn,ht=>by
  show Ev (ken (kdy n) s t) _;have g:t.args.length<=1000/\∀ u∈t.args,u.size<t.size:=by obtain ⟨r,l⟩:=t;have h1:=kj7 l;have f:(Tm.mk r l).size=Tm.sizeL l+1:=rfl;refine ⟨by show l.length<=1000;omega,fun u c=>?_⟩;obtain ⟨i,hi,rfl⟩:=qab.1 (show u∈l from c);have C:=kdd l (i+1) (by omega);rw [kee hi] at C;omega
  obtain ⟨q,d⟩:=g;have D:=hf.nodes;unfold ken;refine kda (Ev.mono (kco (xs:=t.args) (step:=kd9 s t (kdy n)) (Q:=fun r=>(∃ acc:List (List Int),r = .inl acc/\acc.length=t.args.length/\∀ (j:Nat) (l:List Int),acc[j]?=some l->∃ u,t.args[j]?=some u/\OwnP s u l)\/(r = .inr []/\∃ u∈t.args,∀ i,¬ Bt s.f_Nodes i u))
   (fun (k:Nat) (acc:List (List Int))=>((k:Int),acc)) (fun k acc=>acc.length=k/\∀ (j:Nat) (l:List Int),acc[j]?=some l->∃ u,t.args[j]?=some u/\OwnP s u l) (t0:=[]) (by omega) ⟨rfl,fun j l h=>by simp at h⟩ (fun k acc hk ⟨h1,f⟩=>?_) (fun acc ⟨h1,f⟩=>?_)) ?_)
  ·have c:=qa hk;obtain ⟨l,hl,B⟩:=knz hf n t.args[k] (by have:=d _ (qt hk);omega) (by have:=d _ (qt hk);omega);simp only [kd9,ka6 hk,qe,kak,c,qc,hl,kal hk (show t.args.length<=9223372036854775807 by omega)];by_cases v:l=[];subst v;refine ⟨_,rfl, .inr ⟨rfl,_,qt hk,fun i e=>?_⟩⟩;have:=(B.2.1 (i:Int)).2 ⟨by omega,by rw [Int.toNat_natCast];exact e⟩;cases this
   ·have:((l.length:Int) == 0)=false:=(by have:l.length≠0:=fun h=>v (List.eq_nil_of_length_eq_zero h);simp;exact v);rw [this,qg,kka (by simp;omega),qc];refine ⟨_,rfl,_,rfl,by simp [h1],fun j l' b=>?_⟩;by_cases w:j<acc.length;rw [qaa w] at b;exact f j l' b
    ·rw [qae (by omega)] at b;have m:j=k:=(by have:=(qd.1 b).1;simp at this;omega);subst m;simp [h1] at b;subst b;exact ⟨_,c,B⟩
  exact ⟨_,by simp only [kd9,ka2,qg],_,rfl, .inl ⟨acc,rfl,h1,f⟩⟩
  ·rintro r (⟨acc,rfl,h1,f⟩ | ⟨rfl,u,c,z⟩)
   ·simp only [qu];refine kda (Ev.mono (kco (xs:=s.f_Nodes) (step:=kea s t acc) (Q:=OwnP s t)
     (fun (i:Nat) (out:List Int)=>((i:Int),out)) (fun i out=>out.Pairwise (·<·)/\(∀ a,a∈out↔0<=a/\a<(i:Int)/\Bt s.f_Nodes a.toNat t)/\out.length<=i) (t0:=[]) (by omega) ⟨.nil,fun a=>by simp;omega,by simp⟩ (fun i out hi ⟨g1,g2,g3⟩=>?_) (fun out ⟨g1,g2,g3⟩=>?_)) fun l hl=>⟨l,rfl,hl⟩)
    ·have p:=qa hi;simp only [kea,ka6 hi,qe,kak,p,qc,kys hf p t q acc h1 f,kal hi (show s.f_Nodes.length<=9223372036854775807 by omega)];by_cases e:Bt s.f_Nodes i t
     ·rw [qo e,qe,kka (by simp;omega),qc,qc];refine ⟨_,rfl,_,rfl,?_,fun a=>?_,by simp;omega⟩;rw [List.pairwise_append];refine ⟨g1,List.pairwise_singleton _ _,fun x E y hy=>?_⟩;rw [qax] at hy;have:=(g2 x).1 E;omega
      ·rw [qan,qax,g2];constructor
       ·rintro (⟨q1,q2,q3⟩ | rfl);exact ⟨q1,by omega,q3⟩
        ·exact ⟨by omega,by omega,by rw [Int.toNat_natCast];exact e⟩
       ·rintro ⟨q1,q2,q3⟩;by_cases ha:a=(i:Int);exact .inr ha
        ·exact .inl ⟨q1,by omega,q3⟩
     ·rw [qn e,qg,qc];refine ⟨_,rfl,_,rfl,g1,fun a=>?_,by omega⟩;rw [g2];constructor;rintro ⟨q1,q2,q3⟩;exact ⟨q1,by omega,q3⟩
      ·rintro ⟨q1,q2,q3⟩;refine ⟨q1,?_,q3⟩;by_cases ha:a=(i:Int);subst ha;rw [Int.toNat_natCast] at q3;exact absurd q3 e
       ·omega
    ·refine ⟨_,by simp only [kea,ka2,qg],_,rfl,g1,fun a=>?_,g3⟩;rw [g2];constructor;rintro ⟨q1,q2,q3⟩;exact ⟨q1,q3⟩
     ·rintro ⟨q1,q3⟩;have:=ksq q3;exact ⟨q1,by omega,q3⟩
   ·refine ⟨_,rfl, .nil,fun a=>⟨fun h=>(by cases h),fun ⟨_,e⟩=>?_⟩,qak _⟩;exfalso;obtain ⟨n',o,ts,_,_,F,hs⟩:=e.inv;subst F;have c:u∈ts:=c;obtain ⟨j,b⟩:=qag.1 c;have A:j<o.f_Args.length:=(by rw [hs.len];exact kbo b);exact z _ (hs.get j _ u (qa A) b).2
theorem kzf (xs:List Int) (x:Int) (hl:xs.length<=9223372036854775807):kcm xs x=some (decide (x∈xs)):=by
 unfold kcm kdx;rcases kcq (step:=kcl xs x) xs.length (by omega) (fun k=>decide (xs[k]?=some x)) (fun k => .inr (k:Int)) (.inl ()) (fun k hk=>by
  simp only [kcl,ka6 hk,qe,kak,qa hk,qc,kal hk hl];by_cases h:xs[k]=x;rw [show (x == xs[k])=true by simp [h],qq (by simp [h])];rfl
  ·rw [show (x == xs[k])=false by rw [beq_eq_false_iff_ne];exact fun e=>h e.symm,qh (by simp [h])];rfl) (by simp only [kcl,ka2,qg]) with ⟨k,hk,a,_,hr⟩ | ⟨a,hr⟩
 rw [hr];rw [qai] at a;rw [qo (qk a)];simp only [qc,qv];rw [qo (by omega)]
 ·rw [hr];rw [qn fun b=>?_];rfl
  ·obtain ⟨k,hk⟩:=qag.1 b;have:=a k (kbo hk);rw [qaq] at this;exact this hk
open Classical in
theorem krv (j:kig s) (t:Tm) (ht:t.size<=60):kep s t=some (decide (kc2 s/\InS s t)):=by
 unfold kep;obtain ⟨b,c,d⟩:=kt6 j;rw [c,qc];cases b with
 | false=>
  have:¬ kc2 s:=fun h=>absurd (d.2 h) qaf;rw [qn fun h=>this h.1];rfl
 | true=>
  have hf:=d.1 rfl;simp only [Bool.not_true,qg,k0k,qc];by_cases hs:t.size<=24
  ·rw [qo hs];simp only [Bool.not_true,qg];obtain ⟨l,hl,i⟩:=knz hf fuel t (by have:t.size<fuel:=kfh (by omega);omega) (by omega);have m:=hf.nodes;have n:=j.roots;have o:=i.2.2;rw [hl,qc];rcases kcq (step:=kdt s l) l.length (by omega) (fun k=>decide ((l[k]?).getD 0∈s.f_Roots)) (fun k => .inr true) (.inl ()) (fun k hk=>by
    simp only [kdt,ka6 hk,qe,kak,qa hk,qc,kal hk (show l.length<=9223372036854775807 by omega),qah];rw [kzf _ _ (by omega),qc];by_cases h:l[k]∈s.f_Roots;simp [h]
    ·simp [h]) (by simp only [kdt,ka2,qg]) with ⟨k,hk,c,_,hr⟩ | ⟨c,hr⟩
   rw [hr];rw [qa hk,qai] at c;have h1:=(i.2.1 _).1 (qt hk);rw [qo ⟨hf,_,c,h1.1,h1.2⟩];rfl
   ·rw [hr];rw [qn];rfl
    ·rintro ⟨_,r,e,f,a⟩;obtain ⟨k,hk⟩:=qag.1 ((i.2.1 r).2 ⟨f,a⟩);have:=c k (kbo hk);rw [hk,qaq] at this;exact this e
  ·rw [qn hs];simp only [Bool.not_false,qe];rw [qn];rintro ⟨_,r,e,f,a⟩;have g:=ksq a;have h1:=kyo hf t _ _ (qa g) a;have p:=(hf.node _ _ (qa g)).size;omega
open Classical in
theorem kmf (hf:kc2 s):∀ (n:Nat) (t:Tm) (a:Int),t.size<=n->t.size<=1000->0<=a->a<(s.f_Nodes.length:Int)->kaq n s a t=some (decide (Bt s.f_Nodes a.toNat t))
 | 0,t,a,h,_,_,_=>by have:=Tm.size_pos t;omega
 | n+1,t,a,hn,ht,h0,h1=>by
  show kcb (kaq n) s a t=_;have p:t.args.length<=1000/\∀ u∈t.args,u.size<t.size:=by obtain ⟨r,l⟩:=t;have h1:=kj7 l;have C:(Tm.mk r l).size=Tm.sizeL l+1:=rfl;refine ⟨by show l.length<=1000;omega,fun u c=>?_⟩;obtain ⟨i,hi,rfl⟩:=qab.1 (show u∈l from c);have E:=kdd l (i+1) (by omega);rw [kee hi] at E;omega
  obtain ⟨p,q⟩:=p;obtain ⟨nd,e1,e2,_⟩:=ke8 (ns:=s.f_Nodes) h0 h1;have F:nd.f_Options.length<=32768:=qay (ki3 e2) hf.opts;unfold kcb;have g:Bt s.f_Nodes a.toNat t↔∃ o∈nd.f_Options,o.f_Rule=t.rule/\Bts s.f_Nodes o.f_Args t.args:=by
   constructor;intro h;obtain ⟨n',o,ts,v,ho,G,hs⟩:=h.inv;rw [e2] at v;cases v;subst G;exact ⟨o,ho,rfl,hs⟩
   ·rintro ⟨o,ho,h1,C⟩;obtain ⟨r,l⟩:=t;have h1:o.f_Rule=r:=h1;subst h1;exact .mk e2 ho C
  have inner:∀ o∈nd.f_Options,Option.bind (bif o.f_Rule == t.rule then some ((o.f_Args.length:Int) == (t.args.length:Int)) else some false) (fun v6=>kai (kan s t (kaq n) o) fuel (v6,0))=some (decide (o.f_Rule=t.rule/\Bts s.f_Nodes o.f_Args t.args)):=fun o ho=>by
   have D:=km9 hf e2 ho;have w:=kug hf e2 ho;have leave:kai (kan s t (kaq n) o) fuel (false,0)=some false:=(by have:kan s t (kaq n) o (false,0)=some (.inr false):=(by simp only [kan];cases decide ((0:Int)<(o.f_Args.length:Int)) <;> rfl);rw [show fuel=(fuel - 1)+1 by have:0<fuel:=kfh (by omega);omega,kai,this]);by_cases g1:o.f_Rule=t.rule
   ·rw [show (o.f_Rule == t.rule)=true by simp [g1],qe,qc];by_cases g2:o.f_Args.length=t.args.length
    ·rw [show ((o.f_Args.length:Int) == (t.args.length:Int))=true by simp [g2]];have key:Ev (kai (kan s t (kaq n) o) fuel (true,0)) fun b=>b=decide (o.f_Rule=t.rule/\Bts s.f_Nodes o.f_Args t.args):=by
      refine kco (xs:=o.f_Args) (step:=kan s t (kaq n) o) (fun (k:Nat) (b:Bool)=>(b,(k:Int))) (fun k b=>b=true↔∀ (j:Nat) (x:Int) (u:Tm),j<k->o.f_Args[j]?=some x->t.args[j]?=some u->Bt s.f_Nodes x.toNat u) (t0:=true) (by omega) ⟨fun _ j x u h=>by omega,fun _=>rfl⟩ (fun k b hk y=>?_) (fun b y=>?_)
      ·have f:k<t.args.length:=(by omega);cases b with
       | false=>
        refine ⟨.inr false,by simp only [kan,ka6 hk,qe,qc,qg],?_⟩;show false=_;rw [eq_comm,qaq];rintro ⟨_,hs⟩;have:¬ ∀ (j:Nat) (x:Int) (u:Tm),j<k->o.f_Args[j]?=some x->t.args[j]?=some u->Bt s.f_Nodes x.toNat u:=fun h=>absurd (y.2 h) qaf;exact this fun j x u _ d c=>(hs.get j x u d c).2
       | true=>
        have hr:=w _ (qt hk);have H:=q _ (qt f);simp only [kan,ka6 hk,qe,qc,kak,qa hk,qa f,kal hk (show o.f_Args.length<=9223372036854775807 by omega),kmf hf n t.args[k] o.f_Args[k] (by omega) (by omega) hr.1 hr.2];refine ⟨_,rfl,_,rfl,?_⟩;rw [qai];constructor
        ·intro m j x u J d c;by_cases z:j=k;subst z;rw [qa hk] at d;cases d;rw [qa f] at c;cases c;exact m
         ·exact y.1 rfl j x u (by omega) d c
        ·intro h;exact h k _ _ (by omega) (qa hk) (qa f)
      ·refine ⟨.inr b,by simp only [kan,ka2,qg,qc],b,rfl,?_⟩;rw [Bool.eq_iff_iff,qai,y];constructor;intro h;exact ⟨g1,Bts.of g2 fun j x u d c=>⟨(w x (qk d)).1,h j x u (kbo d) d c⟩⟩
       ·rintro ⟨_,hs⟩ j x u _ d c;exact (hs.get j x u d c).2
     obtain ⟨b,m,rfl⟩:=key;exact m
    ·rw [show ((o.f_Args.length:Int) == (t.args.length:Int))=false by simp;omega,leave];rw [qn fun h=>g2 h.2.len]
   ·rw [show (o.f_Rule == t.rule)=false by simp [g1],qg,qc,leave];rw [qn fun h=>g1 h.1]
  rcases kcq (step:=kb7 s a t (kaq n)) nd.f_Options.length (by omega) (fun k=>decide (∃ o,nd.f_Options[k]?=some o/\o.f_Rule=t.rule/\Bts s.f_Nodes o.f_Args t.args)) (fun k => .inr true) (.inl ()) (fun k hk=>by
   have ho:=qa hk;have hi:=inner _ (qt hk);simp only [kb7,e1,ka6 hk,qe,kak,ho,qc,kal hk (show nd.f_Options.length<=9223372036854775807 by omega)];obtain ⟨v6,A,B⟩:=qw.1 hi;rw [A,qc,B,qc];by_cases h:nd.f_Options[k].f_Rule=t.rule/\Bts s.f_Nodes nd.f_Options[k].f_Args t.args;rw [qo h,qq (qo ⟨_,rfl,h⟩)];rfl
   ·rw [qn h,qh (by rw [qai];rintro ⟨o,e,I⟩;cases e;exact h I)];rfl) (by simp only [kb7,e1,qc,ka2,qg]) with ⟨k,hk,m,_,hr⟩ | ⟨m,hr⟩
  rw [hr];rw [qai] at m;obtain ⟨o,ho,h⟩:=m;rw [qo (g.2 ⟨o,qk ho,h⟩)];rfl
  ·rw [hr];rw [qn];rfl
   ·intro h;obtain ⟨o,ho,h⟩:=g.1 h;obtain ⟨k,hk⟩:=qag.1 ho;have:=m k (kbo hk);rw [qaq] at this;exact this ⟨o,hk,h⟩
open Classical in
theorem kp6 (g:kig s) (t:Tm) (ht:t.size<=60):kcn s t=some (decide (kc2 s/\InS s t)):=by
 unfold kcn;obtain ⟨b,a,c⟩:=kpl g;rw [a,qc];cases b with
 | false=>
  have:¬ kc2 s:=fun h=>absurd (c.2 h) qaf;rw [qn fun h=>this h.1];rfl
 | true=>
  have hf:=c.1 rfl;simp only [Bool.not_true,qg];have i:=g.roots;rcases kcq (step:=kb0 s t) s.f_Roots.length (by omega) (fun k=>decide (∃ r,s.f_Roots[k]?=some r/\Bt s.f_Nodes r.toNat t)) (fun k => .inr true) (.inl ()) (fun k hk=>by
   have hr:=hf.roots.1 _ (qt hk);simp only [kb0,ka6 hk,qe,kak,qa hk,qc,kal hk (show s.f_Roots.length<=9223372036854775807 by omega),kmf hf fuel t _ (by have:t.size<fuel:=kfh (by omega);omega) (by omega) hr.1 hr.2];by_cases h:Bt s.f_Nodes s.f_Roots[k].toNat t;rw [qo h,qq (qo ⟨_,rfl,h⟩)];rfl
   ·rw [qn h,qh (by rw [qai];rintro ⟨o,e,j⟩;cases e;exact h j)];rfl) (by simp only [kb0,ka2,qg]) with ⟨k,hk,a,_,hr⟩ | ⟨a,hr⟩
  rw [hr];rw [qai] at a;obtain ⟨r,h1,l⟩:=a;rw [qo ⟨hf,r,qk h1,(hf.roots.1 r (qk h1)).1,l⟩];rfl
  ·rw [hr];rw [qn];rfl
   ·rintro ⟨_,r,d,_,f⟩;obtain ⟨k,hk⟩:=qag.1 d;have:=a k (kbo hk);rw [qaq] at this;exact this ⟨r,hk,f⟩
theorem ky8 {o:Opn} {l:List Bool} (h:∀ a∈o.f_Args,0<=a/\a<(l.length:Int)) (b:o.f_Args.length<=9223372036854775807):kgz l o=some (kb6 (fg l) o):=kux h b
theorem k2d {os:List Opn} {l:List Bool} (h:∀ o∈os,(∀ a∈o.f_Args,0<=a/\a<(l.length:Int))/\o.f_Args.length<=9223372036854775807) (c:os.length<=9223372036854775807):kax os l=some (os.any (kb6 (fg l))):=by
 unfold kax kba;rcases kcq (step:=kaw os l) os.length (by omega) (fun k=>(os[k]?).any (kb6 (fg l))) (fun k => .inr (k:Int)) (.inl ()) (fun k hk=>by obtain ⟨h1,d⟩:=h _ (qt hk);simp only [kaw,kew,ka6 hk,qe,kak,qa hk,qc,kal hk c,ky8 h1 d,Option.any_some];cases kb6 (fg l) os[k] <;> rfl) (by simp only [kaw,ka2,qg]) with ⟨k,hk,b,_,hr⟩ | ⟨b,hr⟩;rw [hr];rw [qa hk,Option.any_some] at b;rw [show os.any (kb6 (fg l))=true from List.any_eq_true.2 ⟨_,qt hk,b⟩];simp only [qc,qv];rw [qo (by omega)]
 ·rw [hr];have:os.any (kb6 (fg l))=false:=by rw [List.any_eq_false];intro o ho;obtain ⟨k,hk⟩:=qag.1 ho;have:=b k (kbo hk);rw [hk,Option.any_some] at this;simp [this]
  rw [this];rfl
theorem kxa (hf:kc2 s):Ev (kfb s) fun l=>l.length=s.f_Nodes.length/\∀ i,i<s.f_Nodes.length->kha s l i:=by
 have p:=hf.nodes;unfold kfb;rw [kuv _ _ _ (by omega),qc];refine kda (Ev.mono (kco (xs:=s.f_Nodes) (step:=ked s) (Q:=fun l=>l.length=s.f_Nodes.length/\∀ i,i<s.f_Nodes.length->kha s l i)
  (fun (i:Nat) (l:List Bool)=>((i:Int),l)) (fun i l=>l.length=s.f_Nodes.length/\∀ k,k<i->kha s l k) (t0:=List.replicate s.f_Nodes.length false) (by omega) ⟨by simp,fun k h=>by omega⟩ (fun i l hi ⟨h1,j⟩=>?_) (fun l ⟨h1,j⟩=>?_)) fun l hl=>⟨l,rfl,hl⟩)
 ·have hn:=qa hi;have f:i<l.length:=by omega
  have q:s.f_Nodes[i].f_Options.length<=32768:=qay (ki3 hn) hf.opts;have e:∀ o∈s.f_Nodes[i].f_Options,(∀ a∈o.f_Args,0<=a/\a<(l.length:Int))/\o.f_Args.length<=9223372036854775807:=fun o ho=>by have r:=kug hf hn ho;have t:=km9 hf hn ho;exact ⟨fun a ha=>by have:=r a ha;omega,by omega⟩
  simp only [ked,ka6 hi,qe,kak,hn,qc,k2d e (by omega),qa f,kal hi (show s.f_Nodes.length<=9223372036854775807 by omega),Int.toNat_natCast];refine ⟨_,rfl,_,rfl,by simp [h1],fun k hk n c=>?_⟩;have d:=ko3 f (s.f_Nodes[i].f_Options.any (kb6 (fg l)));have b:∀ o∈n.f_Options,kb6 (fg (l.set i (s.f_Nodes[i].f_Options.any (kb6 (fg l))))) o=kb6 (fg l) o:=fun o ho=>kg0 fun a ha=>by have:=((hf.node k n c).opt o ho).args a ha;rw [d,qh (by omega)]
  have m:(∃ o∈n.f_Options,kb6 (fg (l.set i (s.f_Nodes[i].f_Options.any (kb6 (fg l))))) o=true)↔∃ o∈n.f_Options,kb6 (fg l) o=true:=
   ⟨fun ⟨o,ho,h⟩=>⟨o,ho,by rw [<- b o ho];exact h⟩,fun ⟨o,ho,h⟩=>⟨o,ho,by rw [b o ho];exact h⟩⟩
  rw [d,m];by_cases g:k=i;subst g;rw [hn] at c;cases c;rw [qq rfl,List.any_eq_true]
  ·rw [qh g];exact j k (by omega) n c
 ·exact ⟨_,by simp only [ked,ka2,qg],_,rfl,h1,j⟩
theorem kt7 (hf:kc2 s) {l l':List Bool} (h1:l.length=s.f_Nodes.length) (c:∀ i,i<s.f_Nodes.length->kha s l i) (d:l'.length=s.f_Nodes.length) (b:∀ i,i<s.f_Nodes.length->kha s l' i):l=l':=by
 have key:∀ i,i<s.f_Nodes.length->fg l i=fg l' i:=fun i=>by
  induction i using Nat.strongRecOn with
  | _ i ih=>
   intro hi;have hn:=qa hi;rw [Bool.eq_iff_iff,c i hi _ hn,b i hi _ hn];have hc:∀ o∈s.f_Nodes[i].f_Options,kb6 (fg l) o=kb6 (fg l') o:=fun o ho=>kg0 fun a ha=>(by have:=((hf.node i _ hn).opt o ho).args a ha;exact ih a.toNat (by omega) (by omega));exact ⟨fun ⟨o,ho,h⟩=>⟨o,ho,by rw [<- hc o ho];exact h⟩,fun ⟨o,ho,h⟩=>⟨o,ho,by rw [hc o ho];exact h⟩⟩
 refine List.ext_getElem? fun i=>?_;by_cases hi:i<s.f_Nodes.length;rw [ko9 (by omega),ko9 (by omega),key i hi]
 ·rw [qaz (by omega),qaz (by omega)]
theorem ksw (i:kig s):∃ b,kfs s=some b/\kc5 s=some b:=by
 unfold kfs kc5;obtain ⟨b,e,f⟩:=kt6 i;obtain ⟨b',a,g⟩:=kpl i;obtain rfl:b=b':=by rw [Bool.eq_iff_iff,f,g]
 rw [e,a,qc,qc];cases b with
 | false=>exact ⟨true,rfl,rfl⟩
 | true=>
  have hf:=f.1 rfl;have o:=i.roots;simp only [Bool.not_true,qg];obtain ⟨l,hl,h1,p⟩:=kxa hf;obtain ⟨l',j,m,n⟩:=kxe hf;obtain rfl:=kt7 hf h1 p m n;rw [hl,j,qc,qc];unfold kb9 kcv;have d:∀ k (hk:k<s.f_Roots.length),idx l s.f_Roots[k]=some (fg l s.f_Roots[k].toNat):=fun k hk=>by have:=hf.roots.1 _ (qt hk);exact kun this.1 (by omega)
  have k1:=kcq (step:=kbn s.f_Roots l) s.f_Roots.length (by omega) (fun k=>fg l ((s.f_Roots[k]?).getD 0).toNat) (fun k => .inr (k:Int)) (.inl ()) (fun k hk=>by simp only [kbn,ke5,ka6 hk,qe,kak,qa hk,qc,kal hk (show s.f_Roots.length<=9223372036854775807 by omega),d k hk,qah];cases fg l s.f_Roots[k].toNat <;> rfl) (by simp only [kbn,ka2,qg]);have k2:=kcq (step:=kck s l) s.f_Roots.length (by omega) (fun k=>fg l ((s.f_Roots[k]?).getD 0).toNat) (fun k => .inr false) (.inl ()) (fun k hk=>by simp only [kck,ka6 hk,qe,kak,qa hk,qc,kal hk (show s.f_Roots.length<=9223372036854775807 by omega),d k hk,qah];cases fg l s.f_Roots[k].toNat <;> rfl) (by simp only [kck,ka2,qg]);rcases k1 with ⟨k,hk,e,_,hr⟩ | ⟨e,hr⟩
  ·rcases k2 with ⟨k',h,a,_,c⟩ | ⟨a,c⟩;rw [hr,c];refine ⟨false,?_,rfl⟩;simp only [qc,qv];rw [qo (by omega)];rfl
   ·rw [a k hk] at e;cases e
  ·rcases k2 with ⟨k',h,a,_,c⟩ | ⟨a,c⟩;rw [e k' h] at a;cases a
   ·rw [hr,c];exact ⟨true,rfl,rfl⟩
end
theorem klf (s:Spa) (t:Tm) (hs:SpW s):kch s t=some true:=by
 unfold kch;obtain ⟨b',b⟩:=ku7 hs;rw [b,qc];have a:=ktz t 60 (by omega);rw [show ((60:Nat):Int)=60 from rfl] at a;rw [a];cases b' with
 | false=>rfl
 | true=>
  simp only [Bool.not_true,qg,qc];by_cases ht:t.size<=60;rw [qo ht];simp only [Bool.not_true,qg];obtain ⟨c,h1,d⟩:=ksw hs.wide;rw [krv hs.wide t ht,kp6 hs.wide t ht,h1,d];simp only [qc,beq_self_eq_true,qe];rfl
  ·rw [qn ht];rfl
end Go.Proofs.YtpnnpkmjohkgiaaGreatDoor
