import Derived.Test.YtpcfkflhnkfjjaaGreatDb
import Derived.Test.YtpcfkflhnkfjjaaGreatDm
set_option linter.all false
set_option maxRecDepth 100000
namespace Go.Proofs.YtpcfkflhnkfjjaaGreat
open Go Go.RowKit
theorem kxn:∀ xs ys:List Int,cmpI xs ys=Sum.elim (fun _=>if xs.length<ys.length then -1 else if ys.length<xs.length then 1 else 0) id (lexO xs ys)
 | [],[]=>rfl
 | [],_::_=>by simp [cmpI,lexO]
 | _::_,[]=>by simp [cmpI,lexO]
 | x::xs,y::ys=>by
  simp only [cmpI,lexO];split;rfl
  ·split;rfl
   ·rw [kxn xs ys];congr 1;funext u;simp
theorem kyb (x y:List Int) (f:x.length<=9223372036854775807) (j:y.length<=9223372036854775807):ka5 x y=some (cmpI x y):=by
 unfold ka5;have h:=kio (step:=kap x y) (min x.length y.length) (by omega) (fun i=>(i:Int)) (fun i=>lexO (x.drop i) (y.drop i)) (fun i hi=>by
  have a:i<x.length:=by omega
  have b:i<y.length:=by omega
  simp only [kap,kav a,kav b,qf,kaf,qb a,qb b,qa,kal a f,qah a,qah b,lexO];by_cases h1:x[i]<y[i];rw [qh h1,qn h1];exact .inr rfl
  ·rw [qe h1,qk h1];by_cases d:y[i]<x[i];rw [qh d,qn d];exact .inr rfl
   ·rw [qe d,qk d];exact .inl ⟨rfl,rfl⟩) (by
  by_cases hc:x.length<=y.length;have e:min x.length y.length=x.length:=(by omega);rw [e];simp only [kap,kaq,qc,List.drop_length,lexO,qa]
  ·have e:min x.length y.length=y.length:=(by omega);have e2:decide (((y.length:Nat):Int)<(x.length:Int))=true:=qh (by omega);rw [e];simp only [kap,e2,qf,kaq,qa,qc,List.drop_length];cases List.drop y.length x <;> simp [lexO])
 have g:kab (kap x y) fuel 0=some (lexO x y):=by simpa using h
 rw [g,qa,kxn];cases lexO x y with
 | inr c=>rfl
 | inl u=>
  simp only [qg];unfold kdn;by_cases h1:x.length<y.length;rw [qh (by omega),qn h1];rfl
  ·rw [qe (by omega),qk h1];by_cases d:y.length<x.length;rw [qh (by omega),qn d];rfl
   ·rw [qe (by omega),qk d];rfl
theorem k33 (a b:Opn) (ha:a.f_Args.length<=9223372036854775807) (c:b.f_Args.length<=9223372036854775807):kcr a b=some (ki5 a b):=by
 unfold kcr ki5;by_cases h:a.f_Rule=b.f_Rule;rw [show (a.f_Rule != b.f_Rule)=false by simp [h],qk (by simp [h])];rw [qc,kyb _ _ ha c];rfl
 ·rw [show (a.f_Rule != b.f_Rule)=true by simp [h],qn h];rw [qf,kyb _ _ (by simp) (by simp)];rfl
theorem k9w (l:List Int) (n:Nat) (hl:l.length<=9223372036854775807):Ev (kem l (n:Int)) fun b=>b=true↔AscP l n:=by
 let bad:Nat->Bool:=fun i=>decide ((l[i]?).getD 0<0) || (decide ((n:Int)<=(l[i]?).getD 0) || (decide (0<i) && decide ((l[i]?).getD 0<=(l[i - 1]?).getD 0)))
 have hs:∀ i,i<l.length->kbr l (n:Int) (i:Int)=if bad i=true then some (.inr (.inr false)) else some (.inl ((i+1:Nat):Int)):=fun i hi=>by
  have e:bad i=(decide (l[i]<0) || (decide ((n:Int)<=l[i]) || (decide (0<i) && decide (l[i]<=(l[i - 1]?).getD 0)))):=by show (decide ((l[i]?).getD 0<0) || _)=_;rw [qb hi];rfl
  rw [e];simp only [kbr,kav hi,qf,kaf,qb hi,qa,kal hi hl];by_cases h1:l[i]<0;simp [h1]
  ·by_cases d:(n:Int)<=l[i];simp [h1,d]
   ·by_cases f:0<i
    ·have c:i - 1<l.length:=(by omega);have e1:w64 ((i:Int) - 1)=((i - 1:Nat):Int):=(by rw [kbq (by omega) (by omega)];omega);have e2:decide ((0:Int)<(i:Int))=true:=qh (by omega);simp only [qe h1,qe d,e2,qf,qc,e1,kaf,qb c,qa,qh f,Bool.false_or,Bool.true_and,qw];by_cases k:l[i]<=l[i - 1];simp [k]
     ·simp [k]
    ·have e2:decide ((0:Int)<(i:Int))=false:=qe (by omega);simp [h1,d,f,e2]
 have m:kbr l (n:Int) (l.length:Int)=some (.inr (.inl ())):=by simp only [kbr,kaq,qc]
 unfold kem;rcases kjm (step:=kbr l (n:Int)) l.length (by omega) bad (fun _ => .inr false) (.inl ()) hs m with ⟨i,hi,g,_,hr⟩ | ⟨g,hr⟩
 ·rw [hr];refine ⟨false,rfl,⟨fun h=>absurd h qa3,fun h=>?_⟩⟩;exfalso;have h1:=h.1 l[i] (qq hi);have a:(decide ((l[i]?).getD 0<0) || (decide ((n:Int)<=(l[i]?).getD 0) || (decide (0<i) && decide ((l[i]?).getD 0<=(l[i - 1]?).getD 0))))=true:=g;rw [qb hi] at a;simp only [qw,Bool.or_eq_true,qy,qbm] at a;rcases a with a | a | ⟨f,a⟩;omega;omega
  ·have c:i - 1<l.length:=(by omega);rw [qb c,qw] at a;have:=h.2 (i - 1) l[i - 1] l[i] (qb c) (by rw [show i - 1+1=i by omega];exact qb hi);omega
 ·rw [hr];have a:∀ i (hi:i<l.length),0<=l[i]/\l[i]<(n:Int)/\(0<i->(l[i - 1]?).getD 0<l[i]):=fun i hi=>by
   have h:(decide ((l[i]?).getD 0<0) || (decide ((n:Int)<=(l[i]?).getD 0) || (decide (0<i) && decide ((l[i]?).getD 0<=(l[i - 1]?).getD 0))))=false:=g i hi;rw [qb hi] at h;simp only [qw,Bool.or_eq_false_iff,Bool.and_eq_false_iff,qbb] at h;refine ⟨by omega,by omega,fun h0=>?_⟩;rcases h.2.2 with h | h;exact absurd h0 h
   ·omega
  refine ⟨true,rfl,⟨fun _=>⟨fun x j=>?_,fun i x y j o=>?_⟩,fun _=>rfl⟩⟩;obtain ⟨i,hi,rfl⟩:=qaa.1 j;exact ⟨(a i hi).1,(a i hi).2.1⟩
  ·obtain ⟨hi,rfl⟩:=qj.1 j;obtain ⟨p,rfl⟩:=qj.1 o;have:=(a (i+1) p).2.2 (by omega);rw [Nat.add_sub_cancel,qb hi,qw] at this;exact this
theorem k5d (f:Int->Int) {l:List Int} {j:Nat} (h:j<l.length):((l.take (j+1)).map f).sum=((l.take j).map f).sum+f l[j]:=by rw [qz h,qa5,List.sum_append];simp
theorem k4t (f:Int->Int) (l:List Int) (j:Nat):(l.map f).sum=((l.take j).map f).sum+((l.drop j).map f).sum:=by rw [<- List.sum_append,<- qa5,List.take_append_drop]
theorem kur {f:Int->Int}:∀ (l:List Int),(∀ x∈l,0<=f x)->0<=(l.map f).sum
 | [],_=>by simp
 | x::l,h=>by have h1:=h x (qs ..);have b:=kur l fun y a=>h y (qo _ a);simp only [qbi,List.sum_cons];omega
theorem kqs {ns:List Nod} {a:Int} (h0:0<=a) (h1:a<(ns.length:Int)):∃ m,idx ns a=some m/\ns[a.toNat]?=some m/\szAt ns a=m.f_Size/\syAt ns a=m.f_Symbol:=by
 have b:a.toNat<ns.length:=by omega
 refine ⟨ns[a.toNat],?_,qb b,?_,?_⟩;unfold idx;rw [qn h0,qb b];unfold szAt;rw [qb b];rfl
 ·unfold syAt;rw [qb b];rfl
theorem k3j {ns:List Nod} {i:Nat} {n:Nod} {o:Opn} (hn:ns[i]?=some n) (l:∀ (k:Nat) (m:Nod),k<=i->ns[k]?=some m->1<=m.f_Size/\m.f_Size<=24) (t:o.f_Args.length<=9223372036854775807):Ev (kf4 ns (i:Int) o) fun b=>b=true↔OptP ns i n o:=by
 have hi:=(qj.1 hn).1;have u:=l i n (qx _) hn;have c:∀ a:Int,0<=a->a<(i:Int)->∃ m,idx ns a=some m/\szAt ns a=m.f_Size/\1<=m.f_Size/\m.f_Size<=24:=fun a h0 h1=>by obtain ⟨m,e1,e2,e3,_⟩:=kqs (ns:=ns) h0 (by omega);have:=l a.toNat m (by omega) e2;exact ⟨m,e1,e3,this.1,this.2⟩
 unfold kf4;refine kds (Ev.mono (kb9 (xs:=o.f_Args) (step:=ke0 ns (i:Int) o) (Q:=fun r=>(∃ s,r = .inl s/\(∀ a∈o.f_Args,0<=a/\a<(i:Int))/\s=1+(o.f_Args.map (szAt ns)).sum)\/(r = .inr false/\¬ OptP ns i n o))
  (fun (j:Nat) (s:Int)=>(s,(j:Int))) (fun j s=>(∀ a∈o.f_Args.take j,0<=a/\a<(i:Int))/\s=1+((o.f_Args.take j).map (szAt ns)).sum/\1<=s/\s<=48) t ⟨by simp,by simp,by omega,by omega⟩ (fun j s d ⟨h1,p,v,w⟩=>?_) (fun s ⟨h1,p,v,w⟩=>?_)) ?_)
 ·simp only [ke0,kav d,qf,kaf,qb d,qa,kal d t];by_cases b1:o.f_Args[j]<0;refine ⟨.inr (.inr false),by simp [b1], .inr ⟨rfl,fun g=>?_⟩⟩;have:=(g.args _ (qq d)).1;omega
  ·by_cases b2:(i:Int)<=o.f_Args[j];refine ⟨.inr (.inr false),by simp [b1,b2], .inr ⟨rfl,fun g=>?_⟩⟩;have:=(g.args _ (qq d)).2;omega
   ·by_cases b3:24<s;refine ⟨.inr (.inr false),by simp [b1,b2,b3], .inr ⟨rfl,fun g=>?_⟩⟩;have x:=g.size;rw [k4t _ _ j] at x;have z:=kur (f:=szAt ns) (o.f_Args.drop j) fun a ha=>(by have q:=g.args a (List.mem_of_mem_drop ha);obtain ⟨m,_,e,y,_⟩:=c a q.1 q.2;omega);omega
    ·obtain ⟨m,e1,e2,y,A⟩:=c o.f_Args[j] (by omega) (by omega);have e3:w64 (s+m.f_Size)=s+m.f_Size:=kbq (by omega) (by omega);refine ⟨.inl (s+m.f_Size,((j+1:Nat):Int)),by simp [b1,b2,b3,e1,e3],s+m.f_Size,rfl,fun a ha=>?_,?_,by omega,by omega⟩
     ·rw [qz d,qac,qas] at ha;rcases ha with ha | rfl;exact h1 a ha
      ·omega
     ·rw [k5d _ d];omega
 ·refine ⟨_,by simp only [ke0,kaq,qc],_,rfl, .inl ⟨s,rfl,?_,?_⟩⟩;rw [qaw] at h1;exact h1
  ·rw [qaw] at p;exact p
 ·rintro r (⟨s,rfl,h1,p⟩ | ⟨rfl,h1⟩)
  ·simp only [qg];by_cases hr:0<=o.f_Rule;simp only [qh hr,qf,kaf,hn,qa];refine ⟨_,rfl,?_⟩;show (s == n.f_Size)=true↔_;rw [beq_iff_eq,p];exact ⟨fun h=>⟨hr,h1,h⟩,fun h=>h.size⟩
   ·simp only [qe hr,qc,qa];exact ⟨false,rfl,⟨fun h=>absurd h qa3,fun h=>absurd h.rule hr⟩⟩
  ·exact ⟨false,rfl,⟨fun h=>absurd h qa3,fun h=>absurd h h1⟩⟩
theorem kxk {ns:List Nod} {i k:Nat} {n m:Nod} {o p:Opn} (hn:ns[i]?=some n) (hm:ns[k]?=some m) (ho:∀ a∈o.f_Args,0<=a/\a<(ns.length:Int)) (hp:∀ a∈p.f_Args,0<=a/\a<(ns.length:Int)) (r:o.f_Args.length<=9223372036854775807):
  Ev (kf2 ns (i:Int) o (k:Int) p) fun b=>b=true↔n.f_Symbol=m.f_Symbol/\o.f_Args.map (syAt ns)=p.f_Args.map (syAt ns):=by
 unfold kf2;simp only [kaf,hn,hm,qa];by_cases h1:n.f_Symbol=m.f_Symbol
 ·have e1:(n.f_Symbol != m.f_Symbol)=false:=by simp [h1]
  simp only [e1,qc,qa];by_cases l:o.f_Args.length=p.f_Args.length
  ·have e2:((o.f_Args.length:Int) != (p.f_Args.length:Int))=false:=(by simp [l]);simp only [e2,qc]
   let bad:Nat->Bool:=fun j=>decide (syAt ns ((o.f_Args[j]?).getD 0)≠syAt ns ((p.f_Args[j]?).getD 0))
   have hs:∀ j,j<o.f_Args.length->kcf ns o p (j:Int)=if bad j=true then some (.inr (.inr false)) else some (.inl ((j+1:Nat):Int)):=fun j d=>by
    have c:j<p.f_Args.length:=(by omega);obtain ⟨x,x1,_,_,x2⟩:=kqs (ns:=ns) (ho _ (qq d)).1 (ho _ (qq d)).2;obtain ⟨y,y1,_,_,y2⟩:=kqs (ns:=ns) (hp _ (qq c)).1 (hp _ (qq c)).2;have e:bad j=decide (x.f_Symbol≠y.f_Symbol):=(by show decide (syAt ns ((o.f_Args[j]?).getD 0)≠syAt ns ((p.f_Args[j]?).getD 0))=_;rw [qb d,qb c,qw,qw,x2,y2]);rw [e];simp only [kcf,kav d,qf,kaf,qb d,qb c,qa,kal d r,x1,y1];by_cases f:x.f_Symbol=y.f_Symbol;rw [show (x.f_Symbol != y.f_Symbol)=false by simp [f],qc,qe (by simp [f]),qk (by simp)]
    ·rw [show (x.f_Symbol != y.f_Symbol)=true by simp [f],qf,qh f,qn rfl]
   have s:kcf ns o p (o.f_Args.length:Int)=some (.inr (.inl ())):=(by simp only [kcf,kaq,qc]);rcases kjm (step:=kcf ns o p) o.f_Args.length (by omega) bad (fun _ => .inr false) (.inl ()) hs s with ⟨j,d,q,_,hr⟩ | ⟨q,hr⟩;rw [hr];refine ⟨false,rfl,⟨fun h=>absurd h qa3,fun h=>?_⟩⟩;exfalso;have c:j<p.f_Args.length:=(by omega);have g:decide (syAt ns ((o.f_Args[j]?).getD 0)≠syAt ns ((p.f_Args[j]?).getD 0))=true:=q;rw [qb d,qb c,qw,qw,qbm] at g;have f:=congrArg (·[j]?) h.2;simp only [qp,qb d,qb c,qbf,ql] at f;exact g f
   ·rw [hr];refine ⟨true,rfl,⟨fun _=>⟨h1,?_⟩,fun _=>rfl⟩⟩;refine List.ext_getElem (by simp [l]) fun j d c=>?_;rw [qu] at d c;rw [List.getElem_map,List.getElem_map];have h:decide (syAt ns ((o.f_Args[j]?).getD 0)≠syAt ns ((p.f_Args[j]?).getD 0))=false:=q j d;rw [qb d,qb c,qw,qw,qbb] at h;exact Decidable.not_not.1 h
  ·have e2:((o.f_Args.length:Int) != (p.f_Args.length:Int))=true:=(by rw [bne_iff_ne];omega);simp only [e2,qf];exact ⟨false,rfl,⟨fun h=>absurd h qa3,fun h=>absurd (by simpa using congrArg List.length h.2) l⟩⟩
 ·have e1:(n.f_Symbol != m.f_Symbol)=true:=by simp [h1]
  simp only [e1,qf,qa];exact ⟨false,rfl,⟨fun h=>absurd h qa3,fun h=>absurd h.1 h1⟩⟩
end Go.Proofs.YtpcfkflhnkfjjaaGreat
