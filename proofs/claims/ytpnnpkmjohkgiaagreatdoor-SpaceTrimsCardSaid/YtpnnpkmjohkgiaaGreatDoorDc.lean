import Derived.Test.YtpnnpkmjohkgiaaGreatDoorDb
set_option linter.all false
set_option maxRecDepth 100000
namespace Go.Proofs.YtpnnpkmjohkgiaaGreatDoor
open Go Go.RowKit
def lexP:List Int->List Int->Unit ⊕ Int
 | x::xs,y::ys=>if x<y then .inr (-1) else if y<x then .inr 1 else lexP xs ys
 | _,_ => .inl ()
theorem knm:∀ xs ys:List Int,cmpI xs ys=Sum.elim (fun _=>if xs.length<ys.length then -1 else if ys.length<xs.length then 1 else 0) id (lexP xs ys)
 | [],[]=>rfl
 | [],_::_=>by simp [cmpI,lexP]
 | _::_,[]=>by simp [cmpI,lexP]
 | x::xs,y::ys=>by
  simp only [cmpI,lexP];split;rfl
  ·split;rfl
   ·rw [knm xs ys];congr 1;funext u;simp
theorem kio (x y:List Int) (f:x.length<=9223372036854775807) (hy:y.length<=9223372036854775807):kaz x y=some (cmpI x y):=by
 unfold kaz;have h:=kjd (step:=ka4 x y) (min x.length y.length) (by omega) (fun i=>(i:Int)) (fun i=>lexP (x.drop i) (y.drop i)) (fun i hi=>by
  have a:i<x.length:=by omega
  have b:i<y.length:=by omega
  simp only [ka4,ka0 a,ka0 b,qe,kaj,qa a,qa b,qc,kal a f,List.drop_eq_getElem_cons a,List.drop_eq_getElem_cons b,lexP];by_cases h1:x[i]<y[i];rw [qaa h1,qq h1];exact .inr rfl
  ·rw [q9 h1,qh h1];by_cases d:y[i]<x[i];rw [qaa d,qq d];exact .inr rfl
   ·rw [q9 d,qh d];exact .inl ⟨rfl,rfl⟩) (by
  by_cases hc:x.length<=y.length;have e:min x.length y.length=x.length:=(by omega);rw [e];simp only [ka4,kap,qg,List.drop_length,lexP,qc]
  ·have e:min x.length y.length=y.length:=(by omega);have e2:decide (((y.length:Nat):Int)<(x.length:Int))=true:=qaa (by omega);rw [e];simp only [ka4,e2,qe,kap,qc,qg,List.drop_length];cases List.drop y.length x <;> simp [lexP])
 have g:kah (ka4 x y) fuel 0=some (lexP x y):=by simpa using h
 rw [g,qc,knm];cases lexP x y with
 | inr c=>rfl
 | inl u=>
  simp only [qu];unfold kdk;by_cases h1:x.length<y.length;rw [qaa (by omega),qq h1];rfl
  ·rw [q9 (by omega),qh h1];by_cases d:y.length<x.length;rw [qaa (by omega),qq d];rfl
   ·rw [q9 (by omega),qh d];rfl
theorem ktx (a b:Opn) (ha:a.f_Args.length<=9223372036854775807) (c:b.f_Args.length<=9223372036854775807):kbo a b=some (kcx a b):=by
 unfold kbo kcx;by_cases h:a.f_Rule=b.f_Rule;rw [show (a.f_Rule != b.f_Rule)=false by simp [h],qh (by simp [h])];rw [qg,kio _ _ ha c];rfl
 ·rw [show (a.f_Rule != b.f_Rule)=true by simp [h],qq h];rw [qe,kio _ _ (by simp) (by simp)];rfl
theorem kqv (l:List Int) (n:Nat) (hl:l.length<=9223372036854775807):Ev (kb9 l (n:Int)) fun b=>b=true↔AscP l n:=by
 let bad:Nat->Bool:=fun i=>decide ((l[i]?).getD 0<0) || (decide ((n:Int)<=(l[i]?).getD 0) || (decide (0<i) && decide ((l[i]?).getD 0<=(l[i - 1]?).getD 0)))
 have hs:∀ i,i<l.length->kaw l (n:Int) (i:Int)=if bad i=true then some (.inr (.inr false)) else some (.inl ((i+1:Nat):Int)):=fun i hi=>by
  have e:bad i=(decide (l[i]<0) || (decide ((n:Int)<=l[i]) || (decide (0<i) && decide (l[i]<=(l[i - 1]?).getD 0)))):=by show (decide ((l[i]?).getD 0<0) || _)=_;rw [qa hi];rfl
  rw [e];simp only [kaw,ka0 hi,qe,kaj,qa hi,qc,kal hi hl];by_cases h1:l[i]<0;simp [h1]
  ·by_cases d:(n:Int)<=l[i];simp [h1,d]
   ·by_cases f:0<i
    ·have c:i - 1<l.length:=(by omega);have e1:w64 ((i:Int) - 1)=((i - 1:Nat):Int):=(by rw [kd8 (by omega) (by omega)];omega);have e2:decide ((0:Int)<(i:Int))=true:=qaa (by omega);simp only [q9 h1,q9 d,e2,qe,qg,e1,kaj,qa c,qc,qaa f,Bool.false_or,Bool.true_and,qai];by_cases k:l[i]<=l[i - 1];simp [k]
     ·simp [k]
    ·have e2:decide ((0:Int)<(i:Int))=false:=q9 (by omega);simp [h1,d,f,e2]
 have m:kaw l (n:Int) (l.length:Int)=some (.inr (.inl ())):=by simp only [kaw,kap,qg]
 unfold kb9;rcases kfu (step:=kaw l (n:Int)) l.length (by omega) bad (fun _ => .inr false) (.inl ()) hs m with ⟨i,hi,g,_,hr⟩ | ⟨g,hr⟩
 ·rw [hr];refine ⟨false,rfl,⟨fun h=>absurd h qah,fun h=>?_⟩⟩;exfalso;have h1:=h.1 l[i] (qo hi);have a:(decide ((l[i]?).getD 0<0) || (decide ((n:Int)<=(l[i]?).getD 0) || (decide (0<i) && decide ((l[i]?).getD 0<=(l[i - 1]?).getD 0))))=true:=g;rw [qa hi] at a;simp only [qai,Bool.or_eq_true,qn,qbb] at a;rcases a with a | a | ⟨f,a⟩;omega;omega
  ·have c:i - 1<l.length:=(by omega);rw [qa c,qai] at a;have:=h.2 (i - 1) l[i - 1] l[i] (qa c) (by rw [show i - 1+1=i by omega];exact qa hi);omega
 ·rw [hr];have a:∀ i (hi:i<l.length),0<=l[i]/\l[i]<(n:Int)/\(0<i->(l[i - 1]?).getD 0<l[i]):=fun i hi=>by
   have h:(decide ((l[i]?).getD 0<0) || (decide ((n:Int)<=(l[i]?).getD 0) || (decide (0<i) && decide ((l[i]?).getD 0<=(l[i - 1]?).getD 0))))=false:=g i hi;rw [qa hi] at h;simp only [qai,Bool.or_eq_false_iff,Bool.and_eq_false_iff,decide_eq_false_iff_not] at h;refine ⟨by omega,by omega,fun h0=>?_⟩;rcases h.2.2 with h | h;exact absurd h0 h
   ·omega
  refine ⟨true,rfl,⟨fun _=>⟨fun x j=>?_,fun i x y j hy=>?_⟩,fun _=>rfl⟩⟩;obtain ⟨i,hi,rfl⟩:=qak.1 j;exact ⟨(a i hi).1,(a i hi).2.1⟩
  ·obtain ⟨hi,rfl⟩:=qd.1 j;obtain ⟨o,rfl⟩:=qd.1 hy;have:=(a (i+1) o).2.2 (by omega);rw [Nat.add_sub_cancel,qa hi,qai] at this;exact this
theorem kol (f:Int->Int) {l:List Int} {j:Nat} (h:j<l.length):((l.take (j+1)).map f).sum=((l.take j).map f).sum+f l[j]:=by rw [qab h,qa0,List.sum_append];simp
theorem knr (f:Int->Int) (l:List Int) (j:Nat):(l.map f).sum=((l.take j).map f).sum+((l.drop j).map f).sum:=by rw [<- List.sum_append,<- qa0,List.take_append_drop]
theorem kin {f:Int->Int}:∀ (l:List Int),(∀ x∈l,0<=f x)->0<=(l.map f).sum
 | [],_=>by simp
 | x::l,h=>by have h1:=h x (qv ..);have a:=kin l fun y hy=>h y (qs _ hy);simp only [qa3,List.sum_cons];omega
theorem kfl {ns:List Nod} {a:Int} (h0:0<=a) (h1:a<(ns.length:Int)):∃ m,idx ns a=some m/\ns[a.toNat]?=some m/\szAt ns a=m.f_Size/\syAt ns a=m.f_Symbol:=by
 have b:a.toNat<ns.length:=by omega
 refine ⟨ns[a.toNat],?_,qa b,?_,?_⟩;unfold idx;rw [qq h0,qa b];unfold szAt;rw [qa b];rfl
 ·unfold syAt;rw [qa b];rfl
theorem ktk {ns:List Nod} {i:Nat} {n:Nod} {o:Opn} (hn:ns[i]?=some n) (l:∀ (k:Nat) (m:Nod),k<=i->ns[k]?=some m->1<=m.f_Size/\m.f_Size<=24) (t:o.f_Args.length<=9223372036854775807):Ev (kct ns (i:Int) o) fun b=>b=true↔OptP ns i n o:=by
 have hi:=(qd.1 hn).1;have u:=l i n (qt _) hn;have c:∀ a:Int,0<=a->a<(i:Int)->∃ m,idx ns a=some m/\szAt ns a=m.f_Size/\1<=m.f_Size/\m.f_Size<=24:=fun a h0 h1=>by obtain ⟨m,e1,e2,e3,_⟩:=kfl (ns:=ns) h0 (by omega);have:=l a.toNat m (by omega) e2;exact ⟨m,e1,e3,this.1,this.2⟩
 unfold kct;refine kcd (Ev.mono (ka3 (xs:=o.f_Args) (step:=kcf ns (i:Int) o) (Q:=fun r=>(∃ s,r = .inl s/\(∀ a∈o.f_Args,0<=a/\a<(i:Int))/\s=1+(o.f_Args.map (szAt ns)).sum)\/(r = .inr false/\¬ OptP ns i n o))
  (fun (j:Nat) (s:Int)=>(s,(j:Int))) (fun j s=>(∀ a∈o.f_Args.take j,0<=a/\a<(i:Int))/\s=1+((o.f_Args.take j).map (szAt ns)).sum/\1<=s/\s<=48) t ⟨by simp,by simp,by omega,by omega⟩ (fun j s d ⟨h1,p,v,w⟩=>?_) (fun s ⟨h1,p,v,w⟩=>?_)) ?_)
 ·simp only [kcf,ka0 d,qe,kaj,qa d,qc,kal d t];by_cases b1:o.f_Args[j]<0;refine ⟨.inr (.inr false),by simp [b1], .inr ⟨rfl,fun g=>?_⟩⟩;have:=(g.args _ (qo d)).1;omega
  ·by_cases b2:(i:Int)<=o.f_Args[j];refine ⟨.inr (.inr false),by simp [b1,b2], .inr ⟨rfl,fun g=>?_⟩⟩;have:=(g.args _ (qo d)).2;omega
   ·by_cases b3:24<s;refine ⟨.inr (.inr false),by simp [b1,b2,b3], .inr ⟨rfl,fun g=>?_⟩⟩;have x:=g.size;rw [knr _ _ j] at x;have z:=kin (f:=szAt ns) (o.f_Args.drop j) fun a ha=>(by have q:=g.args a (qaz ha);obtain ⟨m,_,e,y,_⟩:=c a q.1 q.2;omega);omega
    ·obtain ⟨m,e1,e2,y,A⟩:=c o.f_Args[j] (by omega) (by omega);have e3:w64 (s+m.f_Size)=s+m.f_Size:=kd8 (by omega) (by omega);refine ⟨.inl (s+m.f_Size,((j+1:Nat):Int)),by simp [b1,b2,b3,e1,e3],s+m.f_Size,rfl,fun a ha=>?_,?_,by omega,by omega⟩
     ·rw [qab d,qad,qao] at ha;rcases ha with ha | rfl;exact h1 a ha
      ·omega
     ·rw [kol _ d];omega
 ·refine ⟨_,by simp only [kcf,kap,qg],_,rfl, .inl ⟨s,rfl,?_,?_⟩⟩;rw [qal] at h1;exact h1
  ·rw [qal] at p;exact p
 ·rintro r (⟨s,rfl,h1,p⟩ | ⟨rfl,h1⟩)
  ·simp only [qu];by_cases hr:0<=o.f_Rule;simp only [qaa hr,qe,kaj,hn,qc];refine ⟨_,rfl,?_⟩;show (s == n.f_Size)=true↔_;rw [beq_iff_eq,p];exact ⟨fun h=>⟨hr,h1,h⟩,fun h=>h.size⟩
   ·simp only [q9 hr,qg,qc];exact ⟨false,rfl,⟨fun h=>absurd h qah,fun h=>absurd h.rule hr⟩⟩
  ·exact ⟨false,rfl,⟨fun h=>absurd h qah,fun h=>absurd h h1⟩⟩
theorem knu {ns:List Nod} {i k:Nat} {n m:Nod} {o p:Opn} (hn:ns[i]?=some n) (hm:ns[k]?=some m) (ho:∀ a∈o.f_Args,0<=a/\a<(ns.length:Int)) (hp:∀ a∈p.f_Args,0<=a/\a<(ns.length:Int)) (r:o.f_Args.length<=9223372036854775807):
  Ev (kcs ns (i:Int) o (k:Int) p) fun b=>b=true↔n.f_Symbol=m.f_Symbol/\o.f_Args.map (syAt ns)=p.f_Args.map (syAt ns):=by
 unfold kcs;simp only [kaj,hn,hm,qc];by_cases h1:n.f_Symbol=m.f_Symbol
 ·have e1:(n.f_Symbol != m.f_Symbol)=false:=by simp [h1]
  simp only [e1,qg,qc];by_cases l:o.f_Args.length=p.f_Args.length
  ·have e2:((o.f_Args.length:Int) != (p.f_Args.length:Int))=false:=(by simp [l]);simp only [e2,qg]
   let bad:Nat->Bool:=fun j=>decide (syAt ns ((o.f_Args[j]?).getD 0)≠syAt ns ((p.f_Args[j]?).getD 0))
   have hs:∀ j,j<o.f_Args.length->kbi ns o p (j:Int)=if bad j=true then some (.inr (.inr false)) else some (.inl ((j+1:Nat):Int)):=fun j d=>by
    have c:j<p.f_Args.length:=(by omega);obtain ⟨x,x1,_,_,x2⟩:=kfl (ns:=ns) (ho _ (qo d)).1 (ho _ (qo d)).2;obtain ⟨y,y1,_,_,y2⟩:=kfl (ns:=ns) (hp _ (qo c)).1 (hp _ (qo c)).2;have e:bad j=decide (x.f_Symbol≠y.f_Symbol):=(by show decide (syAt ns ((o.f_Args[j]?).getD 0)≠syAt ns ((p.f_Args[j]?).getD 0))=_;rw [qa d,qa c,qai,qai,x2,y2]);rw [e];simp only [kbi,ka0 d,qe,kaj,qa d,qa c,qc,kal d r,x1,y1];by_cases f:x.f_Symbol=y.f_Symbol;rw [show (x.f_Symbol != y.f_Symbol)=false by simp [f],qg,q9 (by simp [f]),qh (by simp)]
    ·rw [show (x.f_Symbol != y.f_Symbol)=true by simp [f],qe,qaa f,qq rfl]
   have s:kbi ns o p (o.f_Args.length:Int)=some (.inr (.inl ())):=(by simp only [kbi,kap,qg]);rcases kfu (step:=kbi ns o p) o.f_Args.length (by omega) bad (fun _ => .inr false) (.inl ()) hs s with ⟨j,d,q,_,hr⟩ | ⟨q,hr⟩;rw [hr];refine ⟨false,rfl,⟨fun h=>absurd h qah,fun h=>?_⟩⟩;exfalso;have c:j<p.f_Args.length:=(by omega);have g:decide (syAt ns ((o.f_Args[j]?).getD 0)≠syAt ns ((p.f_Args[j]?).getD 0))=true:=q;rw [qa d,qa c,qai,qai,qbb] at g;have f:=congrArg (·[j]?) h.2;simp only [qr,qa d,qa c,qa9,qb] at f;exact g f
   ·rw [hr];refine ⟨true,rfl,⟨fun _=>⟨h1,?_⟩,fun _=>rfl⟩⟩;refine List.ext_getElem (by simp [l]) fun j d c=>?_;rw [qaj] at d c;rw [List.getElem_map,List.getElem_map];have h:decide (syAt ns ((o.f_Args[j]?).getD 0)≠syAt ns ((p.f_Args[j]?).getD 0))=false:=q j d;rw [qa d,qa c,qai,qai,decide_eq_false_iff_not] at h;exact Decidable.not_not.1 h
  ·have e2:((o.f_Args.length:Int) != (p.f_Args.length:Int))=true:=(by rw [bne_iff_ne];omega);simp only [e2,qe];exact ⟨false,rfl,⟨fun h=>absurd h qah,fun h=>absurd (by simpa using congrArg List.length h.2) l⟩⟩
 ·have e1:(n.f_Symbol != m.f_Symbol)=true:=by simp [h1]
  simp only [e1,qe,qc];exact ⟨false,rfl,⟨fun h=>absurd h qah,fun h=>absurd h.1 h1⟩⟩
end Go.Proofs.YtpnnpkmjohkgiaaGreatDoor
