import Derived.Test.YtpnnpkmjohkgiaaGreatDoorDd
import Derived.Test.YtpnnpkmjohkgiaaGreatDoorXm
set_option linter.all false
set_option maxRecDepth 100000
namespace Go.Proofs.YtpnnpkmjohkgiaaGreatDoor
open Go Go.RowKit
def ilk {α:Type} (m:List (Int×α)) (k:Int):Option α:=(imf k m 0).map (·.2)
theorem kvl {α:Type} (m:List (Int×α)) (k:Int):ihas m k=(ilk m k).isSome:=by unfold ihas ilk;cases imf k m 0 <;> rfl
theorem kwd {α:Type} (m:List (Int×α)) (k:Int) (z:α):iget m k z=(ilk m k).getD z:=by unfold iget ilk;cases imf k m 0 <;> rfl
theorem klj {α:Type} (k:Int):∀ (m:List (Int×α)) (i:Nat),imf k m (i+1)=(imf k m i).map fun p=>(p.1+1,p.2)
 | [],_=>rfl
 | (k',x)::l,i=>by
  simp only [imf];cases k == k' with
  | true=>rfl
  | false=>exact klj k l (i+1)
theorem kg8 {α:Type} (k':Int) (x:α) (l:List (Int×α)) (k:Int):ilk ((k',x)::l) k=if k=k' then some x else ilk l k:=by
 unfold ilk;simp only [imf];by_cases h:k=k';subst h;simp
 ·rw [qh h,show (k == k')=false by simp [h],qg,klj];cases imf k l 0 <;> rfl
theorem kt0 {α:Type} (k':Int) (x:α) (l:List (Int×α)) (k:Int) (y:α):iput ((k',x)::l) k y=if k=k' then (k,y)::l else (k',x)::iput l k y:=by
 unfold iput;simp only [imf];by_cases h:k=k';subst h;simp
 ·rw [qh h,show (k == k')=false by simp [h],qg,klj];cases imf k l 0 <;> rfl
theorem kli {α:Type} (k:Int) (y:α) (r:Int):∀ m:List (Int×α),ilk (iput m k y) r=if r=k then some y else ilk m r
 | []=>by show ilk [(k,y)] r=_;rw [kg8]
 | (k',x)::l=>by
  rw [kt0];by_cases h:k=k'
  ·rw [qq h,kg8,kg8];subst h;by_cases a:r=k;rw [qq a,qq a]
   ·rw [qh a,qh a,qh a]
  ·rw [qh h,kg8,kg8,kli k y r l];by_cases a:r=k';subst a;rw [qq rfl,qh (fun e=>h e.symm),qq rfl]
   ·rw [qh a,qh a]
theorem cmpN (a b:Int):kdi a b=some (if a<b then -1 else if b<a then 1 else 0):=by
 simp only [kdi,kep,bne_self_eq_false,qc,qg];by_cases h1:a<b;rw [qaa h1,qq h1];rfl
 ·rw [q9 h1,qh h1];by_cases c:b<a;rw [qaa c,qq c];rfl
  ·rw [q9 c,qh c];rfl
theorem k1j (x y:Int):kf1 [x,y]=some (if x≠0 then x else y):=by
 unfold kf1;have h:kah (kd4 [x,y]) fuel 0=some (if x≠0 then .inr x else if y≠0 then .inr y else .inl ()):=by
  have h0:kd4 [x,y] 0=if x≠0 then some (.inr (.inr x)) else some (.inl 1):=by
   have e:idx [x,y] 0=some x:=kaj [x,y] 0;show (bif decide ((0:Int)<(([x,y]:List Int).length:Int)) then _ else _)=_;rw [show decide ((0:Int)<(([x,y]:List Int).length:Int))=true from rfl,qe,e,qc];by_cases a:x=0;subst a;rfl
   ·rw [show (x != 0)=true by rw [bne_iff_ne];exact a,qq a];rfl
  have h1:kd4 [x,y] 1=if y≠0 then some (.inr (.inr y)) else some (.inl 2):=by
   have e:idx [x,y] 1=some y:=kaj [x,y] 1;show (bif decide ((1:Int)<(([x,y]:List Int).length:Int)) then _ else _)=_;rw [show decide ((1:Int)<(([x,y]:List Int).length:Int))=true from rfl,qe,e,qc];by_cases hy:y=0;subst hy;rfl
   ·rw [show (y != 0)=true by rw [bne_iff_ne];exact hy,qq hy];rfl
  have b:kd4 [x,y] 2=some (.inr (.inl ())):=rfl;rw [show fuel=18446744073709551613+1+1+1 from rfl,kah,h0];by_cases a:x=0
  ·rw [qh (by simpa using a),qh (by simpa using a)];simp only;rw [kah,h1];by_cases hy:y=0;rw [qh (by simpa using hy),qh (by simpa using hy)];simp only;rw [kah,b]
   ·rw [qq hy,qq hy]
  ·rw [qq a,qq a]
 rw [h,qc];by_cases a:x=0 <;> by_cases hy:y=0 <;> simp [a,hy]
def lexQ:List Int->List Int->Unit ⊕ Int
 | x::xs,y::ys=>if x<y then .inr (-1) else if y<x then .inr 1 else lexQ xs ys
 | _::_,[] => .inr 1
 | [],_ => .inl ()
theorem kno:∀ xs ys:List Int,cmpI xs ys=Sum.elim (fun _=>if xs.length<ys.length then -1 else 0) id (lexQ xs ys)
 | [],[]=>rfl
 | [],_::_=>by simp [cmpI,lexQ]
 | _::_,[]=>by simp [cmpI,lexQ]
 | x::xs,y::ys=>by
  simp only [cmpI,lexQ];split;rfl
  ·split;rfl
   ·rw [kno xs ys];congr 1;funext u;simp
theorem k2k (x y:List Int) (e:x.length<=9223372036854775807):kcj x y=some (cmpI x y):=by
 unfold kcj;have h:=kjd (step:=kbm x y) x.length (by omega) (fun i=>(i:Int)) (fun i=>lexQ (x.drop i) (y.drop i)) (fun i a=>by
  simp only [kbm,ka0 a,qe,kaj,qa a,qc,kal a e,List.drop_eq_getElem_cons a];by_cases b:i<y.length
  ·rw [q9 (show ¬ (y.length:Int)<=(i:Int) by omega),qg];simp only [qa b,qc,List.drop_eq_getElem_cons b,lexQ,cmpN];by_cases h1:x[i]<y[i];simp only [qq h1];exact .inr rfl
   ·simp only [qh h1];by_cases d:y[i]<x[i];simp only [qq d];exact .inr rfl
    ·simp only [qh d];first | exact .inl ⟨rfl,rfl⟩ | exact .inl ⟨rfl,trivial⟩
  ·rw [qaa (show (y.length:Int)<=(i:Int) by omega),qe,List.drop_eq_nil_of_le (show y.length<=i by omega)];exact .inr rfl) (by
  simp only [kbm,kap,qg,List.drop_length,lexQ])
 have f:kah (kbm x y) fuel 0=some (lexQ x y):=by simpa using h
 rw [f,qc,kno];cases lexQ x y with
 | inr c=>rfl
 | inl u=>
  simp only [qu];by_cases h1:x.length<y.length;rw [qaa (by omega),qq h1];rfl
  ·rw [q9 (by omega),qh h1];rfl
theorem k0c (a b:Opn) (ha:a.f_Args.length<=9223372036854775807):kce a b=some (kcx a b):=by
 unfold kce kcx;rw [cmpN,qc,k2k _ _ ha,qc,k1j,qc];congr 1;by_cases h1:a.f_Rule<b.f_Rule;rw [qq h1,qq (by omega),qq (by omega)];simp [cmpI,h1]
 ·by_cases c:b.f_Rule<a.f_Rule;rw [qh h1,qq c,qq (by omega),qq (by omega)];simp [cmpI,h1,c]
  ·rw [qh h1,qh c,qh (by omega),qh (by omega)]
theorem asc_p (l:List Int) (n:Nat) (hl:l.length<=9223372036854775807):Ev (kd5 l (n:Int)) fun b=>b=true↔AscP l n:=by
 have h:kd9 l (n:Int)=kaw l (n:Int):=by
  funext v;simp only [kd9,kaw];cases decide (v<(l.length:Int)) with
  | false=>rfl
  | true=>cases idx l v <;> rfl
 unfold kd5;rw [h];exact kqv l n hl
theorem kz8 (x y:List Int) (c:x.length<=9223372036854775807):kbr x y=some (decide (x=y)):=by
 unfold kbr;by_cases hl:x.length=y.length
 ·rw [show ((x.length:Int) != (y.length:Int))=false by simp [hl],qg];rcases kfu (step:=kbh x y) x.length (by omega) (fun i=>decide (x[i]?≠y[i]?)) (fun _ => .inr false) (.inl ()) (fun i hi=>by
   have b:i<y.length:=(by omega);simp only [kbh,ka0 hi,qe,kaj,qa hi,qa b,qc,kal hi c];by_cases h:x[i]=y[i];rw [show (x[i] != y[i])=false by simp [h],qh (by simp [h])];rfl
   ·rw [show (x[i] != y[i])=true by simp [h],qq (by simp [h])];rfl) (by simp only [kbh,kap,qg]) with ⟨i,hi,a,_,hr⟩ | ⟨a,hr⟩
  rw [hr];rw [qbb] at a;rw [q9 (fun e=>a (by rw [e]))];rfl
  ·rw [hr];have:x=y:=List.ext_getElem? fun i=>by
    by_cases hi:i<x.length;have:=a i hi;simpa using this
    ·rw [qan (by omega),qan (by omega)]
   rw [qaa this];rfl
 ·rw [show ((x.length:Int) != (y.length:Int))=true by simp;omega,qe,q9 (fun e=>hl (by rw [e]))]
def shp (ns:List Nod) (i:Nat) (o:Opn):List Int:=syAt ns (i:Int)::o.f_Args.map (syAt ns)
theorem shp_sgn {ns:List Nod} {i k:Nat} {o p:Opn}:shp ns i o=shp ns k p↔sgn ns i o=sgn ns k p:=by unfold shp sgn;simp
theorem k0u {s:Spa} {i:Nat} {n:Nod} {o:Opn} (hn:s.f_Nodes[i]?=some n) (ho:∀ a∈o.f_Args,0<=a/\a<(s.f_Nodes.length:Int)) (hl:o.f_Args.length<=1000):keq s n o=some (shp s.f_Nodes i o):=by
 unfold keq;have h:=kik (step:=kc4 s o) o.f_Args.length (by omega) (fun k=>((k:Int),n.f_Symbol::(o.f_Args.take k).map (syAt s.f_Nodes))) (shp s.f_Nodes i o) (fun k hk=>by
  obtain ⟨m,e1,e2,_,e3⟩:=kfl (ns:=s.f_Nodes) (ho _ (qo hk)).1 (ho _ (qo hk)).2;simp only [kc4,ka0 hk,qe,kaj,qa hk,qc,e1,kal hk (show o.f_Args.length<=9223372036854775807 by omega)];rw [keu (by simp;omega),qc,qab hk,qa0];simp [e3]) (by
  simp only [kc4,kap,qg,qal];unfold shp;rw [kfm hn])
 have b:kah (kc4 s o) fuel (0,([n.f_Symbol]:List Int))=some (shp s.f_Nodes i o):=by simpa using h
 rw [b,qc]
theorem k1w {s:Spa} {i:Nat} {n:Nod} {o:Opn} (v4:Int×Int×List (Int×List Int)) (hv:v4.2.1=(i:Int)) (hn:s.f_Nodes[i]?=some n) (g:∀ (k:Nat) (m:Nod),k<=i->s.f_Nodes[k]?=some m->1<=m.f_Size/\m.f_Size<=24) (p:o.f_Args.length<=9223372036854775807):
  Ev (kah (kdf s v4 o) fuel (1,0)) fun r=>(∃ z,r = .inl z/\o.f_Args.length<=48/\(∀ a∈o.f_Args,0<=a/\a<(i:Int))/\z=1+(o.f_Args.map (szAt s.f_Nodes)).sum)\/(r = .inr false/\¬ OptP s.f_Nodes i n o):=by
 have hi:=(qd.1 hn).1;have q:=g i n (qt _) hn;have b:∀ a:Int,0<=a->a<(i:Int)->∃ m,idx s.f_Nodes a=some m/\szAt s.f_Nodes a=m.f_Size/\1<=m.f_Size/\m.f_Size<=24:=fun a h0 h1=>by obtain ⟨m,e1,e2,e3,_⟩:=kfl (ns:=s.f_Nodes) h0 (by omega);have:=g a.toNat m (by omega) e2;exact ⟨m,e1,e3,this.1,this.2⟩
 refine ka3 (xs:=o.f_Args) (step:=kdf s v4 o) (Q:=fun r=>(∃ z,r = .inl z/\o.f_Args.length<=48/\(∀ a∈o.f_Args,0<=a/\a<(i:Int))/\z=1+(o.f_Args.map (szAt s.f_Nodes)).sum)\/(r = .inr false/\¬ OptP s.f_Nodes i n o))
  (fun (j:Nat) (z:Int)=>(z,(j:Int))) (fun j z=>(∀ a∈o.f_Args.take j,0<=a/\a<(i:Int))/\z=1+((o.f_Args.take j).map (szAt s.f_Nodes)).sum/\(j:Int)+1<=z/\z<=48) p ⟨by simp,by simp,by omega,by omega⟩ (fun j z c ⟨h1,l,t,u⟩=>?_) (fun z ⟨h1,l,t,u⟩=>?_)
 ·simp only [kdf,ka0 c,qe,kaj,qa c,qc,kal c p,hv];by_cases b1:o.f_Args[j]<0;refine ⟨.inr (.inr false),by simp [b1], .inr ⟨rfl,fun d=>?_⟩⟩;have:=(d.args _ (qo c)).1;omega
  ·by_cases b2:(i:Int)<=o.f_Args[j];refine ⟨.inr (.inr false),by simp [b1,b2], .inr ⟨rfl,fun d=>?_⟩⟩;have:=(d.args _ (qo c)).2;omega
   ·by_cases b3:24<z;refine ⟨.inr (.inr false),by simp [b1,b2,b3], .inr ⟨rfl,fun d=>?_⟩⟩;have v:=d.size;rw [knr _ _ j] at v;have x:=kin (f:=szAt s.f_Nodes) (o.f_Args.drop j) fun a ha=>(by have h:=d.args a (qaz ha);obtain ⟨m,_,e,w,_⟩:=b a h.1 h.2;omega);omega
    ·obtain ⟨m,e1,e2,w,y⟩:=b o.f_Args[j] (by omega) (by omega);have e3:w64 (z+m.f_Size)=z+m.f_Size:=kd8 (by omega) (by omega);refine ⟨.inl (z+m.f_Size,((j+1:Nat):Int)),by simp [b1,b2,b3,e1,e3],z+m.f_Size,rfl,fun a ha=>?_,?_,by omega,by omega⟩
     ·rw [qab c,qad,qao] at ha;rcases ha with ha | rfl;exact h1 a ha
      ·omega
     ·rw [kol _ c];omega
 ·refine ⟨_,by simp only [kdf,kap,qg],_,rfl, .inl ⟨z,rfl,by omega,?_,?_⟩⟩;rw [qal] at h1;exact h1
  ·rw [qal] at l;exact l
structure MI (ns:List Nod) (vis:Nat->Opn->Prop) (m:List (Int×List Int)):Prop where
 here:∀ r x,ilk m r=some x->∃ i o,vis i o/\o.f_Rule=r/\x=shp ns i o
 all:∀ i o,vis i o->ilk m o.f_Rule=some (shp ns i o)
theorem MI.congr {ns:List Nod} {v v':Nat->Opn->Prop} {m:List (Int×List Int)} (h:MI ns v m) (hv:∀ i o,v i o↔v' i o):MI ns v' m:=
 ⟨fun r x a=>let ⟨i,o,h1,b⟩:=h.here r x a;⟨i,o,(hv _ _).1 h1,b⟩,fun i o ho=>h.all i o ((hv _ _).2 ho)⟩
theorem kyu {ns:List Nod} {i:Nat} {n:Nod} (hn:ns[i]?=some n) (i':Nat) (o:Opn):visO ns i n.f_Options.length i' o↔visO ns (i+1) 0 i' o:=by
 constructor;rintro ⟨m,k',h1,b,a⟩;refine ⟨m,k',h1,b, .inl ?_⟩;rcases a with a | ⟨a,_⟩ <;> omega
 ·rintro ⟨m,k',h1,b,a⟩;refine ⟨m,k',h1,b,?_⟩;rcases a with a | ⟨_,a⟩
  ·by_cases c:i'=i;subst c;rw [hn] at h1;cases h1;exact .inr ⟨rfl,kbe b⟩
   ·exact .inl (by omega)
  ·omega
theorem k1m {s:Spa} (I:kgu s) {i:Nat} {n:Nod} (v4:Int×Int×List (Int×List Int)) (hv:v4.2.1=(i:Int)) (hn:s.f_Nodes[i]?=some n) (J:∀ (k:Nat) (m:Nod),k<=i->s.f_Nodes[k]?=some m->1<=m.f_Size/\m.f_Size<=24) {m:List (Int×List Int)} (hm:MI s.f_Nodes (visO s.f_Nodes i 0) m):
  Ev (kah (kdd s v4 n) fuel (0,m)) fun r=>(∃ m',r = .inl m'/\MI s.f_Nodes (visO s.f_Nodes (i+1) 0) m'/\(∀ o∈n.f_Options,OptP s.f_Nodes i n o)/\∀ (k:Nat) (o p:Opn),n.f_Options[k]?=some o->n.f_Options[k+1]?=some p->kcx o p<0)\/(r = .inr false/\¬ kcg s):=by
 have e:=qm hn;have hi:=(qd.1 hn).1;have S:=I.opts n e;refine ka3 (xs:=n.f_Options) (step:=kdd s v4 n) (Q:=fun r=>(∃ m',r = .inl m'/\MI s.f_Nodes (visO s.f_Nodes (i+1) 0) m'/\(∀ o∈n.f_Options,OptP s.f_Nodes i n o)/\∀ (k:Nat) (o p:Opn),n.f_Options[k]?=some o->n.f_Options[k+1]?=some p->kcx o p<0)\/(r = .inr false/\¬ kcg s))
  (fun (k:Nat) (m:List (Int×List Int))=>((k:Int),m)) (fun k m=>MI s.f_Nodes (visO s.f_Nodes i k) m/\(∀ (j:Nat) (o:Opn),j<k->n.f_Options[j]?=some o->OptP s.f_Nodes i n o)/\∀ (j:Nat) (o p:Opn),j+1<k->n.f_Options[j]?=some o->n.f_Options[j+1]?=some p->kcx o p<0) (t0:=m) (by omega) ⟨hm,fun j o h=>by omega,fun j o p h=>by omega⟩ (fun k m hk ⟨h0,h1,K⟩=>?_) (fun m ⟨h0,h1,K⟩=>?_)
 ·have ho:=qa hk;have f:=qo hk;have T:=I.args n e _ f;simp only [kdd,ka0 hk,qe,kaj,ho,qc,kal hk (show n.f_Options.length<=9223372036854775807 by omega)];by_cases b1:n.f_Options[k].f_Rule<0;simp only [qaa b1,qe,qc];refine ⟨_,rfl, .inr ⟨rfl,fun h=>?_⟩⟩;have:=((h.node i n hn).opt _ f).rule;omega
  ·simp only [q9 b1,qg]
   -- the order
   have C:Ev (bif decide ((0:Int)<(k:Int)) then Option.bind (idx n.f_Options (w64 ((k:Int) - 1))) fun v10=>Option.bind (kce v10 n.f_Options[k]) fun v11=>some (decide (0<=v11)) else some false) fun b=>(b=false/\(∀ (j:Nat) (o p:Opn),j+1<k+1->n.f_Options[j]?=some o->n.f_Options[j+1]?=some p->kcx o p<0))\/(b=true/\¬ kcg s):=by
    by_cases h0:0<k
    ·have D:k - 1<n.f_Options.length:=(by omega);have e1:w64 ((k:Int) - 1)=((k - 1:Nat):Int):=(by rw [kd8 (by omega) (by omega)];omega);have v:=qa D;have O:=I.args n e _ (qo D);simp only [qaa (show (0:Int)<(k:Int) by omega),qe,e1,kaj,v,qc];rw [k0c _ _ (by omega),qc];by_cases P:kcx n.f_Options[k - 1] n.f_Options[k]<0
     ·refine ⟨_,rfl, .inl ⟨q9 (by omega),fun j o p E c w=>?_⟩⟩;by_cases y:j+1=k;have L:j=k - 1:=(by omega);subst L;rw [v] at c;cases c;rw [y,ho] at w;cases w;exact P
      ·exact K j o p (by omega) c w
     ·refine ⟨_,rfl, .inr ⟨qaa (by omega),fun h=>?_⟩⟩;exact P ((h.node i n hn).asc (k - 1) _ _ v (by rw [show k - 1+1=k by omega];exact ho))
    ·simp only [q9 (show ¬ (0:Int)<(k:Int) by omega),qg];exact ⟨false,rfl, .inl ⟨rfl,fun j o p E=>by omega⟩⟩
   refine kcd (Ev.mono C ?_);rintro b (⟨rfl,F⟩ | ⟨rfl,l⟩)
   ·simp only [qg];refine kcd (Ev.mono (k1w v4 hv hn J (o:=n.f_Options[k]) (by omega)) ?_);rintro r (⟨z,rfl,U,ha,R⟩ | ⟨rfl,l⟩)
    ·simp only [qu];have M:∀ a∈n.f_Options[k].f_Args,0<=a/\a<(s.f_Nodes.length:Int):=fun a h=>(by have:=ha a h;omega);rw [k0u hn M (by omega),qc];by_cases q:z=n.f_Size
     ·have V:OptP s.f_Nodes i n n.f_Options[k]:=⟨by omega,ha,by rw [<- R];exact q⟩;rw [show (z != n.f_Size)=false by simp [q],qg];have fin:∀ m',MI s.f_Nodes (visO s.f_Nodes i (k+1)) m'->m'=iput m n.f_Options[k].f_Rule (shp s.f_Nodes i n.f_Options[k])->∃ t',(((k+1:Nat):Int),m')=(((k+1:Nat):Int),t')/\MI s.f_Nodes (visO s.f_Nodes i (k+1)) t'/\(∀ (j:Nat) (o:Opn),j<k+1->n.f_Options[j]?=some o->OptP s.f_Nodes i n o)/\∀ (j:Nat) (o p:Opn),j+1<k+1->n.f_Options[j]?=some o->n.f_Options[j+1]?=some p->kcx o p<0:=fun m' X _=>by
       refine ⟨m',rfl,X,fun j o E c=>?_,F⟩;by_cases y:j=k;subst y;rw [ho] at c;cases c;exact V
       ·exact h1 j o (by omega) c
      have t:(∀ x,ilk m n.f_Options[k].f_Rule=some x->x=shp s.f_Nodes i n.f_Options[k])->MI s.f_Nodes (visO s.f_Nodes i (k+1)) (iput m n.f_Options[k].f_Rule (shp s.f_Nodes i n.f_Options[k])):=fun A=>by
       refine ⟨fun r x d=>?_,fun i' o' B=>?_⟩
       ·rw [kli] at d;by_cases hr:r=n.f_Options[k].f_Rule;rw [qq hr] at d;injection d with d;exact ⟨i,_,(ke0 hn ho i _).2 (.inr ⟨rfl,rfl⟩),hr.symm,d.symm⟩
        ·rw [qh hr] at d;obtain ⟨i',o',g1,g2,g3⟩:=h0.here r x d;exact ⟨i',o',(ke0 hn ho i' o').2 (.inl g1),g2,g3⟩
       ·rw [kli];rcases (ke0 hn ho i' o').1 B with B | ⟨rfl,rfl⟩
        ·have g:=h0.all i' o' B;by_cases hr:o'.f_Rule=n.f_Options[k].f_Rule;rw [qq hr];rw [hr] at g;rw [A _ g]
         ·rw [qh hr];exact g
        ·rw [qq rfl]
      rw [kvl,kwd];cases hl:ilk m n.f_Options[k].f_Rule with
      | none=>
       simp only [Option.isSome_none,qg,qc];refine ⟨_,rfl,fin _ (t fun x d=>by rw [hl] at d;cases d) rfl⟩
      | some x=>
       simp only [Option.isSome_some,qe,qai];obtain ⟨i',o',g1,g2,g3⟩:=h0.here _ _ hl;obtain ⟨n',G,u⟩:=kq2 g1;have N:x.length<=9223372036854775807:=(by rw [g3];unfold shp;have:=I.args n' (qm G) o' u;simp;omega);rw [kz8 _ _ N,qc,qc];by_cases d:x=shp s.f_Nodes i n.f_Options[k];rw [qaa d];refine ⟨_,rfl,fin _ (t fun x' H=>by rw [hl] at H;cases H;exact d) rfl⟩
       ·rw [q9 d];refine ⟨_,rfl, .inr ⟨rfl,fun h=>d ?_⟩⟩;rw [g3,shp_sgn];exact conP_iff.1 h.con i' i n' n o' _ G hn u f g2
     ·rw [show (z != n.f_Size)=true by simp [q],qe,qc];refine ⟨_,rfl, .inr ⟨rfl,fun h=>q ?_⟩⟩;rw [R];exact ((h.node i n hn).opt _ f).size
    ·exact ⟨_,rfl, .inr ⟨rfl,fun h=>l ((h.node i n hn).opt _ f)⟩⟩
   ·exact ⟨_,rfl, .inr ⟨rfl,l⟩⟩
 ·refine ⟨_,by simp only [kdd,kap,qg],_,rfl, .inl ⟨m,rfl,h0.congr (kyu hn),fun o ho=>?_,fun k o p ho hp=>K k o p (kbe hp) ho hp⟩⟩;obtain ⟨j,E⟩:=qaq.1 ho;exact h1 j o (kbe E) E
theorem k1g {s:Spa} (g:kgu s):Ev (kex s) fun b=>b=true↔kcg s:=by
 unfold kex;have t:=g.nodes;by_cases h1:s.f_Nodes.length<=4096
 ·have e1:decide ((4096:Int)<(s.f_Nodes.length:Int))=false:=q9 (by omega);obtain ⟨b,l,f⟩:=asc_p s.f_Roots s.f_Nodes.length (by have:=g.roots;omega);simp only [e1,qg,l,qc];cases b with
  | false=>exact ⟨false,rfl,⟨fun h=>absurd h qah,fun h=>absurd (f.2 h.roots) qah⟩⟩
  | true=>
   have d:=f.1 rfl;simp only [qbe,qg];refine kcd (Ev.mono (ka3 (xs:=s.f_Nodes) (step:=keb s) (Q:=fun r=>(r = .inl ()/\kcg s)\/(r = .inr false/\¬ kcg s))
    (fun (i:Nat) (c:Int×List (Int×List Int))=>(c.1,(i:Int),c.2)) (fun i c=>c.1=(optN (s.f_Nodes.take i):Int)/\optN (s.f_Nodes.take i)<=32768/\MI s.f_Nodes (visO s.f_Nodes i 0) c.2/\∀ (k:Nat) (n:Nod),k<i->s.f_Nodes[k]?=some n->NodP s.f_Nodes k n) (t0:=(0,[])) (by omega) ⟨by simp [optN],by simp [optN],⟨fun r x h=>(by cases h),fun i o h=>?_⟩,fun k n h=>by omega⟩ (fun i c hi ⟨c1,c2,c3,c4⟩=>?_) (fun c ⟨c1,c2,c3,c4⟩=>?_)) ?_)
   obtain ⟨n,k',_,_,h | ⟨_,h⟩⟩:=h <;> omega
   ·obtain ⟨c0,m⟩:=c;simp only at c1 c3;subst c1;have hn:=qa hi;have u:=g.opts _ (qo hi);have e2:w64 ((optN (s.f_Nodes.take i):Int)+(s.f_Nodes[i].f_Options.length:Int))=(optN (s.f_Nodes.take (i+1)):Int):=(by rw [kgi hi,kd8 (by omega) (by omega)];omega);simp only [keb,ka0 hi,qe,kaj,hn,qc,e2,kal hi (show s.f_Nodes.length<=9223372036854775807 by omega)];by_cases b2:s.f_Nodes[i].f_Symbol<0;simp only [qaa b2,qe,qc];refine ⟨_,rfl, .inr ⟨rfl,fun h=>?_⟩⟩;have:=(h.node i _ hn).sym;omega
    ·simp only [q9 b2,qg];by_cases b3:s.f_Nodes[i].f_Size<1;simp only [qaa b3,qe,qc];refine ⟨_,rfl, .inr ⟨rfl,fun h=>?_⟩⟩;have:=(h.node i _ hn).size;omega
     ·simp only [q9 b3,qg];by_cases b4:24<s.f_Nodes[i].f_Size;simp only [qaa b4,qe,qc];refine ⟨_,rfl, .inr ⟨rfl,fun h=>?_⟩⟩;have:=(h.node i _ hn).size;omega
      ·simp only [q9 b4,qg,qc];by_cases b1:(32768:Int)<(optN (s.f_Nodes.take (i+1)):Int);simp only [qaa b1,qe];refine ⟨_,rfl, .inr ⟨rfl,fun h=>?_⟩⟩;have j:=h.opts;have q:=kf0 s.f_Nodes (i+1);omega
       ·simp only [q9 b1,qg];refine kcd (Ev.mono (k1m g _ rfl hn (fun k m hk hm=>?_) c3) ?_)
        ·by_cases e:k=i;subst e;rw [hn] at hm;cases hm;omega
         ·exact (c4 k m (by omega) hm).size
        ·rintro r (⟨m',rfl,j,q,v⟩ | ⟨rfl,j⟩)
         ·refine ⟨_,rfl,(_,m'),rfl,rfl,by omega,j,fun k m hk hm=>?_⟩;by_cases e:k=i;subst e;rw [hn] at hm;cases hm;exact ⟨by omega,by omega,q,v⟩
          ·exact c4 k m (by omega) hm
         ·exact ⟨_,rfl, .inr ⟨rfl,j⟩⟩
   refine ⟨_,by simp only [keb,kap,qg],_,rfl, .inl ⟨rfl,h1,d,fun i n hn=>c4 i n (kbe hn) hn,by rw [qal] at c2;exact c2,conP_iff.2 fun i k n m o p hn hm ho hp hr=>?_⟩⟩;obtain ⟨a,ha⟩:=qaq.1 ho;obtain ⟨b,l⟩:=qaq.1 hp;have g1:=c3.all i o ⟨n,a,hn,ha, .inl (kbe hn)⟩;have g2:=c3.all k p ⟨m,b,hm,l, .inl (kbe hm)⟩;rw [hr,g2] at g1;exact (shp_sgn.1 (qag g1)).symm
   ·rintro r (⟨rfl,h⟩ | ⟨rfl,h⟩);exact ⟨true,rfl,⟨fun _=>h,fun _=>rfl⟩⟩
    ·exact ⟨false,rfl,⟨fun h=>absurd h qah,fun w=>absurd w h⟩⟩
 ·have e1:decide ((4096:Int)<(s.f_Nodes.length:Int))=true:=qaa (by omega);simp only [e1,qe,qc];exact ⟨false,rfl,⟨fun h=>absurd h qah,fun h=>absurd h.nodes h1⟩⟩
end Go.Proofs.YtpnnpkmjohkgiaaGreatDoor
