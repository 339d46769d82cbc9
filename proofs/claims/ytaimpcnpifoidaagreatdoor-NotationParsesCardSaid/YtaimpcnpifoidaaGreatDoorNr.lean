import Derived.Test.YtaimpcnpifoidaaGreatDoorNb
set_option linter.all false
set_option maxRecDepth 100000
namespace Go.Proofs.YtaimpcnpifoidaaGreatDoor
open Go Go.RowKit
inductive Pr (α:Type) where
 | done (a:α)
 | fail
 | peek (k:Int->Pr α)
 | adv (p:Pr α)
def Pr.run {α:Type}:Pr α->List UInt8->Option α×List UInt8
 | .done a,l=>(some a,l)
 | .fail,l=>(none,l)
 | .peek k,l=>(k (hd l)).run l
 | .adv p,l=>p.run l.tail
def Pr.bind {α β:Type}:Pr α->(α->Pr β)->Pr β
 | .done a,f=>f a
 | .fail,_ => .fail
 | .peek k,f => .peek fun c=>(k c).bind f
 | .adv p,f => .adv (p.bind f)
theorem run_bind {α β:Type} (f:α->Pr β):∀ (p:Pr α) (l:List UInt8),(p.bind f).run l=match p.run l with
  | (some a,m)=>(f a).run m
  | (none,m)=>(none,m)
 | .done a,l=>rfl
 | .fail,l=>rfl
 | .peek k,l=>run_bind f (k (hd l)) l
 | .adv p,l=>run_bind f p l.tail
def Pr.good {α:Type}:Bool->Pr α->Prop
 | _, .done _=>True
 | _, .fail=>True
 | _, .peek k=>(k 0).good false/\∀ c,c≠0->(k c).good true
 | b, .adv p=>b=true/\p.good false
theorem kafi {α:Type}:∀ (p:Pr α),p.good false->p.good true
 | .done a,_=>trivial
 | .fail,_=>trivial
 | .peek k,h=>h
 | .adv p,h=>by cases h.1
theorem kou {α:Type} {p:Pr α} (h:p.good false) (b:Bool):p.good b:=by
 cases b;exact h
 ·exact kafi p h
theorem kul {α β:Type} {f:α->Pr β} (d:∀ a,(f a).good false):∀ (p:Pr α) (b:Bool),p.good b->(p.bind f).good b
 | .done a,b,_=>kou (d a) b
 | .fail,_,_=>trivial
 | .peek k,_,h=>⟨kul d (k 0) false h.1,fun c hc=>kul d (k c) true (h.2 c hc)⟩
 | .adv p,_,h=>⟨h.1,kul d p false h.2⟩
theorem kgi {α β:Type} {f:α->Pr β} (b:∀ a,(f a).good false) {p:Pr α} (h:p.good false):(p.bind f).good false:=kul b p false h
theorem kaac {α:Type}:∀ (p:Pr α),p.good false->(p.run []).2=[]
 | .done a,_=>rfl
 | .fail,_=>rfl
 | .peek k,h=>kaac (k 0) h.1
 | .adv p,h=>by cases h.1
theorem k3p {α:Type}:∀ (p:Pr α) (l:List UInt8),∃ k,(p.run l).2=l.drop k/\k<=l.length
 | .done a,l=>⟨0,rfl,qz _⟩
 | .fail,l=>⟨0,rfl,qz _⟩
 | .peek k,l=>k3p (k (hd l)) l
 | .adv p,l=>by
  obtain ⟨k,h1,h2⟩:=k3p p l.tail;cases l with
  | nil=>exact ⟨0,by rw [Pr.run,h1];simp,qz _⟩
  | cons c l=>
   exact ⟨k+1,by rw [Pr.run,h1];simp,by simp at h2 ⊢; omega⟩
theorem kwa {α:Type}:∀ (p:Pr α) (b:Bool) (l:List UInt8) (n:Nat),p.good b->(b=true->0<n/\hd l≠0) ->
  (∃ k,(p.run l).2=l.drop k/\k<=l.length/\k<n/\p.run (l.take n)=((p.run l).1,(l.take n).drop k))\/((∃ k,(p.run l).2=l.drop k/\k<=l.length/\(n<=l.length->n<=k))/\(p.run (l.take n)).2=[])
 | .done a,b,l,n,_,_=>by
  cases n with
  | zero=>exact .inr ⟨⟨0,rfl,qz _,fun _=>qy _⟩,by simp [Pr.run]⟩
  | succ n=>exact .inl ⟨0,rfl,qz _,Nat.succ_pos _,rfl⟩
 | .fail,b,l,n,_,_=>by
  cases n with
  | zero=>exact .inr ⟨⟨0,rfl,qz _,fun _=>qy _⟩,by simp [Pr.run]⟩
  | succ n=>exact .inl ⟨0,rfl,qz _,Nat.succ_pos _,rfl⟩
 | .peek k,b,l,n,d,f=>by
  cases n with
  | zero=>
   obtain ⟨j,h1,h2⟩:=k3p (.peek k) l;exact .inr ⟨⟨j,h1,h2,fun _=>qz _⟩,by rw [List.take_zero];exact kaac (.peek k) d⟩
  | succ n=>
   have g:hd (l.take (n+1))=hd l:=(by cases l <;> rfl);simp only [Pr.run,g];by_cases h0:hd l=0
   ·rw [h0];exact kwa (k 0) false l (n+1) d.1 fun h=>by cases h
   ·exact kwa (k (hd l)) true l (n+1) (d.2 _ h0) fun _=>⟨Nat.succ_pos _,h0⟩
 | .adv p,b,l,n,d,f=>by
  obtain ⟨hn,h0⟩:=f d.1;obtain ⟨m,rfl⟩:∃ m,n=m+1:=⟨n - 1,by omega⟩;cases l with
  | nil=>exact absurd rfl h0
  | cons c l=>
   rcases kwa p false l m d.2 (fun h=>by cases h) with ⟨k,h1,h2,h3,e⟩ | ⟨⟨k,h1,h2,h3⟩,e⟩;exact .inl ⟨k+1,by simp only [Pr.run,List.tail_cons,h1,List.drop_succ_cons],by simpa using h2,by omega,by simp only [Pr.run,List.take_succ_cons,List.tail_cons,e,List.drop_succ_cons]⟩
   ·exact .inr ⟨⟨k+1,by simp only [Pr.run,List.tail_cons,h1,List.drop_succ_cons],by simpa using h2,fun h=>by have:=h3 (by simpa using h);omega⟩,by simp only [Pr.run,List.take_succ_cons,List.tail_cons,e]⟩
def kbc:List Int->Pr Unit
 | [] => .done ()
 | x::w => .peek fun c=>if c=x then .adv (kbc w) else .fail
theorem knq:∀ {w:List Int},(∀ x∈w,x≠0)->(kbc w).good false
 | [],_=>trivial
 | x::w,h=>by
  have a:=h x (qt ..);refine ⟨?_,fun c hc=>?_⟩;simp only [qg (show ¬ ((0:Int)=x) from fun h=>a h.symm)];trivial
  ·dsimp only;split;exact ⟨rfl,knq fun y b=>h y (qn _ b)⟩
   ·trivial
def kh1 (least:Nat):Nat->List Int->Pr (List Int)
 | 0,acc => .peek fun c=>if c=34/\least<=acc.length then .adv (.done acc) else .fail
 | k+1,acc => .peek fun c=>if c=34/\least<=acc.length then .adv (.done acc) else if c=34\/c<32\/126<c then .fail else
   if c=92 then .adv (.peek fun d=>if d=34\/d=92 then .adv (kh1 least k (acc++[d])) else .fail) else .adv (kh1 least k (acc++[c]))
theorem kww (least:Nat):∀ (k:Nat) (acc:List Int),(kh1 least k acc).good false
 | 0,acc=>by
  refine ⟨?_,fun c hc=>?_⟩;simp only [show ¬ ((0:Int)=34) by decide,false_and,qa4];trivial
  ·dsimp only;split;exact ⟨rfl,trivial⟩
   ·trivial
 | k+1,acc=>by
  refine ⟨?_,fun c hc=>?_⟩;simp only [show ¬ ((0:Int)=34) by decide,false_and,qa4,show ((0:Int)<32) by decide,true_or,or_true,qa6];trivial
  ·dsimp only;split;exact ⟨rfl,trivial⟩;split;trivial;split
   ·refine ⟨rfl,?_,fun d hd=>?_⟩;simp only [show ¬ ((0:Int)=34\/(0:Int)=92) by decide,qa4];trivial
    ·dsimp only;split;exact ⟨rfl,kww least k _⟩
     ·trivial
   ·exact ⟨rfl,kww least k _⟩
def kdw (least most:Nat):Pr (List Int) := .peek fun c=>if c=34 then .adv (kh1 least most []) else .fail
theorem kse (least most:Nat):(kdw least most).good false:=by
 refine ⟨?_,fun c hc=>?_⟩;simp only [show ¬ ((0:Int)=34) by decide,qa4];trivial
 ·dsimp only;split;exact ⟨rfl,kww ..⟩
  ·trivial
def kcz:Nat->Int->Pr Int
 | 0,n => .done n
 | f+1,n=>if n<=0 then .done n else .peek fun b=>if 48<=b/\b<=57/\n*10+(b - 48)<=1000000 then .adv (kcz f (n*10+(b - 48))) else .done n
theorem kyl:∀ (f:Nat) (n:Int),(kcz f n).good false
 | 0,n=>trivial
 | f+1,n=>by
  unfold kcz;split;trivial;refine ⟨?_,fun c hc=>?_⟩;simp only [show ¬ ((48:Int)<=0) by decide,false_and,qa4];trivial
  ·dsimp only;split;exact ⟨rfl,kyl f _⟩
   ·trivial
def unsP (neg:Bool):Pr Int := .peek fun b=>if b<48\/57<b\/(neg=true/\b=48) then .fail else .adv ((kcz 7 (b - 48)).bind fun n => .done (if neg=true then -n else n))
def numP:Pr Int := .peek fun c=>if c=45 then .adv (unsP true) else unsP false
theorem kyc (neg:Bool):(unsP neg).good false:=by
 refine ⟨?_,fun c hc=>?_⟩;simp only [show (0:Int)<48 by decide,true_or,qa6];trivial
 ·dsimp only;split;trivial
  ·refine ⟨rfl,kgi (fun _=>?_) (kyl 7 _)⟩;trivial
theorem k4n:numP.good false:=by
 refine ⟨?_,fun c hc=>?_⟩;simp only [show ¬ ((0:Int)=45) by decide,qa4];exact kyc _
 ·dsimp only;split;exact ⟨rfl,kyc _⟩
  ·exact kou (kyc _) true
def kbg {α:Type} (e:Int) (least:Nat) (elem:List α->Pr α):Nat->List α->Pr (List α)
 | 0,acc => .peek fun c=>if c=e/\least<=acc.length then .adv (.done acc) else .fail
 | k+1,acc => .peek fun c=>if c=e/\least<=acc.length then .adv (.done acc) else
   (if acc.length=0 then .done () else kbc [44,32]).bind fun _=>(elem acc).bind fun v=>kbg e least elem k (acc++[v])
theorem kpy {α:Type} {e:Int} (b:e≠0) (least:Nat) {elem:List α->Pr α} (a:∀ l,(elem l).good false):∀ (k:Nat) (acc:List α),(kbg e least elem k acc).good false
 | 0,acc=>by
  refine ⟨?_,fun c hc=>?_⟩;simp only [show ¬ ((0:Int)=e) from fun h=>b h.symm,false_and,qa4];trivial
  ·dsimp only;split;exact ⟨rfl,trivial⟩
   ·trivial
 | k+1,acc=>by
  have hr:((if acc.length=0 then .done () else kbc [44,32]).bind fun _=>(elem acc).bind fun v=>kbg e least elem k (acc++[v])).good false:=by
   refine kgi (fun _=>kgi (fun v=>kpy b least a k _) (a _)) ?_;split;trivial
   ·exact knq (by decide)
  refine ⟨?_,fun c hc=>?_⟩;simp only [show ¬ ((0:Int)=e) from fun h=>b h.symm,false_and,qa4];exact hr
  ·dsimp only;split;exact ⟨rfl,trivial⟩
   ·exact kou hr true
def hexV (c:Int):Int:=if 48<=c/\c<=57 then c - 48 else if 97<=c/\c<=102 then c - 87 else -1
def bitsP:Pr Int := .peek fun a=>if hexV a<0 then .fail else .adv (.peek fun b=>if hexV b<0 then .fail else .adv (.done (hexV a*16+hexV b)))
theorem kab2:bitsP.good false:=by
 refine ⟨?_,fun c hc=>?_⟩;simp only [show hexV 0<0 by decide,qa6];trivial
 ·dsimp only;split;trivial
  ·refine ⟨rfl,?_,fun d hd=>?_⟩;simp only [show hexV 0<0 by decide,qa6];trivial
   ·dsimp only;split;trivial
    ·exact ⟨rfl,trivial⟩
def intE:Pr Va:=numP.bind fun n => .done (Va.mk 2 n ⟨#[]⟩ [])
def textE:Pr Va:=(kdw 0 64).bind fun s => .done (Va.mk 3 0 (toBA s) [])
def rowE (acc:List Va):Pr Va := .peek fun c=>if c=123 then
  .adv ((kbg 125 (match acc with | []=>1 | r::_=>r.items.length) (fun _=>textE) (match acc with | []=>8 | r::_=>r.items.length) []).bind fun l => .done (Va.mk 6 0 ⟨#[]⟩ l)) else .fail
def oneP:Pr Va := .peek fun c=>
 if c=116 then (kbc [116,114,117,101]).bind fun _ => .done (Va.mk 1 1 ⟨#[]⟩ [])
 else if c=102 then (kbc [102,97,108,115,101]).bind fun _ => .done (Va.mk 1 0 ⟨#[]⟩ [])
 else if c=34 then textE
 else if c=114 then .adv ((kdw 1 40).bind fun s => .done (Va.mk 8 0 (toBA s) []))
 else if c=91 then .adv ((kbg 93 0 (fun _=>intE) 16 []).bind fun l => .done (Va.mk 5 0 ⟨#[]⟩ l))
 else if c=123 then .adv ((kbg 125 0 (fun _=>textE) 16 []).bind fun l => .done (Va.mk 6 0 ⟨#[]⟩ l))
 else if c=60 then .adv ((kbg 62 0 rowE 8 []).bind fun l => .done (Va.mk 7 0 ⟨#[]⟩ l))
 else if c=48 then .adv (.peek fun d=>if d=120 then .adv (bitsP.bind fun n => .done (Va.mk 4 n ⟨#[]⟩ [])) else .done (Va.mk 2 0 ⟨#[]⟩ []))
 else intE
theorem ko5:intE.good false:=kgi (fun _=>by exact True.intro) k4n
theorem kl4:textE.good false:=kgi (fun _=>by exact True.intro) (kse ..)
theorem kq2 (acc:List Va):(rowE acc).good false:=by
 refine ⟨?_,fun c hc=>?_⟩;simp only [show ¬ ((0:Int)=123) by decide,qa4];trivial
 ·dsimp only;split;exact ⟨rfl,kgi (fun _=>by exact True.intro) (kpy (by decide) _ (fun _=>kl4) _ _)⟩
  ·trivial
theorem k41:oneP.good false:=by
 refine ⟨?_,fun c hc=>?_⟩;exact ko5
 ·dsimp only
  repeat' split
  exact kou (kgi (fun _=>by exact True.intro) (knq (by decide))) true;exact kou (kgi (fun _=>by exact True.intro) (knq (by decide))) true;exact kou kl4 true;exact ⟨rfl,kgi (fun _=>by exact True.intro) (kse ..)⟩;exact ⟨rfl,kgi (fun _=>by exact True.intro) (kpy (by decide) _ (fun _=>ko5) _ _)⟩;exact ⟨rfl,kgi (fun _=>by exact True.intro) (kpy (by decide) _ (fun _=>kl4) _ _)⟩;exact ⟨rfl,kgi (fun _=>by exact True.intro) (kpy (by decide) _ kq2 _ _)⟩
  ·refine ⟨rfl,?_,fun d hd=>?_⟩;simp only [show ¬ ((0:Int)=120) by decide,qa4];trivial
   ·dsimp only;split;exact ⟨rfl,kgi (fun _=>by exact True.intro) kab2⟩
    ·trivial
  ·exact kou ko5 true
theorem kf8 {α:Type} (k:Int->Pr α) (c:UInt8) (l:List UInt8):(Pr.peek k).run (c::l)=(k (c.toNat:Int)).run (c::l):=rfl
theorem khh {α:Type} (p:Pr α) (c:UInt8) (l:List UInt8):(Pr.adv p).run (c::l)=p.run l:=rfl
def stop (l:List UInt8):Prop:=(hd l<48\/57<hd l)/\hd l≠120
theorem k4l (ds:List UInt8):∀ (n:Int),0<=n->(∀ c∈ds,dig c)->n<=valD n ds:=by
 induction ds with
 | nil=>intro n _ _;exact Int.le_refl _
 | cons c ds ih=>
  intro n hn h;have hc:=h c (qt ..);unfold dig at hc;have:=ih (n*10+((c.toNat:Int) - 48)) (by omega) fun x a=>h x (qn _ a);show n<=valD (n*10+((c.toNat:Int) - 48)) ds;omega
theorem k2u (rest:List UInt8) (hs:stop rest):∀ (ds:List UInt8) (f:Nat) (n:Int),0<n->ds.length<=f->(∀ c∈ds,dig c)->valD n ds<=1000000->(kcz f n).run (ds++rest)=(some (valD n ds),rest)
 | [],0,n,_,_,_,_=>rfl
 | [],f+1,n,h0,_,_,_=>by unfold kcz;rw [qg (by omega)];show Pr.run (if 48<=hd rest/\hd rest<=57/\n*10+(hd rest - 48)<=1000000 then _ else _) _=_;rw [qg (by have:=hs.1;omega)];rfl
 | c::ds,0,n,_,h,_,_=>by simp at h
 | c::ds,f+1,n,h0,e,a,hv=>by have hc:=a c (qt ..);unfold dig at hc;have hm:=k4l ds (n*10+((c.toNat:Int) - 48)) (by omega) fun x b=>a x (qn _ b);have d:valD (n*10+((c.toNat:Int) - 48)) ds<=1000000:=hv;unfold kcz;rw [qg (by omega),qam,kf8,qj (by omega),khh];exact k2u rest hs ds f _ (by omega) (by simpa using e) (fun x b=>a x (qn _ b)) d
theorem kaaq {rest:List UInt8} (hs:stop rest) {n:Nat} (hn:n<=1000000) (neg:Bool) (h0:neg=true->0<n):(unsP neg).run (decN n++rest)=(some (if neg=true then -(n:Int) else n),rest):=by
 obtain ⟨d,ds,h1,h2,h3,f,g⟩:=kza n;have hd:=h2 d (qt ..);unfold dig at hd;rw [h1];unfold unsP;rw [qam,kf8,qg (by
  rintro (h | h | ⟨h,k⟩);omega;omega
  ·have:=f (h0 h);omega),khh,run_bind]
 have i:=g 7 (by decide) (by omega);by_cases j:n=0
 ·subst j;have a:(d.toNat:Int) - 48<=0:=by have:=k4l ds ((d.toNat:Int) - 48) (by omega) fun x b=>h2 x (qn _ b);omega
  have c:ds=[]:=by have:=g 1 (by decide) (by decide);exact qar (by omega)
  subst c;unfold kcz;rw [qj a];have e:(d.toNat:Int) - 48=0:=by omega
  rw [e];cases neg <;> rfl
 ·have:=f (by omega);rw [k2u rest hs ds 7 _ (by omega) (by omega) (fun x b=>h2 x (qn _ b)) (by rw [h3];omega),h3];rfl
theorem k3c (n:Nat) (rest:List UInt8):48<=hd (decN n++rest)/\hd (decN n++rest)<=57/\(0<n->48<hd (decN n++rest)):=by obtain ⟨d,ds,h1,h2,h3,a,b⟩:=kza n;have hd:=h2 d (qt ..);unfold dig at hd;rw [h1];show 48<=(d.toNat:Int)/\(d.toNat:Int)<=57/\_;exact ⟨hd.1,hd.2,fun h=>by have:=a h;show (48:Int)<(d.toNat:Int);omega⟩
theorem kaku {rest:List UInt8} (hs:stop rest) {n:Int} (h1 : -1000000<=n) (h2:n<=1000000):numP.run (kd8 n++rest)=(some n,rest):=by
 unfold numP kd8;by_cases h:n<0;rw [qj h];rw [qam,kf8,qj (show ((45:UInt8).toNat:Int)=45 from rfl),khh,kaaq hs (by omega) true fun _=>by omega,qj rfl];congr 2;omega
 ·rw [qg h];have:=k3c n.natAbs rest;rw [show (Pr.peek fun c=>if c=45 then (unsP true).adv else unsP false).run (decN n.natAbs++rest)=(if hd (decN n.natAbs++rest)=45 then (unsP true).adv else unsP false).run (decN n.natAbs++rest) from rfl,qg (by omega),kaaq hs (by omega) false fun h=>by cases h];simp;omega
theorem k6f {c d:UInt8} (h:c≠d):(c.toNat:Int)≠(d.toNat:Int):=fun e=>h (qbo.1 (by omega))
theorem k50 (least:Nat) (rest:List UInt8):∀ (l:List UInt8) (k:Nat) (acc:List Int),l.length<=k->least<=acc.length+l.length->(∀ c∈l,kmf c=true) ->
  (kh1 least k acc).run (l.flatMap escB++(34::rest))=(some (acc++l.map fun c=>(c.toNat:Int)),rest)
 | [],0,acc,_,hl,_=>by unfold kh1;rw [show ([]:List UInt8).flatMap escB++34::rest=34::rest from rfl,kf8,qj ⟨rfl,by simpa using hl⟩];simp [Pr.run]
 | [],k+1,acc,_,hl,_=>by unfold kh1;rw [show ([]:List UInt8).flatMap escB++34::rest=34::rest from rfl,kf8,qj ⟨rfl,by simpa using hl⟩];simp [Pr.run]
 | c::l,0,acc,h,_,_=>by simp at h
 | c::l,k+1,acc,h,hl,hp=>by
  have hc:=hp c (qt ..);unfold kmf at hc;simp only [q8,decide_eq_true_eq] at hc;have ih:=k50 least rest l k (acc++[(c.toNat:Int)]) (by simpa using h) (by simp at hl ⊢; omega) fun x f=>hp x (qn _ f);have a:(acc++[(c.toNat:Int)])++l.map (fun c=>(c.toNat:Int))=acc++(c::l).map fun c=>(c.toNat:Int):=by simp
  rw [a] at ih;unfold kh1;rw [qa0];by_cases b:c=34\/c=92;have e:escB c=[92,c]:=(by unfold escB;rw [qj b]);rw [e];have e92:((92:UInt8).toNat:Int)=92:=rfl;rw [show ([92,c]++l.flatMap escB)++34::rest=92::c::(l.flatMap escB++34::rest) from rfl,kf8,e92,qg (by omega),qg (by omega),qj rfl,khh,kf8,qj (by rcases b with rfl | rfl;exact .inl rfl;exact .inr rfl),khh];exact ih
  ·have e:escB c=[c]:=(by unfold escB;rw [qg b,qj (by unfold kmf;simp [hc])]);rw [e];have n1:(c.toNat:Int)≠34:=k6f (d:=34) fun h=>b (.inl h);have n2:(c.toNat:Int)≠92:=k6f (d:=92) fun h=>b (.inr h);rw [show ([c]++l.flatMap escB)++34::rest=c::(l.flatMap escB++34::rest) from rfl,kf8,qg (fun h=>n1 h.1),qg (by omega),qg n2,khh];exact ih
theorem k6u {least most:Nat} {l:List UInt8} (rest:List UInt8) (h1:least<=l.length) (h2:l.length<=most) (hp:∀ c∈l,kmf c=true):(kdw least most).run (kfz l++rest)=(some (l.map fun c=>(c.toNat:Int)),rest):=by unfold kdw kfz;rw [qam,kf8,qj (show ((34:UInt8).toNat:Int)=34 from rfl),khh,qan];have:=k50 least rest l most [] h2 (by simpa using h1) hp;simpa using this
theorem k1c {n:Nat} (h:n<16):((hexD n).toNat:Int)=if n<10 then 48+(n:Int) else 87+n:=by
 unfold hexD;split;rw [kk0 (by omega)];omega
 ·rw [kk0 (by omega)];omega
theorem kaff {n:Nat} (h:n<16):hexV ((hexD n).toNat:Int)=n:=by
 rw [k1c h];unfold hexV
 repeat' split
 all_goals omega
theorem kahy {rest:List UInt8} {n:Int} (h0:0<=n) (h1:n<=255):bitsP.run (hexD (n.toNat / 16)::hexD (n.toNat % 16)::rest)=(some n,rest):=by unfold bitsP;have e1:=kaff (n:=n.toNat / 16) (by omega);have e2:=kaff (n:=n.toNat % 16) (by omega);rw [kf8,e1,qg (by omega),khh,kf8,e2,qg (by omega),khh];show (some _,rest)=_;congr 2;omega
theorem kvz (rest:List UInt8):∀ w:List UInt8,(kbc (w.map fun c=>(c.toNat:Int))).run (w++rest)=(some (),rest)
 | []=>rfl
 | c::w=>by rw [qa8,kbc,qam,kf8,qj rfl,khh];exact kvz rest w
section
variable {α:Type} {e:UInt8} {least:Nat} {elem:List α->Pr α} {sh:α->List UInt8} {vs:List α}
theorem k52 (rest:List UInt8) {acc:List α} (k:Nat) (a:least<=acc.length):(kbg (e.toNat:Int) least elem k acc).run (e::rest)=(some acc,rest):=by
 cases k with
 | zero=>unfold kbg;rw [kf8,qj ⟨rfl,a⟩];rfl
 | succ k=>unfold kbg;rw [kf8,qj ⟨rfl,a⟩];rfl
theorem k1s {c:UInt8} (m:List UInt8) (h:((c.toNat:Int)<48\/57<(c.toNat:Int))/\(c.toNat:Int)≠120):stop (c::m):=h
theorem k6z (m:List UInt8):stop (44::m):=k1s m (by decide)
theorem k4r (rest:List UInt8) (a:∀ acc v post m,acc++v::post=vs->stop m->(elem acc).run (sh v++m)=(some v,m)) (hst:∀ m,stop (e::m)) (d:e≠44) (b:least<=vs.length):
  ∀ (post acc:List α) (k:Nat),acc++post=vs->0<acc.length->post.length<=k->(kbg (e.toNat:Int) least elem k acc).run (kgq sh post++(e::rest))=(some vs,rest)
 | [],acc,k,ha,_,_=>by rw [List.append_nil] at ha;subst ha;exact k52 rest k b
 | v::post,acc,0,_,_,h=>by simp at h
 | v::post,acc,k+1,ha,h0,h=>by
  have ih:=k4r rest a hst d b post (acc++[v]) k (by rw [<- ha];simp) (by simp) (by simpa using h);have hm:stop (kgq sh post++(e::rest)):=by
   cases post with
   | nil=>exact hst rest
   | cons w post=>exact k6z _
  unfold kbg;rw [show kgq sh (v::post)++e::rest=44::(32::(sh v++(kgq sh post++e::rest))) by simp [kgq],kf8,qg (fun h=>d (qbo.1 (by have:=h.1;omega))),qg (by omega),run_bind,
   show (44::(32::(sh v++(kgq sh post++e::rest))))=[44,32]++(sh v++(kgq sh post++e::rest)) from rfl]
  have f:=kvz (sh v++(kgq sh post++e::rest)) [44,32];rw [show kbc [44,32]=kbc (([44,32]:List UInt8).map fun c=>(c.toNat:Int)) from rfl,f];simp only;rw [run_bind,a acc v post _ ha hm];exact ih
theorem k1b (rest:List UInt8) (a:∀ acc v post m,acc++v::post=vs->stop m->(elem acc).run (sh v++m)=(some v,m)) (hst:∀ m,stop (e::m)) (f:e≠44) (b:least<=vs.length)
  {k:Nat} (hk:vs.length<=k) (hne:∀ v m,v∈vs->hd (sh v++m)≠(e.toNat:Int)):(kbg (e.toNat:Int) least elem k []).run (kc8 (vs.map sh)++(e::rest))=(some vs,rest):=by
 cases vs with
 | nil=>exact k52 rest k b
 | cons v post=>
  obtain ⟨k,rfl⟩:∃ j,k=j+1:=⟨k - 1,by simp at hk;omega⟩;have hm:stop (kgq sh post++(e::rest)):=by
   cases post with
   | nil=>exact hst rest
   | cons w post=>exact k6z _
  have h1:=k4r rest a hst f b post [v] k rfl (by simp) (by simpa using hk);have d:=hne v (kgq sh post++(e::rest)) (qt ..);rw [knr,qan];unfold kbg;show Pr.run ((fun c=>if c=(e.toNat:Int)/\least<=([]:List α).length then .adv (.done []) else (if ([]:List α).length=0 then .done () else kbc [44,32]).bind fun _=>(elem []).bind fun v=>kbg (e.toNat:Int) least elem k ([]++[v])) (hd (sh v++(kgq sh post++e::rest)))) _=_;simp only;rw [qg (fun h=>d h.1),qj (show ([]:List α).length=0 from rfl)];show Pr.run ((elem []).bind fun v=>kbg (e.toNat:Int) least elem k ([]++[v])) _=_;rw [run_bind,a [] v post _ rfl hm];exact h1
end
theorem kug (s:BA):s.data.toList.length=s.size:=by cases s;rfl
theorem kaiu {v:Va} (h:kqz v) {m:List UInt8} (hs:stop m):intE.run (kad v++m)=(some v,m):=by
 obtain ⟨n,rfl,h1,h2⟩:=h;have e:kad (Va.mk 2 n ⟨#[]⟩ [])=kd8 n:=by simp [kad]
 unfold intE;rw [e,run_bind,kaku hs h1 h2];rfl
theorem kajk {v:Va} (h:kqr v) (m:List UInt8):textE.run (kad v++m)=(some v,m):=by
 obtain ⟨s,rfl,h1,h2,h3⟩:=h;have e:kad (Va.mk 3 0 s [])=kfz s.data.toList:=by simp [kad]
 unfold textE;rw [e,run_bind,k6u m (by rw [kug];exact h1) (by rw [kug];exact h2) h3];show (some (Va.mk 3 0 (toBA _) []),m)=_;rw [kw8]
theorem kaeo {v:Va} (h:kqr v) (m:List UInt8):hd (kad v++m)=34:=by obtain ⟨s,rfl,_⟩:=h;simp [kad,kfz,hd]
theorem kae0 {v:Va} (h:kqz v) (m:List UInt8):hd (kad v++m)=45\/48<=hd (kad v++m)/\hd (kad v++m)<=57:=by
 obtain ⟨n,rfl,_⟩:=h;have e:kad (Va.mk 2 n ⟨#[]⟩ [])=kd8 n:=by simp [kad]
 rw [e];unfold kd8;split;exact .inl rfl
 ·have:=k3c n.natAbs m;exact .inr ⟨this.1,this.2.1⟩
theorem k0b {l:List Va} {lo hi:Nat} (h1:lo<=l.length) (h2:l.length<=hi) (h3:∀ x∈l,kqr x) (m:List UInt8):(kbg 125 lo (fun _=>textE) hi []).run (kc8 (kkw l)++(125::m))=(some l,m):=by rw [kkv];exact k1b (e:=125) m (fun acc v post m' ha _=>kajk (h3 v (by rw [<- ha];simp)) m') (fun m'=>k1s m' (by decide)) (by decide) h1 h2 fun v m' hv=>by rw [kaeo (h3 v hv)];decide
theorem krf (l:List Va):kad (Va.mk 6 0 ⟨#[]⟩ l)=123::(kc8 (kkw l)++[125]):=by simp [kad]
theorem row_e {acc:List Va} {v:Va} {m:Nat} (h1:1<=m) (h2:m<=8) (hv:kwo m m v) (ha:∀ r∈acc,kwo m m r) (rest:List UInt8):(rowE acc).run (kad v++rest)=(some v,rest):=by
 obtain ⟨l,rfl,l1,l2,l3⟩:=hv;rw [krf];unfold rowE;rw [qam,kf8,qj (show ((123:UInt8).toNat:Int)=123 from rfl),khh,run_bind,qan];cases acc with
 | nil=>
  have:=k0b (lo:=1) (hi:=8) (by omega) (by omega) l3 rest;simp only [List.singleton_append];rw [this];rfl
 | cons r acc=>
  obtain ⟨k,hk,k1,k2,_⟩:=ha r (qt ..);have e:r.items.length=l.length:=by rw [hk];show k.length=_;omega
  have:=k0b (lo:=r.items.length) (hi:=r.items.length) (by omega) (by omega) l3 rest;simp only [List.singleton_append];rw [this];rfl
theorem k0a {v:Va} (h:kir v) {m:List UInt8} (hs:kqz v->stop m):oneP.run (kad v++m)=(some v,m):=by
 have pk:∀ (l:List UInt8),oneP.run l=((fun c:Int=>(if c=116 then (kbc [116,114,117,101]).bind fun _ => .done (Va.mk 1 1 ⟨#[]⟩ [])
 else if c=102 then (kbc [102,97,108,115,101]).bind fun _ => .done (Va.mk 1 0 ⟨#[]⟩ [])
 else if c=34 then textE
 else if c=114 then .adv ((kdw 1 40).bind fun s => .done (Va.mk 8 0 (toBA s) []))
 else if c=91 then .adv ((kbg 93 0 (fun _=>intE) 16 []).bind fun l => .done (Va.mk 5 0 ⟨#[]⟩ l))
 else if c=123 then .adv ((kbg 125 0 (fun _=>textE) 16 []).bind fun l => .done (Va.mk 6 0 ⟨#[]⟩ l))
 else if c=60 then .adv ((kbg 62 0 rowE 8 []).bind fun l => .done (Va.mk 7 0 ⟨#[]⟩ l))
 else if c=48 then .adv (.peek fun d=>if d=120 then .adv (bitsP.bind fun n => .done (Va.mk 4 n ⟨#[]⟩ [])) else .done (Va.mk 2 0 ⟨#[]⟩ []))
 else intE:Pr Va)) (hd l)).run l:=fun l=>rfl
 rw [pk];dsimp only;rcases h with (rfl | rfl) | h | ⟨n,rfl,h1,h2⟩ | h | ⟨s,rfl,h1,h2,h3⟩ | ⟨l,rfl,h1,h2⟩ | ⟨l,rfl,h1,h2,h3⟩ | ⟨l,rfl,h1,r,r1,r2,h2⟩
 ·have e:kad (Va.mk 1 0 ⟨#[]⟩ [])=[102,97,108,115,101]:=by simp [kad]
  rw [e,show hd ([102,97,108,115,101]++m)=102 from rfl];simp only [show ¬ ((102:Int)=116) by decide,qa4,qa6];rw [run_bind,show kbc [102,97,108,115,101]=kbc (([102,97,108,115,101]:List UInt8).map fun c=>(c.toNat:Int)) from rfl,kvz];rfl
 ·have e:kad (Va.mk 1 1 ⟨#[]⟩ [])=[116,114,117,101]:=by simp [kad]
  rw [e,show hd ([116,114,117,101]++m)=116 from rfl];simp only [qa6];rw [run_bind,show kbc [116,114,117,101]=kbc (([116,114,117,101]:List UInt8).map fun c=>(c.toNat:Int)) from rfl,kvz];rfl
 ·replace hs:=hs h;have f:=kae0 h m;have hi:=kaiu h hs;rw [qg (by omega),qg (by omega),qg (by omega),qg (by omega),qg (by omega),qg (by omega),qg (by omega)];by_cases a:hd (kad v++m)=48
  ·rw [qj a];obtain ⟨n,rfl,n1,n2⟩:=h;have e:kad (Va.mk 2 n ⟨#[]⟩ [])=kd8 n:=(by simp [kad]);rw [e] at a hi ⊢;have hn:n=0:=by
    unfold kd8 at a;split at a;exact absurd (show (45:Int)=48 from a) (by decide)
    ·have:=(k3c n.natAbs m).2.2;omega
   subst hn;have e0:kd8 0=[48]:=(by unfold kd8;rw [qg (by decide)];show decN 0=_;rw [decN];rfl);rw [e0];show Pr.run ((fun d:Int=>if d=120 then .adv (bitsP.bind fun n => .done (Va.mk 4 n ⟨#[]⟩ [])) else .done (Va.mk 2 0 ⟨#[]⟩ [])) (hd m)) m=_;simp only;rw [qg hs.2];rfl
  ·rw [qg a];exact hi
 ·have e:kad (Va.mk 4 n ⟨#[]⟩ [])=[48,120,hexD (n.toNat / 16),hexD (n.toNat % 16)]:=by simp [kad]
  rw [e,show hd ([48,120,hexD (n.toNat / 16),hexD (n.toNat % 16)]++m)=48 from rfl];simp only [show ¬ ((48:Int)=116) by decide,show ¬ ((48:Int)=102) by decide,show ¬ ((48:Int)=34) by decide,show ¬ ((48:Int)=114) by decide,show ¬ ((48:Int)=91) by decide,show ¬ ((48:Int)=123) by decide,show ¬ ((48:Int)=60) by decide,qa4,qa6];rw [show [48,120,hexD (n.toNat / 16),hexD (n.toNat % 16)]++m=48::120::hexD (n.toNat / 16)::hexD (n.toNat % 16)::m from rfl,khh,kf8,qj (show ((120:UInt8).toNat:Int)=120 from rfl),khh,run_bind,kahy h1 h2];rfl
 rw [kaeo h];simp only [show ¬ ((34:Int)=116) by decide,show ¬ ((34:Int)=102) by decide,qa4,qa6];exact kajk h m
 ·have e:kad (Va.mk 8 0 s [])=114::kfz s.data.toList:=by simp [kad]
  rw [e,show hd (114::kfz s.data.toList++m)=114 from rfl];simp only [show ¬ ((114:Int)=116) by decide,show ¬ ((114:Int)=102) by decide,show ¬ ((114:Int)=34) by decide,qa4,qa6];rw [qam,khh,run_bind,k6u m (by rw [kug];exact h1) (by rw [kug];exact h2) h3];show (some (Va.mk 8 0 (toBA _) []),m)=_;rw [kw8]
 ·have e:kad (Va.mk 5 0 ⟨#[]⟩ l)=91::(kc8 (kkw l)++[93]):=by simp [kad]
  rw [e,show hd (91::(kc8 (kkw l)++[93])++m)=91 from rfl];simp only [show ¬ ((91:Int)=116) by decide,show ¬ ((91:Int)=102) by decide,show ¬ ((91:Int)=34) by decide,show ¬ ((91:Int)=114) by decide,qa4,qa6];have:=k1b (e:=93) (least:=0) (elem:=fun _=>intE) (sh:=kad) (vs:=l) (k:=16) m (fun acc v post m' ha hm=>kaiu (h2 v (by rw [<- ha];simp)) hm) (fun m'=>k1s m' (by decide)) (by decide) (qz _) h1 fun v m' hv=>by have:=kae0 (h2 v hv) m'; show _≠(93:Int);omega
  rw [show ((93:UInt8).toNat:Int)=93 from rfl] at this;rw [qam,khh,run_bind,qan,kkv,List.singleton_append,this];rfl
 rw [krf,show hd (123::(kc8 (kkw l)++[125])++m)=123 from rfl];simp only [show ¬ ((123:Int)=116) by decide,show ¬ ((123:Int)=102) by decide,show ¬ ((123:Int)=34) by decide,show ¬ ((123:Int)=114) by decide,show ¬ ((123:Int)=91) by decide,qa4,qa6];rw [qam,khh,run_bind,qan,List.singleton_append,k0b (qz _) h2 h3 m];rfl
 ·have e:kad (Va.mk 7 0 ⟨#[]⟩ l)=60::(kc8 (kkw l)++[62]):=by simp [kad]
  rw [e,show hd (60::(kc8 (kkw l)++[62])++m)=60 from rfl];simp only [show ¬ ((60:Int)=116) by decide,show ¬ ((60:Int)=102) by decide,show ¬ ((60:Int)=34) by decide,show ¬ ((60:Int)=114) by decide,show ¬ ((60:Int)=91) by decide,show ¬ ((60:Int)=123) by decide,qa4,qa6];have:=k1b (e:=62) (least:=0) (elem:=rowE) (sh:=kad) (vs:=l) (k:=8) m (fun acc v post m' ha hm=>row_e r1 r2 (h2 v (by rw [<- ha];simp)) (fun x b=>h2 x (by rw [<- ha];simp [b])) m') (fun m'=>k1s m' (by decide)) (by decide) (qz _) h1 fun v m' hv=>by obtain ⟨k,rfl,_⟩:=h2 v hv;rw [krf];show (123:Int)≠62;decide
  rw [show ((62:UInt8).toNat:Int)=62 from rfl] at this;rw [qam,khh,run_bind,qan,kkv,List.singleton_append,this];rfl
theorem kaap {v:Va} (h:kir v) {m:List UInt8} (hs:stop m):oneP.run (kad v++m)=(some v,m):=k0a h fun _=>hs
theorem kt0 {s:BA} {i:Nat} (h:s.size<=i):atI s i=0:=by rw [atI,qaq (by rw [<- ka9];exact h)];rfl
theorem ks4 (s:BA) (i:Nat):0<=atI s i/\atI s i<=255:=by
 by_cases h:i<s.size;rw [(kib h).2.2];have:=(s.data.toList[i]'(by rw [<- ka9];exact h)).toNat_lt;omega
 ·rw [kt0 (by omega)];decide
theorem kf5 {s:BA} {i:Nat} (h:atI s i≠0):i<s.size:=by
 by_cases a:i<s.size;exact a
 ·exact absurd (kt0 (by omega)) h
def Pr.ev {α:Type} (s:BA):Pr α->Nat->Option α×Nat
 | .done a,i=>(some a,i)
 | .fail,i=>(none,i)
 | .peek k,i=>(k (atI s i)).ev s i
 | .adv p,i=>p.ev s (i+1)
theorem kvr {α:Type} (s:BA):∀ (p:Pr α) (i:Nat),p.run (s.data.toList.drop i)=((p.ev s i).1,s.data.toList.drop (p.ev s i).2)
 | .done a,i=>rfl
 | .fail,i=>rfl
 | .peek k,i=>kvr s (k (atI s i)) i
 | .adv p,i=>by have:=kvr s p (i+1);rw [Pr.run,Pr.ev,<- this,List.tail_drop]
theorem kgg {α β:Type} (s:BA) (f:α->Pr β):∀ (p:Pr α) (i:Nat),(p.bind f).ev s i=match p.ev s i with
  | (some a,j)=>(f a).ev s j
  | (none,j)=>(none,j)
 | .done a,i=>rfl
 | .fail,i=>rfl
 | .peek k,i=>kgg s f (k (atI s i)) i
 | .adv p,i=>kgg s f p (i+1)
theorem k5r {α:Type} {s:BA}:∀ (p:Pr α) (b:Bool) (i:Nat),p.good b->(b=true->i<s.size)->i<=s.size->i<=(p.ev s i).2/\(p.ev s i).2<=s.size
 | .done a,b,i,_,_,h=>⟨qy _,h⟩
 | .fail,b,i,_,_,h=>⟨qy _,h⟩
 | .peek k,b,i,c,d,h=>by
  show i<=((k (atI s i)).ev s i).2/\((k (atI s i)).ev s i).2<=s.size;by_cases h0:atI s i=0;rw [h0];exact k5r (k 0) false i c.1 (fun h=>by cases h) h
  ·exact k5r (k _) true i (c.2 _ h0) (fun _=>kf5 h0) h
 | .adv p,b,i,c,d,h=>by have:=k5r p false (i+1) c.2 (fun h=>by cases h) (d c.1);exact ⟨by show i<=(p.ev s (i+1)).2;omega,this.2⟩
theorem kph {α:Type} {s:BA} {p:Pr α} {i:Nat} (a:p.good false) (h:i<=s.size):i<=(p.ev s i).2/\(p.ev s i).2<=s.size:=k5r p false i a (fun h=>by cases h) h
def Pr.all {α:Type} (P:α->Prop):Pr α->Prop
 | .done a=>P a
 | .fail=>True
 | .peek k=>∀ c,(k c).all P
 | .adv p=>p.all P
theorem khu {α β:Type} {P:α->Prop} {Q:β->Prop} {f:α->Pr β} (b:∀ a,P a->(f a).all Q):∀ p:Pr α,p.all P->(p.bind f).all Q
 | .done a,h=>b a h
 | .fail,_=>trivial
 | .peek k,h=>fun c=>khu b (k c) (h c)
 | .adv p,h=>khu b p h
theorem klz {α:Type} {P Q:α->Prop} (b:∀ a,P a->Q a):∀ p:Pr α,p.all P->p.all Q
 | .done a,h=>b a h
 | .fail,_=>trivial
 | .peek k,h=>fun c=>klz b (k c) (h c)
 | .adv p,h=>klz b p h
theorem kna {α:Type}:∀ p:Pr α,p.all fun _=>True
 | .done a=>trivial
 | .fail=>trivial
 | .peek k=>fun c=>kna (k c)
 | .adv p=>kna p
theorem kvl {α:Type} {P:α->Prop} {s:BA} {a:α}:∀ (p:Pr α) (i:Nat),p.all P->(p.ev s i).1=some a->P a
 | .done b,i,h,e=>by cases e;exact h
 | .fail,i,h,e=>by cases e
 | .peek k,i,h,e=>kvl (k (atI s i)) i (h _) e
 | .adv p,i,h,e=>kvl p (i+1) h e
theorem kh6 (s:BA) (i:Nat):kav ⟨s,(i:Int)⟩=some (atI s i):=by
 unfold kav;by_cases h:i<s.size;simp only [kbd h,qf,(kib h).1,qa]
 ·have:decide ((i:Int)<(s.size:Int))=false:=qb (by omega);simp only [this,qd,kt0 (Nat.le_of_not_lt h)]
theorem kf4 (s:BA) (i:Nat):kay s (i:Int)=some (atI s i):=by
 unfold kay;by_cases h:i<s.size;simp only [kbd h,qf,(kib h).1,qa]
 ·have:decide ((i:Int)<(s.size:Int))=false:=qb (by omega);simp only [this,qd,kt0 (Nat.le_of_not_lt h)]
theorem kvo (w:BA):(wl w).length=w.size:=by unfold wl;rw [qag,ka9]
theorem kaaj {w:BA} {m:Nat} {c:Int} {l:List Int} (h:(wl w).drop m=c::l):m<w.size/\atI w m=c/\(wl w).drop (m+1)=l:=by
 have hm:m<w.size:=by
  rw [<- kvo];by_cases a:m<(wl w).length;exact a
  ·rw [qaq (by omega)] at h;cases h
 obtain ⟨b1,b2,b3⟩:=kib hm;have:(wl w).drop m=atI w m::(wl w).drop (m+1):=by unfold wl;rw [<- List.map_drop,b2,qa8,List.map_drop,b3]
 rw [this] at h;exact ⟨hm,(List.cons.inj h).1,(List.cons.inj h).2⟩
theorem k6s (s:BA):∀ (l:List Int) (i:Nat),((kbc l).ev s i).1≠none->((kbc l).ev s i).2=i+l.length
 | [],i,_=>rfl
 | c::l,i,h=>by
  simp only [kbc,Pr.ev] at h ⊢;by_cases a:atI s i=c;rw [qj a] at h ⊢;simp only [Pr.ev] at h ⊢;rw [k6s s l (i+1) h,qu];omega
  ·rw [qg a] at h;exact absurd rfl h
theorem k4y (s w:BA) (i0:Int) (hs:s.size<=4000000) (e:w.size<=1000000):∀ (l:List Int) (m i n:Nat),(wl w).drop m=l->(∀ x∈l,x≠0)->i<=s.size->l.length<n ->
  kaa (kdr ⟨s,i0⟩ w) n ((m:Int),(i:Int))=some (((kbc l).ev s i).1.elim (.inr (((kbc l).ev s i).2:Int)) fun _ => .inl (((kbc l).ev s i).2:Int))
 | [],m,i,n+1,hl,h0,hi,_=>by
  have hm:w.size<=m:=by rw [<- kvo];exact List.drop_eq_nil_iff.1 hl
  refine kbm ?_;have:decide ((m:Int)<(w.size:Int))=false:=qb (by omega);simp only [kdr,this,qd];rfl
 | c::l,m,i,n+1,hl,h0,hi,hn=>by
  obtain ⟨hm,hc,b⟩:=kaaj hl;have b1:=(kib hm).1;have d:c≠0:=h0 _ (qt ..);simp only [kbc,Pr.ev];by_cases h:i<s.size
  ·have e1:decide ((s.size:Int)<=(i:Int))=false:=qb (by omega);by_cases a:atI s i=c;rw [qj a];simp only [Pr.ev];rw [<- k4y s w i0 hs e l (m+1) (i+1) n b (fun x f=>h0 x (qn _ f)) (by omega) (by simpa using hn)];refine kgj ?_;have e2:(atI s i != c)=false:=(by rw [a];simp);simp only [kdr,kbd hm,qf,e1,qd,(kib h).1,b1,hc,qa,e2,w64s m (by omega),w64s i (by omega)]
   ·rw [qg a];refine kbm ?_;have e2:(atI s i != c)=true:=(by simpa using a);simp only [kdr,kbd hm,qf,e1,qd,(kib h).1,b1,hc,qa,e2];rfl
  ·have e1:decide ((s.size:Int)<=(i:Int))=true:=qe (by omega);rw [qg (by rw [kt0 (by omega)];exact fun h=>d h.symm)];refine kbm ?_;simp only [kdr,kbd hm,qf,e1,qa];rfl
theorem ku4 {s w:BA} (hs:s.size<=4000000) (a:w.size<=1000000) (h0:∀ x∈wl w,x≠0) {i:Nat} (hi:i<=s.size):
  kap ⟨s,(i:Int)⟩ w=some (((kbc (wl w)).ev s i).1.isSome,(((kbc (wl w)).ev s i).2:Int)):=by
 unfold kap;have:=k4y s w i hs a _ 0 i fuel rfl (by simpa using h0) hi (by rw [qaz,kvo];exact kbk (by omega));rw [qaz] at this;rw [show ((0:Int),(⟨s,(i:Int)⟩:Sac).f_at)=(((0:Nat):Int),(i:Int)) from rfl,this,qa];cases ((kbc (wl w)).ev s i).1 <;> rfl
theorem k24 (s w:BA) (i:Nat) (hs:s.size<=4000000) (e:w.size<=1000000):∀ (l:List Int) (m n:Nat),(wl w).drop m=l->(∀ x∈l,x≠0)->i+m<=s.size->l.length<n ->
  kaa (kfn s (i:Int) w) n (m:Int)=some (((kbc l).ev s (i+m)).1.elim (.inr ((((kbc l).ev s (i+m)).2:Int),false)) fun _ => .inl ())
 | [],m,n+1,hl,h0,hi,_=>by
  have hm:w.size<=m:=by rw [<- kvo];exact List.drop_eq_nil_iff.1 hl
  have:decide ((m:Int)<(w.size:Int))=false:=qb (by omega);exact kbm (by simp only [kfn,this,qd];rfl)
 | c::l,m,n+1,hl,h0,hi,hn=>by
  obtain ⟨hm,hc,b⟩:=kaaj hl;have b1:=(kib hm).1;have d:c≠0:=h0 _ (qt ..);have ew:w64 ((i:Int)+(m:Int))=((i+m:Nat):Int):=by rw [<- w64n (i+m) (by omega)];congr 1
  simp only [kbc,Pr.ev];by_cases a:atI s (i+m)=c;rw [qj a];simp only [Pr.ev];have f:i+m<s.size:=kf5 (by rw [a];exact d);rw [show i+m+1=i+(m+1) by omega,<- k24 s w i hs e l (m+1) n b (fun x g=>h0 x (qn _ g)) (by omega) (by simpa using hn)];refine kgj ?_;have e2:(atI s (i+m) != c)=false:=(by rw [a];simp);simp only [kfn,kbd hm,qf,ew,kf4,b1,hc,qa,e2,qd,w64s m (by omega)]
  ·rw [qg a];refine kbm ?_;have e2:(atI s (i+m) != c)=true:=(by simpa using a);simp only [kfn,kbd hm,qf,ew,kf4,b1,hc,qa,e2];rfl
theorem k0p {s w:BA} (hs:s.size<=4000000) (b:w.size<=1000000) (h0:∀ x∈wl w,x≠0) {i:Nat} (hi:i<=s.size):
  kem s (i:Int) w=some ((((kbc (wl w)).ev s i).2:Int),((kbc (wl w)).ev s i).1.isSome):=by
 unfold kem;have:=k24 s w i hs b _ 0 fuel rfl (by simpa using h0) hi (by rw [qaz,kvo];exact kbk (by omega));rw [qaz] at this;rw [show (0:Int)=((0:Nat):Int) from rfl,this,qa];cases h:((kbc (wl w)).ev s i).1 with
 | none=>simp only [Nat.add_zero,h];rfl
 | some a=>
  have hp:=k6s s (wl w) i (by rw [h];exact fun h=>by cases h);simp only [Nat.add_zero,h,hp,kvo];have ew:w64 ((i:Int)+(w.size:Int))=((i+w.size:Nat):Int):=by rw [<- w64n (i+w.size) (by omega)];congr 1
  show some (w64 ((i:Int)+(w.size:Int)),true)=_;rw [ew];rfl
theorem kq5 (xs:List Int):(toBA xs).data.toList=xs.map fun n=>UInt8.ofNat n.toNat:=by
 have key:∀ (xs:List Int) (r:BA),(xs.foldl (fun r n=>r.push (UInt8.ofNat n.toNat)) r).data.toList=r.data.toList++xs.map fun n=>UInt8.ofNat n.toNat:=by
  intro xs
  induction xs with
  | nil=>intro r;simp
  | cons x xs ih=>intro r;rw [List.foldl_cons,ih];simp [ByteArray.push]
 unfold toBA;rw [key];rfl
theorem khm (xs:List Int):(toBA xs).size=xs.length:=by rw [ka9,kq5,qag]
theorem kzy (xs ys:List Int):toBA xs++toBA ys=toBA (xs++ys):=by apply kxy;rw [kq5,List.map_append,<- kq5,<- kq5];simp [ByteArray.data_append]
theorem k9r {s:BA} {i:Nat} (h:i<s.size):cutS s (i:Int) ((i+1:Nat):Int)=some (toBA [atI s i]):=by
 unfold cutS;rw [qj ⟨by omega,by omega,by omega⟩];congr 1;apply kxy;rw [kq5,(kib h).2.2];have e:(s.extract (i:Int).toNat ((i+1:Nat):Int).toNat).data.toList=(s.data.toList.take (i+1)).drop i:=by simp [ByteArray.data_extract,Array.toList_extract,List.drop_take]
 rw [e,List.drop_take,(kib h).2.1];simp
theorem kwu (s:BA) (i:Nat):IntKind.i32.wrap (atI s i)=atI s i:=by have:=ks4 s i;simp [IntKind.wrap,IntKind.signed,IntKind.bits,IntKind.min,IntKind.max];omega
def tOut (x:Option (List Int)×Nat):BA×Bool×Int:=(x.1.elim ⟨#[]⟩ toBA,x.1.isSome,(x.2:Int))
theorem kaea (s:BA) (i0:Int) (least most:Nat) (hs:s.size<=4000000) (hm:most<=4000000):∀ (k:Nat) (acc:List Int) (i n:Nat),acc.length+k=most->i<=s.size->k<n ->
  ∃ b,kaa (ka4 ⟨s,i0⟩ (least:Int) (most:Int)) n ((i:Int),acc)=some b/\Sum.elim (fun j=>((⟨#[]⟩:BA),false,j)) id b=tOut ((kh1 least k acc).ev s i):=by
 intro k
 induction k with
 | zero=>
  intro acc i n hk hi hn;obtain ⟨n,rfl⟩:∃ m,n=m+1:=⟨n - 1,by omega⟩;by_cases h:i<s.size
  ·have e3:((acc.length:Int) == (most:Int))=true:=(by simp;omega);unfold kh1;simp only [Pr.ev];by_cases d:atI s i=34/\least<=acc.length;rw [qj d];refine ⟨_,kbm (b := .inr (toBA acc,true,((i+1:Nat):Int))) ?_,rfl⟩;have e1:(atI s i == 34)=true:=(by rw [d.1];rfl);have e2:decide ((least:Int)<=(acc.length:Int))=true:=qe (by omega);simp only [ka4,kbd h,qf,(kib h).1,qa,e1,kbo,ka3,e2,w64s i (by omega),qi]
   ·rw [qg d];refine ⟨_,kbm (b := .inr (⟨#[]⟩,false,(i:Int))) ?_,rfl⟩;by_cases a:atI s i=34;have e1:(atI s i == 34)=true:=(by rw [a];rfl);have e2:decide ((least:Int)<=(acc.length:Int))=false:=qb (by omega);simp only [ka4,kbd h,qf,(kib h).1,qa,e1,kbo,ka3,e2,qd,qi]
    ·have e1:(atI s i == 34)=false:=(by simpa using a);simp only [ka4,kbd h,qf,(kib h).1,qa,e1,kbo,ka3,e3,qd,qi]
  ·have e1:decide ((i:Int)<(s.size:Int))=false:=qb (by omega);refine ⟨_,kbm (b := .inl (i:Int)) (by simp only [ka4,e1,qd]),?_⟩;unfold kh1;simp only [Pr.ev,kt0 (Nat.le_of_not_lt h)];rw [qg (by omega)];rfl
 | succ k ih=>
  intro acc i n hk hi hn;obtain ⟨n,rfl⟩:∃ m,n=m+1:=⟨n - 1,by omega⟩;by_cases h:i<s.size
  ·have e3:((acc.length:Int) == (most:Int))=false:=(by simp;omega);unfold kh1;simp only [Pr.ev];by_cases d:atI s i=34/\least<=acc.length;rw [qj d];refine ⟨_,kbm (b := .inr (toBA acc,true,((i+1:Nat):Int))) ?_,rfl⟩;have e1:(atI s i == 34)=true:=(by rw [d.1];rfl);have e2:decide ((least:Int)<=(acc.length:Int))=true:=qe (by omega);simp only [ka4,kbd h,qf,(kib h).1,qa,e1,kbo,ka3,e2,w64s i (by omega),qi]
   ·rw [qg d];by_cases g:atI s i=34\/atI s i<32\/126<atI s i
    ·rw [qj g];refine ⟨_,kbm (b := .inr (⟨#[]⟩,false,(i:Int))) ?_,rfl⟩;by_cases a:atI s i=34;have e1:(atI s i == 34)=true:=(by rw [a];rfl);have e2:decide ((least:Int)<=(acc.length:Int))=false:=qb (by omega);simp only [ka4,kbd h,qf,(kib h).1,qa,e1,kbo,ka3,e2,qd,qi]
     ·have e1:(atI s i == 34)=false:=(by simpa using a);have e4:knk (atI s i)=false:=(by unfold knk;rw [Bool.and_eq_false_iff,decide_eq_false_iff_not,decide_eq_false_iff_not];omega);simp only [ka4,kbd h,qf,(kib h).1,qa,e1,kbo,ka3,e3,qd,qi,kwu,kqe,e4,qbb]
    ·rw [qg g];have e1:(atI s i == 34)=false:=(by simp;omega);have e4:knk (atI s i)=true:=(by unfold knk;rw [q8,decide_eq_true_eq,decide_eq_true_eq];omega);by_cases c:atI s i=92
     ·rw [qj c];have e5:(atI s i == 92)=true:=(by rw [c];rfl);simp only [Pr.ev];by_cases hd:atI s (i+1)=34\/atI s (i+1)=92
      ·rw [qj hd];have e6:(bif (atI s (i+1) != 34) then (some (atI s (i+1) != 92)) else (some false):Option Bool)=some false:=(by rcases hd with hd | hd <;> rw [hd] <;> rfl);have l:i+1<s.size:=kf5 (by omega);simp only [Pr.ev];obtain ⟨b,e,f⟩:=ih (acc++[atI s (i+1)]) (i+1+1) n (by simp;omega) (by omega) (by omega);refine ⟨b,?_,f⟩;rw [<- e];refine kgj ?_;simp only [ka4,kbd h,qf,(kib h).1,qa,e1,kbo,e3,qd,kwu,kqe,e4,qab,e5,w64s i (by omega),kh6,e6,qh,kao,kca,
        ki2 (b:=1) (xs:=acc) (ys:=[atI s (i+1)]) (by simp;omega),w64s (i+1) (by omega)]
      ·rw [qg hd];refine ⟨_,kbm (b := .inr (⟨#[]⟩,false,((i+1:Nat):Int))) ?_,rfl⟩;have e6:(bif (atI s (i+1) != 34) then (some (atI s (i+1) != 92)) else (some false):Option Bool)=some true:=(by have a1:(atI s (i+1) != 34)=true:=(by simp;omega);have a2:(atI s (i+1) != 92)=true:=(by simp;omega);rw [a1,a2];rfl);simp only [ka4,kbd h,qf,(kib h).1,qa,e1,kbo,e3,qd,kwu,kqe,e4,qab,e5,w64s i (by omega),kh6,e6,qi]
     ·rw [qg c];have e5:(atI s i == 92)=false:=(by simpa using c);simp only [Pr.ev];obtain ⟨b,e,f⟩:=ih (acc++[atI s i]) (i+1) n (by simp;omega) (by omega) (by omega);refine ⟨b,?_,f⟩;rw [<- e];refine kgj ?_;simp only [ka4,kbd h,qf,(kib h).1,qa,e1,kbo,e3,qd,kwu,kqe,e4,qab,e5,qh,kao,kca,
       ki2 (b:=1) (xs:=acc) (ys:=[atI s i]) (by simp;omega),w64s i (by omega)]
  ·have e1:decide ((i:Int)<(s.size:Int))=false:=qb (by omega);refine ⟨_,kbm (b := .inl (i:Int)) (by simp only [ka4,e1,qd]),?_⟩;unfold kh1;simp only [Pr.ev,kt0 (Nat.le_of_not_lt h)];rw [qg (by omega),qj (by omega)];rfl
theorem kzf {s:BA} {least most:Nat} (hs:s.size<=4000000) (hm:most<=4000000) {i:Nat} (hi:i<=s.size):
  kb6 ⟨s,(i:Int)⟩ (least:Int) (most:Int)=some (tOut ((kdw least most).ev s i)):=by
 unfold kb6;rw [ku4 hs (by decide) (by decide) hi];rw [show wl (⟨#[34]⟩:BA)=[34] from rfl];simp only [kbc,kdw,Pr.ev,qa];by_cases h:atI s i=34;rw [qj h,qj h];simp only [Pr.ev];obtain ⟨b,c,d⟩:=kaea s i least most hs hm most [] (i+1) fuel (by simp) (kf5 (by omega)) (kbk (by omega));have a:kaa (ka4 ⟨s,(i:Int)⟩ (least:Int) (most:Int)) fuel (((i+1:Nat):Int),([]:List Int))=some b:=c;simp only [qbq,qab,qd,a,qa,<- d];cases b <;> rfl
 ·rw [qg h,qg h];rfl
def qOut (x:Option (List Int)×Nat):BA×Int×Bool:=(x.1.elim ⟨#[]⟩ toBA,(x.2:Int),x.1.isSome)
theorem k8p (s:BA) (least most:Nat) (hs:s.size<=4000000) (hm:most<=4000000):∀ (k:Nat) (acc:List Int) (i n:Nat),acc.length+k=most->i<=s.size->k<n ->
  kaa (kbr s (least:Int) (most:Int) false) n ((i:Int),toBA acc)=some (qOut ((kh1 least k acc).ev s i)):=by
 intro k
 induction k with
 | zero=>
  intro acc i n hk hi hn;obtain ⟨n,rfl⟩:∃ m,n=m+1:=⟨n - 1,by omega⟩;have e3:((acc.length:Int) == (most:Int))=true:=by simp;omega
  unfold kh1;simp only [Pr.ev];by_cases d:atI s i=34/\least<=acc.length;rw [qj d];refine kbm ?_;have e1:(atI s i == 34)=true:=(by rw [d.1];rfl);have e2:decide ((least:Int)<=(acc.length:Int))=true:=qe (by omega);simp only [kbr,kf4,khm,qf,qa,e1,e2,w64s i (by omega),qi];rfl
  ·rw [qg d];refine kbm ?_;have e0:(bif (atI s i == 34) then (some (decide ((least:Int)<=(acc.length:Int)))) else (some false):Option Bool)=some false:=by
    by_cases a:atI s i=34;rw [a,qb (by omega)];rfl
    ·have e1:(atI s i == 34)=false:=(by simpa using a);rw [e1];rfl
   simp only [kbr,kf4,khm,qf,qd,qa,e0,e3,qi];rfl
 | succ k ih=>
  intro acc i n hk hi hn;obtain ⟨n,rfl⟩:∃ m,n=m+1:=⟨n - 1,by omega⟩;have e3:((acc.length:Int) == (most:Int))=false:=by simp;omega
  unfold kh1;simp only [Pr.ev];by_cases d:atI s i=34/\least<=acc.length;rw [qj d];refine kbm ?_;have e1:(atI s i == 34)=true:=(by rw [d.1];rfl);have e2:decide ((least:Int)<=(acc.length:Int))=true:=qe (by omega);simp only [kbr,kf4,khm,qf,qa,e1,e2,w64s i (by omega),qi];rfl
  ·rw [qg d];have e0:(bif (atI s i == 34) then (some (decide ((least:Int)<=(acc.length:Int)))) else (some false):Option Bool)=some false:=by
    by_cases a:atI s i=34;rw [a,qb (by omega)];rfl
    ·have e1:(atI s i == 34)=false:=(by simpa using a);rw [e1];rfl
   by_cases b:atI s i=34\/atI s i<32\/126<atI s i
   ·rw [qj b];refine kbm ?_;have e4:(bif (decide (atI s i<32)) then (some true) else (bif (decide (126<atI s i)) then (some true) else (some (atI s i == 34))):Option Bool)=some true:=by
     rcases b with b | b | b;rw [b];rfl;rw [qe b];rfl
     ·rw [qe b,qb (show ¬ atI s i<32 by omega)];rfl
    simp only [kbr,kf4,khm,qf,qd,qa,e0,e3,e4,qi];rfl
   ·rw [qg b];have e:i<s.size:=kf5 (by omega);have e4:(bif (decide (atI s i<32)) then (some true) else (bif (decide (126<atI s i)) then (some true) else (some (atI s i == 34))):Option Bool)=some false:=(by rw [qb (show ¬ atI s i<32 by omega),qb (show ¬ 126<atI s i by omega)];have:(atI s i == 34)=false:=(by simp;omega);rw [this];rfl);by_cases c:atI s i=92
    ·rw [qj c];have e5:(atI s i != 92)=false:=(by rw [c];rfl);simp only [Pr.ev];by_cases hd:atI s (i+1)=34\/atI s (i+1)=92;rw [qj hd];have e6:(bif (atI s (i+1) == 34) then (some true) else (some (atI s (i+1) == 92)):Option Bool)=some true:=(by rcases hd with hd | hd <;> rw [hd] <;> rfl);have f:i+1<s.size:=kf5 (by omega);simp only [Pr.ev];rw [<- ih (acc++[atI s (i+1)]) (i+1+1) n (by simp;omega) (by omega) (by omega)];refine kgj ?_;simp only [kbr,kf4,khm,qf,qd,qa,e0,e3,e4,e5,w64s i (by omega),w64s (i+1) (by omega),e6,k9r f,k8a (s:=toBA acc) (u:=toBA [atI s (i+1)]) (by rw [khm,khm];simp;omega),kzy,qi,qh]
     ·rw [qg hd];have e6:(bif (atI s (i+1) == 34) then (some true) else (some (atI s (i+1) == 92)):Option Bool)=some false:=(by have a1:(atI s (i+1) == 34)=false:=(by simp;omega);have a2:(atI s (i+1) == 92)=false:=(by simp;omega);rw [a1,a2];rfl);refine kbm ?_;simp only [kbr,kf4,khm,qf,qd,qa,e0,e3,e4,e5,w64s i (by omega),e6,qbb,qi,qh];rfl
    ·rw [qg c];have e5:(atI s i != 92)=true:=(by simpa using c);simp only [Pr.ev];rw [<- ih (acc++[atI s i]) (i+1) n (by simp;omega) (by omega) (by omega)];refine kgj ?_;simp only [kbr,kf4,khm,qf,qd,qa,e0,e3,e4,e5,w64s i (by omega),k9r e,k8a (s:=toBA acc) (u:=toBA [atI s i]) (by rw [khm,khm];simp;omega),kzy,qi,qh]
theorem k4g {s:BA} {least most:Nat} (hs:s.size<=4000000) (hm:most<=4000000) {i:Nat} (hi:i<=s.size):
  kdu s (i:Int) (least:Int) (most:Int) false=some (qOut ((kdw least most).ev s i)):=by
 unfold kdu;simp only [kdw,Pr.ev,kf4,qa];by_cases h:atI s i=34
 ·rw [qj h];have e1:(atI s i != 34)=false:=by rw [h];rfl
  simp only [Pr.ev];have:=k8p s least most hs hm most [] (i+1) fuel (by simp) (kf5 (by omega)) (kbk (by omega));have a:kaa (kbr s (least:Int) (most:Int) false) fuel (((i+1:Nat):Int),(⟨#[]⟩:BA))=some (qOut ((kh1 least most []).ev s (i+1))):=this;simp only [e1,qd,w64s i (by omega),a,qa]
 ·rw [qg h];have e1:(atI s i != 34)=true:=by simpa using h
  simp only [e1,qf];rfl
theorem kvx {n:Int} (h0:0<=n) (h1:n<=255):w64 (wu8 n)=n:=by
 have e:wu8 n=n:=by simp [wu8,IntKind.wrap,IntKind.signed,IntKind.bits,IntKind.min,IntKind.max];omega
 rw [e];exact kdn (by omega) (by omega)
theorem kz2 (s:BA) (i0:Int) (hs:s.size<=4000000):∀ (f:Nat) (m:Int) (i n:Nat),f<=7->0<m->m<=1000000->(10:Int) ^ (7 - f)<=m->i<=s.size->f<n ->
  kaa (ka1 ⟨s,i0⟩) n (m,atI s i,(i:Int))=some (((kcz f m).ev s i).1.getD 0,(((kcz f m).ev s i).2:Int))/\0<((kcz f m).ev s i).1.getD 0/\((kcz f m).ev s i).1.isSome=true/\((kcz f m).ev s i).1.getD 0<=1000000 /\
  kaa (kbu s) n ((i:Int),m)=some ((((kcz f m).ev s i).2:Int),((kcz f m).ev s i).1.getD 0):=by
 intro f
 induction f with
 | zero=>intro m i n _ h0 h1 h2;exact absurd h2 (by simp;omega)
 | succ f ih=>
  intro m i n b h0 h1 h2 hi hn;obtain ⟨n,rfl⟩:∃ m,n=m+1:=⟨n - 1,by omega⟩;have hr:=ks4 s i;unfold kcz;rw [qg (by omega)];simp only [Pr.ev];have ew:atI s i - 48<=255:=by omega
  by_cases hc:48<=atI s i/\atI s i<=57/\m*10+(atI s i - 48)<=1000000
  ·rw [qj hc];simp only [Pr.ev];have a:1<=f:=by
    rcases Nat.eq_zero_or_pos f with rfl | h;exfalso;have:(10:Int) ^ (7 - (0+1))=1000000:=(by decide);omega
    ·exact h
   have hp:(10:Int) ^ (7 - f)=10 ^ (7 - (f+1))*10:=(by rw [<- Int.pow_succ];congr 1;omega);obtain ⟨k1,k2,k3,k4,k5⟩:=ih (m*10+(atI s i - 48)) (i+1) n (by omega) (by omega) (by omega) (by rw [hp];omega) (kf5 (by omega)) (by omega);have w1:=kvx (n:=atI s i - 48) (by omega) (by omega);have w2:w64 (10*m)=10*m:=kdn (by omega) (by omega);have w2':w64 (m*10)=m*10:=kdn (by omega) (by omega);have w3:w64 (10*m+(atI s i - 48))=m*10+(atI s i - 48):=(by rw [Int.mul_comm 10 m];exact kdn (by omega) (by omega));have w3':w64 (m*10+(atI s i - 48))=m*10+(atI s i - 48):=kdn (by omega) (by omega);have d1:decide (48<=atI s i)=true:=qe hc.1;have d2:decide (atI s i<=57)=true:=qe hc.2.1;have d3:decide (m*10+(atI s i - 48)<=1000000)=true:=qe hc.2.2;have d4:decide (0<m)=true:=qe h0;refine ⟨?_,k2,k3,k4,?_⟩;rw [<- k1];refine kgj ?_;simp only [ka1,d1,d2,d3,d4,w1,w2,w3,qf,qa,w64s i (by omega),kh6]
   ·rw [<- k5];refine kgj ?_;simp only [kbu,kf4,d1,d2,d3,d4,w1,w2',w3',qf,qa,w64s i (by omega)]
  ·rw [qg hc];refine ⟨kbm ?_,h0,rfl,h1,kbm ?_⟩
   all_goals
    have d4:decide (0<m)=true:=qe h0;by_cases c1:48<=atI s i
    ·by_cases c2:atI s i<=57;have w1:=kvx (n:=atI s i - 48) (by omega) (by omega);have w2:w64 (10*m)=10*m:=kdn (by omega) (by omega);have w2':w64 (m*10)=m*10:=kdn (by omega) (by omega);have w3:w64 (10*m+(atI s i - 48))=m*10+(atI s i - 48):=(by rw [Int.mul_comm 10 m];exact kdn (by omega) (by omega));have w3':w64 (m*10+(atI s i - 48))=m*10+(atI s i - 48):=kdn (by omega) (by omega);have d1:decide (48<=atI s i)=true:=qe c1;have d2:decide (atI s i<=57)=true:=qe c2;have d3:decide (m*10+(atI s i - 48)<=1000000)=false:=qb (by omega);simp only [ka1,kbu,kf4,d1,d2,d3,d4,w1,w2,w2',w3,w3',qf,qd,qa];rfl
     ·have d1:decide (48<=atI s i)=true:=qe c1;have d2:decide (atI s i<=57)=false:=qb c2;simp only [ka1,kbu,kf4,d1,d2,d4,qf,qd,qa];rfl
    ·have d1:decide (48<=atI s i)=false:=qb c1;simp only [ka1,kbu,kf4,d1,d4,qf,qd,qa];rfl
def nOut (x:Option Int×Nat):Bool×Int×Int:=(x.1.isSome,(x.2:Int),x.1.getD 0)
theorem kzi (s:BA) (f i:Nat):(kcz f 0).ev s i=(some 0,i):=by
 cases f with
 | zero=>rfl
 | succ f=>unfold kcz;rw [qj (by omega)];rfl
theorem k4v {s:BA} (hs:s.size<=4000000) {i:Nat} (hi:i<=s.size):ke8 ⟨s,(i:Int)⟩=some (nOut (numP.ev s i)):=by
 have key:∀ (neg:Bool) (sg:Int) (j:Nat),j<=s.size->sg=(if neg=true then -1 else 1)->¬ (neg=false/\atI s j=48) ->
   (Option.bind (kaa (ka1 ⟨s,(i:Int)⟩) fuel (0,atI s j,(j:Int))) fun (v13:Int×Int)=>(some ((decide (0<v13.1)),v13.2,w64 (sg*v13.1)):Option (Bool×Int×Int)))=some (nOut ((unsP neg).ev s j)):=by
  intro neg sg j f d hne;have hr:=ks4 s j;obtain ⟨n,hn⟩:∃ n,fuel=n+1:=⟨_,knj⟩;have e:9<n:=by have:=kbk (n:=10) (by omega);omega
  unfold unsP;simp only [Pr.ev];by_cases b:atI s j<48\/57<atI s j\/(neg=true/\atI s j=48)
  ·rw [qj b];have:kaa (ka1 ⟨s,(i:Int)⟩) fuel (0,atI s j,(j:Int))=some (0,(j:Int)):=by
    rw [hn];refine kbm ?_;rcases b with b | b | b;have d1:decide (48<=atI s j)=false:=qb (by omega);simp only [ka1,d1,qd,qa];have d1:decide (48<=atI s j)=true:=qe (by omega);have d2:decide (atI s j<=57)=false:=qb (by omega);simp only [ka1,d1,d2,qf,qd,qa]
    ·have d1:decide (48<=atI s j)=true:=qe (by omega);have d2:decide (atI s j<=57)=true:=qe (by omega);have d3:decide (48<atI s j)=false:=qb (by omega);simp only [ka1,d1,d2,d3,show decide ((0:Int)<0)=false from rfl,qf,qd,qa]
   rw [this,qa,show w64 (sg*0)=0 by rw [Int.mul_zero];rfl];rfl
  ·rw [qg b];have g1:48<=atI s j:=Int.not_lt.1 fun h=>b (.inl h);have g2:atI s j<=57:=Int.not_lt.1 fun h=>b (.inr (.inl h));have g3:atI s j≠48:=fun h=>by
    cases hn:neg with
    | true=>exact b (.inr (.inr ⟨hn,h⟩))
    | false=>exact hne ⟨hn,h⟩
   have a:48<atI s j:=(by omega);simp only [Pr.ev,kgg];obtain ⟨k1,k2,k3,k4,k5⟩:=kz2 s i hs 7 (atI s j - 48) (j+1) n (by omega) (by omega) (by omega) (by simp;omega) (kf5 (by omega)) (by omega);have w1:=kvx (n:=atI s j - 48) (by omega) (by omega);have:kaa (ka1 ⟨s,(i:Int)⟩) fuel (0,atI s j,(j:Int))=some (((kcz 7 (atI s j - 48)).ev s (j+1)).1.getD 0,(((kcz 7 (atI s j - 48)).ev s (j+1)).2:Int)):=(by rw [hn,<- k1];refine kgj ?_;have d1:decide (48<=atI s j)=true:=qe (by omega);have d2:decide (atI s j<=57)=true:=qe (by omega);have d3:decide (48<atI s j)=true:=qe (by omega);have d5:decide (atI s j - 48<=1000000)=true:=qe (by omega);have w2:w64 (10*0)=0:=rfl;have w3:w64 (0+(atI s j - 48))=atI s j - 48:=(by rw [Int.zero_add];exact kdn (by omega) (by omega));simp only [ka1,d1,d2,d3,d5,w1,w2,w3,show decide ((0:Int)<0)=false from rfl,qf,qd,qa,w64s j (by omega),kh6]);rw [this,qa];generalize (kcz 7 (atI s j - 48)).ev s (j+1)=x at k2 k3 k4 ⊢;obtain ⟨_ | m,j'⟩:=x;cases k3
   ·simp only [qa2] at k2 k4 ⊢;rw [qe k2];have:w64 (sg*m)=if neg=true then -m else m:=by
     rw [d];cases neg with
     | true=>simp only [qa6];rw [show (-1:Int)*m = -m by omega];exact kdn (by omega) (by omega)
     | false=>simp only [qbc,qa4];rw [Int.one_mul];exact kdn (by omega) (by omega)
    rw [this];rfl
 unfold ke8 numP;simp only [Pr.ev,kh6,qa];by_cases c:atI s i=45
 ·have e1:(atI s i == 45)=true:=by rw [c];rfl
  rw [qj c];simp only [Pr.ev];rw [<- key true (-1) (i+1) (kf5 (by omega)) rfl (fun h=>by cases h.1)];simp only [e1,qf,qa,w64s i (by omega),show ((-1:Int) == 1)=false from rfl,qd,kh6]
 ·have e1:(atI s i == 45)=false:=by simpa using c
  rw [qg c];by_cases a:atI s i=48;have e2:(atI s i == 48)=true:=(by rw [a];rfl);simp only [e1,e2,qf,qd,qa,show ((1:Int) == 1)=true from rfl,kh6,w64s i (by omega)];unfold unsP;simp only [Pr.ev,a];rw [qg (by simp)];simp only [Pr.ev,kgg,show (48:Int) - 48=0 from rfl,kzi];rfl
  ·have e2:(atI s i == 48)=false:=(by simpa using a);rw [<- key false 1 i hi rfl (fun h=>a h.2)];simp only [e1,e2,qf,qd,qa,show ((1:Int) == 1)=true from rfl,kh6]
theorem k2f {s:BA} (hs:s.size<=4000000) {i:Nat} (hi:i<=s.size):∃ v,kfq s (i:Int)=some (v,((numP.ev s i).2:Int),(numP.ev s i).1.isSome)/\∀ m,(numP.ev s i).1=some m->v=Va.mk 2 m ⟨#[]⟩ []:=by
 have key:∀ (neg:Bool) (j:Nat),j<=s.size->neg=(atI s i == 45) ->
   ∃ v,(Option.bind ((bif (decide (atI s j<48)) then (some (true)) else (bif (decide (57<atI s j)) then (some (true)) else (bif (atI s i == 45) then (some (atI s j == 48)) else (some (false))))):Option (Bool)) fun (v6:Bool)=>(bif v6 then (some ((Va.mk (0) (0) ((⟨#[]⟩:BA)) (([]:List Va))),(j:Int),false)) else (Option.bind (kaa (kbu s) fuel ((w64 ((j:Int)+1)),w64 (wu8 (atI s j - 48)))) fun (v15:(Int)×(Int))=>(Option.bind ((bif (atI s i == 45) then (some (w64 (0 - v15.2))) else (some (v15.2))):Option (Int)) fun (v17:Int)=>(some ((Va.mk (2) (v17) ((⟨#[]⟩:BA)) (([]:List Va))),v15.1,true))))))=some (v,(((unsP neg).ev s j).2:Int),((unsP neg).ev s j).1.isSome)/\∀ m,((unsP neg).ev s j).1=some m->v=Va.mk 2 m ⟨#[]⟩ []:=by
  intro neg j e c;have hr:=ks4 s j;rw [<- c];unfold unsP;simp only [Pr.ev];by_cases a:atI s j<48\/57<atI s j\/(neg=true/\atI s j=48)
  ·rw [qj a];have:(bif (decide (atI s j<48)) then (some (true)) else (bif (decide (57<atI s j)) then (some (true)) else (bif neg then (some (atI s j == 48)) else (some (false)))):Option Bool)=some true:=by
    rcases a with a | a | a;rw [qe a];rfl;rw [qb (show ¬ atI s j<48 by omega),qe a];rfl
    ·rw [a.1,a.2];rfl
   rw [this];exact ⟨_,rfl,fun m h=>by cases h⟩
  ·rw [qg a];have g1:48<=atI s j:=Int.not_lt.1 fun h=>a (.inl h);have g2:atI s j<=57:=Int.not_lt.1 fun h=>a (.inr (.inl h));have:(bif (decide (atI s j<48)) then (some (true)) else (bif (decide (57<atI s j)) then (some (true)) else (bif neg then (some (atI s j == 48)) else (some (false)))):Option Bool)=some false:=by
    rw [qb (show ¬ atI s j<48 by omega),qb (show ¬ 57<atI s j by omega)];cases neg with
    | false=>rfl
    | true=>
     have:(atI s j == 48)=false:=(by rw [qae];exact fun h=>a (.inr (.inr ⟨rfl,h⟩)));rw [this];rfl
   rw [this];have w1:=kvx (n:=atI s j - 48) (by omega) (by omega);simp only [qa,qd,w1,w64s j (by omega),Pr.ev,kgg];by_cases h0:atI s j=48
   ·have:kaa (kbu s) fuel (((j+1:Nat):Int),(0:Int))=some (((j+1:Nat):Int),0):=(by rw [knj];exact kbm (by simp only [kbu,show decide ((0:Int)<0)=false from rfl,qd,qa]));rw [show atI s j - 48=0 by omega,this,kzi];have d:neg=false:=by
     cases neg with
     | false=>rfl
     | true=>exact absurd (.inr (.inr ⟨rfl,h0⟩)) a
    rw [d];refine ⟨_,rfl,fun m h=>?_⟩;simp only [Pr.ev,qbc,qa4,ql] at h;rw [<- h]
   ·obtain ⟨k1,k2,k3,k4,k5⟩:=kz2 s i hs 7 (atI s j - 48) (j+1) fuel (by omega) (by omega) (by omega) (by simp;omega) (kf5 (by omega)) (kbk (by omega));rw [k5];generalize (kcz 7 (atI s j - 48)).ev s (j+1)=x at k2 k3 k4 ⊢;obtain ⟨_ | m,j'⟩:=x;cases k3
    ·simp only [qa2] at k2 k4 ⊢;simp only [qa,Pr.ev];cases neg with
     | true=>
      rw [show w64 (0 - m) = -m by rw [Int.zero_sub];exact kdn (by omega) (by omega)];exact ⟨_,rfl,fun q h=>by simp only [qa6,ql] at h;rw [<- h]⟩
     | false=>exact ⟨_,rfl,fun q h=>by simp only [qbc,qa4,ql] at h;rw [<- h]⟩
 unfold kfq numP;simp only [Pr.ev,kf4,qa];by_cases b:atI s i=45
 ·have e1:(atI s i == 45)=true:=by rw [b];rfl
  rw [qj b];simp only [Pr.ev];obtain ⟨v,hv,hm⟩:=key true (i+1) (kf5 (by omega)) e1.symm;refine ⟨v,?_,hm⟩;rw [<- hv];simp only [e1,qf,qa,w64s i (by omega),kf4]
 ·have e1:(atI s i == 45)=false:=by simpa using b
  rw [qg b];obtain ⟨v,hv,hm⟩:=key false i hi e1.symm;refine ⟨v,?_,hm⟩;rw [<- hv];simp only [e1,qd,qa,kf4]
theorem k23 (s:BA) (i:Nat):kod (atI s i)=some (hexV (atI s i))/\kea (atI s i)=some (hexV (atI s i)):=by
 have hr:=ks4 s i;have key:∀ n:Fin 256,kod ((n.val:Nat):Int)=some (hexV ((n.val:Nat):Int))/\kea ((n.val:Nat):Int)=some (hexV ((n.val:Nat):Int)):=by decide
 have:=key ⟨(atI s i).toNat,by omega⟩
 rwa [show (((atI s i).toNat:Nat):Int)=atI s i by omega] at this
theorem k4e {s:BA} (hs:s.size<=4000000) (i0:Int) {m:Int} {j k:Nat} (hm:0<=m/\m<=255) (b:j<2) (hk:k<=s.size):
  kew ⟨s,i0⟩ (m,(j:Int),(k:Int))=some (if hexV (atI s k)<0 then .inr (.inr (k:Int)) else .inl (16*m+hexV (atI s k),((j+1:Nat):Int),((k+1:Nat):Int))):=by
 have e0:decide ((j:Int)<2)=true:=qe (by omega);have c:hexV (atI s k)<=15:=by unfold hexV;split <;> (try split) <;> omega
 by_cases h:hexV (atI s k)<0
 ·rw [qj h];have d1:decide (hexV (atI s k)<0)=true:=qe h;cases hd:decide ((s.size:Int)<=(k:Int)) <;>
   simp only [kew,e0,qf,qd,kh6,qa,(k23 s k).1,hd,d1]
 ·rw [qg h];have d1:decide (hexV (atI s k)<0)=false:=qb h;have a:k<s.size:=kf5 fun h0=>h (by rw [h0];decide);have hd:decide ((s.size:Int)<=(k:Int))=false:=qb (by omega);have w1:w64 (16*m)=16*m:=kdn (by omega) (by omega);have w2:w64 (16*m+hexV (atI s k))=16*m+hexV (atI s k):=kdn (by omega) (by omega);simp only [kew,e0,qf,qd,kh6,qa,(k23 s k).1,hd,d1,w1,w2,w64s j (by omega),w64s k (by omega)]
theorem kal5 {s:BA} (hs:s.size<=4000000) {i:Nat} (hi:i+2<=s.size):khf ⟨s,(i:Int)⟩=some ((bitsP.ev s (i+2)).1.isSome,((bitsP.ev s (i+2)).2:Int),(bitsP.ev s (i+2)).1.elim 0 (fun _=>4),(bitsP.ev s (i+2)).1.getD 0):=by
 obtain ⟨n,hn⟩:∃ n,fuel=n+3:=⟨18446744073709551613,rfl⟩;have ew:w64 ((i:Int)+2)=((i+2:Nat):Int):=kdn (by omega) (by omega);have h1:kew ⟨s,(i:Int)⟩ (0,0,((i+2:Nat):Int))=_:=k4e hs (i:Int) (m:=0) (j:=0) (k:=i+2) (by omega) (by omega) hi;unfold khf;rw [show (⟨s,(i:Int)⟩:Sac).f_at=(i:Int) from rfl,ew,hn];unfold bitsP;simp only [Pr.ev];by_cases h:hexV (atI s (i+2))<0;rw [qj h] at h1 ⊢;rw [kbm (n:=n+2) h1];rfl
 ·rw [qg h] at h1 ⊢;have d:hexV (atI s (i+2))<=15:=by unfold hexV;split <;> (try split) <;> omega
  have a:i+2<s.size:=kf5 fun h0=>h (by rw [h0];decide);have h2:=k4e hs (i:Int) (m:=16*0+hexV (atI s (i+2))) (j:=1) (k:=i+2+1) (by omega) (by omega) a;rw [kgj (n:=n+2) h1];simp only [Pr.ev];by_cases c:hexV (atI s (i+2+1))<0;rw [qj c] at h2 ⊢;rw [kbm (n:=n+1) h2];rfl
  ·rw [qg c] at h2 ⊢;rw [kgj (n:=n+1) h2];rw [kbm (n:=n) (b := .inl (16*(16*0+hexV (atI s (i+2)))+hexV (atI s (i+2+1)),((i+2+1+1:Nat):Int))) rfl];simp only [qa,qh,Pr.ev,qbq,Option.elim_some,qa2];rw [show 16*(16*0+hexV (atI s (i+2)))+hexV (atI s (i+2+1))=hexV (atI s (i+2))*16+hexV (atI s (i+2+1)) by omega]
theorem kuc {τ β:Type} {step:τ->Option (τ ⊕ β)} {s:BA} {e:Int} {least most:Nat} {elem:List Va->Pr Va} (t:∀ l,(elem l).good false) (mk:Nat->List Va->τ) (Q:Option (List Va)×Nat->β->Prop) (Inv:List Va->Prop)
  (hi:∀ acc i v j,Inv acc->(elem acc).ev s i=(some v,j)->Inv (acc++[v]))
  (c:∀ i acc x,i<=s.size->acc.length<most->Inv acc->(elem acc).ev s i=x ->
   (x.1=none->∃ b,step (mk i acc)=some (.inr b)/\Q (none,x.2) b) /\
   ∀ v,x.1=some v ->
    ((atI s x.2=e/\least<=acc.length+1)->∃ b,step (mk i acc)=some (.inr b)/\Q (some (acc++[v]),x.2+1) b) /\
    (¬ (atI s x.2=e/\least<=acc.length+1)->acc.length+1=most->∃ b,step (mk i acc)=some (.inr b)/\Q (none,x.2) b) /\
    (¬ (atI s x.2=e/\least<=acc.length+1)->acc.length+1≠most->((kbc [44,32]).ev s x.2).1=none->∃ b,step (mk i acc)=some (.inr b)/\Q (none,((kbc [44,32]).ev s x.2).2) b) /\
    (¬ (atI s x.2=e/\least<=acc.length+1)->acc.length+1≠most->((kbc [44,32]).ev s x.2).1≠none->step (mk i acc)=some (.inl (mk ((kbc [44,32]).ev s x.2).2 (acc++[v]))))):
  ∀ k acc i n,acc.length+1+k=most->Inv acc->i<=s.size->k<n->∃ b,kaa step n (mk i acc)=some b/\Q (((elem acc).bind fun v=>kbg e least elem k (acc++[v])).ev s i) b:=by
 intro k
 induction k with
 | zero=>
  intro acc i n hk q f hn;obtain ⟨n,rfl⟩:∃ m,n=m+1:=⟨n - 1,by omega⟩;obtain ⟨h1,h2⟩:=c i acc _ f (by omega) q rfl;rw [kgg];rcases o:(elem acc).ev s i with ⟨_ | v,j⟩;rw [o] at h1;obtain ⟨b,a,d⟩:=h1 rfl;exact ⟨b,kbm a,d⟩
  ·rw [o] at h2;obtain ⟨q1,q2,_⟩:=h2 v rfl;show ∃ b,_/\Q ((kbg e least elem 0 (acc++[v])).ev s j) b;unfold kbg;simp only [Pr.ev,qr,qbg];by_cases hc:atI s j=e/\least<=acc.length+1;obtain ⟨b,a,d⟩:=q1 hc;rw [qj hc];exact ⟨b,kbm a,d⟩
   ·obtain ⟨b,a,d⟩:=q2 hc (by omega);rw [qg hc];exact ⟨b,kbm a,d⟩
 | succ k ih=>
  intro acc i n hk q f hn;obtain ⟨n,rfl⟩:∃ m,n=m+1:=⟨n - 1,by omega⟩;obtain ⟨h1,h2⟩:=c i acc _ f (by omega) q rfl;rw [kgg];have p:=kph (s:=s) (t acc) f;rcases o:(elem acc).ev s i with ⟨_ | v,j⟩;rw [o] at h1;obtain ⟨b,a,d⟩:=h1 rfl;exact ⟨b,kbm a,d⟩
  ·rw [o] at h2 p;obtain ⟨q1,q2,q3,q4⟩:=h2 v rfl;show ∃ b,_/\Q ((kbg e least elem (k+1) (acc++[v])).ev s j) b;unfold kbg;simp only [Pr.ev,qr,qbg];by_cases hc:atI s j=e/\least<=acc.length+1;obtain ⟨b,a,d⟩:=q1 hc;rw [qj hc];exact ⟨b,kbm a,d⟩
   ·rw [qg hc,qg (by omega),kgg];have g:=kph (s:=s) (knq (w:=[44,32]) (by decide)) p.2;rcases r:(kbc [44,32]).ev s j with ⟨_ | u,j'⟩;rw [r] at q3;obtain ⟨b,a,d⟩:=q3 hc (by omega) rfl;exact ⟨b,kbm a,d⟩
    ·rw [r] at q4 g;have a:=q4 hc (by omega) (by exact fun h=>by cases h);rw [kgj a];exact ih (acc++[v]) j' n (by simp;omega) (hi acc i v j q o) g.2 (by omega)
def lQ (x:Option (List Va)×Nat) (b:List Va×Bool×Int):Prop:=b.2.1=x.1.isSome/\b.2.2=(x.2:Int)/\∀ l,x.1=some l->b.1=l
theorem kadg {s:BA} (hs:s.size<=4000000) {j:Nat} (a:j<=s.size):kap ⟨s,(j:Int)⟩ (⟨#[44,32]⟩:BA)=some (((kbc [44,32]).ev s j).1.isSome,(((kbc [44,32]).ev s j).2:Int)):=ku4 hs (by decide) (by decide) a
theorem kys {s:BA} (hs:s.size<=4000000) {i:Nat} (hi:i<=s.size) (c:UInt8) (hc:c≠0):kap ⟨s,(i:Int)⟩ (⟨#[c]⟩:BA)=some (if atI s i=(c.toNat:Int) then (true,((i+1:Nat):Int)) else (false,(i:Int))):=by
 have a:(c.toNat:Int)≠0:=by
  intro h;apply hc;have:c.toNat=0:=by omega
  exact UInt8.toNat.inj this
 rw [ku4 hs (by show 1<=1000000;omega) (by intro x b;simp [wl] at b;rw [b];exact a) hi,show wl (⟨#[c]⟩:BA)=[(c.toNat:Int)] from rfl];simp only [kbc,Pr.ev];by_cases h:atI s i=(c.toNat:Int);rw [qj h,qj h];rfl
 ·rw [qg h,qg h];rfl
def k5m {γ:Type} (s:BA) (j:Nat) (c:Int) (most len:Nat) (A B C:Int->γ):Option γ:=
 some (if atI s j=c then A ((j+1:Nat):Int) else if len=most then B (j:Int) else if ((kbc [44,32]).ev s j).1=none then B (((kbc [44,32]).ev s j).2:Int) else C (((kbc [44,32]).ev s j).2:Int))
theorem k3m {γ:Type} {s:BA} (hs:s.size<=4000000) {j:Nat} (a:j<=s.size) (c:Int) (hc:c≠0) (most:Nat) (acc:List Va) (A B C:Int->γ):
  (Option.bind (kav ⟨s,(j:Int)⟩) fun v6=>(bif (v6 == c) then some (A (w64 ((j:Int)+1))) else (Option.bind ((bif ((List.length acc:Int) == (most:Int)) then (some (true,(j:Int))) else (Option.bind (kap ⟨s,(j:Int)⟩ (⟨#[44,32]⟩:BA)) fun v7=>(some ((!v7.1),v7.2)))):Option ((Bool)×(Int))) fun (v9:(Bool)×(Int))=>(bif v9.1 then some (B v9.2) else some (C v9.2))))) =
   k5m s j c most acc.length A B C:=by
 unfold k5m;rw [kh6,qa];by_cases h:atI s j=c;rw [qj h,show (atI s j == c)=true by rw [h];simp,w64s j (by omega)];rfl
 ·rw [qg h,show (atI s j == c)=false by simpa using h,qd];by_cases hl:acc.length=most;rw [qj hl,show ((acc.length:Int) == (most:Int))=true by simp;omega];rfl
  ·rw [qg hl,show ((acc.length:Int) == (most:Int))=false by simp;omega,qd,kadg hs a];cases ((kbc [44,32]).ev s j).1 <;> rfl
theorem kyt (s:BA) (i:Nat):intE.ev s i=((numP.ev s i).1.map fun a=>Va.mk 2 a ⟨#[]⟩ [],(numP.ev s i).2):=by unfold intE;rw [kgg];rcases numP.ev s i with ⟨_ | a,j⟩ <;> rfl
theorem kwx (s:BA) (i:Nat):textE.ev s i=(((kdw 0 64).ev s i).1.map fun a=>Va.mk 3 0 (toBA a) [],((kdw 0 64).ev s i).2):=by unfold textE;rw [kgg];rcases (kdw 0 64).ev s i with ⟨_ | a,j⟩ <;> rfl
theorem kwb {τ β:Type} {step:τ->Option (τ ⊕ β)} {s:BA} {c:Int} {most:Nat} {elem:List Va->Pr Va} (m:∀ l,(elem l).good false) {mk:Nat->List Va->τ} {Q:Option (List Va)×Nat->β->Prop} {Inv:List Va->Prop}
  (h:∀ i acc,i<=s.size->acc.length<most->Inv acc->(∀ j,(elem acc).ev s i=(none,j)->∃ b,step (mk i acc)=some (.inr b)/\Q (none,j) b) /\
   ∀ v j,(elem acc).ev s i=(some v,j)->∃ A B C:Int->τ ⊕ β,step (mk i acc)=k5m s j c most (acc++[v]).length A B C /\
    (∀ z:Nat,∃ b,A (z:Int) = .inr b/\Q (some (acc++[v]),z) b)/\(∀ z:Nat,∃ b,B (z:Int) = .inr b/\Q (none,z) b)/\∀ z:Nat,C (z:Int) = .inl (mk z (acc++[v]))):
  ∀ i acc x,i<=s.size->acc.length<most->Inv acc->(elem acc).ev s i=x ->
   (x.1=none->∃ b,step (mk i acc)=some (.inr b)/\Q (none,x.2) b) /\
   ∀ v,x.1=some v ->
    ((atI s x.2=c/\0<=acc.length+1)->∃ b,step (mk i acc)=some (.inr b)/\Q (some (acc++[v]),x.2+1) b) /\
    (¬ (atI s x.2=c/\0<=acc.length+1)->acc.length+1=most->∃ b,step (mk i acc)=some (.inr b)/\Q (none,x.2) b) /\
    (¬ (atI s x.2=c/\0<=acc.length+1)->acc.length+1≠most->((kbc [44,32]).ev s x.2).1=none->∃ b,step (mk i acc)=some (.inr b)/\Q (none,((kbc [44,32]).ev s x.2).2) b) /\
    (¬ (atI s x.2=c/\0<=acc.length+1)->acc.length+1≠most->((kbc [44,32]).ev s x.2).1≠none->step (mk i acc)=some (.inl (mk ((kbc [44,32]).ev s x.2).2 (acc++[v])))):=by
 intro i acc x hi hl k g;obtain ⟨h1,h2⟩:=h i acc hi hl k;obtain ⟨_ | v,j⟩:=x;exact ⟨fun _=>h1 j g,fun v h=>by cases h⟩
 ·refine ⟨fun h=>(by cases h),fun v' hv=>?_⟩;obtain rfl:=qq hv;obtain ⟨A,B,C,e,a1,a2,a3⟩:=h2 v j g;unfold k5m at e;rw [qr,qbg] at e;refine ⟨fun hc=>?_,fun hc hl=>?_,fun hc hl f=>?_,fun hc hl f=>?_⟩;rw [qj hc.1] at e;obtain ⟨b,a,d⟩:=a1 (j+1);exact ⟨b,by rw [e,a],d⟩;rw [qg (fun h=>hc ⟨h,qz _⟩),qj hl] at e;obtain ⟨b,a,d⟩:=a2 j;exact ⟨b,by rw [e,a],d⟩;rw [qg (fun h=>hc ⟨h,qz _⟩),qg hl,qj f] at e;obtain ⟨b,a,d⟩:=a2 ((kbc [44,32]).ev s j).2;exact ⟨b,by rw [e,a],d⟩
  ·rw [qg (fun h=>hc ⟨h,qz _⟩),qg hl,qg f] at e;rw [e,a3]
theorem kaft {s:BA} (hs:s.size<=4000000) (i0:Int):∀ k (acc:List Va) (i n:Nat),acc.length+1+k=16->True->i<=s.size->k<n ->
  ∃ b,kaa (kgb ⟨s,i0⟩ 93 16) n ((i:Int),acc)=some b/\lQ ((intE.bind fun v=>kbg 93 0 (fun _=>intE) k (acc++[v])).ev s i) b:=by
 refine kuc (least:=0) (elem:=fun _=>intE) (fun _=>ko5) (fun i acc=>((i:Int),acc)) lQ (fun _=>True) (fun _ _ _ _ _ _=>trivial) (kwb (fun _=>ko5) ?_);intro i acc hi hl _;have hn:=k4v hs hi;have a:=kph (s:=s) k4n hi;simp only [kyt];generalize numP.ev s i=y at hn a;obtain ⟨_ | m,j⟩:=y;refine ⟨fun j' h=>?_,fun v j' h=>by cases h⟩;cases h;exact ⟨([],false,(j:Int)),by simp only [kgb,hn,nOut,qa,Option.isSome_none,qbb,qf],rfl,rfl,fun l h=>by cases h⟩
 ·refine ⟨fun j' h=>(by cases h),fun v j' h=>?_⟩;cases h;have ha:=ki2 (b:=56) (xs:=acc) (ys:=[Va.mk 2 m ⟨#[]⟩ []]) (by simp;omega);refine ⟨fun z => .inr (acc++[Va.mk 2 m ⟨#[]⟩ []],true,z),fun z => .inr ([],false,z),fun z => .inl (z,acc++[Va.mk 2 m ⟨#[]⟩ []]),Eq.trans ?_ (k3m hs a.2 93 (by decide) 16 (acc++[Va.mk 2 m ⟨#[]⟩ []]) _ _ _),fun z=>⟨_,rfl,rfl,rfl,fun l h=>by cases h;rfl⟩,fun z=>⟨_,rfl,rfl,rfl,fun l h=>by cases h⟩,fun z=>rfl⟩;simp only [kgb,hn,nOut,qa,qbq,qab,qd,qa2,ha];rfl
theorem kabq {s:BA} (hs:s.size<=4000000) (i0:Int):∀ k (acc:List Va) (i n:Nat),acc.length+1+k=16->True->i<=s.size->k<n ->
  ∃ b,kaa (kft ⟨s,i0⟩ 125 16) n ((i:Int),acc)=some b/\lQ ((textE.bind fun v=>kbg 125 0 (fun _=>textE) k (acc++[v])).ev s i) b:=by
 refine kuc (least:=0) (elem:=fun _=>textE) (fun _=>kl4) (fun i acc=>((i:Int),acc)) lQ (fun _=>True) (fun _ _ _ _ _ _=>trivial) (kwb (fun _=>kl4) ?_);intro i acc hi hl _;have hn:=kzf (least:=0) (most:=64) hs (by decide) hi;have c:=kph (s:=s) (kse 0 64) hi;simp only [kwx];have a:kb6 ⟨s,(i:Int)⟩ 0 64=some (tOut ((kdw 0 64).ev s i)):=hn;generalize (kdw 0 64).ev s i=y at a c;obtain ⟨_ | m,j⟩:=y;refine ⟨fun j' h=>?_,fun v j' h=>by cases h⟩;cases h;exact ⟨([],false,(j:Int)),by simp only [kft,kcu,a,tOut,qa,Option.isSome_none,qbb,qf],rfl,rfl,fun l h=>by cases h⟩
 ·refine ⟨fun j' h=>(by cases h),fun v j' h=>?_⟩;cases h;have ha:=ki2 (b:=56) (xs:=acc) (ys:=[Va.mk 3 0 (toBA m) []]) (by simp;omega);refine ⟨fun z => .inr (acc++[Va.mk 3 0 (toBA m) []],true,z),fun z => .inr ([],false,z),fun z => .inl (z,acc++[Va.mk 3 0 (toBA m) []]),Eq.trans ?_ (k3m hs c.2 125 (by decide) 16 (acc++[Va.mk 3 0 (toBA m) []]) _ _ _),fun z=>⟨_,rfl,rfl,rfl,fun l h=>by cases h;rfl⟩,fun z=>⟨_,rfl,rfl,rfl,fun l h=>by cases h⟩,fun z=>rfl⟩;simp only [kft,kcu,a,tOut,qa,qbq,qab,qd,Option.elim_some,ha];rfl
theorem kalm {s:BA} (hs:s.size<=4000000) {i:Nat} (hi:i<=s.size) (a:atI s i=91):∃ b,khc ⟨s,(i:Int)⟩ 91 93 16=some b/\lQ ((kbg 93 0 (fun _=>intE) 16 []).ev s (i+1)) b:=by
 have c:i+1<=s.size:=kf5 (by omega);have ho:=kys hs hi 91 (by decide);rw [qj (by rw [a];rfl)] at ho;have d:kap ⟨s,(i:Int)⟩ (Utf8.encode 91)=some (true,((i+1:Nat):Int)):=ho;unfold khc kbg;simp only [d,qa,qab,qd,kh6,Pr.ev];by_cases hc:atI s (i+1)=93;rw [qj ⟨hc,qy _⟩,show (atI s (i+1) == 93)=true by rw [hc];rfl];exact ⟨_,rfl,rfl,w64s (i+1) (by omega),fun l h=>by cases h;rfl⟩
 ·rw [qg (fun h=>hc h.1),show (atI s (i+1) == 93)=false by simpa using hc,qd];obtain ⟨b,e,f⟩:=kaft hs i 15 [] (i+1) fuel rfl trivial c (kbk (by omega));rw [e];refine ⟨b,rfl,?_⟩;simpa [Pr.bind] using f
theorem kagl {s:BA} (hs:s.size<=4000000) {i:Nat} (hi:i<=s.size) (a:atI s i=123):∃ b,kg4 ⟨s,(i:Int)⟩ 123 125 16=some b/\lQ ((kbg 125 0 (fun _=>textE) 16 []).ev s (i+1)) b:=by
 have c:i+1<=s.size:=kf5 (by omega);have ho:=kys hs hi 123 (by decide);rw [qj (by rw [a];rfl)] at ho;have d:kap ⟨s,(i:Int)⟩ (Utf8.encode 123)=some (true,((i+1:Nat):Int)):=ho;unfold kg4 kbg;simp only [d,qa,qab,qd,kh6,Pr.ev];by_cases hc:atI s (i+1)=125;rw [qj ⟨hc,qy _⟩,show (atI s (i+1) == 125)=true by rw [hc];rfl];exact ⟨_,rfl,rfl,w64s (i+1) (by omega),fun l h=>by cases h;rfl⟩
 ·rw [qg (fun h=>hc h.1),show (atI s (i+1) == 125)=false by simpa using hc,qd];obtain ⟨b,e,f⟩:=kabq hs i 15 [] (i+1) fuel rfl trivial c (kbk (by omega));rw [e];refine ⟨b,rfl,?_⟩;simpa [Pr.bind] using f
def klj:List Va->Nat
 | []=>0
 | r::_=>r.items.length
def InvR (acc:List Va):Prop:=∀ r∈acc,1<=r.items.length/\r.items.length<=8
def rQ (cols:Nat) (x:Option (List Va)×Nat) (b:Bool×Int×Int×Int×List Va):Prop:=b.1=x.1.isSome/\b.2.1=(x.2:Int)/\∀ l,x.1=some l->b.2.2.1=(l.length:Int)/\b.2.2.2.1=6/\b.2.2.2.2=l
def rowG (least most:Nat):Pr Va := .peek fun c=>if c=123 then .adv ((kbg 125 least (fun _=>textE) most []).bind fun l => .done (Va.mk 6 0 ⟨#[]⟩ l)) else .fail
theorem kahu {s:BA} (hs:s.size<=4000000) (i0:Int) (cols least most:Nat) (hcl:(cols=0/\least=1/\most=8)\/(1<=cols/\cols<=8/\least=cols/\most=cols)):∀ k (acc:List Va) (i n:Nat),acc.length+1+k=most->True->i<=s.size->k<n ->
  ∃ b,kaa (kd1 ⟨s,i0⟩ (cols:Int)) n ((i:Int),acc)=some b/\rQ cols ((textE.bind fun v=>kbg 125 least (fun _=>textE) k (acc++[v])).ev s i) b:=by
 refine kuc (least:=least) (elem:=fun _=>textE) (fun _=>kl4) (fun i acc=>((i:Int),acc)) (rQ cols) (fun _=>True) (fun _ _ _ _ _ _=>trivial) ?_;intro i acc x hi hl _ e;have hn:=kzf (least:=0) (most:=64) hs (by decide) hi;have d:=kph (s:=s) (kse 0 64) hi;simp only [kwx] at e;have c:kb6 ⟨s,(i:Int)⟩ 0 64=some (tOut ((kdw 0 64).ev s i)):=hn;generalize (kdw 0 64).ev s i=y at c d e;have p:most<=8:=by omega
 obtain ⟨_ | m,j⟩:=y;subst e;refine ⟨fun _=>?_,fun v h=>by cases h⟩;exact ⟨(false,(j:Int),(cols:Int),0,[]),by simp only [kd1,kcu,c,tOut,qa,Option.isSome_none,qbb,qf],rfl,rfl,fun l h=>by cases h⟩
 ·subst e;refine ⟨fun h=>(by cases h),fun v hv=>?_⟩;obtain rfl:=qq hv;simp only;have o:=d.2;simp only at o;have ha:=ki2 (b:=56) (xs:=acc) (ys:=[Va.mk 3 0 (toBA m) []]) (by simp;omega);have a:((List.length (acc++[Va.mk 3 0 (toBA m) []]):Nat):Int)=((acc.length+1:Nat):Int):=by rw [qr];rfl
  have e7:(bif (atI s j == 125) then (bif ((cols:Int) == 0) then (some (true)) else (some (((acc.length+1:Nat):Int) == (cols:Int)))) else (some (false)):Option Bool)=some (decide (atI s j=125/\least<=acc.length+1)):=by
   by_cases h:atI s j=125
   ·rw [show (atI s j == 125)=true by rw [h];rfl,qf];rcases hcl with ⟨h1,h2,h3⟩ | ⟨h1,h2,h3,q⟩;rw [show ((cols:Int) == 0)=true by simp;omega,qe ⟨h,by omega⟩];rfl
    ·rw [show ((cols:Int) == 0)=false by simp;omega,qd];congr 1;by_cases hc:acc.length+1=cols;rw [qe ⟨h,by omega⟩,hc];simp
     ·rw [qb (by omega)];simp;omega
   ·rw [show (atI s j == 125)=false by simpa using h,qd,qb (fun r=>h r.1)]
  have e8:(bif (((acc.length+1:Nat):Int) == 8) then (some (true,(j:Int))) else (bif (((acc.length+1:Nat):Int) == (cols:Int)) then (some (true,(j:Int))) else (Option.bind (kap ⟨s,(j:Int)⟩ (⟨#[44,32]⟩:BA)) fun v8=>(some ((!v8.1),v8.2)))):Option (Bool×Int)) =
    if acc.length+1=most then some (true,(j:Int)) else some (!((kbc [44,32]).ev s j).1.isSome,(((kbc [44,32]).ev s j).2:Int)):=by
   by_cases hc:acc.length+1=most
   ·rw [qj hc];rcases hcl with ⟨h1,h2,h3⟩ | ⟨h1,h2,h3,q⟩;rw [show (((acc.length+1:Nat):Int) == 8)=true by rw [hc,h3];rfl];rfl
    ·rw [show (((acc.length+1:Nat):Int) == (cols:Int))=true by simp;omega];cases (((acc.length+1:Nat):Int) == 8) <;> rfl
   ·rw [qg hc,show (((acc.length+1:Nat):Int) == 8)=false by rw [qae];omega,show (((acc.length+1:Nat):Int) == (cols:Int))=false by rw [qae];omega,kadg hs o];rfl
  have base:kd1 ⟨s,i0⟩ (cols:Int) ((i:Int),acc)=(bif decide (atI s j=125/\least<=acc.length+1) then some (.inr (true,((j+1:Nat):Int),((acc.length+1:Nat):Int),6,acc++[Va.mk 3 0 (toBA m) []])) else Option.bind (if acc.length+1=most then some (true,(j:Int)) else some (!((kbc [44,32]).ev s j).1.isSome,(((kbc [44,32]).ev s j).2:Int))) fun v10=>bif v10.1 then some (.inr (false,v10.2,(cols:Int),0,[])) else some (.inl (v10.2,acc++[Va.mk 3 0 (toBA m) []]))):=by simp only [kd1,kcu,c,tOut,qa,qbq,qab,qd,Option.elim_some,ha,kh6,a,e7,e8,w64s j (by omega)]
  refine ⟨fun hc=>?_,fun hc hl=>?_,fun hc hl f=>?_,fun hc hl f=>?_⟩;rw [base,qe hc];exact ⟨_,rfl,rfl,rfl,fun l h=>by cases h;exact ⟨a.symm,rfl,rfl⟩⟩;rw [base,qb hc,qj hl];exact ⟨_,rfl,rfl,rfl,fun l h=>by cases h⟩;rw [base,qb hc,qg hl,f];exact ⟨_,rfl,rfl,rfl,fun l h=>by cases h⟩
  ·rw [base,qb hc,qg hl];cases g:((kbc [44,32]).ev s j).1 with
   | none=>exact absurd g f
   | some u=>rfl
theorem k9x {s:BA} (hs:s.size<=4000000) {cols least most:Nat} (hcl:(cols=0/\least=1/\most=8)\/(1<=cols/\cols<=8/\least=cols/\most=cols)) {i:Nat} (hi:i<=s.size):
  ∃ b,ke6 ⟨s,(i:Int)⟩ (cols:Int)=some b/\b.1=((rowG least most).ev s i).1.isSome/\b.2.1=(((rowG least most).ev s i).2:Int) /\
  ∀ v,((rowG least most).ev s i).1=some v->b.2.2.1=(v.items.length:Int)/\v=Va.mk b.2.2.2.1 0 ⟨#[]⟩ b.2.2.2.2:=by
 unfold ke6 rowG;rw [kys hs hi 123 (by decide)];simp only [Pr.ev];by_cases h:atI s i=123
 ·rw [qj (by rw [h];rfl),qj h];have a:i+1<=s.size:=kf5 (by omega);simp only [qa,qab,qd,Pr.ev,kgg];obtain ⟨k,hk⟩:∃ k,most=k+1:=⟨most - 1,by omega⟩;obtain ⟨b,d,e⟩:=kahu hs i cols least most hcl k [] (i+1) fuel (by rw [hk];simp;omega) trivial a (kbk (by omega));have c:rQ cols ((kbg 125 least (fun _=>textE) most []).ev s (i+1)) b:=by rw [hk];unfold kbg;simp only [Pr.ev];rw [qg (by simp;omega)];simpa [Pr.bind] using e
  obtain ⟨q1,q2,q3⟩:=c;rw [d];refine ⟨b,rfl,?_⟩;generalize (kbg 125 least (fun _=>textE) most []).ev s (i+1)=y at q1 q2 q3 ⊢;obtain ⟨_ | l,j⟩:=y;exact ⟨q1,q2,fun v h=>by cases h⟩
  ·refine ⟨q1,q2,fun v h=>?_⟩;obtain ⟨r1,r2,r3⟩:=q3 l rfl;cases h;exact ⟨r1,by rw [r2,r3]⟩
 ·rw [qg (by exact h),qg h];exact ⟨_,rfl,rfl,rfl,fun v h=>by cases h⟩
theorem kamv {s:BA} (hs:s.size<=4000000) {acc:List Va} (a:InvR acc) {i:Nat} (hi:i<=s.size):∃ b,ke6 ⟨s,(i:Int)⟩ (klj acc:Int)=some b/\b.1=((rowE acc).ev s i).1.isSome/\b.2.1=(((rowE acc).ev s i).2:Int) /\
  ∀ v,((rowE acc).ev s i).1=some v->b.2.2.1=(v.items.length:Int)/\v=Va.mk b.2.2.2.1 0 ⟨#[]⟩ b.2.2.2.2:=by
 cases acc with
 | nil=>exact k9x hs (.inl ⟨rfl,rfl,rfl⟩) hi
 | cons r l=>
  have:=a r (qt ..);exact k9x hs (cols:=r.items.length) (.inr ⟨this.1,this.2,rfl,rfl⟩) hi
theorem kta {P:Va->Prop} {e:Int} {least:Nat} {elem:List Va->Pr Va} {I:List Va->Prop} (b:∀ acc v,I acc->P v->I (acc++[v])) (a:∀ acc,I acc->(elem acc).all P):∀ (k:Nat) (acc:List Va),I acc->(kbg e least elem k acc).all fun l=>I l/\least<=l.length/\l.length<=acc.length+k
 | 0,acc,h=>by
  unfold kbg;intro c;dsimp only;split;rename_i hc;exact ⟨h,hc.2,by omega⟩
  ·trivial
 | k+1,acc,h=>by
  unfold kbg;intro c;dsimp only;split;rename_i hc;exact ⟨h,hc.2,by omega⟩
  ·refine khu (P:=fun _=>True) (fun _ _=>khu (P:=P) (fun v hv=>?_) _ (a acc h)) _ (kna _);exact klz (fun l hl=>⟨hl.1,hl.2.1,by have:=hl.2.2;simp at this;omega⟩) _ (kta b a k (acc++[v]) (b acc v h hv))
def kmw (v:Va):Prop:=v.items=[]/\v.text.size<=64
theorem k56 (least:Nat):∀ (k:Nat) (acc:List Int),(kh1 least k acc).all fun l=>least<=l.length/\l.length<=acc.length+k
 | 0,acc=>by
  unfold kh1;intro c;dsimp only;split;rename_i hc;exact ⟨hc.2,by omega⟩
  ·trivial
 | k+1,acc=>by
  unfold kh1;intro c;dsimp only;have ih:=fun d=>klz (Q:=fun l=>least<=l.length/\l.length<=acc.length+(k+1)) (fun l hl=>⟨hl.1,by have:=hl.2;simp at this;omega⟩) _ (k56 least k (acc++[d]));split;rename_i hc;exact ⟨hc.2,by omega⟩;split;trivial;split
  ·intro d;dsimp only;split;exact ih d
   ·trivial
  ·exact ih c
theorem k7f (least most:Nat):(kdw least most).all fun l=>least<=l.length/\l.length<=most:=by
 unfold kdw;intro c;dsimp only;split;exact klz (fun l hl=>⟨hl.1,by simpa using hl.2⟩) _ (k56 least most [])
 ·trivial
theorem kyi:textE.all kmw:=khu (P:=fun l=>0<=l.length/\l.length<=64) (Q:=kmw) (fun l hl=>by show kmw _;exact ⟨rfl,by rw [show (Va.mk 3 0 (toBA l) []).text=toBA l from rfl,khm];exact hl.2⟩) _ (k7f 0 64)
theorem k6i:intE.all kmw:=khu (P:=fun _=>True) (Q:=kmw) (fun l hl=>by show kmw _;exact ⟨rfl,qz _⟩) _ (kna _)
def lstV (v:Va):Prop:=v.items.length<=16/\v.text.size<=64/\∀ x∈v.items,kmw x
theorem k6o {acc:List Va} (b:InvR acc):(rowE acc).all fun v=>lstV v/\1<=v.items.length/\v.items.length<=8:=by
 have key:∀ least most:Nat,1<=least->most<=8->(rowG least most).all fun v=>lstV v/\1<=v.items.length/\v.items.length<=8:=fun least most h1 h2=>by
  unfold rowG;intro c;dsimp only;split
  ·refine khu (fun l hl=>?_) _ (kta (P:=kmw) (I:=fun l=>∀ x∈l,kmw x) (fun acc v ha hv x a=>?_) (fun _ _=>kyi) most [] (by simp));obtain ⟨a1,a2,a3⟩:=hl;simp only [qaf,Nat.zero_add] at a3;exact ⟨⟨by show l.length<=16;omega,qz _,a1⟩,by show 1<=l.length;omega,by show l.length<=8;omega⟩
   ·rcases qao.1 a with a | a;exact ha x a
    ·rw [qbf.1 a];exact hv
  ·trivial
 cases acc with
 | nil=>exact key 1 8 (by omega) (by omega)
 | cons r l=>
  have:=b r (qt ..);exact key _ _ this.1 this.2
def rvQ (x:Option (List Va)×Nat) (b:List Va×Bool×Int×Int):Prop:=b.2.1=x.1.isSome/\b.2.2.1=(x.2:Int)/\∀ l,x.1=some l->b.1=l
theorem k8f {acc:List Va} {v:Va} (h:InvR acc) (hv:1<=v.items.length/\v.items.length<=8):InvR (acc++[v]):=fun r hr=>by
 rcases qao.1 hr with hr | hr;exact h r hr
 ·rw [qbf.1 hr];exact hv
theorem kabl {acc:List Va} {v:Va} {b:Int} (h:∀ r∈acc,r.items.length=v.items.length) (a:b=(v.items.length:Int)):b=(klj (acc++[v]):Int):=by
 cases acc with
 | nil=>rw [a];rfl
 | cons r l=>rw [a,<- h r (qt ..)];rfl
def InvS (acc:List Va):Prop:=InvR acc/\∀ r∈acc,r.items.length=klj acc
theorem kaew {acc:List Va}:(rowE acc).all fun v=>acc≠[]->v.items.length=klj acc:=by
 have key:∀ least most:Nat,(rowG least most).all fun v=>least<=v.items.length/\v.items.length<=most:=fun least most=>by
  unfold rowG;intro c;dsimp only;split;refine khu (fun l hl=>?_) _ (kta (P:=fun _=>True) (I:=fun _=>True) (fun _ _ _ _=>trivial) (fun _ _=>kna _) most [] trivial);exact ⟨hl.2.1,by have:=hl.2.2;rw [qaf,Nat.zero_add] at this;exact this⟩
  ·trivial
 cases acc with
 | nil=>exact klz (fun v _ h=>absurd rfl h) _ (key 1 8)
 | cons r l=>exact klz (fun v hv _=>by show v.items.length=r.items.length;omega) _ (key r.items.length r.items.length)
theorem k0y {s:BA} {acc:List Va} {i j:Nat} {v:Va} (h:InvS acc) (a:(rowE acc).ev s i=(some v,j)):InvS (acc++[v])/\∀ r∈acc,r.items.length=v.items.length:=by
 have h1:=(kvl _ i (k6o h.1) (by rw [a])).2;have h2:=kvl _ i (kaew (acc:=acc)) (by rw [a]);refine ⟨⟨k8f h.1 h1,fun r hr=>?_⟩,fun r hr=>?_⟩
 ·cases acc with
  | nil=>simp at hr;rw [hr];rfl
  | cons q l=>
   show r.items.length=q.items.length;rcases qao.1 hr with hr | hr;exact h.2 r hr
   ·rw [qbf.1 hr];exact h2 (by simp)
 ·rw [h.2 r hr,h2 (by rintro rfl;cases hr)]
theorem kady {s:BA} (hs:s.size<=4000000) (i0:Int):∀ k (acc:List Va) (i n:Nat),acc.length+1+k=8->InvS acc->i<=s.size->k<n ->
  ∃ b,kaa (kef ⟨s,i0⟩ 62 8) n ((i:Int),(klj acc:Int),acc)=some b/\rvQ (((rowE acc).bind fun v=>kbg 62 0 rowE k (acc++[v])).ev s i) b:=by
 refine kuc (least:=0) (elem:=rowE) kq2 (fun i acc=>((i:Int),(klj acc:Int),acc)) rvQ InvS (fun acc i v j h g=>(k0y h g).1) (kwb kq2 ?_);intro i acc hi hl e;obtain ⟨b,f,q1,q2,q3⟩:=kamv hs e.1 hi;have c:=kph (s:=s) (kq2 acc) hi;refine ⟨fun j h=>?_,fun v j h=>?_⟩;rw [h] at q1 q2;refine ⟨([],false,(j:Int),b.2.2.1),?_,rfl,rfl,fun l h=>by cases h⟩;simp only [kef,f,qa,q1,q2,Option.isSome_none,qbb,qf]
 ·have a:=(k0y e h).2;rw [h] at q1 q2 q3 c;obtain ⟨r1,r2⟩:=q3 v rfl;have d:=kabl a r1;have ha:=ki2 (b:=56) (xs:=acc) (ys:=[v]) (by simp;omega);refine ⟨fun z => .inr (acc++[v],true,z,(klj (acc++[v]):Int)),fun z => .inr ([],false,z,(klj (acc++[v]):Int)),fun z => .inl (z,(klj (acc++[v]):Int),acc++[v]),Eq.trans ?_ (k3m hs c.2 62 (by decide) 8 (acc++[v]) _ _ _),fun z=>⟨_,rfl,rfl,rfl,fun l h=>by cases h;rfl⟩,fun z=>⟨_,rfl,rfl,rfl,fun l h=>by cases h⟩,fun z=>rfl⟩;simp only [kef,f,qa,q1,q2,d,qbq,qab,qd,<- r2,ha];rfl
theorem kahz {s:BA} (hs:s.size<=4000000) {i:Nat} (hi:i<=s.size) (a:atI s i=60):∃ b,kgy ⟨s,(i:Int)⟩ 60 62 8 0=some b/\rvQ ((kbg 62 0 rowE 8 []).ev s (i+1)) b:=by
 have c:i+1<=s.size:=kf5 (by omega);have ho:=kys hs hi 60 (by decide);rw [qj (by rw [a];rfl)] at ho;have d:kap ⟨s,(i:Int)⟩ (Utf8.encode 60)=some (true,((i+1:Nat):Int)):=ho;unfold kgy kbg;simp only [d,qa,qab,qd,kh6,Pr.ev];by_cases hc:atI s (i+1)=62;rw [qj ⟨hc,qy _⟩,show (atI s (i+1) == 62)=true by rw [hc];rfl];exact ⟨_,rfl,rfl,w64s (i+1) (by omega),fun l h=>by cases h;rfl⟩
 ·rw [qg (fun h=>hc h.1),show (atI s (i+1) == 62)=false by simpa using hc,qd];obtain ⟨b,f,g⟩:=kady hs i 7 [] (i+1) fuel rfl ⟨fun r h=>(by cases h),fun r h=>(by cases h)⟩ c (kbk (by omega));have e:kaa (kef ⟨s,(i:Int)⟩ 62 8) fuel (((i+1:Nat):Int),0,[])=some b:=f;rw [e];refine ⟨b,rfl,?_⟩;simpa [Pr.bind] using g
def qQ {α:Type} (x:Option α×Nat) (r:α×Int×Bool):Prop:=r.2.1=(x.2:Int)/\r.2.2=x.1.isSome/\∀ u,x.1=some u->r.1=u
theorem kalk {s:BA} (hs:s.size<=4000000) {j:Nat} (a:j<=s.size):kem s (j:Int) (⟨#[44,32]⟩:BA)=some ((((kbc [44,32]).ev s j).2:Int),((kbc [44,32]).ev s j).1.isSome):=k0p hs (by decide) (by decide) a
theorem kwi {s:BA} (hs:s.size<=4000000) {r61:BA->Int->Int->Int->Option (Va×Int×Bool)} {a2 e:Int} {least most:Nat} (hm:most<=16) {elem:List Va->Pr Va} (z:∀ l,(elem l).good false) (Inv:List Va->Prop)
  (hi:∀ acc i v j,Inv acc->(elem acc).ev s i=(some v,j)->Inv (acc++[v]))
  (o:∀ i acc,i<=s.size->Inv acc->∃ r,r61 s (i:Int) a2 (klj acc:Int)=some r/\qQ ((elem acc).ev s i) r):
  ∀ k acc i n,acc.length+k=most->Inv acc->i<=s.size->k<n->∃ r,kaa (kbj s a2 (least:Int) (most:Int) e r61) n ((i:Int),acc)=some r/\qQ ((kbg e least elem k acc).ev s i) r:=by
 intro k
 induction k with
 | zero=>
  intro acc i n hk p a hn;obtain ⟨n,rfl⟩:∃ m,n=m+1:=⟨n - 1,by omega⟩;have e4:(bif (atI s i == e) then (some (decide ((least:Int)<=(List.length acc:Int)))) else (some (false)):Option Bool)=some (decide (atI s i=e/\least<=acc.length)):=by
   by_cases h:atI s i=e;rw [show (atI s i == e)=true by simpa using h,qf];congr 1;simp [h]
   ·rw [show (atI s i == e)=false by simpa using h,qd,qb (fun q=>h q.1)]
  have e3:((acc.length:Int) == (most:Int))=true:=by simp;omega
  unfold kbg;simp only [Pr.ev];by_cases hc:atI s i=e/\least<=acc.length;rw [qj hc];refine ⟨(acc,((i+1:Nat):Int),true),kbm ?_,rfl,rfl,fun u h=>by cases h;rfl⟩;simp only [kbj,kf4,qa,e4,qe hc,qf,w64s i (by omega)]
  ·rw [qg hc];refine ⟨([],(i:Int),false),kbm ?_,rfl,rfl,fun u h=>by cases h⟩;simp only [kbj,kf4,qa,e4,qb hc,qd,e3,qf]
 | succ k ih=>
  intro acc i n hk p a hn;obtain ⟨n,rfl⟩:∃ m,n=m+1:=⟨n - 1,by omega⟩;have e4:(bif (atI s i == e) then (some (decide ((least:Int)<=(List.length acc:Int)))) else (some (false)):Option Bool)=some (decide (atI s i=e/\least<=acc.length)):=by
   by_cases h:atI s i=e;rw [show (atI s i == e)=true by simpa using h,qf];congr 1;simp [h]
   ·rw [show (atI s i == e)=false by simpa using h,qd,qb (fun q=>h q.1)]
  have e3:((acc.length:Int) == (most:Int))=false:=by simp;omega
  unfold kbg;simp only [Pr.ev];by_cases hc:atI s i=e/\least<=acc.length;rw [qj hc];refine ⟨(acc,((i+1:Nat):Int),true),kbm ?_,rfl,rfl,fun u h=>by cases h;rfl⟩;simp only [kbj,kf4,qa,e4,qe hc,qf,w64s i (by omega)]
  ·rw [qg hc]
   -- behind the separator
   have key:∀ j:Nat,j<=s.size->(Option.bind ((bif (decide (0<(List.length acc:Int))) then (Option.bind (idx acc 0) fun v8=>(some ((List.length v8.items:Int)))) else (some (0))):Option (Int)) fun (v10:Int)=>(Option.bind (r61 s (j:Int) a2 v10) fun v11=>(bif (!v11.2.2) then (some (.inr (([]:List Va),v11.2.1,false))) else (Option.bind (app 56 acc ([v11.1]:List (Va))) fun v12=>(some (.inl (v11.2.1,v12))))))) =
     kbj s a2 (least:Int) (most:Int) e r61 ((i:Int),acc)->∃ r,kaa (kbj s a2 (least:Int) (most:Int) e r61) (n+1) ((i:Int),acc)=some r/\qQ (((elem acc).bind fun v=>kbg e least elem k (acc++[v])).ev s j) r:=by
    intro j x hst;obtain ⟨r,hr,q1,q2,q3⟩:=o j acc x p;have d:(bif (decide (0<(List.length acc:Int))) then (Option.bind (idx acc 0) fun v8=>(some ((List.length v8.items:Int)))) else (some (0)):Option Int)=some (klj acc:Int):=by
     cases acc with
     | nil=>rfl
     | cons r l=>rw [show decide (0<((r::l).length:Int))=true from qe (by simp)];rfl
    rw [d,qa,hr,qa,q1,q2] at hst;rw [kgg];have f:=kph (s:=s) (z acc) x;rcases t:(elem acc).ev s j with ⟨_ | v,j'⟩;rw [t] at hst;exact ⟨([],(j':Int),false),kbm (by rw [<- hst];rfl),rfl,rfl,fun u h=>by cases h⟩
    ·rw [t] at hst q3 f;rw [q3 v rfl,ki2 (b:=56) (xs:=acc) (ys:=[v]) (by simp;omega)] at hst;rw [kgj hst.symm];exact ih (acc++[v]) j' n (by simp;omega) (hi acc j v j' p t) f.2 (by omega)
   cases acc with
   | nil=>
    rw [qj (show ([]:List Va).length=0 from rfl)];refine key i a ?_;simp only [kbj,kf4,qa,e4,qb hc,qd,e3];rfl
   | cons r l=>
    rw [qg (by simp),kgg];have d0:decide (0<((r::l).length:Int))=true:=qe (by simp);have c:=kph (s:=s) (knq (w:=[44,32]) (by decide)) a;have g:=kalk hs a;rcases y:(kbc [44,32]).ev s i with ⟨_ | u,j⟩;rw [y] at g;refine ⟨([],(j:Int),false),kbm ?_,rfl,rfl,fun u h=>by cases h⟩;simp only [kbj,kf4,qa,e4,qb hc,qd,e3,d0,qf,g,Option.isSome_none,qbb,qi]
    ·rw [y] at g c;refine key j c.2 ?_;simp only [kbj,kf4,qa,e4,qb hc,qd,e3,d0,qf,g,qbq,qab,qh]
theorem kamk {s:BA} (hs:s.size<=4000000) (n:Nat) (c:Int) {i:Nat} (hi:i<=s.size):∃ r,kar (n+1) s (i:Int) 2 c=some r/\qQ (intE.ev s i) r:=by
 obtain ⟨v,h1,h2⟩:=k2f hs hi;refine ⟨(v,((numP.ev s i).2:Int),(numP.ev s i).1.isSome),?_,?_⟩;show kbz (kar n) (kbx n) s (i:Int) 2 c=_;simp only [kbz,h1,show ((2:Int) == 2)=true from rfl,qf,qa]
 ·rw [kyt];refine ⟨rfl,by cases (numP.ev s i).1 <;> rfl,fun u h=>?_⟩;obtain ⟨m,hm,rfl⟩:=qm.1 h;exact h2 m hm
theorem kade {s:BA} (hs:s.size<=4000000) (n:Nat) (c:Int) {i:Nat} (hi:i<=s.size):∃ r,kar (n+1) s (i:Int) 3 c=some r/\qQ (textE.ev s i) r:=by
 have h1:kdu s (i:Int) 0 64 false=some (qOut ((kdw 0 64).ev s i)):=k4g (least:=0) (most:=64) hs (by decide) hi;refine ⟨(Va.mk 3 0 (qOut ((kdw 0 64).ev s i)).1 [],(((kdw 0 64).ev s i).2:Int),((kdw 0 64).ev s i).1.isSome),?_,?_⟩;show kbz (kar n) (kbx n) s (i:Int) 3 c=_;simp only [kbz,h1,show ((3:Int) == 2)=false from rfl,show ((3:Int) == 3)=true from rfl,qf,qd,qa,qOut]
 ·rw [kwx];refine ⟨rfl,by cases ((kdw 0 64).ev s i).1 <;> rfl,fun u h=>?_⟩;obtain ⟨m,hm,rfl⟩:=qm.1 h;simp only [qOut,hm,Option.elim_some]
theorem kanc {s:BA} (hs:s.size<=4000000) (n:Nat) {i:Nat} (hi:i<=s.size):∃ r,kbx (n+2) s (i:Int) 2 0 16 93=some r/\qQ ((kbg 93 0 (fun _=>intE) 16 []).ev s i) r:=by obtain ⟨r,h1,h2⟩:=kwi hs (r61:=kar (n+1)) (a2:=2) (e:=93) (least:=0) (most:=16) (by omega) (elem:=fun _=>intE) (fun _=>ko5) (fun _=>True) (fun _ _ _ _ _ _=>trivial) (fun i acc hi _=>kamk hs n _ hi) 16 [] i fuel rfl trivial hi (kbk (by omega));have a:kaa (kbj s 2 0 16 93 (kar (n+1))) fuel ((i:Int),[])=some r:=h1;refine ⟨r,?_,h2⟩;show kcy (kar (n+1)) (kbx (n+1)) s (i:Int) 2 0 16 93=_;simp only [kcy,a,qa]
theorem kamw {s:BA} (hs:s.size<=4000000) (n least most:Nat) (hm:most<=16) {i:Nat} (hi:i<=s.size):∃ r,kbx (n+2) s (i:Int) 3 (least:Int) (most:Int) 125=some r/\qQ ((kbg 125 least (fun _=>textE) most []).ev s i) r:=by obtain ⟨r,h1,h2⟩:=kwi hs (r61:=kar (n+1)) (a2:=3) (e:=125) (least:=least) (most:=most) hm (elem:=fun _=>textE) (fun _=>kl4) (fun _=>True) (fun _ _ _ _ _ _=>trivial) (fun i acc hi _=>kade hs n _ hi) most [] i fuel (by simp) trivial hi (kbk (by omega));refine ⟨r,?_,h2⟩;show kcy (kar (n+1)) (kbx (n+1)) s (i:Int) 3 (least:Int) (most:Int) 125=_;simp only [kcy,h1,qa]
theorem k27 {s:BA} (hs:s.size<=4000000) (n:Nat) (c:Int) (least most:Nat) (hm:most<=16) {i:Nat} (hi:i<=s.size)
  (hc:(Option.bind ((bif (c == 0) then (some (1,8)) else (some (0,16))):Option ((Int)×(Int))) fun (v5:(Int)×(Int))=>((bif (decide (0<c)) then (some (c,c)) else (some (v5.1,v5.2))):Option ((Int)×(Int))))=some ((least:Int),(most:Int))):
  ∃ r,kar (n+3) s (i:Int) 6 c=some r/\qQ ((rowG least most).ev s i) r:=by
 have a:kar (n+3) s (i:Int) 6 c=kbz (kar (n+2)) (kbx (n+2)) s (i:Int) 6 c:=rfl;rw [a];unfold rowG;simp only [Pr.ev];by_cases h:atI s i=123
 ·rw [qj h];have b:i+1<=s.size:=kf5 (by omega);obtain ⟨r,h1,q1,q2,q3⟩:=kamw hs n least most hm b;simp only [Pr.ev,kgg];refine ⟨(Va.mk 6 0 ⟨#[]⟩ r.1,r.2.1,r.2.2),?_,?_⟩
  ·obtain ⟨p,d,e⟩:∃ p,(bif (c == 0) then (some (1,8)) else (some (0,16)):Option ((Int)×(Int)))=some p/\(bif (decide (0<c)) then (some (c,c)) else (some (p.1,p.2)):Option ((Int)×(Int)))=some ((least:Int),(most:Int)):=by
    cases f:(c == 0) with
    | true=>rw [f] at hc;exact ⟨_,rfl,hc⟩
    | false=>rw [f] at hc;exact ⟨_,rfl,hc⟩
   have e1:(atI s i != 123)=false:=(by rw [h];rfl);simp only [kbz,kf4,show ((6:Int) == 2)=false from rfl,show ((6:Int) == 3)=false from rfl,qd,qa,e1,d,e,w64s i (by omega),h1]
  ·generalize (kbg 125 least (fun _=>textE) most []).ev s (i+1)=y at q1 q2 q3 ⊢;obtain ⟨_ | l,j⟩:=y;exact ⟨q1,q2,fun u h=>by cases h⟩
   ·exact ⟨q1,q2,fun u h=>by cases h;show Va.mk 6 0 ⟨#[]⟩ r.1=_;rw [q3 l rfl]⟩
 ·rw [qg h];have e1:(atI s i != 123)=true:=by simpa using h
  refine ⟨(Va.mk 0 0 ⟨#[]⟩ [],(i:Int),false),?_,rfl,rfl,fun u h=>by cases h⟩
  ·simp only [kbz,kf4,show ((6:Int) == 2)=false from rfl,show ((6:Int) == 3)=false from rfl,qd,qa,e1,qf]
theorem kamj {s:BA} (hs:s.size<=4000000) (n:Nat) {acc:List Va} (a:InvR acc) {i:Nat} (hi:i<=s.size):∃ r,kar (n+3) s (i:Int) 6 (klj acc:Int)=some r/\qQ ((rowE acc).ev s i) r:=by
 cases acc with
 | nil=>exact k27 hs n _ 1 8 (by omega) hi rfl
 | cons r l=>
  have:=a r (qt ..);refine k27 hs n _ r.items.length r.items.length (by omega) hi ?_;rw [show klj (r::l)=r.items.length from rfl,show ((r.items.length:Int) == 0)=false by simp;intro h;rw [h] at this;simp at this,show decide (0<(r.items.length:Int))=true from qe (by omega)];rfl
theorem kami {s:BA} (hs:s.size<=4000000) (n:Nat) {i:Nat} (hi:i<=s.size):∃ r,kbx (n+4) s (i:Int) 6 0 8 62=some r/\qQ ((kbg 62 0 rowE 8 []).ev s i) r:=by obtain ⟨r,h1,h2⟩:=kwi hs (r61:=kar (n+3)) (a2:=6) (e:=62) (least:=0) (most:=8) (by omega) (elem:=rowE) kq2 InvS (fun acc i v j h b=>(k0y h b).1) (fun i acc hi c=>kamj hs n c.1 hi) 8 [] i fuel rfl ⟨fun r h=>(by cases h),fun r h=>(by cases h)⟩ hi (kbk (by omega));have a:kaa (kbj s 6 0 8 62 (kar (n+3))) fuel ((i:Int),[])=some r:=h1;refine ⟨r,?_,h2⟩;show kcy (kar (n+3)) (kbx (n+3)) s (i:Int) 6 0 8 62=_;simp only [kcy,a,qa]
theorem fuel4:∃ n,fuel=n+4:=⟨18446744073709551612,rfl⟩
theorem kk8 {α β:Type} (s:BA) (f:α->β) (p:Pr α) (i:Nat):(p.bind fun a => .done (f a)).ev s i=((p.ev s i).1.map f,(p.ev s i).2):=by rw [kgg];rcases p.ev s i with ⟨_ | a,j⟩ <;> rfl
theorem kamu {s:BA} (hs:s.size<=4000000) {i:Nat} (hi:i<=s.size):∃ r,khj s (i:Int)=some r/\qQ (oneP.ev s i) r:=by
 obtain ⟨n,hn⟩:=fuel4;unfold oneP khj;rw [hn,kf4,qa];simp only [Pr.ev];by_cases h1:atI s i=116;rw [qj h1,show (atI s i == 116)=true by rw [h1];rfl,qf,kk8,k0p hs (w:=⟨#[116,114,117,101]⟩) (by decide) (by decide) hi,show wl (⟨#[116,114,117,101]⟩:BA)=[116,114,117,101] from rfl];exact ⟨_,rfl,rfl,by cases ((kbc [116,114,117,101]).ev s i).1 <;> rfl,fun u h=>by obtain ⟨a,_,rfl⟩:=qm.1 h;rfl⟩;rw [qg h1,show (atI s i == 116)=false by simpa using h1,qd];by_cases h1:atI s i=102;rw [qj h1,show (atI s i == 102)=true by rw [h1];rfl,qf,kk8,k0p hs (w:=⟨#[102,97,108,115,101]⟩) (by decide) (by decide) hi,show wl (⟨#[102,97,108,115,101]⟩:BA)=[102,97,108,115,101] from rfl];exact ⟨_,rfl,rfl,by cases ((kbc [102,97,108,115,101]).ev s i).1 <;> rfl,fun u h=>by obtain ⟨a,_,rfl⟩:=qm.1 h;rfl⟩;rw [qg h1,show (atI s i == 102)=false by simpa using h1,qd];by_cases h1:atI s i=34;rw [qj h1,show (atI s i == 34)=true by rw [h1];rfl,qf];obtain ⟨r,hr,c⟩:=kade hs (n+3) 0 hi;exact ⟨r,by rw [hr];rfl,c⟩;rw [qg h1,show (atI s i == 34)=false by simpa using h1,qd];by_cases h1:atI s i=114
 ·have b:i+1<=s.size:=kf5 (by omega);have c:kdu s ((i+1:Nat):Int) 1 40 false=some (qOut ((kdw 1 40).ev s (i+1))):=k4g (least:=1) (most:=40) hs (by decide) b;rw [qj h1,show (atI s i == 114)=true by rw [h1];rfl,qf,w64s i (by omega),c];simp only [Pr.ev,kk8];refine ⟨_,rfl,rfl,?_,fun u h=>?_⟩;show ((kdw 1 40).ev s (i+1)).1.isSome=_;cases ((kdw 1 40).ev s (i+1)).1 <;> rfl
  ·obtain ⟨m,hm,rfl⟩:=qm.1 h;simp only [qOut,hm,Option.elim_some]
 rw [qg h1,show (atI s i == 114)=false by simpa using h1,qd];by_cases h1:atI s i=91
 ·have b:i+1<=s.size:=kf5 (by omega);obtain ⟨r,hr,q1,q2,q3⟩:=kanc hs (n+2) b;rw [qj h1,show (atI s i == 91)=true by rw [h1];rfl,qf,w64s i (by omega),hr];simp only [Pr.ev,kk8];refine ⟨_,rfl,q1,?_,fun u h=>?_⟩;show r.2.2=_;rw [q2];cases ((kbg 93 0 (fun _=>intE) 16 []).ev s (i+1)).1 <;> rfl
  ·obtain ⟨m,hm,rfl⟩:=qm.1 h;show Va.mk 5 0 ⟨#[]⟩ r.1=_;rw [q3 m hm]
 rw [qg h1,show (atI s i == 91)=false by simpa using h1,qd];by_cases h1:atI s i=123;have b:i+1<=s.size:=kf5 (by omega);obtain ⟨r,hr,c⟩:=k27 hs (n+1) (-1) 0 16 (by omega) hi rfl;rw [qj h1,show (atI s i == 123)=true by rw [h1];rfl,qf,hr];refine ⟨r,rfl,?_⟩;unfold rowG at c;simp only [Pr.ev] at c ⊢;rw [qj h1] at c;exact c;rw [qg h1,show (atI s i == 123)=false by simpa using h1,qd];by_cases h1:atI s i=60
 ·have b:i+1<=s.size:=kf5 (by omega);obtain ⟨r,hr,q1,q2,q3⟩:=kami hs n b;rw [qj h1,show (atI s i == 60)=true by rw [h1];rfl,qf,w64s i (by omega),hr];simp only [Pr.ev,kk8];refine ⟨_,rfl,q1,?_,fun u h=>?_⟩;show r.2.2=_;rw [q2];cases ((kbg 62 0 rowE 8 []).ev s (i+1)).1 <;> rfl
  ·obtain ⟨m,hm,rfl⟩:=qm.1 h;show Va.mk 7 0 ⟨#[]⟩ r.1=_;rw [q3 m hm]
 rw [qg h1,show (atI s i == 60)=false by simpa using h1,qd,qa];obtain ⟨v,hv,hm⟩:=k2f hs hi;by_cases h2:atI s i=48
 ·have b:i+1<=s.size:=kf5 (by omega);rw [qj h2,show (atI s i != 48)=false by rw [h2];rfl,qd,w64s i (by omega),kf4,qa];simp only [Pr.ev];by_cases h3:atI s (i+1)=120
  ·have g:i+2<=s.size:=kf5 (i:=i+1) (by omega);have ew2:w64 ((i:Int)+2)=((i+2:Nat):Int):=kdn (by omega) (by omega);have ew3:w64 ((i:Int)+3)=((i+3:Nat):Int):=kdn (by omega) (by omega);have ew4:w64 ((i:Int)+4)=((i+4:Nat):Int):=kdn (by omega) (by omega);rw [qj h3,show (atI s (i+1) != 120)=false by rw [h3];rfl];simp only [qa,qd,ew2,ew3,ew4,kf4,(k23 s (i+2)).2,(k23 s (i+3)).2,Pr.ev,kk8];unfold bitsP;simp only [Pr.ev,show i+1+1=i+2 from rfl];by_cases d:hexV (atI s (i+2))<0;rw [qj d,qe d];exact ⟨_,rfl,rfl,rfl,fun u h=>by cases h⟩
   ·rw [qg d,qb d];simp only [Pr.ev,qd,show i+2+1=i+3 from rfl];by_cases e:hexV (atI s (i+3))<0;rw [qj e,qe e];exact ⟨_,rfl,rfl,rfl,fun u h=>by cases h⟩
    ·rw [qg e,qb e];have x2:hexV (atI s (i+2))<=15:=(by unfold hexV;split <;> (try split) <;> omega);have x3:hexV (atI s (i+3))<=15:=(by unfold hexV;split <;> (try split) <;> omega);have w1:w64 (hexV (atI s (i+2))*16)=hexV (atI s (i+2))*16:=kdn (by omega) (by omega);have w2:w64 (hexV (atI s (i+2))*16+hexV (atI s (i+3)))=hexV (atI s (i+2))*16+hexV (atI s (i+3)):=kdn (by omega) (by omega);rw [w1,w2];exact ⟨_,rfl,rfl,rfl,fun u h=>by cases h;rfl⟩
  ·rw [qg h3,show (atI s (i+1) != 120)=true by simpa using h3,qa,qf,hv];have j:numP.ev s i=(some 0,i+1):=(by unfold numP unsP;simp only [Pr.ev,h2];rw [qg (by decide)];simp only [Pr.ev,h2];rw [qg (by simp)];simp only [Pr.ev,kgg,show (48:Int) - 48=0 from rfl,kzi];rfl);rw [j] at hm ⊢;exact ⟨_,rfl,rfl,rfl,fun u h=>by cases h;exact hm 0 rfl⟩
 ·rw [qg h2,show (atI s i != 48)=true by simpa using h2,qf,qa,qf,hv];rw [kyt];refine ⟨_,rfl,rfl,?_,fun u h=>?_⟩;show (numP.ev s i).1.isSome=_;cases (numP.ev s i).1 <;> rfl
  ·obtain ⟨m,f,rfl⟩:=qm.1 h;exact hm m f
def vQ (x:Option Va×Nat) (b:Bool×Int×Int×Int×BA×List Va):Prop:=b.1=x.1.isSome/\b.2.1=(x.2:Int)/\∀ u,x.1=some u->Va.mk b.2.2.1 b.2.2.2.1 b.2.2.2.2.1 b.2.2.2.2.2=u
theorem kal6 (c:UInt8):((⟨#[48,c]⟩:BA).toList == (⟨#[48,120]⟩:BA).toList)=decide ((c.toNat:Int)=120):=by
 by_cases h:c=120;subst h;rw [qe (by rfl)];simp
 ·rw [qb,qae];intro a;have h2:=kkn a;injection h2 with h3;have b:=q9 Array.toList h3;simp at b;exact h b
  ·intro a;apply h;apply UInt8.toNat.inj;show c.toNat=120;omega
theorem kaei {s:BA} (hs:s.size<=4000000) {i:Nat} (hi:i<s.size) (b:atI s i=48):∃ r,cutS s (i:Int) (s.size:Int)=some r/\kcp r (⟨#[48,120]⟩:BA)=some (decide (atI s (i+1)=120)):=by
 have hd:(s.extract i s.size).data.toList=s.data.toList.drop i:=by rw [kv9,List.take_of_length_le (by rw [<- ka9];exact qy _)]
 generalize hr:s.extract i s.size=r at hd;refine ⟨r,by unfold cutS;rw [qj ⟨by omega,by omega,by omega⟩,<- hr];rfl,?_⟩;have c:r.size=s.size - i:=by rw [ka9,hd,qau,<- ka9]
 have a:(⟨#[48,120]⟩:BA).size=2:=rfl;unfold kcp kc0;rw [a];by_cases h2:i+2<=s.size
 ·have d1:decide (((2:Nat):Int)<=(r.size:Int))=true:=qe (by omega);obtain ⟨b1,b2,b3⟩:=kib hi;obtain ⟨c1,c2,c3⟩:=kib (s:=s) (i:=i+1) (by omega);generalize s.data.toList[i]'(by rw [<- ka9];exact hi)=x at b2 b3;generalize s.data.toList[i+1]'(by rw [<- ka9];omega)=y at c2 c3;have d:x=48:=UInt8.toNat.inj (by show x.toNat=48;omega);have hc:cutS r 0 ((2:Nat):Int)=some ⟨#[48,y]⟩:=by unfold cutS;rw [qj ⟨by omega,by omega,by omega⟩];congr 1;apply kxy;rw [show ((0:Int).toNat)=0 from rfl,show (((2:Nat):Int).toNat)=2 from rfl,kv9,hd,b2,c2,d];rfl
  rw [d1,qf,hc,qa,kal6,qa,qa,c3]
 ·have d1:decide (((2:Nat):Int)<=(r.size:Int))=false:=qb (by omega);rw [d1,qd,qa,qa,qb];rw [kt0 (by omega)];decide
theorem kaf9 {s:BA} (hs:s.size<=4000000) {i:Nat} (hi:i<=s.size):∃ b,kfo ⟨s,(i:Int)⟩=some b/\vQ (oneP.ev s i) b:=by
 unfold oneP kfo;rw [kh6,qa];simp only [Pr.ev];by_cases h1:atI s i=116;rw [qj h1,show (atI s i == 116)=true by rw [h1];rfl,qf,kk8,ku4 hs (w:=⟨#[116,114,117,101]⟩) (by decide) (by decide) hi,show wl (⟨#[116,114,117,101]⟩:BA)=[116,114,117,101] from rfl];exact ⟨_,rfl,by cases ((kbc [116,114,117,101]).ev s i).1 <;> rfl,rfl,fun u h=>by obtain ⟨a,_,rfl⟩:=qm.1 h;rfl⟩;rw [qg h1,show (atI s i == 116)=false by simpa using h1,qd];by_cases h1:atI s i=102;rw [qj h1,show (atI s i == 102)=true by rw [h1];rfl,qf,kk8,ku4 hs (w:=⟨#[102,97,108,115,101]⟩) (by decide) (by decide) hi,show wl (⟨#[102,97,108,115,101]⟩:BA)=[102,97,108,115,101] from rfl];exact ⟨_,rfl,by cases ((kbc [102,97,108,115,101]).ev s i).1 <;> rfl,rfl,fun u h=>by obtain ⟨a,_,rfl⟩:=qm.1 h;rfl⟩;rw [qg h1,show (atI s i == 102)=false by simpa using h1,qd];by_cases h1:atI s i=34;have d:kb6 ⟨s,(i:Int)⟩ 0 64=some (tOut ((kdw 0 64).ev s i)):=kzf (least:=0) (most:=64) hs (by decide) hi;rw [qj h1,show (atI s i == 34)=true by rw [h1];rfl,qf,d,kwx];refine ⟨_,rfl,by show ((kdw 0 64).ev s i).1.isSome=_;cases ((kdw 0 64).ev s i).1 <;> rfl,rfl,fun u h=>?_⟩;obtain ⟨m,hm,rfl⟩:=qm.1 h;simp only [tOut,hm,Option.elim_some];rw [qg h1,show (atI s i == 34)=false by simpa using h1,qd];by_cases h1:atI s i=114;have c:i+1<=s.size:=kf5 (by omega);have d:kb6 ⟨s,((i+1:Nat):Int)⟩ 1 40=some (tOut ((kdw 1 40).ev s (i+1))):=kzf (least:=1) (most:=40) hs (by decide) c;rw [qj h1,show (atI s i == 114)=true by rw [h1];rfl,qf,w64s i (by omega),d];simp only [Pr.ev,kk8];refine ⟨_,rfl,by show ((kdw 1 40).ev s (i+1)).1.isSome=_;cases ((kdw 1 40).ev s (i+1)).1 <;> rfl,rfl,fun u h=>?_⟩;obtain ⟨m,hm,rfl⟩:=qm.1 h;simp only [tOut,hm,Option.elim_some];rw [qg h1,show (atI s i == 114)=false by simpa using h1,qd];by_cases h1:atI s i=91
 ·obtain ⟨r,hr,q1,q2,q3⟩:=kalm hs hi h1;rw [qj h1,show (atI s i == 91)=true by rw [h1];rfl,qf,hr];simp only [Pr.ev,kk8];refine ⟨_,rfl,?_,q2,fun u h=>?_⟩;show r.2.1=_;rw [q1];cases ((kbg 93 0 (fun _=>intE) 16 []).ev s (i+1)).1 <;> rfl
  ·obtain ⟨m,hm,rfl⟩:=qm.1 h;show Va.mk 5 0 ⟨#[]⟩ r.1=_;rw [q3 m hm]
 rw [qg h1,show (atI s i == 91)=false by simpa using h1,qd];by_cases h1:atI s i=123
 ·obtain ⟨r,hr,q1,q2,q3⟩:=kagl hs hi h1;rw [qj h1,show (atI s i == 123)=true by rw [h1];rfl,qf,hr];simp only [Pr.ev,kk8];refine ⟨_,rfl,?_,q2,fun u h=>?_⟩;show r.2.1=_;rw [q1];cases ((kbg 125 0 (fun _=>textE) 16 []).ev s (i+1)).1 <;> rfl
  ·obtain ⟨m,hm,rfl⟩:=qm.1 h;show Va.mk 6 0 ⟨#[]⟩ r.1=_;rw [q3 m hm]
 rw [qg h1,show (atI s i == 123)=false by simpa using h1,qd];by_cases h1:atI s i=60
 ·obtain ⟨r,hr,q1,q2,q3⟩:=kahz hs hi h1;rw [qj h1,show (atI s i == 60)=true by rw [h1];rfl,qf,kjc,qa,hr];simp only [Pr.ev,kk8];refine ⟨_,rfl,?_,q2,fun u h=>?_⟩;show r.2.1=_;rw [q1];cases ((kbg 62 0 rowE 8 []).ev s (i+1)).1 <;> rfl
  ·obtain ⟨m,hm,rfl⟩:=qm.1 h;show Va.mk 7 0 ⟨#[]⟩ r.1=_;rw [q3 m hm]
 rw [qg h1,show (atI s i == 60)=false by simpa using h1,qd];have hv:=k4v hs hi;by_cases h2:atI s i=48
 ·have c:i+1<=s.size:=kf5 (by omega);obtain ⟨r,hr,hp⟩:=kaei hs c h2;rw [qj h2,show (atI s i == 48)=true by rw [h2];rfl,qf,hr,qa,hp,qa];simp only [Pr.ev];by_cases h3:atI s (i+1)=120;have e:i+2<=s.size:=kf5 (i:=i+1) (by omega);rw [qj h3,qe h3,kal5 hs e];simp only [Pr.ev,kk8,show i+1+1=i+2 from rfl];refine ⟨_,rfl,by show (bitsP.ev s (i+2)).1.isSome=_;cases (bitsP.ev s (i+2)).1 <;> rfl,rfl,fun u h=>?_⟩;obtain ⟨m,hm,rfl⟩:=qm.1 h;simp only [hm,Option.elim_some,qa2]
  ·rw [qg h3,qb h3,qd,qa,qh,hv];have g:numP.ev s i=(some 0,i+1):=(by unfold numP unsP;simp only [Pr.ev,h2];rw [qg (by decide)];simp only [Pr.ev,h2];rw [qg (by simp)];simp only [Pr.ev,kgg,show (48:Int) - 48=0 from rfl,kzi];rfl);rw [g];exact ⟨_,rfl,rfl,rfl,fun u h=>by cases h;rfl⟩
 ·rw [qg h2,show (atI s i == 48)=false by simpa using h2,qd,qa,qh,hv,kyt];refine ⟨_,rfl,by show (numP.ev s i).1.isSome=_;cases (numP.ev s i).1 <;> rfl,rfl,fun u h=>?_⟩;obtain ⟨m,f,rfl⟩:=qm.1 h;simp only [nOut,f,qa2]
def prV (s:BA):Va×Int×Int:=match oneP.ev s 0 with
 | (some v,j)=>if j<s.size then (Va.mk 0 0 ⟨#[]⟩ [],(j:Int),8) else (v,0,0)
 | (none,j)=>(Va.mk 0 0 ⟨#[]⟩ [],(j:Int),8)
theorem kqi {s:BA} (hs:s.size<=4000000):kg8 s=some (prV s):=by
 obtain ⟨b,c,q1,q2,q3⟩:=kaf9 hs (qz s.size);have a:kfo ⟨s,0⟩=some b:=c;unfold kg8 prV;rw [a,qa,q1,q2];generalize oneP.ev s 0=x at q1 q2 q3 ⊢;obtain ⟨_ | v,j⟩:=x;rfl
 ·simp only [qbq,qab,qd,qa];by_cases h:j<s.size;rw [qj h,kbd h];rfl
  ·rw [qg h,qb (show ¬ ((j:Int)<(s.size:Int)) by omega),qd,q3 v rfl]
theorem k38 {s:BA} (hs:s.size<=4000000):kgn s=some (prV s):=by
 obtain ⟨b,c,q1,q2,q3⟩:=kamu hs (qz s.size);have a:khj s 0=some b:=c;unfold kgn prV;rw [a,qa,q1,q2];generalize oneP.ev s 0=x at q1 q2 q3 ⊢;obtain ⟨_ | v,j⟩:=x;rfl
 ·simp only [qbq,qab,qd,qa];by_cases h:j<s.size;rw [qj h,kbd h];rfl
  ·rw [qg h,qb (show ¬ ((j:Int)<(s.size:Int)) by omega),qd,q3 v rfl]
theorem ky0 {v:Va} (h:kmw v):depV v<=1/\kjo 9223372036854775807 v:=by obtain ⟨t,n,s,l⟩:=v;obtain rfl:l=[]:=h.1;exact ⟨kqp fun y a=>(by cases a),by simp [kjo,ksq]⟩
theorem k93 {v:Va} (h1:v.items.length<=9223372036854775807) (h2:∀ x∈v.items,kjo 9223372036854775807 x):kjo 9223372036854775807 v:=by
 obtain ⟨t,n,s,l⟩:=v;have gen:∀ l:List Va,(∀ x∈l,kjo 9223372036854775807 x)->ksq 9223372036854775807 l:=fun l=>by
  induction l with
  | nil=>exact fun _=>trivial
  | cons y l ih=>exact fun h=>⟨h y (qt ..),ih fun z a=>h z (qn _ a)⟩
 exact ⟨h1,gen l h2⟩
theorem k13 {v:Va} (h:lstV v):depV v<=2/\kjo 9223372036854775807 v:=⟨kqp fun y a=>(ky0 (h.2.2 y a)).1,k93 (by have:=h.1;omega) fun x b=>(ky0 (h.2.2 x b)).2⟩
theorem kaab:oneP.all okV:=by
 have lf:∀ v,kmw v->okV v:=fun v h=>⟨by have:=(ky0 h).1;omega,(ky0 h).2⟩;have ls:∀ v,lstV v->okV v:=fun v h=>⟨by have:=(k13 h).1;omega,(k13 h).2⟩;have leaf0:∀ t n,okV (Va.mk t n ⟨#[]⟩ []):=fun t n=>lf _ ⟨rfl,qz _⟩;have lists:∀ (t e:Int) (elem:List Va->Pr Va),(∀ acc,(elem acc).all kmw)->((kbg e 0 elem 16 []).bind fun l => .done (Va.mk t 0 ⟨#[]⟩ l)).all okV:=fun t e elem b=>by
  refine khu (fun l hl=>?_) _ (kta (P:=kmw) (I:=fun l=>∀ x∈l,kmw x) (fun acc v ha hv x a=>?_) (fun _ _=>b _) 16 [] (by simp));show okV _;exact ls _ ⟨by have:=hl.2.2;simp at this;show l.length<=16;omega,qz _,hl.1⟩
  ·rcases qao.1 a with a | a;exact ha x a
   ·rw [qbf.1 a];exact hv
 unfold oneP;intro c;dsimp only
 repeat' split
 exact khu (P:=fun _=>True) (Q:=okV) (fun _ _=>by show okV _;exact leaf0 _ _) _ (kna _);exact khu (P:=fun _=>True) (Q:=okV) (fun _ _=>by show okV _;exact leaf0 _ _) _ (kna _);exact klz lf _ kyi;exact khu (P:=fun l=>1<=l.length/\l.length<=40) (Q:=okV) (fun l hl=>by show okV _;exact lf _ ⟨rfl,by rw [show (Va.mk 8 0 (toBA l) []).text=toBA l from rfl,khm];omega⟩) _ (k7f 1 40);exact lists 5 93 _ fun _=>k6i;exact lists 6 125 _ fun _=>kyi
 ·refine khu (fun l hl=>?_) _ (kta (P:=fun v=>lstV v/\1<=v.items.length/\v.items.length<=8) (I:=fun l=>InvR l/\∀ x∈l,lstV x) (fun acc v ha hv=>⟨k8f ha.1 hv.2,fun x a=>?_⟩) (fun acc h=>k6o h.1) 8 [] ⟨fun r h=>(by cases h),fun r h=>(by cases h)⟩);show okV _;refine ⟨by have:=kqp (x:=Va.mk 7 0 ⟨#[]⟩ l) (k:=2) fun y f=>(k13 (hl.1.2 y f)).1;omega,k93 (by have:=hl.2.2;simp at this;show l.length<=_;omega) fun x a=>(k13 (hl.1.2 x a)).2⟩
  ·rcases qao.1 a with a | a;exact ha.2 x a
   ·rw [qbf.1 a];exact hv.1
 ·intro d;dsimp only;split;exact khu (P:=fun _=>True) (Q:=okV) (fun _ _=>by show okV _;exact leaf0 _ _) _ (kna _)
  ·exact leaf0 _ _
 ·exact klz lf _ k6i
theorem kama (s:BA):okV (prV s).1:=by
 have z:okV (Va.mk 0 0 ⟨#[]⟩ []):=⟨by have:=kqp (x:=Va.mk 0 0 ⟨#[]⟩ []) (k:=0) fun y b=>(by cases b);omega,by simp [kjo,ksq]⟩;have:=kvl (s:=s) (a:=(prV s).1) oneP 0 kaab;unfold prV at this ⊢;rcases c:oneP.ev s 0 with ⟨_ | v,j⟩;exact z
 ·rw [c] at this;simp only;split;exact z
  ·simp only at this;rename_i h;rw [qg h] at this;exact this rfl
theorem k6g (s:BA):(oneP.ev s 0).2<=s.size:=(kph k41 (qz _)).2
theorem kadc (s:BA):(∃ v,oneP.ev s 0=(some v,s.size)/\prV s=(v,0,0))\/(prV s=(Va.mk 0 0 ⟨#[]⟩ [],((oneP.ev s 0).2:Int),8)/\((oneP.ev s 0).1=none\/(oneP.ev s 0).2<s.size)):=by
 have a:=k6g s;unfold prV;rcases b:oneP.ev s 0 with ⟨_ | v,j⟩;exact .inr ⟨rfl, .inl rfl⟩
 ·rw [b] at a;simp only at a ⊢;by_cases h:j<s.size;rw [qj h];exact .inr ⟨rfl, .inr h⟩
  ·rw [qg h];obtain rfl:j=s.size:=(by omega);exact .inl ⟨v,rfl,rfl⟩
theorem kalc {x:Va} (h:kir x):oneP.ev (mkB (kad x)) 0=(some x,(mkB (kad x)).size):=by have e1:=kvr (mkB (kad x)) oneP 0;have e2:=kaap h (m:=[]) ⟨.inl (by decide),by decide⟩;rw [qaz,kb9] at e1;rw [List.append_nil] at e2;rw [e2] at e1;have h1:=q9 Prod.fst e1;have h2:=q9 Prod.snd e1;simp only at h1 h2;have a:=k6g (mkB (kad x));have h3:=q9 List.length h2;rw [qau,qaf] at h3;rw [kb8] at a ⊢;exact Prod.ext h1.symm (by show _=(kad x).length;omega)
theorem k2n {x:Va} (h:kir x):kg8 (mkB (kad x))=some (x,0,0)/\okV x:=by
 have hl:=(kvm h 0 0).2.2;have a:=kalc h;have hp:prV (mkB (kad x))=(x,0,0):=by
  rcases kadc (mkB (kad x)) with ⟨v,hv,hp⟩ | ⟨hp,hv⟩;rw [a] at hv;cases hv;exact hp
  ·rw [a] at hv;rcases hv with hv | hv;cases hv
   ·exact absurd hv (Nat.lt_irrefl _)
 refine ⟨by rw [kqi (by rw [kb8];omega),hp],?_⟩;have:=kama (mkB (kad x));rw [hp] at this;exact this
end Go.Proofs.YtaimpcnpifoidaaGreatDoor
