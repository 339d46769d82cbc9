/- SpaceAll: the law returns true for every input where the listed tables hold what the program lays into them. -/
import Derived.Test.YtjbonbdomgoklaaGreatDoorDm
import Derived.Test.YtjbonbdomgoklaaGreatDoorSd
import Derived.Test.YtjbonbdomgoklaaGreatDoorSim
import Derived.Test.YtjbonbdomgoklaaGreatDoorProg
import Derived.Test.YtjbonbdomgoklaaGreatDoorRows
import Derived.Lib.LaidTab
import Derived.LaidLaws
import Derived.LaidHandle
import Derived.OpenShut
import Derived.ChangeSame
import Derived.ChangeMaps5
import Derived.JoinedOf
import Derived.Test.YtjbonbdomgoklaaGreatDoorCards
import Derived.Test.YtjbonbdomgoklaaGreatDoorTie
import Derived.SevenTiedAt
set_option linter.all false
namespace Go.Proofs.YtjbonbdomgoklaaGreatDoor
open Go Go.RowKit Go.Proofs.Tryz
theorem kv8 {α β:Type} {f g:α->List β}:∀ (l:List α),(∀ x∈l,f x=g x)->l.flatMap f=l.flatMap g
 | [],_=>rfl
 | x::l,h=>by rw [qb7,qb7,h x (qo ..),kv8 l fun y hy=>h y (qk _ hy)]
def kjp (V:Int->Nat->List Tm):List Int->Nat->List (List Tm)
 | [],n=>if n=0 then [[]] else []
 | a::ys,n=>(List.range (n+1)).flatMap fun k=>(V a k).flatMap fun t=>(kjp V ys (n - k)).map (t::·)
def tabD (l:La):Nat->Int->Nat->List Tm
 | 0=>fun _ _=>[]
 | n+1=>fun s k=>if k=n+1 then (List.range l.rules.length).flatMap (fun i=>if khh l i=s then (kjp (tabD l n) (kdp l i) n).map (Tm.mk (i:Int)) else []) else tabD l n s k
def dl (l:La) (s:Int) (k:Nat):List Tm:=tabD l k s k
theorem k8g (l:La) (s:Int):∀ (n k:Nat),tabD l n s k=if k<=n then dl l s k else []
 | 0,k=>by
  by_cases h:k=0;subst h;rw [ql (by omega)];rfl
  ·rw [qi (by omega)];rfl
 | n+1,k=>by
  by_cases h:k=n+1;subst h;rw [ql (by omega)];rfl
  ·show (if k=n+1 then _ else tabD l n s k)=_;rw [qi h,k8g l s n k];by_cases a:k<=n;rw [ql a,ql (by omega)]
   ·rw [qi a,qi (by omega)]
theorem kuh {V V':Int->Nat->List Tm}:∀ (ys:List Int) (n:Nat),(∀ a k,k<=n->V a k=V' a k)->kjp V ys n=kjp V' ys n
 | [],n,_=>rfl
 | a::ys,n,h=>by rw [kjp,kjp];refine kv8 _ fun k hk=>?_;rw [qa8] at hk;rw [h a k (by omega),kuh ys (n - k) fun b j c=>h b j (by omega)]
theorem kxq (l:La) (s:Int):dl l s 0=[]:=rfl
theorem kaja (l:La) (s:Int) (n:Nat):dl l s (n+1)=(List.range l.rules.length).flatMap (fun i=>if khh l i=s then (kjp (dl l) (kdp l i) n).map (Tm.mk (i:Int)) else []):=by
 unfold dl;show (if n+1=n+1 then _ else _)=_;rw [ql rfl];refine kv8 _ fun i _=>?_;split;rw [kuh (kdp l i) n fun a k hk=>by rw [k8g,ql hk]];rfl
 ·rfl
theorem mem_prodL {V:Int->Nat->List Tm} {a:Int} {ys:List Int} {n:Nat} {ts:List Tm}:ts∈kjp V (a::ys) n↔∃ t us k,ts=t::us/\k<=n/\t∈V a k/\us∈kjp V ys (n - k):=by
 rw [kjp];simp only [qay,qa8,qaa];constructor;rintro ⟨k,hk,t,ht,us,hu,rfl⟩;exact ⟨t,us,k,rfl,by omega,ht,hu⟩
 ·rintro ⟨t,us,k,rfl,hk,ht,hu⟩;exact ⟨k,by omega,t,ht,us,hu,rfl⟩
theorem mem_prodN {V:Int->Nat->List Tm} {n:Nat} {ts:List Tm}:ts∈kjp V [] n↔ts=[]/\n=0:=by
 rw [kjp];split;rename_i h;simp [h]
 ·rename_i h;simp [h]
theorem mem_dl {l:La} {s:Int} {n:Nat} {t:Tm}:t∈dl l s n↔∃ (i:Nat) (ts:List Tm) (m:Nat),n=m+1/\i<l.rules.length/\khh l i=s/\t=Tm.mk (i:Int) ts/\ts∈kjp (dl l) (kdp l i) m:=by
 cases n with
 | zero=>rw [kxq];simp
 | succ m=>
  rw [kaja];simp only [qay,qa8];constructor
  ·rintro ⟨i,hi,h⟩;split at h;rename_i hs;obtain ⟨ts,h1,rfl⟩:=qaa.1 h;exact ⟨i,ts,m,rfl,hi,hs,rfl,h1⟩
   ·simp at h
  ·rintro ⟨i,ts,m',hm,hi,hs,rfl,h⟩;obtain rfl:m'=m:=(by omega);exact ⟨i,hi,by rw [ql hs];exact qaa.2 ⟨ts,h,rfl⟩⟩
theorem k1s {V:Int->Nat->List Tm}:∀ (ys:List Int) (n:Nat) (ts:List Tm),(∀ a k t,t∈V a k->t.size=k)->ts∈kjp V ys n->Tm.sizeL ts=n/\ts.length=ys.length
 | [],n,ts,_,h=>by obtain ⟨rfl,rfl⟩:=mem_prodN.1 h;exact ⟨rfl,rfl⟩
 | a::ys,n,ts,b,h=>by obtain ⟨t,us,k,rfl,hk,ht,hu⟩:=mem_prodL.1 h;obtain ⟨h1,c⟩:=k1s ys (n - k) us b hu;rw [Tm.sizeL,b a k t ht,h1,qat,qat,c];exact ⟨by omega,rfl⟩
theorem k8w {l:La}:∀ (n:Nat) (s:Int) (t:Tm),t∈dl l s n->t.size=n:=by
 have key:∀ (N n:Nat),n<=N->∀ (s:Int) (t:Tm),t∈dl l s n->t.size=n:=by
  intro N
  induction N with
  | zero=>
   intro n hn s t h;obtain rfl:n=0:=(by omega);rw [kxq] at h;simp at h
  | succ N ih=>
   intro n hn s t h;obtain ⟨i,ts,m,rfl,hi,hs,rfl,hp⟩:=mem_dl.1 h;have b:ts∈kjp (fun a k=>if k<=N then dl l a k else []) (kdp l i) m:=(by rw [kuh (V':=dl l) (kdp l i) m fun a k hk=>ql (by omega)];exact hp);have:=(k1s _ m ts (fun a k t ht=>by
    split at ht;rename_i hk;exact ih k hk a t ht
    ·simp at ht) b).1
   rw [Tm.size,this]
 exact fun n=>key n n (qx _)
namespace SR
variable {R:Type} (S:SR R)
def lsum {α:Type} (f:α->R):List α->R
 | []=>S.zero
 | x::l=>S.add (f x) (lsum f l)
theorem lsum_append {α:Type} (f:α->R):∀ (xs ys:List α),S.lsum f (xs++ys)=S.add (S.lsum f xs) (S.lsum f ys)
 | [],ys=>(S.zero_add _).symm
 | x::xs,ys=>by rw [qb0,lsum,lsum,lsum_append f xs ys,S.add_assoc]
theorem lsum_map {α β:Type} (f:β->R) (g:α->β):∀ xs:List α,S.lsum f (xs.map g)=S.lsum (fun x=>f (g x)) xs
 | []=>rfl
 | x::xs=>by rw [qa2,lsum,lsum,lsum_map f g xs]
theorem lsum_mul {α:Type} (c:R) (f:α->R):∀ xs:List α,S.lsum (fun x=>S.mul c (f x)) xs=S.mul c (S.lsum f xs)
 | []=>(S.mul_zero c).symm
 | x::xs=>by rw [lsum,lsum,lsum_mul c f xs,S.mul_add]
theorem lsum_mulr {α:Type} (c:R) (f:α->R):∀ xs:List α,S.lsum (fun x=>S.mul (f x) c) xs=S.mul (S.lsum f xs) c
 | []=>(S.zero_mul c).symm
 | x::xs=>by rw [lsum,lsum,lsum_mulr c f xs,S.add_mul]
theorem lsum_flat {α β:Type} (f:β->R) (g:α->List β):∀ xs:List α,S.lsum f (xs.flatMap g)=S.lsum (fun x=>S.lsum f (g x)) xs
 | []=>rfl
 | x::xs=>by rw [qb7,S.lsum_append,lsum,lsum_flat f g xs]
theorem lsum_congr {α:Type} {f g:α->R}:∀ (xs:List α),(∀ x∈xs,f x=g x)->S.lsum f xs=S.lsum g xs
 | [],_=>rfl
 | x::xs,h=>by rw [lsum,lsum,h x (qo ..),lsum_congr xs fun y hy=>h y (qk _ hy)]
theorem lsum_range (f:Nat->R):∀ n,S.lsum f (List.range n)=S.sum f n
 | 0=>rfl
 | n+1=>by rw [qbg,S.lsum_append,lsum_range f n,lsum,lsum,S.add_zero,sum]
end SR
mutual
def wgT {R:Type} (S:SR R) (wt:Nat->R):Tm->R
 | .mk r ts=>S.mul (wt r.toNat) (wgL S wt ts)
def wgL {R:Type} (S:SR R) (wt:Nat->R):List Tm->R
 | []=>S.one
 | t::ts=>S.mul (wgT S wt t) (wgL S wt ts)
end
theorem k0g {R:Type} (S:SR R) (wt:Nat->R) {V:Int->Nat->List Tm} {U:Int->Nat->R}:∀ (ys:List Int) (n:Nat),(∀ a k,k<=n->S.lsum (wgT S wt) (V a k)=U a k)->S.lsum (wgL S wt) (kjp V ys n)=S.rr U ys n
 | [],n,_=>by
  rw [kjp,SR.rr];split;rw [SR.lsum,SR.lsum,S.add_zero,wgL]
  ·rfl
 | a::ys,n,h=>by rw [kjp,SR.rr,S.lsum_flat,S.lsum_range];refine S.sum_congr _ fun k hk=>?_;rw [S.lsum_flat,<- k0g S wt ys (n - k) fun b j c=>h b j (by omega),<- h a k (by omega),<- S.lsum_mulr];refine S.lsum_congr _ fun t _=>?_;rw [S.lsum_map,<- S.lsum_mul];exact S.lsum_congr _ fun us _=>by rw [wgL]
theorem kwn {R:Type} (S:SR R) (wt:Nat->R) (l:La):∀ (n:Nat) (s:Int) (k:Nat),S.lsum (wgT S wt) (tabD l n s k)=S.tab l.rules.length (khh l) (kdp l) wt n s k
 | 0,s,k=>rfl
 | n+1,s,k=>by
  show S.lsum (wgT S wt) (if k=n+1 then _ else tabD l n s k)=(if k=n+1 then _ else S.tab _ _ _ _ n s k);by_cases h:k=n+1
  ·rw [ql h,ql h,S.lsum_flat,S.lsum_range];refine S.sum_congr _ fun i hi=>?_;split
   ·rw [S.lsum_map,<- k0g S wt (kdp l i) n fun a k _=>kwn S wt l n a k,<- S.lsum_mul];exact S.lsum_congr _ fun ts _=>by rw [wgT,qah]
   ·rfl
  ·rw [qi h,qi h];exact kwn S wt l n s k
theorem kajj {R:Type} (S:SR R) (wt:Nat->R) (l:La) (s:Int) (k:Nat):S.lsum (wgT S wt) (dl l s k)=S.val l.rules.length (khh l) (kdp l) wt s k:=kwn S wt l k s k
theorem ktq {α:Type}:∀ (xs ys:List α),xs.Nodup->(∀ x∈xs,x∈ys)->xs.length<=ys.length
 | [],ys,_,_=>qao _
 | x::xs,ys,h,hs=>by
  obtain ⟨a,b,rfl⟩:=List.append_of_mem (hs x (qo ..));rw [List.nodup_cons] at h;have:=ktq xs (a++b) h.2 fun y hy=>by
   have h1:=hs y (qk _ hy);have c:y≠x:=fun e=>h.1 (e ▸ hy);simp only [qak,qan] at h1 ⊢;rcases h1 with h1 | h1 | h1;exact .inl h1;exact absurd h1 c
   ·exact .inr h1
  simp only [qac,qat] at this ⊢;omega
set_option maxRecDepth 100000
theorem k3x (a b:Tm):cmpT b a = -cmpT a b:=cmpT_ord.anti a b trivial
theorem k4e {a b c:Tm} (h:cmpT a b<0) (k:cmpT b c<0):cmpT a c<0:=by
 have h1:=cmpT_ord.trans a b c trivial trivial trivial (by omega) (by omega);by_cases h0:cmpT a c=0;have:=cmpT_eq0.1 h0;subst this;have:=k3x a b;omega
 ·omega
def SLt (xs:List Tm):Prop:=xs.Pairwise fun a b=>cmpT a b<0
theorem SLt.nodup {xs:List Tm} (h:SLt xs):xs.Nodup:=List.Pairwise.imp (fun {a b} c e=>by subst e;have:=cmpT_eq0.2 (rfl:a=a);omega) h
theorem SLt.len {xs X:List Tm} (h:SLt xs) (a:∀ u∈xs,u∈X):xs.length<=X.length:=ktq xs X h.nodup a
theorem k8t {xs:List Tm} (t:Tm) (hs:SLt xs) (x:∀ u∈xs,u.size<=1000) (ht:t.size<=1000) (hl:xs.length<=100000:=by omega):Ev (kdr xs t) fun r=>SLt r/\∀ u,u∈r↔u∈xs\/u=t:=by
 unfold kdr;have f:=List.pairwise_iff_getElem.1 hs;refine kc7 (Ev.mono (ksp (step:=kgo xs t) (Q:=fun v=>∃ n:Nat,v=(n:Int)/\n<=xs.length/\(∀ j (d:j<xs.length),n<=j->0<=cmpT xs[j] t)/\∀ j (d:j<xs.length),j<n->cmpT xs[j] t<0)
  (fun v=>∃ n:Nat,v=(n:Int)/\n<=xs.length/\∀ j (d:j<xs.length),n<=j->0<=cmpT xs[j] t) (fun v=>v.toNat) (by show (xs.length:Int).toNat<_;omega) ⟨xs.length,rfl,qx _,fun j d h=>by omega⟩ ?_) ?_)
 ·rintro v ⟨n,rfl,hn,h1⟩;by_cases h0:0<n
  ·have k:n - 1<xs.length:=(by omega);have e1:w64 ((n:Int) - 1)=((n - 1:Nat):Int):=(by rw [kas];omega);have e2:decide ((0:Int)<(n:Int))=true:=qj (by omega);simp only [kgo,e2,qd,e1,kaf,qb k,qa,kyb _ _ (x _ (qn k)) ht];by_cases o:0<=cmpT xs[n - 1] t
   ·rw [qj o,qd];refine ⟨_,rfl,⟨n - 1,rfl,by omega,fun j d z=>?_⟩,by show ((n - 1:Nat):Int).toNat<(n:Int).toNat;omega⟩;by_cases p:j=n - 1;subst p;exact o
    ·exact h1 j d (by omega)
   ·rw [qg o,qc];refine ⟨_,rfl,n,rfl,hn,h1,fun j d p=>?_⟩;by_cases s:j=n - 1;subst s;omega
    ·exact k4e (f j (n - 1) d k (by omega)) (by omega)
  ·obtain rfl:n=0:=(by omega);refine ⟨.inr 0,by simp only [kgo];rfl,0,rfl,by omega,h1,fun j d h=>by omega⟩
 ·rintro v ⟨n,rfl,hn,h1,o⟩;have q:(∀ c:n<xs.length,cmpT xs[n] t≠0)->SLt (xs.take n++[t]++xs.drop n)/\∀ u,u∈xs.take n++[t]++xs.drop n↔u∈xs\/u=t:=fun l=>by
   constructor
   ·unfold SLt;rw [qbi,List.pairwise_append];refine ⟨List.Pairwise.sublist (List.take_sublist _ _) hs,?_,fun a ha b m=>?_⟩
    ·rw [List.singleton_append,qca];refine ⟨fun b m=>?_,List.Pairwise.sublist (List.drop_sublist _ _) hs⟩;obtain ⟨j,d,rfl⟩:=qal.1 m;rw [qa3] at d;rw [List.getElem_drop];have c:n<xs.length:=(by omega);have y:cmpT t xs[n]<0:=(by have:=h1 n c (qx _);have:=l c;rw [k3x];omega);by_cases w:j=0;subst w;exact y
     ·exact k4e y (f n (n+j) c (by omega) (by omega))
    ·obtain ⟨i,hi,rfl⟩:=qal.1 ha;rw [qam] at hi;rw [List.getElem_take];rw [List.singleton_append] at m;rcases qan.1 m with rfl | m;exact o i (by omega) (by omega)
     ·obtain ⟨j,d,rfl⟩:=qal.1 m;rw [qa3] at d;rw [List.getElem_drop];exact f i (n+j) (by omega) (by omega) (by omega)
   ·intro u;have:u∈xs↔u∈xs.take n\/u∈xs.drop n:=(by rw [<- qak,List.take_append_drop]);rw [this];simp only [qak,qai];constructor
    ·rintro ((h | h) | h);exact .inl (.inl h);exact .inr h
     ·exact .inl (.inr h)
    ·rintro ((h | h) | h);exact .inl (.inl h);exact .inr h
     ·exact .inl (.inr h)
  have g:(∀ c:n<xs.length,cmpT xs[n] t≠0)->Ev (Option.bind (cutL xs 0 (n:Int)) fun v12=>Option.bind (app 32 ([]:List Tm) v12) fun v13=>Option.bind (app 32 v13 ([t]:List Tm)) fun v14=>Option.bind (cutL xs (n:Int) xs.length) fun v15=>Option.bind (app 32 v14 v15) fun v16=>some v16) (fun r=>SLt r/\∀ u,u∈r↔u∈xs\/u=t):=fun l=>by
   have e1:cutL xs 0 (n:Int)=some (xs.take n):=(by unfold cutL;rw [ql ⟨by omega,by omega,by omega⟩];simp);have e2:cutL xs (n:Int) xs.length=some (xs.drop n):=(by unfold cutL;rw [ql ⟨by omega,by omega,by omega⟩];simp);have c:(xs.take n).length<=n:=(by rw [qam];omega);rw [e1,qa,kcg (by simp only [qbx];omega),qa,List.nil_append,kcg (by simp only [qab];omega),qa,e2,qa,
    kcg (by simp only [qac,qab,qa3];omega),qa]
   exact ⟨_,rfl,q l⟩
  by_cases c:n<xs.length
  ·simp only [kao c,qd,kaf,qb c,qa,kyb _ _ (x _ (qn c)) ht];by_cases hc:cmpT xs[n] t=0;rw [show (cmpT xs[n] t == 0)=true by simp [hc],qd];have:=cmpT_eq0.1 hc;exact ⟨_,rfl,hs,fun u=>⟨fun h => .inl h,fun h=>h.elim id fun e=>by rw [e,<- this];exact qn c⟩⟩
   ·rw [show (cmpT xs[n] t == 0)=false by simp [hc],qc];exact g fun _=>hc
  ·have e1:decide ((n:Int)<(xs.length:Int))=false:=qg (by omega);simp only [e1,qc,qa];exact g fun h=>absurd h c
def Ch (L:List (List Tm)):List Int->List Tm->Prop
 | [],ts=>ts=[]
 | a::vs,ts=>∃ row t us,0<=a/\L[a.toNat]?=some row/\t∈row/\ts=t::us/\Ch L vs us
theorem k63 {L:List (List Tm)} {o:Opn} {X:List Tm} (I:X.length<=4096) (p:∀ u∈X,u.size<=1000) (H:∀ row∈L,row.length<=4096) (ho:o.yb.length<=24) (v:∀ a∈o.yb,0<=a/\a<(L.length:Int)):
  ∀ (n:Nat) (args:List Tm) (l:List Tm),args.length<=o.yb.length->o.yb.length - args.length<n->SLt l->(∀ u∈l,u∈X)->(∀ us,Ch L (o.yb.drop args.length) us->Tm.mk o.yd (args++us)∈X) ->
   Ev (kem n l o L args) fun r=>SLt r/\∀ u,u∈r↔u∈l\/∃ us,Ch L (o.yb.drop args.length) us/\u=Tm.mk o.yd (args++us)
 | 0,args,l,_,h,_,_,_=>by omega
 | n+1,args,l,ha,hn,hs,hl,hc=>by
  show Ev (kg6 (kem n) l o L args) _;unfold kg6;have J:=hs.len hl;have e0:decide ((4096:Int)<(l.length:Int))=false:=qg (by omega);simp only [e0,qc];by_cases e:args.length=o.yb.length
  ·have e1:((args.length:Int) == (o.yb.length:Int))=true:=(by simp [e]);simp only [e1,qd];rw [e,List.drop_length] at hc ⊢;have D:Tm.mk o.yd args∈X:=(by have:=hc [] rfl;rw [qby] at this;exact this);have w:=k8t (Tm.mk o.yd args) hs (fun u hu=>p u (hl u hu)) (p _ D);have y:Ev (kdr l (Tm.mk o.yd args)) fun r=>SLt r/\∀ u,u∈r↔u∈l\/∃ us,Ch L [] us/\u=Tm.mk o.yd (args++us):=Ev.mono w fun r ⟨h1,d⟩=>⟨h1,fun u=>by
    rw [d u];constructor
    ·rintro (h | h);exact .inl h
     ·exact .inr ⟨[],rfl,by rw [qby];exact h⟩
    ·rintro (h | ⟨us,rfl,h⟩);exact .inl h
     ·rw [qby] at h;exact .inr h⟩
   obtain ⟨r,hr,z⟩:=y;cases args with
   | nil=>
    simp only [List.isEmpty_nil,qd,hr,qa];exact ⟨r,rfl,z⟩
   | cons x args=>
    have e2:appN 32 ([]:List Tm) (x::args)=some (x::args):=(by unfold appN;rw [List.isEmpty_cons,qc,kcg (by simp only [qbx];omega)];rfl);simp only [List.isEmpty_cons,qc,e2,qa,hr];exact ⟨r,rfl,z⟩
  ·have e1:((args.length:Int) == (o.yb.length:Int))=false:=(by rw [qaw];omega);have q:args.length<o.yb.length:=(by omega);have E:=qb q;have f:=v _ (qn q);have F:∃ row,L[o.yb[args.length].toNat]?=some row:=⟨_,qb (by omega)⟩;obtain ⟨row,b⟩:=F;have A:idx L o.yb[args.length]=some row:=(by unfold idx;rw [ql f.1,b]);have K:=H row (qp b);have g:o.yb.drop args.length=o.yb[args.length]::o.yb.drop (args.length+1):=qav q;simp only [e1,qc,kaf,E,qa,A];refine kc7 (Ev.mono (kbo (xs:=row) (step:=kgm o L args (kem n) row) (fun (j:Nat) (c:List Tm)=>(c,(j:Int))) (fun j c=>SLt c/\(∀ u∈c,u∈X)/\∀ u,u∈c↔u∈l\/∃ t us,t∈row.take j/\Ch L (o.yb.drop (args.length+1)) us/\u=Tm.mk o.yd (args++(t::us)))
    (Q:=fun c=>SLt c/\∀ u,u∈c↔u∈l\/∃ us,Ch L (o.yb.drop args.length) us/\u=Tm.mk o.yd (args++us)) (t0:=l) (by omega) ⟨hs,hl,by simp⟩ (fun j c B ⟨c1,c2,c3⟩=>?_) (fun c ⟨c1,c2,c3⟩=>?_)) (fun c h=>⟨c,rfl,h⟩))
   ·have G:=qb B;have C:∀ us,Ch L (o.yb.drop (args.length+1)) us->Tm.mk o.yd (args++[row[j]]++us)∈X:=fun us hu=>(by rw [qbi];exact hc _ (by rw [g];exact ⟨row,row[j],us,f.1,b,qn B,rfl,hu⟩));have i:=k63 I p H ho v n (args++[row[j]]) c (by simp;omega) (by simp;omega) c1 c2 (by simp only [qac,qab];exact C);simp only [qac,qab] at i;obtain ⟨c',s,d1,d2⟩:=i;have k:SLt c'/\(∀ u∈c',u∈X)/\∀ u,u∈c'↔u∈l\/∃ t us,t∈row.take (j+1)/\Ch L (o.yb.drop (args.length+1)) us/\u=Tm.mk o.yd (args++(t::us)):=by
     refine ⟨d1,fun u hu=>?_,fun u=>?_⟩
     ·rcases (d2 u).1 hu with h | ⟨us,h,rfl⟩;exact c2 u h
      ·exact C us h
     ·rw [d2 u,c3 u,qae B];simp only [qak,qai];constructor
      ·rintro ((h | ⟨t,us,h1,d,m⟩) | ⟨us,h1,d⟩);exact .inl h;exact .inr ⟨t,us, .inl h1,d,m⟩
       ·exact .inr ⟨_,us, .inr rfl,h1,by rw [d,qbi];rfl⟩
      ·rintro (h | ⟨t,us,h1 | rfl,d,m⟩);exact .inl (.inl h);exact .inl (.inr ⟨t,us,h1,d,m⟩)
       ·exact .inr ⟨us,d,by rw [m,qbi];rfl⟩
    simp only [kgm,kao B,qd,kaf,G,qa,kak B (show row.length<=9223372036854775807 by omega)];have e3:appN 32 ([]:List Tm) [row[j]]=some [row[j]]:=(by unfold appN;rw [List.isEmpty_cons,qc,kcg (by simp)];rfl);cases args with
    | nil=>
     simp only [List.nil_append] at s;simp only [List.isEmpty_nil,qd,e3,qa,s];exact ⟨_,rfl,c',rfl,k⟩
    | cons x args=>
     have e2:appN 32 ([]:List Tm) (x::args)=some (x::args):=(by unfold appN;rw [List.isEmpty_cons,qc,kcg (by simp only [qbx];omega)];rfl);simp only [List.isEmpty_cons,qc,e2,qa];rw [kcg (by rw [qab];omega)];simp only [qa,s];exact ⟨_,rfl,c',rfl,k⟩
   ·refine ⟨_,by simp only [kgm,kan,qc],_,rfl,c1,fun u=>?_⟩;rw [c3 u,qar,g];constructor
    ·rintro (h | ⟨t,us,h1,d,m⟩);exact .inl h
     ·exact .inr ⟨t::us,⟨row,t,us,f.1,b,h1,rfl,d⟩,m⟩
    ·rintro (h | ⟨ts,⟨row',t,us,h0,h1,d,rfl,m⟩,M⟩);exact .inl h
     ·rw [b] at h1;cases h1;exact .inr ⟨t,us,d,m,M⟩
theorem kabv {ns:List Nod} {L:List (List Tm)} (c:∀ (k:Nat) (row:List Tm),L[k]?=some row->∀ t,t∈row↔Bt ns k t):∀ (vs:List Int) (ts:List Tm),(∀ a∈vs,0<=a/\a<(L.length:Int))->(Ch L vs ts↔Bts ns vs ts)
 | [],ts,_=>⟨fun h=>by cases h;exact .nil,fun h=>by cases h;rfl⟩
 | a::vs,ts,h=>by
  have ha:=h a (qo ..);have ih:=fun us=>kabv c vs us fun b d=>h b (qk _ d);constructor;rintro ⟨row,t,us,h0,h1,e,rfl,f⟩;exact .cons h0 ((c _ _ h1 t).1 e) ((ih us).1 f)
  ·intro d;cases d with
   | cons h0 ht hs=>
    have hr:L[a.toNat]?=some (L[a.toNat]'(by omega)):=qb _;exact ⟨_,_,_,h0,hr,(c _ _ hr _).2 ht,rfl,(ih _).2 hs⟩
def FewT (ns:List Nod):Prop:=∀ i,∃ X:List Tm,X.length<=4096/\(∀ u∈X,u.size<=1000)/\∀ t,Bt ns i t->t∈X
theorem k7x {s:Spa} {f p:Nat->Bool} (hf:kb6 s) (hk:krv s f p) (h:FewT s.ya):FewT (kb7 f p s).ya:=fun j=>by
 by_cases a:j<(kb7 f p s).ya.length;obtain ⟨i,n,_,_,_,h1⟩:=kach hf hk (qb a);obtain ⟨X,b,c,d⟩:=h i;exact ⟨X,b,c,fun t ht=>d t (h1 t ht)⟩
 ·exact ⟨[],by simp,by simp,fun t ht=>absurd (k01 ht) a⟩
theorem kacp {s:Spa} (hf:kb6 s) {L:List (List Tm)} {i:Nat} {n:Nod} (hn:s.ya[i]?=some n) (x:L.length=i) (w:∀ (k:Nat) (row:List Tm),L[k]?=some row->SLt row/\∀ t,t∈row↔Bt s.ya k t) (p:FewT s.ya) (v1:Spa×Int) (hv:v1.1=s) (v2:Int×List (List Tm)) (b:v2=((i:Int),L)):
  Ev (kac (ke9 v1 v2) fuel (([]:List Tm),0)) fun l=>SLt l/\l.length<=4096/\∀ t,t∈l↔Bt s.ya i t:=by
 subst hv b;have y:=olen hf hn;obtain ⟨X,x1,x2,x3⟩:=p i;have g:∀ row∈L,row.length<=4096:=fun row hr=>by obtain ⟨k,hk⟩:=qaz.1 hr;obtain ⟨h1,b⟩:=w k row hk;obtain ⟨Y,y1,_,y3⟩:=p k;exact qag (h1.len fun u hu=>y3 u ((b u).1 hu)) y1
 refine kbo (xs:=n.yc) (step:=ke9 v1 ((i:Int),L)) (fun (j:Nat) (c:List Tm)=>(c,(j:Int))) (fun j c=>SLt c/\∀ t,t∈c↔∃ o ts,o∈n.yc.take j/\Bts v1.1.ya o.yb ts/\t=Tm.mk o.yd ts) (by omega) ⟨List.Pairwise.nil,by simp⟩ (fun j c h ⟨c1,c2⟩=>?_) (fun c ⟨c1,c2⟩=>?_)
 ·have ho:=qb h;have hm:=qn h;have d:∀ a∈n.yc[j].yb,0<=a/\a<(L.length:Int):=fun a ha=>by have:=klf hf hn hm ha;omega
  have f:=kabv (fun k row hk=>(w k row hk).2) n.yc[j].yb;simp only [ke9,kaf,hn,ho,qa,kao h,qd,kak h (show n.yc.length<=9223372036854775807 by omega)];refine kc7 (Ev.mono (k63 (X:=X) x1 x2 g (kgt hf hn hm) d fuel [] c (by simp) (kfu (by have:=kgt hf hn hm;simp;omega)) c1 (fun u hu=>?_) (fun us hu=>?_)) fun r ⟨r1,r2⟩=>?_);obtain ⟨o,ts,h1,b,rfl⟩:=(c2 u).1 hu;exact x3 _ (.mk hn (qbd h1) b);have v:Ch L n.yc[j].yb us:=hu;rw [List.nil_append];exact x3 _ (.mk hn hm ((f us d).1 v))
  ·refine ⟨_,rfl,r,rfl,r1,fun t=>?_⟩;rw [r2 t,c2 t,qae h];simp only [qak,qai,qbx,List.drop_zero,List.nil_append];constructor
   ·rintro (⟨o,ts,h1,b,q⟩ | ⟨us,h1,b⟩);exact ⟨o,ts, .inl h1,b,q⟩
    ·exact ⟨_,us, .inr rfl,(f us d).1 h1,b⟩
   ·rintro ⟨o,ts,h1 | rfl,b,q⟩;exact .inl ⟨o,ts,h1,b,q⟩
    ·exact .inr ⟨ts,(f ts d).2 b,q⟩
 ·have e:∀ t,t∈c↔Bt v1.1.ya i t:=fun t=>by
   rw [c2 t,qar];constructor;rintro ⟨o,ts,h1,b,rfl⟩;exact .mk hn h1 b
   ·intro p;obtain ⟨m,o,ts,hm,ho,rfl,hs⟩:=p.inv;rw [hn] at hm;cases hm;exact ⟨o,ts,ho,hs,rfl⟩
  exact ⟨_,by simp only [ke9,kaf,hn,qa,kan,qc],_,rfl,c1,qag (c1.len fun u hu=>x3 u ((e u).1 hu)) x1,e⟩
theorem k30 {s:Spa} (hf:kb6 s) (H:FewT s.ya) {Y:List Tm} (I:Y.length<=4096) (w:∀ u∈Y,u.size<=1000) (A:∀ t,InS s t->t∈Y):Ev (kd3 s) fun r=>r.2=0/\SLt r.1/\∀ t,t∈r.1↔InS s t:=by
 unfold kd3;obtain ⟨v1,hv,B⟩:=kagb (ko8 hf);rcases B with ⟨h,_⟩ | ⟨_,f,p,hk,rfl⟩;exact absurd hf h;have e:=kxh hf hk;have C:=k7x hf hk H;have g:=k5a hf hk;generalize J:kb7 f p s=s' at *
 have K:=e.nodes;rw [hv,qa];show Ev (bif ((0:Int) != 0) then _ else _) _;rw [show ((0:Int) != 0)=false from rfl,qc];refine kc7 (Ev.mono (kbo (xs:=s'.ya) (step:=khc (s',0)) (fun (i:Nat) (L:List (List Tm))=>((i:Int),L)) (fun i L=>L.length=i/\∀ (k:Nat) (row:List Tm),L[k]?=some row->SLt row/\∀ t,t∈row↔Bt s'.ya k t)
  (Q:=fun r=>∃ L:List (List Tm),r = .inl L/\L.length=s'.ya.length/\∀ (k:Nat) (row:List Tm),L[k]?=some row->SLt row/\∀ t,t∈row↔Bt s'.ya k t) (t0:=[]) (by omega) ⟨rfl,by simp⟩ (fun i L hi ⟨l1,l2⟩=>?_) (fun L ⟨l1,l2⟩=>?_)) ?_)
 ·have hn:=qb hi;simp only [khc,kao hi,qd,kak hi (show s'.ya.length<=9223372036854775807 by omega)];refine kc7 (Ev.mono (kacp e hn l1 l2 C (s',0) rfl _ rfl) fun l ⟨g1,g2,g3⟩=>?_);have e1:decide ((4096:Int)<(l.length:Int))=false:=qg (by omega);simp only [e1,qc];rw [kcg (by rw [qab];omega),qa];refine ⟨_,rfl,_,rfl,by rw [qac,l1];rfl,fun k row hk=>?_⟩;by_cases D:k<L.length;rw [q9 D] at hk;exact l2 k row hk
  ·rw [qap (by omega)] at hk;have h0:k - L.length=0:=(by have:=(qh.1 hk).1;simpa using this);rw [h0] at hk;simp at hk;subst hk;have:k=i:=(by omega);subst this;exact ⟨g1,g3⟩
 exact ⟨_,by simp only [khc,kan,qc],_,rfl,L,rfl,l1,l2⟩
 ·rintro r ⟨L,rfl,l1,l2⟩;simp only [qy];have M:=kqt e.roots;have a:∀ t,InS s' t->t∈Y:=fun t ht=>A t ((g t).1 ht);refine kc7 (Ev.mono (kbo (xs:=s'.yg) (step:=kg8 (s',0) L) (fun (j:Nat) (c:List Tm)=>(c,(j:Int))) (fun j c=>SLt c/\∀ t,t∈c↔∃ r∈s'.yg.take j,0<=r/\Bt s'.ya r.toNat t) (Q:=fun c=>SLt c/\∀ t,t∈c↔InS s' t) (t0:=[]) (by omega) ⟨List.Pairwise.nil,by simp⟩ (fun j c q ⟨c1,c2⟩=>?_) (fun c ⟨c1,c2⟩=>?_)) ?_)
  ·have hr:=qb q;have o:=e.roots.1 _ (qn q);have n:L[s'.yg[j].toNat]?=some (L[s'.yg[j].toNat]'(by omega)):=qb _;have x:idx L s'.yg[j]=some (L[s'.yg[j].toNat]'(by omega)):=(by unfold idx;rw [ql o.1,n]);obtain ⟨k1,k2⟩:=l2 _ _ n;generalize L[s'.yg[j].toNat]'(by omega)=row at *
   have b:∀ t,Bt s'.ya s'.yg[j].toNat t->InS s' t:=fun t ht=>⟨_,qn q,o.1,ht⟩;have E:∀ u,(∃ r∈s'.yg.take j,0<=r/\Bt s'.ya r.toNat u)->u∈Y:=fun u ⟨r,h1,y,v⟩=>a u ⟨r,qbd h1,y,v⟩;have F:row.length<=4096:=qag (k1.len fun u hu=>a u (b u ((k2 u).1 hu))) I;simp only [kg8,kao q,qd,kaf,hr,x,qa,kak q (show s'.yg.length<=9223372036854775807 by omega)];refine kc7 (Ev.mono (kbo (xs:=row) (step:=kg4 row) (fun (m:Nat) (d:List Tm)=>(d,(m:Int))) (fun m d=>SLt d/\∀ t,t∈d↔t∈c\/t∈row.take m) (Q:=fun d=>SLt d/\∀ t,t∈d↔t∈c\/t∈row) (t0:=c) (by omega) ⟨c1,by simp⟩ (fun m d hm ⟨d1,d2⟩=>?_) (fun d ⟨d1,d2⟩=>?_)) ?_)
   ·have G:=qb hm;have z:∀ u∈d,u∈Y:=fun u hu=>by
     rcases (d2 u).1 hu with h | h;exact E u ((c2 u).1 h)
     ·exact a u (b u ((k2 u).1 (qbd h)))
    have N:=d1.len z;have e1:decide ((d.length:Int)<=4096)=true:=qj (by omega);simp only [kg4,kao hm,qd,e1,qa,kaf,G,kak hm (show row.length<=9223372036854775807 by omega)];refine kc7 (Ev.mono (k8t (row[m]) d1 (fun u hu=>w u (z u hu)) (w _ (a _ (b _ ((k2 _).1 (qn hm)))))) fun d' ⟨g1,g2⟩=>?_);refine ⟨_,rfl,d',rfl,g1,fun t=>?_⟩;rw [g2 t,d2 t,qae hm];simp only [qak,qai];exact or_assoc
   refine ⟨_,by simp only [kg4,kan,qc,qa],_,rfl,d1,?_⟩;rw [qar] at d2;exact d2
   ·rintro d ⟨d1,d2⟩;refine ⟨_,rfl,d,rfl,d1,fun t=>?_⟩;rw [d2 t,c2 t,k2 t,qae q];simp only [qak,qai];constructor
    ·rintro (⟨r,h1,y,v⟩ | h);exact ⟨r, .inl h1,y,v⟩
     ·exact ⟨_, .inr rfl,o.1,h⟩
    ·rintro ⟨r,h1 | rfl,y,v⟩;exact .inl ⟨r,h1,y,v⟩
     ·exact .inr v
  refine ⟨_,by simp only [kg8,kan,qc],_,rfl,c1,fun t=>?_⟩;rw [c2 t,qar];exact Iff.rfl
  ·rintro c ⟨c1,c2⟩;have hcl:=c1.len fun u hu=>a u ((c2 u).1 hu);have e1:decide ((4096:Int)<(c.length:Int))=false:=qg (by omega);rw [e1,qc];exact ⟨_,rfl,rfl,c1,fun t=>by rw [c2 t];exact g t⟩
def OpL (ns:List Nod):List Int->Int->List Int->Prop
 | [],left,vs=>left=0/\vs=[]
 | y::ys,left,vs=>∃ (i:Nat) (n:Nod) (us:List Int),vs=(i:Int)::us/\ns[i]?=some n/\n.yf=y/\n.ye<=left/\OpL ns ys (left - n.ye) us
def SzP (ns:List Nod):Prop:=∀ n∈ns,1<=n.ye/\n.ye<=24
theorem OpL.in {ns:List Nod}:∀ {ys:List Int} {left:Int} {vs:List Int},OpL ns ys left vs->vs.length=ys.length/\∀ a∈vs,0<=a/\a<(ns.length:Int)
 | [],_,_,⟨_,h⟩=>by subst h;exact ⟨rfl,by simp⟩
 | y::ys,_,_,⟨i,n,us,h1,b,_,_,c⟩=>by
  subst h1;obtain ⟨d,e⟩:=OpL.in c;refine ⟨by simp [d],fun a ha=>?_⟩;rcases qan.1 ha with rfl | ha;have:=ka8 b;omega
  ·exact e a ha
theorem kad4 (N k j:Nat) (h:j<=N):j*N ^ k<=N ^ (k+1):=by rw [Nat.pow_succ,Nat.mul_comm (N ^ k)];exact qa1 _ h
theorem kahq (t:Tm):wgT NS (fun _=>1) t=1:=by
 induction t using Tm.ind with
 | h r l ih=>
  rw [wgT];have:wgL NS (fun _=>1) l=1:=by
   induction l with
   | nil=>rfl
   | cons x l ih2=>
    rw [wgL,ih x (qo ..),ih2 fun t ht=>ih t (qk _ ht)];rfl
  rw [this];rfl
theorem k08 (l:La) (s:Int) (k:Nat):VN l s k=(dl l s k).length:=by
 have h:=kajj NS (fun _=>1) l s k;have key:∀ xs:List Tm,NS.lsum (wgT NS (fun _=>1)) xs=xs.length:=fun xs=>by
  induction xs with
  | nil=>rfl
  | cons x xs ih=>
   rw [SR.lsum,ih,kahq,qat];show 1+xs.length=_;omega
 rw [key] at h;exact h.symm
structure AInv (l:La) (K x:Nat) (ns:List Nod):Prop where
 node:∀ (i:Nat) (n:Nod),ns[i]?=some n->(∃ k:Nat,n.ye=(k:Int)/\1<=k/\k<=24/\(k<K\/(k=K/\n.yf<(x:Int))))/\0<=n.yf/\n.yf<(l.symbols.length:Int)/\(∀ o∈n.yc,∀ a∈o.yb,0<=a/\a<(i:Int))/\∀ t,Bt ns i t↔t∈dl l n.yf n.ye.toNat
 all:∀ (a k:Nat),a<l.symbols.length->(k<K\/(k=K/\a<x))->dl l (a:Int) k≠[]->∃ (i:Nat) (n:Nod),ns[i]?=some n/\n.yf=(a:Int)/\n.ye=(k:Int)
theorem kact {ns:List Nod} (ms:List Nod) (hc:∀ (i:Nat) (n:Nod),ns[i]?=some n->∀ o∈n.yc,∀ a∈o.yb,0<=a/\a<(i:Int)):∀ (t:Tm) (i:Nat),i<ns.length->(Bt (ns++ms) i t↔Bt ns i t):=by
 intro t
 induction t using Tm.ind with
 | h r l ih=>
  intro i hi;have hn:∀ n,(ns++ms)[i]?=some n↔ns[i]?=some n:=fun n=>by rw [q9 hi]
  constructor;intro h;obtain ⟨n,o,ts,h1,d,g,e⟩:=h.inv;injection g with b c;subst b c;have f:=(hn n).1 h1;refine .mk f d (Bts.of e.len fun j a t ha ht=>?_);obtain ⟨g1,g2⟩:=e.get j a t ha ht;have k:=hc i n f o d a (qp ha);exact ⟨g1,(ih t (qp ht) a.toNat (by omega)).1 g2⟩
  ·intro h;obtain ⟨n,o,ts,h1,d,g,e⟩:=h.inv;injection g with b c;subst b c;refine .mk ((hn n).2 h1) d (Bts.of e.len fun j a t ha ht=>?_);obtain ⟨g1,g2⟩:=e.get j a t ha ht;have k:=hc i n h1 o d a (qp ha);exact ⟨g1,(ih t (qp ht) a.toNat (by omega)).2 g2⟩
theorem kv7 {l:La} {K x:Nat} {ns:List Nod} (h:AInv l K x ns) {M:Nat} (q:M<K):∀ (ys:List Int) (m:Nat),m<=M->(∀ y∈ys,0<=y/\y<(l.symbols.length:Int))->∀ ts:List Tm,ts∈kjp (dl l) ys m↔∃ vs,OpL ns ys (m:Int) vs/\Bts ns vs ts
 | [],m,hm,_,ts=>by
  rw [mem_prodN];constructor;rintro ⟨rfl,rfl⟩;exact ⟨[],⟨rfl,rfl⟩, .nil⟩
  ·rintro ⟨vs,⟨h1,rfl⟩,b⟩;cases b;exact ⟨rfl,by omega⟩
 | y::ys,m,hm,hy,ts=>by
  have r:=hy y (qo ..);have c:=fun a ha=>hy a (qk y ha);rw [mem_prodL];constructor;rintro ⟨t,us,k,rfl,hk,ht,hu⟩;have j:dl l ((y.toNat:Nat):Int) k≠[]:=fun e=>(by rw [show ((y.toNat:Nat):Int)=y by omega] at e;rw [e] at ht;simp at ht);obtain ⟨i,n,h1,b,d⟩:=h.all y.toNat k (by omega) (.inl (by omega)) j;have f:=(h.node i n h1).2.2.2.2;obtain ⟨vs,o,s⟩:=(kv7 h q ys (m - k) (by omega) c us).1 hu;have p:Bt ns i t:=(f t).2 (by rw [b,d,qah,show ((y.toNat:Nat):Int)=y by omega];exact ht);refine ⟨(i:Int)::vs,⟨i,n,vs,rfl,h1,by rw [b];omega,by rw [d];omega,?_⟩, .cons (by omega) (by rw [qah];exact p) s⟩;rw [d,show (m:Int) - (k:Int)=((m - k:Nat):Int) by omega];exact o
  ·rintro ⟨vs,⟨i,n,us,rfl,h1,b,d,f⟩,p⟩;obtain ⟨⟨k,hk,u,v,_⟩,_,_,_,o⟩:=h.node i n h1;cases p with
   | @cons _ _ t ts h0 ht hs=>
    rw [qah] at ht;have g:=(o t).1 ht;rw [hk] at d f;rw [hk,qah,b] at g;refine ⟨t,ts,k,rfl,by omega,g,?_⟩;rw [show (m:Int) - (k:Int)=((m - k:Nat):Int) by omega] at f;exact (kv7 h q ys (m - k) (by omega) c ts).2 ⟨us,f,hs⟩
theorem AInv.push {l:La} (hg:khu l) {K x:Nat} {ns:List Nod} (h:AInv l K x ns) (hK:1<=K) (z:K<=24) (E:x<l.symbols.length) {os:List Opn} (ho:∀ o,o∈os↔∃ (r:Nat) (vs:List Int),r<l.rules.length/\khh l r=(x:Int)/\OpL ns (kdp l r) ((K:Int) - 1) vs/\o=⟨(r:Int),vs⟩):AInv l K (x+1) (ns++[⟨(x:Int),(K:Int),os⟩]):=by
 have hcl:∀ (i:Nat) (n:Nod),ns[i]?=some n->∀ o∈n.yc,∀ a∈o.yb,0<=a/\a<(i:Int):=fun i n hn=>(h.node i n hn).2.2.2.1;have c:=kact [⟨(x:Int),(K:Int),os⟩] hcl;have b:(ns++[⟨(x:Int),(K:Int),os⟩])[ns.length]?=some (⟨(x:Int),(K:Int),os⟩:Nod):=by simp
 have A:∀ o∈os,∀ a∈o.yb,0<=a/\a<(ns.length:Int):=fun o g a ha=>by obtain ⟨r,vs,_,_,d,rfl⟩:=(ho o).1 g;exact d.in.2 a ha
 have f:∀ (vs:List Int) (ts:List Tm),(∀ a∈vs,0<=a/\a<(ns.length:Int))->(Bts (ns++[⟨(x:Int),(K:Int),os⟩]) vs ts↔Bts ns vs ts):=fun vs ts hv=>by
  constructor;intro p;refine Bts.of p.len fun j a t ha ht=>?_;obtain ⟨g1,g2⟩:=p.get j a t ha ht;have:=hv a (qp ha);exact ⟨g1,(c t a.toNat (by omega)).1 g2⟩
  ·intro p;refine Bts.of p.len fun j a t ha ht=>?_;obtain ⟨g1,g2⟩:=p.get j a t ha ht;have:=hv a (qp ha);exact ⟨g1,(c t a.toNat (by omega)).2 g2⟩
 have q:∀ t,Bt (ns++[⟨(x:Int),(K:Int),os⟩]) ns.length t↔t∈dl l (x:Int) K:=fun t=>by
  rw [mem_dl];have s:∀ r,r<l.rules.length->∀ ts:List Tm,ts∈kjp (dl l) (kdp l r) (K - 1)↔∃ vs,OpL ns (kdp l r) ((K:Int) - 1) vs/\Bts ns vs ts:=fun r hr ts=>by obtain ⟨y,_,_,e,d⟩:=km4 l hr;have:=kv7 h (M:=K - 1) (by omega) (kdp l r) (K - 1) (qx _) (by rw [<- e];exact (hg.good y d).args) ts;rw [show ((K - 1:Nat):Int)=(K:Int) - 1 by omega] at this;exact this
  constructor;intro p;obtain ⟨n,o,ts,hn,g,rfl,hs⟩:=p.inv;rw [b] at hn;cases hn;obtain ⟨r,vs,h1,e,d,rfl⟩:=(ho o).1 g;exact ⟨r,ts,K - 1,by omega,h1,e,rfl,(s r h1 ts).2 ⟨vs,d,(f vs ts d.in.2).1 hs⟩⟩
  ·rintro ⟨r,ts,m,hm,h1,e,rfl,d⟩;obtain rfl:m=K - 1:=(by omega);obtain ⟨vs,w,B⟩:=(s r h1 ts).1 d;have u:(⟨(r:Int),vs⟩:Opn)∈os:=(ho _).2 ⟨r,vs,h1,e,w,rfl⟩;exact .mk (o:=⟨(r:Int),vs⟩) b u ((f vs ts w.in.2).2 B)
 refine ⟨fun i n hn=>?_,fun a k ha hk C=>?_⟩
 ·by_cases hi:i<ns.length;rw [q9 hi] at hn;obtain ⟨⟨k,g1,g2,g3,g4⟩,e,d,w,B⟩:=h.node i n hn;exact ⟨⟨k,g1,g2,g3,by omega⟩,e,d,w,fun t=>by rw [c t i hi];exact B t⟩
  ·have D:=ka8 hn;rw [qac,qab] at D;obtain rfl:i=ns.length:=(by omega);rw [b] at hn;cases hn;exact ⟨⟨K,rfl,hK,z, .inr ⟨rfl,by show (x:Int)<((x+1:Nat):Int);omega⟩⟩,by show (0:Int)<=(x:Int);omega,by show (x:Int)<_;omega,A,fun t=>by rw [q t];rfl⟩
 ·by_cases v:k=K/\a=x;obtain ⟨rfl,rfl⟩:=v;exact ⟨ns.length,_,b,rfl,rfl⟩
  ·obtain ⟨i,n,h1,e⟩:=h.all a k ha (by omega) C;exact ⟨i,n,by rw [q9 (ka8 h1)];exact h1,e⟩
theorem AInv.skip {l:La} {K x:Nat} {ns:List Nod} (h:AInv l K x ns) (c:dl l (x:Int) K=[]):AInv l K (x+1) ns:=
 ⟨fun i n hn=>by
  obtain ⟨⟨k,g1,g2,g3,g4⟩,d⟩:=h.node i n hn;exact ⟨⟨k,g1,g2,g3,by omega⟩,d⟩,fun a k ha hk b=>h.all a k ha (by
  by_cases e:k=K/\a=x;obtain ⟨rfl,rfl⟩:=e;exact absurd c b
  ·omega) b⟩
theorem AInv.next {l:La} {K:Nat} {ns:List Nod} (h:AInv l K l.symbols.length ns):AInv l (K+1) 0 ns:=⟨fun i n hn=>by obtain ⟨⟨k,g1,g2,g3,g4⟩,c⟩:=h.node i n hn;exact ⟨⟨k,g1,g2,g3,by omega⟩,c⟩,fun a k ha hk b=>h.all a k ha (by omega) b⟩
theorem k0d (a:Opn):kfh a a=0:=by unfold kfh;rw [qi (by simp),kt2]
theorem kajb (a b:Opn) (ha:a.yb.length<=9223372036854775807):kcr a b=some (kfh a b):=k9r a b ha
theorem kr0 {σ β:Type} {step:σ->Option (σ ⊕ β)} {s:σ} {b:β} (h:step s=some (.inr b)):kac step fuel s=some b:=
 kck _ 0 (fun _=>s) b (fun i hi=>by omega) h
theorem kaih:((List.range 1024).all fun n=>match kmq (wu64 (n:Int)) with | some v=>Nat.ble n 12 || v != 0 | none=>false)=true:=by kernel_rfl
theorem kakt {n:Nat} (h:n<1024):∃ v,kmq (wu64 (n:Int))=some v/\(12<n->(v == 0)=false):=by
 have h1:=qr.1 kaih n (qa8.2 h);split at h1
 ·rename_i v hv;refine ⟨v,hv,fun a=>?_⟩;rw [qb9] at h1;rcases h1 with h1 | h1;have:=qu h1;omega
  ·simpa using h1
 ·cases h1
def SrtO (os:List Opn):Prop:=os.Pairwise fun a b=>kfh a b<0
section
variable {os:List Opn} (hs:SrtO os) (ha:∀ o∈os,o.yb.length<=24) (hn:os.length<=100000)
include hs ha
theorem k91 {i j:Nat} (a:i<j) (b:j<os.length):kcr os[j] (os[i]'(by omega))=some (kfh os[j] (os[i]'(by omega)))/\decide (kfh os[j] (os[i]'(by omega))<0)=false:=by refine ⟨kajb _ _ (qag (ha _ (qn b)) (by omega)),qg fun h=>?_⟩;have c:kfh (os[i]'(by omega)) os[j]<0:=List.pairwise_iff_getElem.1 hs i j (by omega) b a;have:=kt8 c h;rw [k0d] at this;omega
theorem k2h {i j:Nat} (a:i<j) (b:j<os.length) (s:Int):kbq os (i:Int) (j:Int) s=some ((i:Int),(j:Int),s):=by obtain ⟨h1,c⟩:=k91 hs ha a b;unfold kbq;rw [kaf,qb b,qa,kaf,qb (show i<os.length by omega),qa,h1,qa,c,qc]
theorem k5d {i j k:Nat} (a:i<j) (b:j<k) (hk:k<os.length) (s:Int):kce os (i:Int) (j:Int) (k:Int) s=some ((j:Int),s):=by unfold kce;rw [k2h hs ha a (by omega),qa,k2h hs ha b hk,qa,k2h hs ha a (by omega),qa]
include hn
theorem k6o {i:Nat} (hi:0<i) (hk:i+1<os.length) (s:Int):ka2 os (i:Int) s=some ((i:Int),s):=by unfold ka2;rw [show w64 ((i:Int) - 1)=((i - 1:Nat):Int) by rw [kas];omega,show w64 ((i:Int)+1)=((i+1:Nat):Int) by rw [kas];omega,k5d hs ha (by omega) (by omega) hk,qa]
theorem kafz (h8:8<=os.length):∃ p,kch os 0 (os.length:Int)=some (p,1):=by
 have e0:w64 ((os.length:Int) - 0)=(os.length:Int):=by rw [kas];omega
 have eq:w64 (Int.tdiv (os.length:Int) 4)=((os.length / 4:Nat):Int):=by rw [show Int.tdiv (os.length:Int) 4=((os.length / 4:Nat):Int) by rw [Int.tdiv_eq_ediv_of_nonneg (by omega)];omega,kas]
 have em:∀ c:Nat,c<=3->w64 (0+w64 (((os.length / 4:Nat):Int)*(c:Int)))=((os.length / 4*c:Nat):Int):=fun c hc=>by have:os.length / 4*c<=os.length / 4*3:=Nat.mul_le_mul_left _ hc;rw [<- Int.natCast_mul,kas (n:=((os.length / 4*c:Nat):Int)),kas];omega
 have m1:=em 1 (by omega);have m2:=em 2 (by omega);have m3:=em 3 (by omega);unfold kch;rw [e0,eq,qj (show (8:Int)<=(os.length:Int) by omega),qd];simp only [Int.natCast_one] at m1;rw [show ((2:Nat):Int)=2 from rfl] at m2;rw [show ((3:Nat):Int)=3 from rfl] at m3;rw [m1,m2,m3];by_cases a:50<=os.length;rw [qj (show (50:Int)<=(os.length:Int) by omega),qd,k6o hs ha hn (by omega) (by omega),qa,k6o hs ha hn (by omega) (by omega),qa,k6o hs ha hn (by omega) (by omega),qa,qa];simp only;rw [k5d hs ha (by omega) (by omega) (by omega),qa,qa];exact ⟨_,rfl⟩
 ·rw [qg (show ¬ (50:Int)<=(os.length:Int) by omega),qc,qa];simp only;rw [k5d hs ha (by omega) (by omega) (by omega),qa,qa];exact ⟨_,rfl⟩
theorem kail {i:Nat} (hi:i+1<os.length):(Option.bind (idx os ((i+1:Nat):Int)) fun v3=>Option.bind (idx os (w64 (((i+1:Nat):Int) - 1))) fun v4=>Option.bind (kcr v3 v4) fun v5=>some (decide (v5<0)))=some false:=by obtain ⟨h1,a⟩:=k91 hs ha (show i<i+1 by omega) hi;rw [show w64 (((i+1:Nat):Int) - 1)=(i:Int) by rw [kas];omega,kaf,qb hi,qa,kaf,qb (show i<os.length by omega),qa,h1,qa,a]
theorem kal1:kb4 os 0 (os.length:Int)=some ():=by
 unfold kb4;have d:w64 ((0:Int)+1)=((0+1:Nat):Int):=by rw [kas];rfl
 rw [d];by_cases h0:os.length<=1;rw [kr0 (b:=()) (by simp only [kba];rw [qg (by omega),qc])];rfl
 ·have:=kck (kba os 0 (os.length:Int)) (os.length - 1) (fun i=>((i+1:Nat):Int)) () (fun i hi=>by
   have a:i+1<os.length:=(by omega);have hst:=kail hs ha hn a;have c:kac (kc0 os 0) fuel ((i+1:Nat):Int)=some ():=kr0 (by simp only [kc0];rw [qj (show (0:Int)<((i+1:Nat):Int) by omega),qd,hst,qa,qc]);simp only [kba];rw [qj (show ((i+1:Nat):Int)<(os.length:Int) by omega),qd,c,qa,show w64 (((i+1:Nat):Int)+1)=((i+1+1:Nat):Int) by rw [kas];omega]) (by
   simp only [kba];rw [qg (by omega),qc])
  rw [this];rfl
theorem kahw (h1:1<=os.length):kbk os 0 (os.length:Int)=some true:=by
 unfold kbk;have c:w64 ((0:Int)+1)=((0+1:Nat):Int):=by rw [kas];rfl
 rw [c];have b:=kck (kbb os (os.length:Int)) (os.length - 1) (fun i=>((i+1:Nat):Int)) (os.length:Int) (fun i hi=>by
   have a:i+1<os.length:=(by omega);obtain ⟨g1,g2⟩:=k91 hs ha (show i<i+1 by omega) a;simp only [kbb];rw [qj (show ((i+1:Nat):Int)<(os.length:Int) by omega),qd,show w64 (((i+1:Nat):Int) - 1)=(i:Int) by rw [kas];omega,kaf,qb a,qa,kaf,qb (show i<os.length by omega),qa,g1,qa,g2,qa,Bool.not_false,qd,show w64 (((i+1:Nat):Int)+1)=((i+1+1:Nat):Int) by rw [kas];omega]) (by
   simp only [kbb];rw [qg (by omega),qc,qa,qc,show (((os.length - 1+1:Nat):Int))=(os.length:Int) by omega])
 have hst:kbx os 0 (os.length:Int) (((0+1:Nat):Int),0)=some (.inr (.inr true)):=by simp only [kbx];rw [qj (show (0:Int)<5 by omega),qd,b,qa,show ((os.length:Int) == (os.length:Int))=true by simp,qd]
 rw [kr0 hst];rfl
theorem kame (hk:os.length<1024):kb8 os=some ():=by
 obtain ⟨v,hv,a⟩:=kakt hk;unfold kb8;rw [hv,qa];unfold kej;have e0:w64 ((os.length:Int) - 0)=(os.length:Int):=by rw [kas];omega
 have hst:kdu os (0,(os.length:Int),v,true,true)=some (.inr ()):=by
  simp only [kdu];rw [e0];by_cases b:os.length<=12;rw [qj (show (os.length:Int)<=12 by omega),qd,kal1 hs ha hn,qa]
  ·obtain ⟨p,hp⟩:=kafz hs ha hn (by omega);rw [qg (show ¬ (os.length:Int)<=12 by omega),qc,a (by omega),qc,qbc,qc,hp,qa];simp only;rw [show ((1:Int) == 2)=false from rfl,qc,qd,qd,show ((1:Int) == 1)=true from rfl,qa,qd,kahw hs ha hn (by omega),qa,qd,qa];rfl
 rw [kr0 hst];rfl
end
def Srt (xs:List (List Int)):Prop:=xs.Pairwise fun a b=>cmpI a b<0
theorem kak6 {a b:List Int} (h:cmpI a b<0) (k:cmpI b a<0):False:=by have:=kvq _ _ _ h k;rw [kt2] at this;omega
theorem kaca:∀ {xs ys:List (List Int)},Srt xs->Srt ys->(∀ a,a∈xs↔a∈ys)->xs=ys
 | [],[],_,_,_=>rfl
 | [],y::ys,_,_,h=>by have:=(h y).2 (qo ..);simp at this
 | x::xs,[],_,_,h=>by have:=(h x).1 (qo ..);simp at this
 | x::xs,y::ys,d,hy,h=>by
  obtain ⟨x1,x2⟩:=qca.1 d;obtain ⟨y1,y2⟩:=qca.1 hy;have e:x=y:=by
   rcases qan.1 ((h x).1 (qo ..)) with e | e;exact e
   ·rcases qan.1 ((h y).2 (qo ..)) with e' | e';exact e'.symm
    ·exact (kak6 (y1 x e) (x1 y e')).elim
  subst e;have c:∀ {zs:List (List Int)},(∀ b∈zs,cmpI x b<0)->x∉zs:=fun f hm=>by have:=f x hm;rw [kt2] at this;omega
  rw [kaca x2 y2 fun a=>?_];constructor
  ·intro ha;rcases qan.1 ((h a).1 (qk _ ha)) with e | e;subst e;exact (c x1 ha).elim
   ·exact e
  ·intro ha;rcases qan.1 ((h a).2 (qk _ ha)) with e | e;subst e;exact (c y1 ha).elim
   ·exact e
theorem kabt (a:Int) (xs ys:List Int):cmpI (a::xs) (a::ys)=cmpI xs ys:=by simp [cmpI]
theorem k3k {a b:Int} (h:a<b) (xs ys:List Int):cmpI (a::xs) (b::ys)<0:=by simp [cmpI,h]
theorem k90 {xs:List (List Int)} (h:Srt xs) (a:Int):Srt (xs.map (a::·)):=by unfold Srt;rw [List.pairwise_map];exact List.Pairwise.imp (fun {x y} b=>by rw [kabt];exact b) h
theorem k5n {f:Nat->List (List Int)} (hf:∀ i,Srt (f i)) (hl:∀ i j,i<j->∀ a∈f i,∀ b∈f j,cmpI a b<0):∀ n,Srt ((List.range n).flatMap f)
 | 0=>List.Pairwise.nil
 | n+1=>by rw [qbg,qbz,qb3];refine List.pairwise_append.2 ⟨k5n hf hl n,hf n,fun a ha b c=>?_⟩;obtain ⟨i,hi,ha⟩:=qay.1 ha;exact hl i n (qa8.1 hi) a ha b c
def opr (ns:List Nod):List Int->Int->List (List Int)
 | [],left=>if left=0 then [[]] else []
 | y::ys,left=>(List.range ns.length).flatMap fun i=>match ns[i]? with
  | some n=>if n.yf=y/\n.ye<=left then (opr ns ys (left - n.ye)).map ((i:Int)::·) else []
  | none=>[]
theorem kuq {ns:List Nod}:∀ (ys:List Int) (left:Int) (vs:List Int),vs∈opr ns ys left↔OpL ns ys left vs
 | [],left,vs=>by
  unfold opr OpL;by_cases h:left=0;rw [ql h,qai];exact ⟨fun e=>⟨h,e⟩,fun e=>e.2⟩
  ·rw [qi h];exact ⟨fun e=>by simp at e,fun e=>absurd e.1 h⟩
 | y::ys,left,vs=>by
  unfold opr OpL;rw [qay];constructor
  ·rintro ⟨i,hi,hv⟩;have hi:=qa8.1 hi;rw [qb hi] at hv;simp only at hv;split at hv;rename_i hc;obtain ⟨us,hu,rfl⟩:=qaa.1 hv;exact ⟨i,_,us,rfl,qb hi,hc.1,hc.2,(kuq ys _ us).1 hu⟩
   ·simp at hv
  ·rintro ⟨i,n,us,rfl,h1,a,b,c⟩;refine ⟨i,qa8.2 (ka8 h1),?_⟩;rw [h1];simp only;rw [ql ⟨a,b⟩];exact qaa.2 ⟨us,(kuq ys _ us).2 c,rfl⟩
theorem k2k {ns:List Nod}:∀ (ys:List Int) (left:Int),Srt (opr ns ys left)
 | [],left=>by
  unfold opr;split;exact List.pairwise_singleton ..
  ·exact List.Pairwise.nil
 | y::ys,left=>by
  unfold opr;refine k5n (fun i=>?_) (fun i j d a ha b e=>?_) _
  ·split
   ·split;exact k90 (k2k ys _) _
    ·exact List.Pairwise.nil
   ·exact List.Pairwise.nil
  ·have key:∀ (k:Nat) (c:List Int),c∈(match ns[k]? with | some n=>if n.yf=y/\n.ye<=left then (opr ns ys (left - n.ye)).map ((k:Int)::·) else [] | none=>[])->∃ us,c=(k:Int)::us:=fun k c hc=>by
    split at hc
    ·split at hc;obtain ⟨us,_,rfl⟩:=qaa.1 hc;exact ⟨us,rfl⟩
     ·simp at hc
    ·simp at hc
   obtain ⟨us,rfl⟩:=key i a ha;obtain ⟨ws,rfl⟩:=key j b e;exact k3k (by omega) _ _
theorem kzb {α:Type} {f:Nat->List α} {c:Nat} (h:∀ i,(f i).length<=c):∀ n,((List.range n).flatMap f).length<=n*c
 | 0=>by simp
 | n+1=>by rw [qbg,qbz,qb3,qac,qbj];have:=kzb h n;have:=h n;omega
theorem k8l {ns:List Nod} (a:ns.length<=192):∀ (ys:List Int) (left:Int),(opr ns ys left).length<=192 ^ ys.length
 | [],left=>by unfold opr;split <;> simp
 | y::ys,left=>by
  unfold opr;refine qag (kzb (c:=192 ^ ys.length) (fun i=>?_) _) (kad4 192 _ _ a);split
  ·split;rw [qs];exact k8l a ys _
   ·exact qao _
  ·exact qao _
def opv (G:Int->Nat->Int):List Int->Nat->List (List Int)
 | [],left=>if left=0 then [[]] else []
 | y::ys,left=>(List.range left).flatMap fun j=>if 0<=G y (j+1) then (opv G ys (left - (j+1))).map (G y (j+1)::·) else []
theorem k8r {G:Int->Nat->Int}:∀ (ys:List Int) (left:Nat),(opv G ys left).length<=2 ^ left
 | [],left=>by have:0<2 ^ left:=Nat.pow_pos (by omega);unfold opv;split <;> simp <;> omega
 | y::ys,left=>by
  unfold opv;have key:∀ n,n<=left->((List.range n).flatMap fun j=>if 0<=G y (j+1) then (opv G ys (left - (j+1))).map (G y (j+1)::·) else []).length+2 ^ (left - n)<=2 ^ left:=fun n=>by
   induction n with
   | zero=>intro _;simp
   | succ n ih=>
    intro hn;have h1:=ih (by omega);rw [qbg,qbz,qb3,qac];have a:(if 0<=G y (n+1) then (opv G ys (left - (n+1))).map (G y (n+1)::·) else []).length<=2 ^ (left - (n+1)):=by
     split;rw [qs];exact k8r ys _
     ·exact qao _
    have b:2 ^ (left - n)=2 ^ (left - (n+1))+2 ^ (left - (n+1)):=(by rw [show left - n=left - (n+1)+1 by omega,Nat.pow_succ];omega);omega
  exact qag (Nat.le_add_right _ _) (key left (qx _))
structure GRel (ns:List Nod) (G:Int->Nat->Int) (c:Nat) (M:Nat):Prop where
 to:∀ (y:Int) (k:Nat),0<=y->y<(c:Int)->1<=k->k<=M->0<=G y k->∃ n,ns[(G y k).toNat]?=some n/\n.yf=y/\n.ye=(k:Int)
 from_:∀ (i:Nat) (n:Nod) (k:Nat),ns[i]?=some n->n.ye=(k:Int)->k<=M->G n.yf k=(i:Int)
theorem k2i {ns:List Nod} {G:Int->Nat->Int} {c M:Nat} (d:GRel ns G c M) (f:SzP ns):∀ (ys:List Int) (left:Nat) (vs:List Int),left<=M->(∀ y∈ys,0<=y/\y<(c:Int))->(vs∈opv G ys left↔OpL ns ys (left:Int) vs)
 | [],left,vs,_,_=>by
  unfold opv OpL;by_cases h:left=0;rw [ql h,qai];exact ⟨fun e=>⟨by omega,e⟩,fun e=>e.2⟩
  ·rw [qi h];exact ⟨fun e=>by simp at e,fun e=>absurd e.1 (by omega)⟩
 | y::ys,left,vs,hl,hy=>by
  obtain ⟨y0,y1⟩:=hy y (qo ..);have b:=fun a ha=>hy a (qk y ha);unfold opv OpL;rw [qay];constructor
  ·rintro ⟨j,g,hv⟩;have g:=qa8.1 g;split at hv;rename_i hc;obtain ⟨us,hu,rfl⟩:=qaa.1 hv;obtain ⟨n,n1,n2,n3⟩:=d.to y (j+1) y0 y1 (by omega) (by omega) hc;refine ⟨(G y (j+1)).toNat,n,us,by rw [Int.toNat_of_nonneg hc],n1,n2,by omega,?_⟩;rw [show (left:Int) - n.ye=((left - (j+1):Nat):Int) by omega];exact (k2i d f ys _ us (by omega) b).1 hu
   ·simp at hv
  ·rintro ⟨i,n,us,rfl,h1,k,m,l⟩;obtain ⟨z1,z2⟩:=f n (qp h1);have e:=d.from_ i n n.ye.toNat h1 (by omega) (by omega);rw [k] at e;refine ⟨n.ye.toNat - 1,qa8.2 (by omega),?_⟩;rw [show n.ye.toNat - 1+1=n.ye.toNat by omega,e,ql (by omega)];refine qaa.2 ⟨us,(k2i d f ys _ us (by omega) b).2 ?_,rfl⟩;rw [show ((left - n.ye.toNat:Nat):Int)=(left:Int) - n.ye by omega];exact l
theorem k88 {ns:List Nod} {G:Int->Nat->Int} {c M:Nat} (e:GRel ns G c M) (hm:∀ (i j:Nat) (n m:Nod),i<=j->ns[i]?=some n->ns[j]?=some m->n.ye<=m.ye):∀ (ys:List Int) (left:Nat),left<=M->(∀ y∈ys,0<=y/\y<(c:Int))->Srt (opv G ys left)
 | [],left,_,_=>by
  unfold opv;split;exact List.pairwise_singleton ..
  ·exact List.Pairwise.nil
 | y::ys,left,hl,hy=>by
  obtain ⟨y0,y1⟩:=hy y (qo ..);have f:=fun a ha=>hy a (qk y ha);unfold opv;have d:∀ n,n<=left->Srt ((List.range n).flatMap fun j=>if 0<=G y (j+1) then (opv G ys (left - (j+1))).map (G y (j+1)::·) else []):=fun n=>by
   induction n with
   | zero=>intro _;exact List.Pairwise.nil
   | succ n ih=>
    intro hn;rw [qbg,qbz,qb3];refine List.pairwise_append.2 ⟨ih (by omega),?_,fun a ha b g=>?_⟩
    ·split;exact k90 (k88 e hm ys _ (by omega) f) _
     ·exact List.Pairwise.nil
    ·obtain ⟨i,hi,ha⟩:=qay.1 ha;have hi:=qa8.1 hi;split at ha
     ·rename_i c1;split at g
      ·rename_i c2;obtain ⟨us,_,rfl⟩:=qaa.1 ha;obtain ⟨ws,_,rfl⟩:=qaa.1 g;obtain ⟨n1,p1,p2,p3⟩:=e.to y (i+1) y0 y1 (by omega) (by omega) c1;obtain ⟨n2,q1,q2,q3⟩:=e.to y (n+1) y0 y1 (by omega) (by omega) c2;refine k3k ?_ _ _;by_cases h:(G y (i+1)).toNat<(G y (n+1)).toNat;omega
       ·have:=hm _ _ _ _ (by omega) q1 p1;omega
      ·simp at g
     ·simp at ha
  exact d left (qx _)
theorem kac8 {ns:List Nod} {G:Int->Nat->Int} {c M:Nat} (b:GRel ns G c M) (d:SzP ns) (hm:∀ (i j:Nat) (n m:Nod),i<=j->ns[i]?=some n->ns[j]?=some m->n.ye<=m.ye) {ys:List Int} (left:Nat) (hy:∀ y∈ys,0<=y/\y<(c:Int)) (hl:left<=M:=by omega):opv G ys left=opr ns ys (left:Int):=
 kaca (k88 b hm ys left hl hy) (k2k ys _) fun a=>by rw [k2i b d ys left a hl hy,kuq]
theorem k9d {rule:Int} {args:List Int} {a:Int} (xs:List (List Int)):(xs.map (a::·)).map (fun vs=>(⟨rule,args++vs⟩:Opn))=xs.map fun vs=>⟨rule,(args++[a])++vs⟩:=by rw [List.map_map];exact qbl fun vs _=>by simp
theorem k1n {ns:List Nod} (g:SzP ns) (u:ns.length<=192) {r:Ru} {rule:Int} (hr:r.args.length<=5):∀ (n:Nat) (args:List Int) (left:Int),args.length<=r.args.length->r.args.length - args.length<n->0<=left->left<=24 ->
  kcy n ns r rule args left=some ((opr ns (r.args.drop args.length) left).map fun vs=>⟨rule,args++vs⟩)
 | 0,args,left,_,h,_,_=>by omega
 | n+1,args,left,ha,hn,h0,v=>by
  show kfl (kcy n) ns r rule args left=_;unfold kfl;by_cases d:args.length=r.args.length
  ·have e1:((args.length:Int) == (r.args.length:Int))=true:=(by simp [d]);rw [e1,qd,d,List.drop_length];by_cases hl:left=0;rw [show (left != 0)=false by simp [hl],qc];simp [opr,hl]
   ·rw [show (left != 0)=true by simp [hl],qd];simp [opr,hl]
  ·have e1:((args.length:Int) == (r.args.length:Int))=false:=(by rw [qaw];omega);have k:args.length<r.args.length:=(by omega);have q:=qb k;have f:r.args.drop args.length=r.args[args.length]::r.args.drop (args.length+1):=qav k;have s:∀ left',(opr ns (r.args.drop (args.length+1)) left').length<=192 ^ 4:=fun left'=>qag (k8l u _ _) (Nat.pow_le_pow_right (by omega) (by rw [qa3];omega));rw [e1,qc,f];unfold opr;generalize m:(fun (i:Nat)=>match ns[i]? with | some n=>if n.yf=r.args[args.length]/\n.ye<=left then (opr ns (r.args.drop (args.length+1)) (left - n.ye)).map ((i:Int)::·) else [] | none=>[])=F
   have l:∀ i,(F i).length<=192 ^ 4:=fun i=>by
    subst m;simp only;split
    ·split;rw [qs];exact s _
     ·exact qao _
    ·exact qao _
   refine Ev.eq (kc7 (Ev.mono (kbo (xs:=ns) (step:=ke3 ns r rule args left (kcy n)) (fun (j:Nat) (c:List Opn)=>((j:Int),c)) (fun j c=>c=((List.range j).flatMap F).map fun vs=>⟨rule,args++vs⟩)
    (Q:=fun res=>res=((List.range ns.length).flatMap F).map fun vs=>⟨rule,args++vs⟩) (t0:=[]) (by omega) rfl (fun j c o hc=>?_) (fun c hc=>?_)) (fun c h=>⟨c,rfl,h⟩)))
   ·have hm:=qb o;have hs:=g _ (qn o);have hcl:c.length<=192*192 ^ 4:=(by rw [hc,qs];exact qag (kzb l j) (qa1 _ (by omega)));have a:((List.range (j+1)).flatMap F).map (fun vs=>(⟨rule,args++vs⟩:Opn))=c++(F j).map fun vs=>⟨rule,args++vs⟩:=(by rw [qbg,qbz,qb3,qax,hc]);simp only [ke3,kao o,qd,kaf,hm,q,qa,kak o (show ns.length<=9223372036854775807 by omega)];by_cases h1:ns[j].yf=r.args[args.length]
    ·rw [show (ns[j].yf == r.args[args.length])=true by simp [h1]];by_cases p:ns[j].ye<=left
     ·have e3:w64 (left - ns[j].ye)=left - ns[j].ye:=kas;have t:F j=(opr ns (r.args.drop (args.length+1)) (left - ns[j].ye)).map ((j:Int)::·):=(by subst m;simp only [hm];rw [ql ⟨h1,p⟩]);simp only [qd,qa,qj p,e3];have b:=k1n g u (rule:=rule) hr n (args++[(j:Int)]) (left - ns[j].ye) (by simp;omega) (by simp;omega) (by omega) (by omega);simp only [qac,qab] at b;rw [<- k9d,<- t] at b;have e:(c.length+((F j).map fun vs=>(⟨rule,args++vs⟩:Opn)).length)*(32+1)<=140737488355328:=(by have:=l j;rw [qs];omega);have e4:appN 8 ([]:List Int) [(j:Int)]=some [(j:Int)]:=(by unfold appN;rw [List.isEmpty_cons,qc,kcg (by simp)];rfl);cases args with
      | nil=>
       simp only [List.nil_append] at b;simp only [List.isEmpty_nil,qd,e4,qa,List.nil_append,b];rw [kcg (by simpa using e)];simp only [qa];exact ⟨_,rfl,_,rfl,by simpa using a.symm⟩
      | cons x args=>
       have e5:appN 8 ([]:List Int) (x::args)=some (x::args):=(by unfold appN;rw [List.isEmpty_cons,qc,kcg (by simp only [qbx];omega)];rfl);simp only [List.isEmpty_cons,qc,e5,qa];rw [kcg (by rw [qab];omega)];simp only [qa,b];rw [kcg e];simp only [qa];exact ⟨_,rfl,_,rfl,a.symm⟩
     ·simp only [qd,qa,qg p,qc];refine ⟨_,rfl,_,rfl,?_⟩;rw [a];subst m;simp only [hm];rw [qi (fun h=>p h.2)];simp
    ·rw [show (ns[j].yf == r.args[args.length])=false by simp [h1]];simp only [qc,qa];refine ⟨_,rfl,_,rfl,?_⟩;rw [a];subst m;simp only [hm];rw [qi (fun h=>h1 h.1)];simp
   ·exact ⟨.inr c,by simp only [ke3,kan,qc],c,rfl,hc⟩
theorem idxN {α:Type} {xs:List α} {a:Int} (h:0<=a):idx xs a=xs[a.toNat]?:=by rw [<- kaf,Int.toNat_of_nonneg h]
def gF (T:List (List Int)) (y:Int) (k:Nat):Int:=(((T[y.toNat]?).getD [])[k]?).getD (-1)
theorem kaez {α:Type} (F:Nat->List α) {j n:Nat} (h:j<=n):((List.range j).flatMap F).length<=((List.range n).flatMap F).length:=by
 induction n with
 | zero=>
   obtain rfl:j=0:=(by omega);exact qx _
 | succ n ih=>
  by_cases a:j=n+1;subst a;exact qx _
  ·refine qag (ih (by omega)) ?_;rw [qbg,qbz,qac];exact Nat.le_add_right _ _
theorem kaej (q:List Int):cut3 q 0 (q.length:Int) (q.length:Int)=some q:=by unfold cut3;rw [ql (by omega)];simp
theorem k9z {T:List (List Int)} {M:Nat} (e:∀ row∈T,row.length=M+1) {r:Ru} {rule:Int} (hr:r.args.length<=5) (hy:∀ y∈r.args,0<=y/\y<(T.length:Int)) (u:M<=24) {lim:Nat} (k:lim<=32768):∀ (n:Nat) (args:List Int) (left:Nat) (out:List Opn),args.length<=r.args.length->r.args.length - args.length<n->left<=M->out.length+(opv (gF T) (r.args.drop args.length) left).length<=lim ->
  kdz n args (left:Int) out (lim:Int) r rule T=some (out++(opv (gF T) (r.args.drop args.length) left).map fun vs=>⟨rule,args++vs⟩)
 | 0,args,left,out,_,h,_,_=>by omega
 | n+1,args,left,out,ha,hn,hl,ho=>by
  show kf5 (kdz n) args (left:Int) out (lim:Int) r rule T=_;unfold kf5;rw [qg (show ¬ (lim:Int)<(out.length:Int) by omega),qc];by_cases a:args.length=r.args.length
  ·have e1:((args.length:Int) == (r.args.length:Int))=true:=(by simp [a]);have e2:kij args=some args:=(by unfold kij;rw [kcg (by simp only [qbx];omega)];rfl);rw [e1,qd,a,List.drop_length];by_cases h0:left=0;subst h0;rw [show (((0:Nat):Int) == 0)=true from rfl,qd,e2,qa,kcg (by rw [qab];omega)];simp [opv]
   ·rw [show ((left:Int) == 0)=false by rw [qaw];omega,qc];simp [opv,h0]
  ·have e1:((args.length:Int) == (r.args.length:Int))=false:=(by rw [qaw];omega);have g:args.length<r.args.length:=(by omega);have m:=qb g;have b:r.args.drop args.length=r.args[args.length]::r.args.drop (args.length+1):=qav g;obtain ⟨y0,y1⟩:=hy _ (qn g);rw [b] at ho;rw [e1,qc,b];unfold opv at ho ⊢;generalize p:(fun (j:Nat)=>if 0<=gF T r.args[args.length] (j+1) then (opv (gF T) (r.args.drop (args.length+1)) (left - (j+1))).map (gF T r.args[args.length] (j+1)::·) else [])=F at ho ⊢;have i:(r.args[args.length]).toNat<T.length:=(by omega);have o:idx T r.args[args.length]=some T[(r.args[args.length]).toNat]:=(by rw [idxN y0,qb i]);have w:=e _ (qn i);have h:=ko9 (step:=kfi args (left:Int) (lim:Int) r rule T (kdz n)) (s0:=(1,out)) (Q:=fun res=>res=out++((List.range left).flatMap F).map fun vs=>⟨rule,args++vs⟩) left
    (fun j st=>st=(((j+1:Nat):Int),out++((List.range j).flatMap F).map fun vs=>⟨rule,args++vs⟩)) (by omega) (by simp) (fun j st x hst=>?_) (fun st hst=>?_)
   obtain ⟨v,hv,rfl⟩:=h;rw [hv,qa]
   ·subst hst;have hk:j+1<(T[(r.args[args.length]).toNat]).length:=(by omega);have hg:idx T[(r.args[args.length]).toNat] ((j+1:Nat):Int)=some (gF T r.args[args.length] (j+1)):=(by rw [kaf,qb hk];unfold gF;rw [qb i,qaf,qb hk,qaf]);have c:((List.range (j+1)).flatMap F).map (fun vs=>(⟨rule,args++vs⟩:Opn))=((List.range j).flatMap F).map (fun vs=>(⟨rule,args++vs⟩:Opn))++(F j).map fun vs=>⟨rule,args++vs⟩:=(by rw [qbg,qbz,qb3,qax]);have q:w64 (((j+1:Nat):Int)+1)=((j+1+1:Nat):Int):=(by rw [kas];omega);simp only [kfi];rw [qj (show ((j+1:Nat):Int)<=(left:Int) by omega),qd,kaf,m,qa,o,qa,hg,qa];have s:=kaez F (show j+1<=left by omega);by_cases d:0<=gF T r.args[args.length] (j+1);have l:F j=(opv (gF T) (r.args.drop (args.length+1)) (left - (j+1))).map (gF T r.args[args.length] (j+1)::·):=(by subst p;simp only;rw [ql d]);have e5:appN 8 args [gF T r.args[args.length] (j+1)]=some (args++[gF T r.args[args.length] (j+1)]):=(by unfold appN;rw [List.isEmpty_cons,qc,kcg (by rw [qab];omega)]);have t:((List.range (j+1)).flatMap F).length=((List.range j).flatMap F).length+(opv (gF T) (r.args.drop (args.length+1)) (left - (j+1))).length:=(by rw [qbg,qbz,qb3,qac,l,qs]);have f:=k9z e (rule:=rule) hr hy u k n (args++[gF T r.args[args.length] (j+1)]) (left - (j+1)) (out++((List.range j).flatMap F).map fun vs=>⟨rule,args++vs⟩) (by simp;omega) (by simp;omega) (by omega) (by rw [qac,qs,qac,qab];omega);rw [qac,qab,<- k9d,<- l] at f;rw [qj d,qd,kaej,qa,e5,qa,show w64 ((left:Int) - ((j+1:Nat):Int))=((left - (j+1):Nat):Int) by rw [kas];omega,f,qa,qa,q];exact ⟨_,rfl,by rw [c,qbi];rfl⟩
    ·rw [qg d,qc,qa,q];have:F j=[]:=(by subst p;simp only;rw [qi d]);exact ⟨_,rfl,by rw [c,this,List.map_nil,qby];rfl⟩
   ·subst hst;refine ⟨.inr _,?_,_,rfl,rfl⟩;simp only [kfi];rw [qg (show ¬ ((left+1:Nat):Int)<=(left:Int) by omega),qc]
theorem kaib (T:List (List Int)) {M:Nat} (a:∀ row∈T,row.length=M+1) (r:Ru) (rule:Int) (hr:r.args.length<=5) (hy:∀ y∈r.args,0<=y/\y<(T.length:Int)) (c:M<=24) (lim:Nat) (b:lim<=32768) {K:Nat} (hK:1<=K) (d:K<=M) (hl:(opv (gF T) r.args (K - 1)).length<=lim):
  kg1 T r rule (K:Int) (lim:Int)=some ((opv (gF T) r.args (K - 1)).map fun vs=>⟨rule,vs⟩):=by
 unfold kg1;rw [show w64 ((K:Int) - 1)=((K - 1:Nat):Int) by rw [kas];omega,k9z a hr hy c b fuel [] (K - 1) [] (by simp) (kfu (by simp;omega)) (by omega) (by simpa using hl),qa];simp
def oF (l:La) (ns:List Nod) (K r:Nat):List Opn:=(opr ns (kdp l r) ((K:Int) - 1)).map fun vs=>(⟨(r:Int),vs⟩:Opn)
def osL (l:La) (ns:List Nod) (x K:Nat):List Opn:=(plL l (x:Int) l.rules.length).flatMap (oF l ns K)
theorem plL_mem_iff {l:La} {s:Int} {n k:Nat}:k∈plL l s n↔k<n/\khh l k=s:=by unfold plL;rw [qa5,qa8,beq_iff_eq]
theorem kxr {l:La} {ns:List Nod} {x K:Nat} (o:Opn):o∈osL l ns x K↔∃ (r:Nat) (vs:List Int),r<l.rules.length/\khh l r=(x:Int)/\OpL ns (kdp l r) ((K:Int) - 1) vs/\o=⟨(r:Int),vs⟩:=by
 unfold osL oF;rw [qay];constructor;rintro ⟨r,hr,ho⟩;obtain ⟨h1,a⟩:=plL_mem_iff.1 hr;obtain ⟨vs,hv,rfl⟩:=qaa.1 ho;exact ⟨r,vs,h1,a,(kuq _ _ _).1 hv,rfl⟩
 ·rintro ⟨r,vs,h1,a,b,rfl⟩;exact ⟨r,plL_mem_iff.2 ⟨h1,a⟩,qaa.2 ⟨vs,(kuq _ _ _).2 b,rfl⟩⟩
theorem kabr {xs:List Nat} (d:xs.Pairwise (·<·)) {f:Nat->List Opn} (hf:∀ i,SrtO (f i)) (hl:∀ i j,i<j->∀ a∈f i,∀ b∈f j,kfh a b<0):SrtO (xs.flatMap f):=by
 induction xs with
 | nil=>exact List.Pairwise.nil
 | cons x xs ih=>
  obtain ⟨h1,e⟩:=qca.1 d;rw [qb7];refine List.pairwise_append.2 ⟨hf x,ih e,fun a ha b c=>?_⟩;obtain ⟨j,g,c⟩:=qay.1 c;exact hl x j (h1 j g) a ha b c
theorem k8u (l:La) (ns:List Nod) (x K:Nat):SrtO (osL l ns x K):=by
 refine kabr (List.Pairwise.filter _ List.pairwise_lt_range) (fun r=>?_) (fun i j d a ha b e=>?_);unfold oF SrtO;rw [List.pairwise_map];refine List.Pairwise.imp (fun {a b} c=>?_) (k2k (kdp l r) ((K:Int) - 1));exact cmpOp_lt.2 (.inr ⟨rfl,c⟩)
 ·obtain ⟨_,_,rfl⟩:=qaa.1 ha;obtain ⟨_,_,rfl⟩:=qaa.1 e;exact cmpOp_lt.2 (.inl (by show (i:Int)<(j:Int);omega))
theorem kw4 {xs:List Nat} {f:Nat->List Opn} (B:Nat) (h:∀ i∈xs,(f i).length<=B):(xs.flatMap f).length<=xs.length*B:=by
 induction xs with
 | nil=>simp
 | cons x xs ih=>
  rw [qb7,qac,qat,qbj];have:=h x (qo ..);have:=ih fun i hi=>h i (qk _ hi);omega
theorem kaij (l:La) (ns:List Nod) (x K B:Nat) (a:∀ r,r<l.rules.length->(opr ns (kdp l r) ((K:Int) - 1)).length<=B):(osL l ns x K).length<=l.rules.length*B:=
 qag (kw4 B fun r hr=>by unfold oF;rw [qs];exact a r (plL_mem_iff.1 hr).1) (qa1 _ (ku2 l _ _))
theorem ropts {l:La} (hg:khu l) {K:Nat} (x:Nat) (hK:1<=K) (h:K<=24) (ns:List Nod) (j:ns.length<=192) (f:SzP ns) (B c0:Nat) (k:∀ r,r<l.rules.length->(opr ns (kdp l r) ((K:Int) - 1)).length<=B) (s:c0+l.rules.length*B<=32768) (v4:Int×Int×List Nod) (m:v4.2.1=(K:Int)) (v5:Int×Int×List Nod) (n:v5.2.1=(x:Int)) (g:v5.2.2=ns):
  kac (kge l v4 v5) fuel ((c0:Int),0,([]:List Opn))=some (((c0+(osL l ns x K).length:Nat):Int),osL l ns x K):=by
 have o:=hg.rules;have a:∀ r,r<=l.rules.length->((plL l (x:Int) r).flatMap (oF l ns K)).length<=r*B:=fun r hr=>qag (kw4 B fun i hi=>by unfold oF;rw [qs];exact k i (by have:=(plL_mem_iff.1 hi).1;omega)) (qa1 _ (ku2 l _ _));refine kck (kge l v4 v5) l.rules.length (fun r=>(((c0+((plL l (x:Int) r).flatMap (oF l ns K)).length:Nat):Int),(r:Int),(plL l (x:Int) r).flatMap (oF l ns K))) _ (fun r hr=>?_) ?_
 ·obtain ⟨y,y0,y1,y2,y3⟩:=km4 l hr;have p:=a r (by omega);have c:=a (r+1) (by omega);have hm:(r+1)*B<=l.rules.length*B:=qa1 _ (by omega);have q:r*B<=(r+1)*B:=qa1 _ (by omega);have e1:decide (((c0+((plL l (x:Int) r).flatMap (oF l ns K)).length:Nat):Int)<=32768)=true:=qj (by omega);simp only [kge,kao hr,qd,e1,qa,kaf,y0,m,n,g,kak hr (show l.rules.length<=9223372036854775807 by omega)];rw [kzq,qbz] at c ⊢;by_cases hs:y.symbol=(x:Int);have d:(khh l r == (x:Int))=true:=(by rw [beq_iff_eq,<- y1];exact hs);rw [ql d,qb3] at c ⊢;rw [qac] at c;have e3:w64 ((K:Int) - 1)=(K:Int) - 1:=kas;have b:=k1n f j (rule:=(r:Int)) (hg.good y y3).few fuel [] ((K:Int) - 1) (by simp) (kfu (by have:=(hg.good y y3).few;simp;omega)) (by omega) (by omega);rw [qbx,List.drop_zero,y2] at b;have e:kcy fuel ns y (r:Int) [] ((K:Int) - 1)=some (oF l ns K r):=b;rw [show (y.symbol == (x:Int))=true by simp [hs],qd,e3,e];simp only [qa];rw [kcg (by omega)];simp only [qa];rw [show w64 (((c0+((plL l (x:Int) r).flatMap (oF l ns K)).length:Nat):Int)+((oF l ns K r).length:Int))=((c0+((plL l (x:Int) r).flatMap (oF l ns K)++oF l ns K r).length:Nat):Int) by rw [qac,kas];omega]
  ·have d:¬ (khh l r == (x:Int))=true:=(by rw [beq_iff_eq,<- y1];exact hs);rw [qi d,List.flatMap_nil,qby];rw [show (y.symbol == (x:Int))=false by simp [hs],qc];rfl
 ·simp only [kge,kan,qc,qa];rfl
theorem aopts {l:La} (hg:khu l) {K:Nat} (x:Nat) {M:Nat} (hK:1<=K) (n:K<=M) (w:M<=24) (ns:List Nod) {T:List (List Int)} (z:T.length=l.symbols.length) (d:∀ row∈T,row.length=M+1) (e:∀ r,r<l.rules.length->opv (gF T) (kdp l r) (K - 1)=opr ns (kdp l r) ((K:Int) - 1)) (J:ns.length<4096) (B tot:Nat) (u:∀ r,r<l.rules.length->(opr ns (kdp l r) ((K:Int) - 1)).length<=B) (L:tot+l.rules.length*B<=32768) (v10 v11:Int×Int×List (List Int)×List Nod×List Int) (o:v10.2.1=(K:Int)) (p:v11.2.2.1=T) (g:v11.2.2.2.1=ns):
  kac (kl7 l v10 v11 ((plL l (x:Int) l.rules.length).map natI)) fuel ((tot:Int),0,([]:List Opn))=some (.inl ((tot:Int),osL l ns x K)):=by
 have A:=hg.rules;generalize q:plL l (x:Int) l.rules.length=P;have C:P.length<=l.rules.length:=by rw [<- q];exact ku2 l _ _
 have j:∀ r∈P,r<l.rules.length:=fun r hr=>by rw [<- q] at hr;exact (plL_mem_iff.1 hr).1
 have b:∀ i,i<=P.length->((P.take i).flatMap (oF l ns K)).length<=i*B:=fun i hi=>by
  have:=kw4 (f:=oF l ns K) (xs:=P.take i) B fun r hr=>by unfold oF;rw [qs];exact u r (j r (qbd hr))
  rw [qam,qce hi] at this;exact this
 have s:osL l ns x K=(P.take P.length).flatMap (oF l ns K):=by unfold osL;rw [q,qar]
 rw [s];have h:=kck (kl7 l v10 v11 (P.map natI)) P.length (fun i=>((tot:Int),(i:Int),(P.take i).flatMap (oF l ns K))) (.inl ((tot:Int),(P.take P.length).flatMap (oF l ns K))) (fun i hi=>?_) ?_;simpa using h
 ·have hr:=j _ (qn hi);obtain ⟨y,y0,y1,y2,y3⟩:=km4 l hr;have c:=b (i+1) (by omega);have D:=b i (by omega);have hm:(i+1)*B<=l.rules.length*B:=qa1 _ (by omega);have E:i*B<=(i+1)*B:=qa1 _ (by omega);have F:=u _ hr;have G:1*B<=l.rules.length*B:=qa1 _ (by omega);have k:=kaib T d y (P[i]:Int) (hg.good y y3).few (fun a ha=>by rw [z];exact (hg.good y y3).args a ha) w (32768 - tot) (by omega) hK n (by rw [y2,e _ hr];omega);rw [y2,e _ hr] at k;have m:kg1 T y (P[i]:Int) (K:Int) ((32768 - tot:Nat):Int)=some (oF l ns K P[i]):=k;have H:(P.map natI)[i]?=some (P[i]:Int):=by rw [qq,qb hi];rfl
  have t:P.take (i+1)=P.take i++[P[i]]:=(List.take_append_getElem hi).symm;rw [t,qbz,qb3] at c ⊢;have v:((P.take i).flatMap (oF l ns K)).length+(oF l ns K P[i]).length<=(i+1)*B:=by rw [qac] at c;exact c
  have I:(((P.take i).flatMap (oF l ns K))++oF l ns K P[i]).length<=32768 - tot:=by omega
  have e2:w64 ((tot:Int)+((((P.take i).flatMap (oF l ns K))++oF l ns K P[i]).length:Int))=((tot+(((P.take i).flatMap (oF l ns K))++oF l ns K P[i]).length:Nat):Int):=by rw [kas];omega
  simp only [kl7,qs,kao hi,qd,kaf,H,qa,y0,o,p,g,kak hi (show P.length<=9223372036854775807 by omega)];rw [show w64 (32768 - (tot:Int))=((32768 - tot:Nat):Int) by rw [kas];omega,m];simp only [qa];rw [kcg (by omega)];simp only [qa,e2];rw [qg (by omega),qc,show ((ns.length:Int) == 4096)=false by rw [qaw];omega];simp only [qa,qc];rw [show w64 (((tot+(((P.take i).flatMap (oF l ns K))++oF l ns K P[i]).length:Nat):Int) - ((((P.take i).flatMap (oF l ns K))++oF l ns K P[i]).length:Int))=(tot:Int) by rw [kas];omega]
 ·simp only [kl7,qs,kan,qc]
theorem kuf (xs ys:List Nod):optN (xs++ys)=optN xs+optN ys:=by unfold optN;rw [qax,qb4]
theorem k2t {l:La} {s k:Int} (a:1<=k) (b:k<=24) (h0:0<=s:=by omega) (h1:s<(l.symbols.length:Int):=by omega):errC l 0 s k=0:=by unfold errC badQ;rw [qi (by simp),qg (by omega),qg (by omega),qg (by omega),qg (by omega)];rfl
theorem k02 {n:Nat} (h:n<=1000:=by omega):ansC n=((n:Int),0):=by
 have e:en n=(n:Int):=by unfold en;omega
 unfold ansC;rw [e,qi (by omega)]
theorem AInv.sz {l:La} {K x:Nat} {ns:List Nod} (h:AInv l K x ns):SzP ns:=fun n hn=>by obtain ⟨i,hi⟩:=qaz.1 hn;obtain ⟨⟨k,h1,a,b,_⟩,_⟩:=h.node i n hi;omega
theorem k6y {ns ms:List Nod} {a:Int} (h0:0<=a) (h:a<(ns.length:Int)):szAt (ns++ms) a=szAt ns a:=by unfold szAt;rw [q9 (by omega)]
theorem k69 {ns ms:List Nod} {a:Int} (h0:0<=a) (h:a<(ns.length:Int)):syAt (ns++ms) a=syAt ns a:=by unfold syAt;rw [q9 (by omega)]
theorem OpL.sum {ns:List Nod}:∀ {ys:List Int} {left:Int} {vs:List Int},OpL ns ys left vs->(vs.map (szAt ns)).sum=left/\vs.map (syAt ns)=ys
 | [],_,_,⟨h,e⟩=>by subst e;exact ⟨by simp [h],rfl⟩
 | y::ys,_,_,⟨i,n,us,h1,a,b,_,c⟩=>by
  subst h1;obtain ⟨d,f⟩:=OpL.sum c;have e1:szAt ns (i:Int)=n.ye:=by unfold szAt;rw [qah,a];rfl
  have e2:syAt ns (i:Int)=n.yf:=by unfold syAt;rw [qah,a];rfl
  refine ⟨?_,?_⟩;rw [qa2,List.sum_cons,e1,d];omega
  ·rw [qa2,e2,b,f]
structure NInv (l:La) (K x:Nat) (ns:List Nod):Prop where
 ainv:AInv l K x ns
 len:ns.length<=8*(K - 1)+x
 ord:∀ (i j:Nat) (n m:Nod),i<j->ns[i]?=some n->ns[j]?=some m->n.ye<m.ye\/(n.ye=m.ye/\n.yf<m.yf)
 node:∀ (i:Nat) (n:Nod),ns[i]?=some n->NodP ns i n
 rul:∀ (i:Nat) (n:Nod) (o:Opn),ns[i]?=some n->o∈n.yc->∃ r:Nat,r<l.rules.length/\o.yd=(r:Int)/\khh l r=n.yf/\o.yb.map (syAt ns)=kdp l r
 cnt:optN ns<=640*ns.length
theorem NInv.mono {l:La} {K x:Nat} {ns:List Nod} (h:NInv l K x ns) (i j:Nat) (n m:Nod) (b:i<=j) (h1:ns[i]?=some n) (a:ns[j]?=some m):n.ye<=m.ye:=by
 by_cases e:i=j;subst e;rw [h1] at a;cases a;omega
 ·have:=h.ord i j n m (by omega) h1 a;omega
theorem NInv.uniq {l:La} {K x:Nat} {ns:List Nod} (h:NInv l K x ns) {i j:Nat} {n m:Nod} (h1:ns[i]?=some n) (c:ns[j]?=some m) (e1:n.yf=m.yf) (e2:n.ye=m.ye):i=j:=by
 rcases Nat.lt_trichotomy i j with a | e | b;have:=h.ord i j n m a h1 c;omega;exact e
 ·have:=h.ord j i m n b c h1;omega
theorem NodP.app {ns ms:List Nod} {i:Nat} {n:Nod} (h:NodP ns i n) (hi:i<ns.length):NodP (ns++ms) i n:=
 ⟨h.sym,h.size,fun o ho=>by have b:=h.opt o ho;refine ⟨b.rule,b.args,?_⟩;rw [<- b.size];congr 2;exact qbl fun a ha=>by have:=b.args a ha;exact k6y (by omega) (by omega),h.asc⟩
theorem NInv.push {l:La} (hg:khu l) {K x:Nat} {ns:List Nod} (h:NInv l K x ns) (hK:1<=K) (q:K<=24) (v:x<l.symbols.length) (w:(osL l ns x K).length<=640):NInv l K (x+1) (ns++[⟨(x:Int),(K:Int),osL l ns x K⟩]):=by
 have d:(ns++[⟨(x:Int),(K:Int),osL l ns x K⟩])[ns.length]?=some (⟨(x:Int),(K:Int),osL l ns x K⟩:Nod):=by simp
 have b:∀ (i:Nat) (n:Nod),(ns++[⟨(x:Int),(K:Int),osL l ns x K⟩])[i]?=some n->(i<ns.length/\ns[i]?=some n)\/(i=ns.length/\n=⟨(x:Int),(K:Int),osL l ns x K⟩):=fun i n hn=>by
  by_cases hi:i<ns.length;rw [q9 hi] at hn;exact .inl ⟨hi,hn⟩
  ·have s:=ka8 hn;rw [qac,qab] at s;obtain rfl:i=ns.length:=(by omega);rw [d] at hn;cases hn;exact .inr ⟨rfl,rfl⟩
 refine ⟨h.ainv.push hg hK q v kxr,by rw [qac,qab];have:=h.len;omega,fun i j n m t hn hm=>?_,fun i n hn=>?_,fun i n o hn ho=>?_,?_⟩
 ·rcases b i n hn with ⟨hi,hn⟩ | ⟨rfl,rfl⟩
  ·rcases b j m hm with ⟨y,hm⟩ | ⟨rfl,rfl⟩;exact h.ord i j n m t hn hm
   ·obtain ⟨⟨k,k1,k2,k3,k4⟩,_⟩:=h.ainv.node i n hn;show n.ye<(K:Int)\/(n.ye=(K:Int)/\n.yf<(x:Int));omega
  ·rcases b j m hm with ⟨y,hm⟩ | ⟨rfl,rfl⟩;omega
   ·omega
 ·rcases b i n hn with ⟨hi,hn⟩ | ⟨rfl,rfl⟩;exact (h.node i n hn).app hi
  ·refine ⟨by show (0:Int)<=(x:Int);omega,by show (1:Int)<=(K:Int)/\(K:Int)<=24;omega,fun o ho=>?_,fun k o p ho hp=>?_⟩;obtain ⟨r,vs,h1,g,f,rfl⟩:=(kxr o).1 ho;have c:=f.in.2;refine ⟨by show (0:Int)<=(r:Int);omega,c,?_⟩;show 1+(vs.map (szAt _)).sum=(K:Int);rw [qbl fun a ha=>k6y (ms:=[⟨(x:Int),(K:Int),osL l ns x K⟩]) (c a ha).1 (c a ha).2,f.sum.1];omega
   ·obtain ⟨hk,rfl⟩:=qh.1 ho;obtain ⟨u,rfl⟩:=qh.1 hp;exact List.pairwise_iff_getElem.1 (k8u l ns x K) k (k+1) hk u (by omega)
 ·rcases b i n hn with ⟨hi,hn⟩ | ⟨rfl,rfl⟩
  ·obtain ⟨r,h1,g,f,z⟩:=h.rul i n o hn ho;refine ⟨r,h1,g,f,?_⟩;rw [<- z];have:=((h.node i n hn).opt o ho).args;exact qbl fun a ha=>by have:=this a ha;exact k69 (by omega) (by omega)
  ·obtain ⟨r,vs,h1,g,f,rfl⟩:=(kxr o).1 ho;have c:=f.in.2;refine ⟨r,h1,rfl,g,?_⟩;show vs.map (syAt _)=_;rw [qbl fun a ha=>k69 (ms:=[⟨(x:Int),(K:Int),osL l ns x K⟩]) (c a ha).1 (c a ha).2,f.sum.2]
 ·rw [kuf,qac,qab];have:=h.cnt;have e:optN [⟨(x:Int),(K:Int),osL l ns x K⟩]=(osL l ns x K).length:=by unfold optN;simp
  omega
theorem NInv.skip {l:La} {K x:Nat} {ns:List Nod} (h:NInv l K x ns) (a:dl l (x:Int) K=[]):NInv l K (x+1) ns:=
 ⟨h.ainv.skip a,by have:=h.len;omega,h.ord,h.node,h.rul,h.cnt⟩
theorem NInv.next {l:La} {K:Nat} {ns:List Nod} (hK:1<=K) (h8:l.symbols.length<=8) (h:NInv l K l.symbols.length ns):NInv l (K+1) 0 ns:=
 ⟨h.ainv.next,by have:=h.len;omega,h.ord,h.node,h.rul,h.cnt⟩
def gC (ns:List Nod) (y:Int) (k:Nat):Int:=match (List.range ns.length).find? fun (i:Nat)=>syAt ns (i:Int) == y && szAt ns (i:Int) == (k:Int) with
 | some i=>(i:Int)
 | none => -1
theorem kks {ns:List Nod} {i:Nat} (h:i<ns.length):syAt ns (i:Int)=ns[i].yf/\szAt ns (i:Int)=ns[i].ye:=by unfold syAt szAt;rw [qah,qb h];exact ⟨rfl,rfl⟩
theorem NInv.grel {l:La} {K x:Nat} {ns:List Nod} (h:NInv l K x ns) (c M:Nat):GRel ns (gC ns) c M:=by
 refine ⟨fun y k _ _ _ _ hg=>?_,fun i n k hn hs _=>?_⟩
 ·unfold gC at hg ⊢;split at hg;rename_i j a;have h1:=List.find?_some a;have b:=qa8.1 (List.mem_of_find?_eq_some a);rw [qv,beq_iff_eq,beq_iff_eq,(kks b).1,(kks b).2] at h1;exact ⟨ns[j],by rw [qah];exact qb b,h1.1,h1.2⟩
  ·exact absurd hg (by decide)
 ·obtain ⟨hi,rfl⟩:=qh.1 hn;unfold gC;split;rename_i j a;have h1:=List.find?_some a;have b:=qa8.1 (List.mem_of_find?_eq_some a);rw [qv,beq_iff_eq,beq_iff_eq,(kks b).1,(kks b).2] at h1;rw [h.uniq (qb b) hn h1.1 (by rw [h1.2,hs])]
  ·rename_i a;exfalso;have:=List.find?_eq_none.1 a i (qa8.2 hi);rw [(kks hi).1,(kks hi).2,hs] at this;simp at this
theorem NInv.opr_le {l:La} (hg:khu l) {K x:Nat} {ns:List Nod} (h:NInv l K x ns) (hK:1<=K) (a:K<=6) {r:Nat} (hr:r<l.rules.length):(opr ns (kdp l r) ((K:Int) - 1)).length<=32:=by obtain ⟨y,_,_,y2,y3⟩:=km4 l hr;have:=kac8 (ys:=kdp l r) (h.grel l.symbols.length 24) h.ainv.sz h.mono (K - 1) (by rw [<- y2];exact (hg.good y y3).args);rw [show (K:Int) - 1=((K - 1:Nat):Int) by omega,<- this];exact qag (k8r _ _) (qag (Nat.pow_le_pow_right (by omega) (show K - 1<=5 by omega)) (by decide))
theorem NInv.os_le {l:La} (hg:khu l) (h20:l.rules.length<=20) {K x:Nat} {ns:List Nod} (h:NInv l K x ns) (hK:1<=K) (a:K<=6) (x':Nat):(osL l ns x' K).length<=640:=by have:=kaij l ns x' K 32 fun r hr=>h.opr_le hg hK a hr;omega
def nxN (l:La) (K x:Nat) (ns:List Nod):List Nod:=if VN l (x:Int) K=0 then ns else ns++[⟨(x:Int),(K:Int),osL l ns x K⟩]
def nsX (l:La) (K:Nat) (ns:List Nod):Nat->List Nod
 | 0=>ns
 | x+1=>nxN l K x (nsX l K ns x)
def nsK (l:La):Nat->List Nod
 | 0=>[]
 | K+1=>nsX l (K+1) (nsK l K) l.symbols.length
theorem k1w {l:La} (hg:khu l) (h20:l.rules.length<=20) {K:Nat} (hK:1<=K) (a:K<=6) {ns:List Nod} (h:NInv l K 0 ns):∀ x,x<=l.symbols.length->NInv l K x (nsX l K ns x)
 | 0,_=>h
 | x+1,c=>by
  have ih:=k1w hg h20 hK a h x (by omega);show NInv l K (x+1) (nxN l K x (nsX l K ns x));unfold nxN;split;rename_i b;rw [k08] at b;exact ih.skip (List.length_eq_zero_iff.1 b)
  ·exact ih.push hg hK (by omega) (by omega) (ih.os_le hg h20 hK a x)
theorem k1q {l:La} (hg:khu l) (h20:l.rules.length<=20) (h8:l.symbols.length<=8):∀ K,K<=6->NInv l (K+1) 0 (nsK l K)
 | 0,_=>⟨⟨fun i n h=>by simp [nsK] at h,fun a k ha hk b=>by obtain rfl:k=0:=(by omega);exact absurd (kxq l (a:Int)) b⟩,qao _,fun i j n m _ h=>by simp [nsK] at h,fun i n h=>by simp [nsK] at h,fun i n o h=>by simp [nsK] at h,qao _⟩
 | K+1,hK=>(k1w hg h20 (by omega) hK (k1q hg h20 h8 K (by omega)) l.symbols.length (qx _)).next (by omega) h8
theorem kaks {l:La} (hg:khu l) (hc:kaz l=some 0) (h8:l.symbols.length<=8) (h20:l.rules.length<=20) {K:Nat} (hK:1<=K) (b:K<=6) (j:∀ x:Nat,x<l.symbols.length->VN l (x:Int) K<=1000) {ns:List Nod} (h:NInv l K 0 ns) (v4:Int×Int×List Nod) (g:v4.2.1=(K:Int)):
  kac (kgh l v4) fuel ((optN ns:Int),0,ns)=some ((optN (nsX l K ns l.symbols.length):Int),nsX l K ns l.symbols.length):=by
 refine kck (kgh l v4) l.symbols.length (fun x=>((optN (nsX l K ns x):Int),(x:Int),nsX l K ns x)) _ (fun x e=>?_) ?_
 ·have c:=k1w hg h20 hK b h x (by omega);show _=some (Sum.inl ((optN (nxN l K x (nsX l K ns x)):Int),((x+1:Nat):Int),nxN l K x (nsX l K ns x)));generalize nsX l K ns x=ms at c ⊢;have m:=j x e;have hl:=c.len;have i:=c.cnt;have a:=kacu hg (x:Int) (K:Int) hc;rw [k2t (by omega) (by omega),qi (by simp),qah,k02] at a;simp only [kgh,kao e,qd,g,a,qa,kak e (show l.symbols.length<=9223372036854775807 by omega)];rw [show ((0:Int) == 0)=true from rfl,qd];unfold nxN;by_cases d:VN l (x:Int) K=0;rw [show ((VN l (x:Int) K:Int) == 0)=true by simp [d],ql d];simp only [qa,qd,qaj]
  ·rw [show ((VN l (x:Int) K:Int) == 0)=false by simp [d],qi d];simp only [qa,qc];have hr:=ropts hg x hK (by omega) ms (by omega) c.ainv.sz 32 (optN ms) (fun r hr=>c.opr_le hg hK b hr) (by omega) v4 g ((optN ms:Int),(x:Int),ms) rfl rfl;rw [hr];simp only [qa];rw [kcg (by rw [qab];omega)];simp only [qa,qy];have f:optN (ms++[⟨(x:Int),(K:Int),osL l ms x K⟩])=optN ms+(osL l ms x K).length:=(by rw [kuf];unfold optN;simp);rw [f]
 ·simp only [kgh,kan,qc]
theorem kalk {l:La} (hg:khu l) (hc:kaz l=some 0) (h8:l.symbols.length<=8) (h20:l.rules.length<=20) {most:Nat} (hm:most<=6) (a:∀ x k:Nat,x<l.symbols.length->k<=most->VN l (x:Int) k<=1000):
  kac (kgb l (most:Int)) fuel (0,1,[])=some ((optN (nsK l most):Int),nsK l most):=by
 refine kck (kgb l (most:Int)) most (fun K=>((optN (nsK l K):Int),((K+1:Nat):Int),nsK l K)) _ (fun K hK=>?_) ?_;simp only [kgb];rw [qj (show ((K+1:Nat):Int)<=(most:Int) by omega),qd,kaks hg hc h8 h20 (by omega) (by omega) (fun x b=>a x (K+1) b (by omega)) (k1q hg h20 h8 K (by omega)) _ rfl,qa,show w64 (((K+1:Nat):Int)+1)=((K+1+1:Nat):Int) by rw [kas];omega];rfl
 ·simp only [kgb];rw [qg (by omega),qc]
def rsL (ns:List Nod) (sy:Int):List Int:=((List.range ns.length).filter fun (i:Nat)=>syAt ns (i:Int) == sy).map natI
def rsJ (ns:List Nod) (sy:Int) (j:Nat):List Int:=((List.range ns.length).filter fun (i:Nat)=>syAt ns (i:Int) == sy && decide (szAt ns (i:Int)<=(j:Int))).map natI
theorem kul:∀ {xs ys:List Int},xs.Pairwise (·<·)->ys.Pairwise (·<·)->(∀ a,a∈xs↔a∈ys)->xs=ys
 | [],[],_,_,_=>rfl
 | [],y::ys,_,_,h=>by have:=(h y).2 (qo ..);simp at this
 | x::xs,[],_,_,h=>by have:=(h x).1 (qo ..);simp at this
 | x::xs,y::ys,b,hy,h=>by
  obtain ⟨x1,x2⟩:=qca.1 b;obtain ⟨y1,y2⟩:=qca.1 hy;have e:x=y:=by
   rcases qan.1 ((h x).1 (qo ..)) with e | e;exact e
   ·rcases qan.1 ((h y).2 (qo ..)) with e' | e';exact e'.symm
    ·have:=y1 x e;have:=x1 y e'; omega
  subst e;rw [kul x2 y2 fun a=>?_];constructor
  ·intro ha;rcases qan.1 ((h a).1 (qk _ ha)) with e | e;subst e;have:=x1 a ha;omega
   ·exact e
  ·intro ha;rcases qan.1 ((h a).2 (qk _ ha)) with e | e;subst e;have:=y1 a ha;omega
   ·exact e
theorem kj1 (p:Nat->Bool) (n:Nat):(((List.range n).filter p).map natI).Pairwise (·<·):=by rw [List.pairwise_map];exact List.Pairwise.imp (fun {a b} h=>by unfold natI;omega) (List.Pairwise.filter _ List.pairwise_lt_range)
theorem mem_rsJ {ns:List Nod} {sy:Int} {j:Nat} {a:Int}:a∈rsJ ns sy j↔∃ (i:Nat) (n:Nod),a=(i:Int)/\ns[i]?=some n/\n.yf=sy/\n.ye<=(j:Int):=by
 unfold rsJ;rw [qaa];constructor;rintro ⟨i,hi,rfl⟩;obtain ⟨h1,b⟩:=qa5.1 hi;have h1:=qa8.1 h1;rw [qv,beq_iff_eq,qbm,(kks h1).1,(kks h1).2] at b;exact ⟨i,_,rfl,qb h1,b.1,b.2⟩
 ·rintro ⟨i,n,rfl,hn,h1,b⟩;obtain ⟨hi,rfl⟩:=qh.1 hn;refine ⟨i,qa5.2 ⟨qa8.2 hi,?_⟩,rfl⟩;rw [qv,beq_iff_eq,qbm,(kks hi).1,(kks hi).2];exact ⟨h1,b⟩
theorem mem_rsL {ns:List Nod} {sy a:Int}:a∈rsL ns sy↔∃ (i:Nat) (n:Nod),a=(i:Int)/\ns[i]?=some n/\n.yf=sy:=by
 unfold rsL;rw [qaa];constructor;rintro ⟨i,hi,rfl⟩;obtain ⟨h1,b⟩:=qa5.1 hi;have h1:=qa8.1 h1;rw [beq_iff_eq,(kks h1).1] at b;exact ⟨i,_,rfl,qb h1,b⟩
 ·rintro ⟨i,n,rfl,hn,h1⟩;obtain ⟨hi,rfl⟩:=qh.1 hn;refine ⟨i,qa5.2 ⟨qa8.2 hi,?_⟩,rfl⟩;rw [beq_iff_eq,(kks hi).1];exact h1
theorem kajx (ns:List Nod) (sy:Int):(rsL ns sy).length<=ns.length:=by unfold rsL;rw [qs];exact qag (qb6 _ _) (by rw [List.length_range];exact qx _)
theorem kah1 (ns:List Nod) (sy:Int) (j:Nat):(rsJ ns sy j).length<=ns.length:=by unfold rsJ;rw [qs];exact qag (qb6 _ _) (by rw [List.length_range];exact qx _)
theorem kac5 (ns:List Nod) (rs:List Int) (sy z:Int) (hn:ns.length<=4096):(∃ (i:Nat) (n:Nod),ns[i]?=some n/\n.yf=sy/\n.ye=z/\kfq ns rs sy z=some (i:Int))\/((∀ (i:Nat) (n:Nod),ns[i]?=some n->¬ (n.yf=sy/\n.ye=z))/\kfq ns rs sy z=some (-1)):=by
 unfold kfq
 let bad:Nat->Bool:=fun i=>decide (∃ n,ns[i]?=some n/\n.yf=sy/\n.ye=z)
 have a:∀ i (hi:i<ns.length),bad i=decide (ns[i].yf=sy/\ns[i].ye=z):=fun i hi=>by show decide _=decide _;congr 1;rw [qb hi];exact propext ⟨fun ⟨n,h1,b⟩=>by cases h1;exact b,fun h=>⟨_,rfl,h⟩⟩
 have hs:∀ i,i<ns.length->kdd ns sy z (i:Int)=if bad i=true then some (.inr (.inr (i:Int))) else some (.inl ((i+1:Nat):Int)):=fun i hi=>by
  rw [a i hi];simp only [kdd,kao hi,qd,kaf,qb hi,qa,kak hi (show ns.length<=9223372036854775807 by omega)];by_cases h1:ns[i].yf=sy
  ·by_cases b:ns[i].ye=z;simp [h1,b]
   ·rw [show (ns[i].yf == sy)=true by simp [h1],qd,show (ns[i].ye == z)=false by simp [b],qa,qc,qg (by simp [b]),qi (by simp)]
  ·rw [show (ns[i].yf == sy)=false by simp [h1],qc,qa,qc,qg (by simp [h1]),qi (by simp)]
 have d:kdd ns sy z (ns.length:Int)=some (.inr (.inl ())):=by simp only [kdd,kan,qc]
 rcases kmk (kdd ns sy z) ns.length bad (fun i => .inr (i:Int)) (.inl ()) hs d with ⟨i,hi,c,_,hr⟩ | ⟨c,hr⟩;rw [a i hi,qbm] at c;exact .inl ⟨i,ns[i],qb hi,c.1,c.2,by rw [hr];rfl⟩
 ·refine .inr ⟨fun i n hn=>?_,by rw [hr];rfl⟩;obtain ⟨hi,rfl⟩:=qh.1 hn;have:=c i hi;rw [a i hi,qb1] at this;exact this
theorem kalc {l:La} {K:Nat} {ns:List Nod} (h:NInv l (K+1) 0 ns) (m:ns.length<=4096) (o:∀ n∈ns,n.ye<=(K:Int)) (hK:K<=24) (sy c:Int):
  kac (kgf sy (K:Int) (c,ns)) fuel (1,([]:List Int))=some (rsL ns sy):=by
 have e0:rsJ ns sy 0=[]:=by refine List.eq_nil_iff_forall_not_mem.2 fun a ha=>?_;obtain ⟨i,n,_,hn,_,d⟩:=mem_rsJ.1 ha;have:=(h.node i n hn).size;omega
 have eK:rsJ ns sy K=rsL ns sy:=kul (kj1 _ _) (kj1 _ _) fun a=>by rw [mem_rsJ,mem_rsL];exact ⟨fun ⟨i,n,h1,d,e,_⟩=>⟨i,n,h1,d,e⟩,fun ⟨i,n,h1,d,e⟩=>⟨i,n,h1,d,e,o n (qp d)⟩⟩
 have hl:=kck (kgf sy (K:Int) (c,ns)) K (fun j=>(((j+1:Nat):Int),rsJ ns sy j)) (rsL ns sy) (fun j q=>?_) ?_;rw [e0] at hl;exact hl
 ·have e2:decide (((j+1:Nat):Int)<=(K:Int))=true:=qj (by omega);have e3:w64 (((j+1:Nat):Int)+1)=((j+1+1:Nat):Int):=by rw [kas];omega
  simp only [kgf,e2,qd,e3];rcases kac5 ns (rsJ ns sy j) sy ((j+1:Nat):Int) m with ⟨i,n,h1,d,e,f⟩ | ⟨h1,f⟩
  ·rw [f];have e4:decide ((0:Int)<=(i:Int))=true:=qj (by omega);simp only [qa,e4,qd];have g:=kah1 ns sy j;rw [kcg (by rw [qab];omega)];simp only [qa];have:rsJ ns sy j++[(i:Int)]=rsJ ns sy (j+1):=kul (List.pairwise_append.2 ⟨kj1 _ _,List.pairwise_singleton ..,fun a ha b k=>by
     rw [qai] at k;subst k;obtain ⟨i',n',rfl,g1,_,g3⟩:=mem_rsJ.1 ha;by_cases p:i'<i;omega
     ·have:=h.mono i i' n n' (by omega) h1 g1;omega⟩) (kj1 _ _) fun a=>by
    rw [qak,qai,mem_rsJ,mem_rsJ];constructor
    ·rintro (⟨i',n',g1,g2,g3,g4⟩ | rfl);exact ⟨i',n',g1,g2,g3,by omega⟩
     ·exact ⟨i,n,rfl,h1,d,by omega⟩
    ·rintro ⟨i',n',rfl,g2,g3,g4⟩;by_cases hs:n'.ye<=(j:Int);exact .inl ⟨i',n',rfl,g2,g3,hs⟩
     ·refine .inr ?_;rw [h.uniq g2 h1 (by rw [g3,d]) (by rw [e];omega)]
   rw [this]
  ·rw [f];have e4:decide ((0:Int)<=(-1:Int))=false:=rfl;simp only [qa,e4,qc];have:rsJ ns sy j=rsJ ns sy (j+1):=kul (kj1 _ _) (kj1 _ _) fun a=>by
    rw [mem_rsJ,mem_rsJ];constructor;rintro ⟨i',n',g1,g2,g3,g4⟩;exact ⟨i',n',g1,g2,g3,by omega⟩
    ·rintro ⟨i',n',g1,g2,g3,g4⟩;refine ⟨i',n',g1,g2,g3,?_⟩;have:=h1 i' n' g2;by_cases hs:n'.ye=((j+1:Nat):Int);exact absurd ⟨g3,hs⟩ this
     ·omega
   rw [<- this]
 ·have e2:decide (((K+1:Nat):Int)<=(K:Int))=false:=qg (by omega);simp only [kgf,e2,qc,eK]
structure PInv (l:La) (M:Nat) (ns:List Nod) (T:List (List Int)):Prop where
 tl:T.length=l.symbols.length
 row:∀ row∈T,row.length=M+1
 grel:GRel ns (gF T) l.symbols.length M
theorem kahm (ns:List Nod) (n:Nod) (sy:Int):rsL (ns++[n]) sy=rsL ns sy++(if n.yf=sy then [(ns.length:Int)] else []):=by
 have c:(ns++[n])[ns.length]?=some n:=by simp
 refine kul (kj1 _ _) (List.pairwise_append.2 ⟨kj1 _ _,?_,fun a ha b d=>?_⟩) fun a=>?_
 ·split;exact List.pairwise_singleton ..
  ·exact List.Pairwise.nil
 ·obtain ⟨i,m,rfl,hm,_⟩:=mem_rsL.1 ha;have:=ka8 hm;split at d;rw [qai] at d;omega
  ·simp at d
 ·rw [qak,mem_rsL,mem_rsL];constructor
  ·rintro ⟨i,m,rfl,hm,hs⟩;by_cases hi:i<ns.length;rw [q9 hi] at hm;exact .inl ⟨i,m,rfl,hm,hs⟩
   ·have e:=ka8 hm;rw [qac,qab] at e;obtain rfl:i=ns.length:=(by omega);rw [c] at hm;cases hm;rw [ql hs];exact .inr (qai.2 rfl)
  ·rintro (⟨i,m,rfl,hm,hs⟩ | h);exact ⟨i,m,rfl,by rw [q9 (ka8 hm)];exact hm,hs⟩
   ·split at h;rename_i hs;rw [qai] at h;subst h;exact ⟨ns.length,n,rfl,c,hs⟩
    ·simp at h
theorem k7n {T:List (List Int)} {x K:Nat} {row:List Int} {v:Int} (hr:T[x]?=some row) (hK:K<row.length) {y:Int} (hy:0<=y) (k:Nat):gF (T.set x (row.set K v)) y k=if y=(x:Int)/\k=K then v else gF T y k:=by
 have b:=ka8 hr;unfold gF;rw [List.getElem?_set];by_cases h1:x=y.toNat
 ·rw [ql h1,ql (by omega),qaf,<- h1,hr,qaf,List.getElem?_set];by_cases a:K=k;rw [ql a,ql hK,qaf,ql ⟨by omega,a.symm⟩]
  ·rw [qi a,qi (fun h=>a h.2.symm)]
 ·rw [qi h1,qi (fun h=>h1 (by omega))]
theorem PInv.push {l:La} {K x M:Nat} {ns:List Nod} {T:List (List Int)} (h:NInv l K x ns) (b:PInv l M ns T) (hK:K<=M) (j:x<l.symbols.length) (os:List Opn) {row:List Int} (hr:T[x]?=some row):PInv l M (ns++[⟨(x:Int),(K:Int),os⟩]) (T.set x (row.set K (ns.length:Int))):=by
 have c:=b.row row (qp hr);have a:(ns++[(⟨(x:Int),(K:Int),os⟩:Nod)])[ns.length]?=some (⟨(x:Int),(K:Int),os⟩:Nod):=by simp
 refine ⟨by rw [qbk];exact b.tl,fun r d=>?_,fun y k y0 y1 k1 k2 hg=>?_,fun i n k hn hs hk=>?_⟩
 ·rcases List.mem_or_eq_of_mem_set d with h1 | h1;exact b.row r h1
  ·rw [h1,qbk];exact c
 ·rw [k7n hr (by omega) y0] at hg ⊢;by_cases hc:y=(x:Int)/\k=K;rw [ql hc,qah];exact ⟨_,a,hc.1.symm,by rw [hc.2]⟩
  ·rw [qi hc] at hg ⊢;obtain ⟨n,h1,f⟩:=b.grel.to y k y0 y1 k1 k2 hg;exact ⟨n,by rw [q9 (ka8 h1)];exact h1,f⟩
 ·by_cases hi:i<ns.length;rw [q9 hi] at hn;obtain ⟨⟨k',g1,g2,g3,g4⟩,s0,_⟩:=h.ainv.node i n hn;rw [k7n hr (by omega) s0,qi (fun hc=>by omega)];exact b.grel.from_ i n k hn hs hk
  ·have e:=ka8 hn;rw [qac,qab] at e;obtain rfl:i=ns.length:=(by omega);rw [a] at hn;cases hn;have g:(K:Int)=(k:Int):=hs;rw [k7n hr (by omega) (show (0:Int)<=(x:Int) by omega),ql ⟨rfl,by omega⟩]
theorem kako {l:La} (hg:khu l) (hc:kfj l=some 0) (h8:l.symbols.length<=8) (h20:l.rules.length<=20) (K M:Nat) (hK:1<=K) (d:K<=6) (f:K<=M) (C:M<=24) (D:∀ x:Nat,x<l.symbols.length->VN l (x:Int) K<=1000) {ns:List Nod} (h:NInv l K 0 ns) {T:List (List Int)} (E:PInv l M ns T) (sy:Int) (v10:Int×Int×List (List Int)×List Nod×List Int) (g:v10.2.1=(K:Int)):
  Ev (kac (klx l sy v10) fuel ((optN ns:Int),0,T,ns,rsL ns sy)) fun r=>∃ T',r = .inl ((optN (nsX l K ns l.symbols.length):Int),T',nsX l K ns l.symbols.length,rsL (nsX l K ns l.symbols.length) sy)/\PInv l M (nsX l K ns l.symbols.length) T':=by
 refine ko9 (step:=klx l sy v10) l.symbols.length (fun x st=>∃ T',st=((optN (nsX l K ns x):Int),(x:Int),T',nsX l K ns x,rsL (nsX l K ns x) sy)/\PInv l M (nsX l K ns x) T') (by omega) ⟨T,rfl,E⟩ (fun x st i hst=>?_) (fun st hst=>?_)
 ·obtain ⟨T',rfl,a⟩:=hst;have c:=k1w hg h20 hK d h x (by omega);show Ev _ (Sum.elim (fun st=>∃ T',st=((optN (nxN l K x (nsX l K ns x)):Int),((x+1:Nat):Int),T',nxN l K x (nsX l K ns x),rsL (nxN l K x (nsX l K ns x)) sy)/\PInv l M (nxN l K x (nsX l K ns x)) T') _);generalize nsX l K ns x=ms at c a ⊢;have F:=D x i;have hl:=c.len;have A:=c.cnt;have b:=kaap hg (x:Int) (K:Int) hc;rw [k2t (by omega) (by omega),qi (by simp),qah,k02] at b;have p:=hg.rules;simp only [klx,kao i,qd,g,b,qa,kak i (show l.symbols.length<=9223372036854775807 by omega)];rw [show ((0:Int) == 0)=true from rfl,qd];unfold nxN;by_cases q:VN l (x:Int) K=0;rw [show ((VN l (x:Int) K:Int) == 0)=true by simp [q],ql q];simp only [qa,qd,qaj,qy];exact ⟨_,rfl,T',rfl,a⟩
  ·rw [show ((VN l (x:Int) K:Int) == 0)=false by simp [q],qi q];simp only [qa,qc];have t:∀ r,r<l.rules.length->opv (gF T') (kdp l r) (K - 1)=opr ms (kdp l r) ((K:Int) - 1):=fun r hr=>(by obtain ⟨y,_,_,y2,y3⟩:=km4 l hr;rw [show (K:Int) - 1=((K - 1:Nat):Int) by omega];exact kac8 a.grel c.ainv.sz c.mono _ (by rw [<- y2];exact (hg.good y y3).args));have G:=c.os_le hg h20 hK d x;have u:=aopts hg x hK f C ms a.tl a.row t (by omega) 32 (optN ms) (fun r hr=>c.opr_le hg hK d hr) (by omega) v10 ((optN ms:Int),(x:Int),T',ms,rsL ms sy) g rfl rfl;rw [kagn l (x:Int) (by omega),qa,u,qa];have e:∀ o∈osL l ms x K,o.yb.length<=24:=fun o ho=>(by obtain ⟨r,vs,h1,_,H,rfl⟩:=(kxr o).1 ho;obtain ⟨y,_,_,y2,y3⟩:=km4 l h1;have:=(hg.good y y3).few;rw [y2] at this;show vs.length<=24;rw [H.in.1];omega);have j:x<T'.length:=(by rw [a.tl];exact i);have m:=qb j;have I:=a.row _ (qn j);have v:K<(T'[x]).length:=(by omega);simp only [qy];rw [kame (k8u l ms x K) e (by omega) (by omega),qa,kaf,m,qa,kaf,qb v,qa];have J:=kajx ms sy;have w:=a.push c f i (osL l ms x K) m;have n:=kahm ms ⟨(x:Int),(K:Int),osL l ms x K⟩ sy;have z:optN (ms++[⟨(x:Int),(K:Int),osL l ms x K⟩])=optN ms+(osL l ms x K).length:=(by rw [kuf];unfold optN;simp);have ew:w64 ((optN ms:Int)+((osL l ms x K).length:Int))=(optN (ms++[⟨(x:Int),(K:Int),osL l ms x K⟩]):Int):=(by rw [z,kas];omega);have L:(bif (x:Int) == sy then Option.bind (app 8 (rsL ms sy) [(ms.length:Int)]) fun v28=>some v28 else some (rsL ms sy))=some (rsL (ms++[⟨(x:Int),(K:Int),osL l ms x K⟩]) sy):=by
    rw [n];by_cases hs:(x:Int)=sy;rw [show ((x:Int) == sy)=true by simp [hs],qd,kcg (by rw [qab];omega),ql hs];rfl
    ·rw [show ((x:Int) == sy)=false by simp [hs],qc,qi hs,qby]
   rw [L,qa,kcg (by rw [qab];omega),qa];simp only [qa,qy,ew,qah];exact ⟨_,rfl,_,rfl,w⟩
 ·obtain ⟨T',rfl,a⟩:=hst;exact ⟨.inr (.inl ((optN (nsX l K ns l.symbols.length):Int),T',nsX l K ns l.symbols.length,rsL (nsX l K ns l.symbols.length) sy)),by simp only [klx,kan,qc],_,rfl,T',rfl,a⟩
theorem kakz {l:La} (hg:khu l) (hc:kfj l=some 0) (h8:l.symbols.length<=8) (h20:l.rules.length<=20) {most:Nat} (hm:most<=6) (c:∀ x k:Nat,x<l.symbols.length->k<=most->VN l (x:Int) k<=1000) {T:List (List Int)} (d:PInv l most [] T) (sy:Int):
  kac (kl2 l sy (most:Int)) fuel (0,1,T,[],[])=some (.inl (nsK l most,rsL (nsK l most) sy)):=by
 refine Ev.eq (ko9 (step:=kl2 l sy (most:Int)) most (fun K st=>∃ T',st=((optN (nsK l K):Int),((K+1:Nat):Int),T',nsK l K,rsL (nsK l K) sy)/\PInv l most (nsK l K) T') (by omega) ⟨T,rfl,d⟩ (fun K st hK hst=>?_) (fun st hst=>?_));obtain ⟨T',rfl,a⟩:=hst;obtain ⟨r,hr,T2,rfl,b⟩:=kako hg hc h8 h20 (K+1) most (by omega) (by omega) (by omega) (by omega) (fun x e=>c x (K+1) e (by omega)) (k1q hg h20 h8 K (by omega)) a sy ((optN (nsK l K):Int),((K+1:Nat):Int),T',nsK l K,rsL (nsK l K) sy) rfl;simp only [kl2];rw [qj (show ((K+1:Nat):Int)<=(most:Int) by omega),qd,hr,qa,show w64 (((K+1:Nat):Int)+1)=((K+1+1:Nat):Int) by rw [kas];omega];exact ⟨_,rfl,T2,rfl,b⟩
 ·obtain ⟨T',rfl,a⟩:=hst;refine ⟨.inr (.inl (nsK l most,rsL (nsK l most) sy)),?_,_,rfl,rfl⟩;simp only [kl2];rw [qg (by omega),qc]
theorem kaii:((List.range 7).all fun m=>khd [-1] ((m+1:Nat):Int) == some (List.replicate (m+1) (-1)))=true:=by kernel_rfl
theorem kaml {m:Nat} (h:m<=6):khd [-1] ((m+1:Nat):Int)=some (List.replicate (m+1) (-1)):=by have:=qr.1 kaii m (qa8.2 (by omega));simpa using this
theorem kamg {m:Nat} (h:m<=6) (c:Nat) (b:c<=16):kac (kl1 (m:Int) (List.replicate c [])) fuel (0,List.replicate c [])=some (List.replicate c (List.replicate (m+1) (-1))):=by
 have a:=kaml h;have key:=kck (kl1 (m:Int) (List.replicate c [])) c (fun i=>((i:Int),List.replicate i (List.replicate (m+1) (-1))++List.replicate (c - i) [])) (List.replicate c (List.replicate (m+1) (-1))) (fun i hi=>?_) ?_;simpa using key
 ·have ei:(List.replicate i (List.replicate (m+1) (-1:Int))++List.replicate (c - i) [])[i]?=some []:=by rw [qap (by simp),qa0,qcc,qbu,ql (by omega)]
  simp only [kl1,qa0];rw [qj (show (i:Int)<(c:Int) by omega),qd,show w64 ((m:Int)+1)=((m+1:Nat):Int) by rw [kas];omega,a,qa,kaf,ei,qa,show w64 ((i:Int)+1)=((i+1:Nat):Int) by rw [kas];omega,qah];congr 3;generalize List.replicate (m+1) (-1:Int)=R;rw [List.set_append_right _ _ (by simp),qa0,qcc,show c - i=(c - (i+1))+1 by omega,show List.replicate (c - (i+1)+1) ([]:List Int)=[]::List.replicate (c - (i+1)) [] from rfl,List.set_cons_zero,List.replicate_succ',qbi];rfl
 ·simp only [kl1,qa0];rw [qg (by omega),qc,qcc,List.replicate_zero,qby]
theorem kals (l:La) (M:Nat):PInv l M [] (List.replicate l.symbols.length (List.replicate (M+1) (-1))):=by refine ⟨qa0,fun row hr=>by rw [List.eq_of_mem_replicate hr,qa0],fun y k y0 y1 k1 k2 hg=>?_,fun i n k hn=>by simp at hn⟩;exfalso;unfold gF at hg;rw [qbu,ql (by omega),qaf,qbu,ql (by omega)] at hg;exact absurd hg (by decide)
def spA (l:La) (most:Nat) (sy:Int):Spa:=⟨nsK l most,rsL (nsK l most) sy⟩
def RulP (l:La) (ns:List Nod):Prop:=∀ (i:Nat) (n:Nod),ns[i]?=some n->n.yf<(l.symbols.length:Int)/\∀ o∈n.yc,∃ r:Nat,r<l.rules.length/\o.yd=(r:Int)/\khh l r=n.yf/\o.yb.map (syAt ns)=kdp l r
def kx2 (ns:List Nod):Prop:=∀ (i j:Nat) (n m:Nod),ns[i]?=some n->ns[j]?=some m->n.yf=m.yf->n.ye=m.ye->i=j
theorem kaa3 {xs:List Int} (h:xs.Pairwise (·<·)) (i:Nat) (x y:Int) (h1:xs[i]?=some x) (a:xs[i+1]?=some y):x<y:=by obtain ⟨k1,rfl⟩:=qh.1 h1;obtain ⟨k2,rfl⟩:=qh.1 a;exact List.pairwise_iff_getElem.1 h i (i+1) k1 k2 (by omega)
section
variable {l:La} {most:Nat} {sy:Int} (hg:khu l) (h8:l.symbols.length<=8) (h20:l.rules.length<=20) (hm:most<=6)
include hg h8 h20 hm
theorem kqp:NInv l (most+1) 0 (nsK l most):=k1q hg h20 h8 most hm
theorem k9y:(nsK l most).length<=48:=by have:=(kqp hg h8 h20 hm).len;omega
theorem kagg {n:Nod} (hn:n∈nsK l most):n.ye<=(most:Int):=by obtain ⟨i,hi⟩:=qaz.1 hn;obtain ⟨⟨k,k1,k2,k3,k4⟩,_,_⟩:=(kqp hg h8 h20 hm).ainv.node i n hi;omega
theorem k5y:kb6 (spA l most sy):=by
 have a:=kqp hg h8 h20 hm;have hl:=k9y hg h8 h20 hm;refine ⟨by show (nsK l most).length<=4096;omega,⟨fun x c=>?_,fun i x y h1 b=>kaa3 (kj1 _ _) i x y h1 b⟩,a.node,by show optN (nsK l most)<=32768;have:=a.cnt;omega,fun i k n m o p hn hm ho hp d=>?_⟩;obtain ⟨i,n,rfl,hn,_⟩:=mem_rsL.1 c;have:=ka8 hn;show (0:Int)<=(i:Int)/\(i:Int)<((nsK l most).length:Int);omega
 ·obtain ⟨r,h1,b,e,f⟩:=a.rul i n o hn ho;obtain ⟨r',g1,g2,g3,g4⟩:=a.rul k m p hm hp;obtain rfl:r=r':=by rw [b,g2] at d;omega
  exact ⟨e.symm.trans g3,f.trans g4.symm⟩
theorem kaix:RulP l (spA l most sy).ya:=fun i n hn=>by have a:=kqp hg h8 h20 hm;exact ⟨(a.ainv.node i n hn).2.2.1,fun o ho=>a.rul i n o hn ho⟩
theorem kae5:kx2 (spA l most sy).ya:=fun i j n m h1 a e1 e2=>(kqp hg h8 h20 hm).uniq h1 a e1 e2
theorem kae0 (a:kfj l=some 0) (b:kaz l=some 0) (j:0<=sy) (hs1:sy<(l.symbols.length:Int)) (m:1<=most) (e:∀ x k:Nat,x<l.symbols.length->k<=most->VN l (x:Int) k<=1000):
  ∃ L Q,kt4 (spA l most sy) L Q/\kmi l sy (most:Int)=some (kb7 (fg L) (fg Q) (spA l most sy),0)/\ke0 l sy (most:Int)=some (kb7 (fg L) (fg Q) (spA l most sy),0):=by
 have f:=kqp hg h8 h20 hm;have hl:=k9y hg h8 h20 hm;have hf:=k5y (sy:=sy) hg h8 h20 hm;have g:=f.cnt;obtain ⟨r,hr,h⟩:=kadf (ko8 hf);obtain ⟨r',c,o⟩:=kakm (ko8 hf);rcases h with ⟨h0,_⟩ | ⟨_,L,Q,i,rfl⟩;exact absurd hf h0;rcases o with ⟨h0,_⟩ | ⟨_,L',Q',d,rfl⟩;exact absurd hf h0;obtain ⟨rfl,rfl⟩:=kad1 hf i d;refine ⟨L,Q,i,?_,?_⟩;unfold kmi;rw [a,qa,show ((0:Int) != 0)=false from rfl,qc,qg (show ¬ sy<0 by omega),qg (show ¬ (l.symbols.length:Int)<=sy by omega),qg (show ¬ (most:Int)<1 by omega),qg (show ¬ (24:Int)<(most:Int) by omega)];simp only [qc,qa];rw [kla 24 ([]:List Int) l.symbols.length,qa,kamg hm l.symbols.length (by omega),qa,kakz hg a h8 h20 hm e (kals l most) sy,qa];show Option.bind (kn0 (spA l most sy)) _=_;rw [c,qa]
 ·unfold ke0;rw [b,qa,show ((0:Int) != 0)=false from rfl,qc,qg (show ¬ sy<0 by omega),qg (show ¬ (l.symbols.length:Int)<=sy by omega),qg (show ¬ (most:Int)<1 by omega),qg (show ¬ (24:Int)<(most:Int) by omega)];simp only [qc,qa];rw [kalk hg b h8 h20 hm e,qa];simp only;rw [qg (show ¬ (4096:Int)<((nsK l most).length:Int) by omega),qc,qg (show ¬ (32768:Int)<(optN (nsK l most):Int) by omega),qa,qc,kalc f (by omega) (fun n hn=>kagg hg h8 h20 hm hn) (by omega) sy,qa];show Option.bind (kbz (spA l most sy)) _=_;rw [hr,qa]
end
theorem kagk {l:La} {s:Spa} {f p:Nat->Bool} (hf:kb6 s) (hk:krv s f p) (h:RulP l s.ya):RulP l (kb7 f p s).ya:=fun j m hm=>by obtain ⟨i,n,hn,hp,_,rfl⟩:=knz hm;obtain ⟨h1,g⟩:=h i n hn;refine ⟨h1,fun o ho=>?_⟩;obtain ⟨o',c,rfl⟩:=qaa.1 ho;obtain ⟨b,d⟩:=qa5.1 c;obtain ⟨r,r1,r2,r3,r4⟩:=g o' b;refine ⟨r,r1,r2,r3,?_⟩;rw [<- r4];show (o'.yb.map (numI p)).map (syAt _)=_;rw [List.map_map];refine qbl fun a ha=>?_;have e:=kqn hf hn b a ha;have k:=ka8 hn;exact (k2e hf e.1 (hk.arg i n o' hp hn b d a ha)).2
theorem kade {s:Spa} (f p:Nat->Bool) (h:kx2 s.ya):kx2 (kb7 f p s).ya:=fun j j' m m' hm a e1 e2=>by obtain ⟨i,n,hn,hp,d,rfl⟩:=knz hm;obtain ⟨i',n',b,e,c,rfl⟩:=knz a;rw [<- d,<- c,h i i' n n' hn b e1 e2]
theorem kad5 {l:La} (hg:khu l) (hc:kaz l=some 0) {s:Spa} (hf:kb6 s) (hr:RulP l s.ya):kgw l s=some 0:=by obtain ⟨b,e,a⟩:=kvs (ko8 hf);obtain rfl:b=true:=a.2 hf;have f:=hf.nodes;unfold kgw;rw [hc,qa,show ((0:Int) != 0)=false from rfl,qc,e,qa,qbc,qc];have hl:kac (ke8 l s) fuel 0=some (.inl ()):=kck (ke8 l s) s.ya.length (fun k=>(k:Int)) _ (fun k hk=>by have hn:=qb hk;obtain ⟨h1,g⟩:=hr k _ hn;have h:(s.ya[k]).yc.length<=32768:=qag (ksc hn) hf.opts;have c:kac (kdw l s s.ya[k]) fuel 0=some (.inl ()):=kck (kdw l s s.ya[k]) (s.ya[k]).yc.length (fun k=>(k:Int)) _ (fun j d=>by rw [kafy hg hf hn d];obtain ⟨r,r1,r2,r3,r4⟩:=g _ (qn d);obtain ⟨y,y0,y1,y2,_⟩:=km4 l r1;have:kp1 l s.ya k (s.ya[k]).yc[j]=0:=(by unfold kp1;rw [r2,qah,y0];simp only;rw [ql];unfold shp;rw [kli hn,r4,y1,y2,r3]);rw [qi (by simp [this])]) (by simp only [kdw,kan,qc]);simp only [ke8,kao hk,qd,kaf,hn,qa,kak hk (show s.ya.length<=9223372036854775807 by omega),c];rw [qg (by omega),qc];rfl) (by simp only [ke8,kan,qc]);rw [hl];rfl
theorem k3y {α:Type} {R:α->α->Prop} (ht:∀ a b c,R a b->R b c->R a c):∀ l:List α,(∀ (k:Nat) (a b:α),l[k]?=some a->l[k+1]?=some b->R a b)->l.Pairwise R
 | [],_=>List.Pairwise.nil
 | [x],_=>List.pairwise_singleton ..
 | x::y::l,h=>by
  have ih:=k3y ht (y::l) fun k a b h1 f=>h (k+1) a b (by simpa using h1) (by simpa using f);have d:R x y:=h 0 x y rfl rfl;refine qca.2 ⟨fun z e=>?_,ih⟩;rcases qan.1 e with rfl | e;exact d
  ·exact ht x y z d ((qca.1 ih).1 z e)
section
variable {s:Spa} (hf:kb6 s) (hu:kx2 s.ya)
include hf hu
theorem k78 {t:Tm} {i j:Nat} (h1:Bt s.ya i t) (a:Bt s.ya j t):i=j:=by
 obtain ⟨n,o,ts,hn,ho,e1,_⟩:=h1.inv;obtain ⟨m,p,us,hm,hp,e2,_⟩:=a.inv;have hr:o.yd=p.yd:=by rw [e1] at e2;injection e2
 have s1:=kxo hf t i n hn h1;have s2:=kxo hf t j m hm a;exact hu i j n m hn hm (hf.con i j n m o p hn hm ho hp hr).1 (by omega)
theorem k5m:∀ {vs ws:List Int} {ts:List Tm},Bts s.ya vs ts->Bts s.ya ws ts->vs=ws
 | [],ws,ts,h1,b=>by cases h1;cases b;rfl
 | a::vs,ws,ts,h1,b=>by
  cases h1 with
  | cons a0 ht hs=>
   cases b with
   | cons b0 gt gs=>
    have:=k78 hf hu ht gt;rw [k5m hs gs];congr 1;omega
end
def prT (X:Int->List Tm):List Int->List (List Tm)
 | []=>[[]]
 | a::vs=>(X a).flatMap fun t=>(prT X vs).map (t::·)
def kls (c:Int->Nat):List Int->Nat
 | []=>1
 | a::vs=>c a*kls c vs
theorem k1i (c:Int->Nat) (a:Int):∀ vs:List Int,kls c (vs++[a])=kls c vs*c a
 | []=>by simp [kls]
 | b::vs=>by rw [qb0,kls,kls,k1i c a vs,Nat.mul_assoc]
theorem k9p (X:Int->List Tm):∀ vs:List Int,(prT X vs).length=kls (fun a=>(X a).length) vs
 | []=>rfl
 | a::vs=>by
  rw [prT,kls,List.length_flatMap,<- k9p X vs];have key:∀ ys:List Tm,(ys.map fun t=>((prT X vs).map (t::·)).length).sum=ys.length*(prT X vs).length:=fun ys=>by
   induction ys with
   | nil=>simp
   | cons y ys ih=>rw [qa2,List.sum_cons,ih,qs,qat,qbj];omega
  exact key _
theorem k8a {ns:List Nod} {X:Int->List Tm}:∀ {vs:List Int},(∀ a∈vs,0<=a/\∀ t,t∈X a↔Bt ns a.toNat t)->∀ ts,ts∈prT X vs↔Bts ns vs ts
 | [],_,ts=>by
  rw [prT,qai];constructor;rintro rfl;exact .nil
  ·intro h;cases h;rfl
 | a::vs,h,ts=>by
  obtain ⟨a0,ha⟩:=h a (qo ..);have ih:=k8a (X:=X) fun b c=>h b (qk a c);rw [prT,qay];constructor;rintro ⟨t,ht,d⟩;obtain ⟨us,e,rfl⟩:=qaa.1 d;exact .cons a0 ((ha t).1 ht) ((ih us).1 e)
  ·intro c;cases c with
   | @cons _ _ t us h0 ht hs=>exact ⟨t,(ha t).2 ht,qaa.2 ⟨us,(ih us).2 hs,rfl⟩⟩
theorem k4d {X:Int->List Tm}:∀ {vs:List Int},(∀ a∈vs,(X a).Nodup)->(prT X vs).Nodup
 | [],_=>List.pairwise_singleton ..
 | a::vs,h=>by
  have ih:=k4d (X:=X) fun b f=>h b (qk a f);unfold prT List.Nodup;rw [List.pairwise_flatMap];refine ⟨fun t _=>?_,List.Pairwise.imp (fun {t u} c x g y hy e=>?_) (h a (qo ..))⟩;rw [List.pairwise_map];exact List.Pairwise.imp (fun {x y} d e=>d (by injection e)) ih
  ·obtain ⟨_,_,rfl⟩:=qaa.1 g;obtain ⟨_,_,rfl⟩:=qaa.1 hy;injection e with e1 _;exact c e1
def tlO (X:Int->List Tm) (o:Opn):List Tm:=(prT X o.yb).map (Tm.mk o.yd)
def tlN (X:Int->List Tm) (n:Nod):List Tm:=n.yc.flatMap (tlO X)
def tls (ns:List Nod):Nat->Int->List Tm
 | 0,_=>[]
 | i+1,a=>if a=(i:Int) then (match ns[i]? with | some n=>tlN (tls ns i) n | none=>[]) else tls ns i a
def TL (ns:List Nod) (i:Nat):List Tm:=tls ns (i+1) (i:Int)
theorem k6p (ns:List Nod):∀ (i:Nat) (a:Nat),a<i->tls ns i (a:Int)=TL ns a
 | 0,a,h=>by omega
 | i+1,a,h=>by
  by_cases e:a=i;subst e;rfl
  ·rw [tls,qi (by omega)];exact k6p ns i a (by omega)
theorem kahk {ns:List Nod} {i:Nat} {n:Nod} (hn:ns[i]?=some n) (c:∀ o∈n.yc,∀ a∈o.yb,0<=a/\a<(i:Int)):TL ns i=tlN (fun a=>TL ns a.toNat) n:=by
 unfold TL;rw [tls,ql rfl,hn];simp only;unfold tlN;have gen:∀ os:List Opn,(∀ o∈os,∀ a∈o.yb,0<=a/\a<(i:Int))->os.flatMap (tlO (tls ns i))=os.flatMap (tlO fun a=>TL ns a.toNat):=fun os=>by
  induction os with
  | nil=>intro _;rfl
  | cons o os ih=>
   intro h;rw [qb7,qb7,ih fun p hp=>h p (qk _ hp)];congr 1;unfold tlO;congr 1;have gen2:∀ vs:List Int,(∀ a∈vs,0<=a/\a<(i:Int))->prT (tls ns i) vs=prT (fun a=>TL ns a.toNat) vs:=fun vs=>by
    induction vs with
    | nil=>intro _;rfl
    | cons a vs ih2=>
     intro hv;have ha:=hv a (qo ..);have e:tls ns i a=TL ns a.toNat:=(by have:=k6p ns i a.toNat (by omega);rw [Int.toNat_of_nonneg ha.1] at this;exact this);rw [prT,prT,ih2 fun b d=>hv b (qk _ d),e]
   exact gen2 _ (h o (qo ..))
 exact gen _ c
section
variable {s:Spa} (hf:kb6 s) (hu:kx2 s.ya)
include hf hu
theorem k76:∀ (N i:Nat),i<N->i<s.ya.length->(∀ t,t∈TL s.ya i↔Bt s.ya i t)/\(TL s.ya i).Nodup
 | 0,i,h,_=>by omega
 | N+1,i,h,hi=>by
  have hn:=qb hi;have f:=fun o ho=>kqn hf hn (o:=o) ho;have u:∀ o∈(s.ya[i]).yc,∀ a∈o.yb,(0<=a/\∀ t,t∈TL s.ya a.toNat↔Bt s.ya a.toNat t)/\(TL s.ya a.toNat).Nodup:=fun o ho a ha=>by have k:=f o ho a ha;obtain ⟨g1,g2⟩:=k76 N a.toNat (by omega) (by omega);exact ⟨⟨k.1,g1⟩,g2⟩
  have j:∀ o∈(s.ya[i]).yc,∀ ts,ts∈prT (fun a=>TL s.ya a.toNat) o.yb↔Bts s.ya o.yb ts:=fun o ho=>k8a fun a ha=>(u o ho a ha).1;rw [kahk hn f];unfold tlN;refine ⟨fun t=>?_,?_⟩
  ·rw [qay];constructor;rintro ⟨o,ho,ht⟩;obtain ⟨ts,d,rfl⟩:=qaa.1 ht;exact .mk hn ho ((j o ho ts).1 d)
   ·intro k;obtain ⟨n,o,ts,g,ho,rfl,hs⟩:=k.inv;rw [hn] at g;cases g;exact ⟨o,ho,qaa.2 ⟨ts,(j o ho ts).2 hs,rfl⟩⟩
  ·unfold List.Nodup;rw [List.pairwise_flatMap];refine ⟨fun o ho=>?_,?_⟩;unfold tlO;rw [List.pairwise_map];exact List.Pairwise.imp (fun {x y} l e=>l (by injection e)) (k4d fun a ha=>(u o ho a ha).2)
   ·have hp:=k3y (R:=fun o p:Opn=>kfh o p<0) (fun a b c=>kt8) _ (hf.node i _ hn).asc;refine List.Pairwise.imp_of_mem (fun {o p} ho m q x v y hy e=>?_) hp;obtain ⟨ts,d,rfl⟩:=qaa.1 v;obtain ⟨us,r,rfl⟩:=qaa.1 hy;injection e with e1 e2;subst e2;have e3:=k5m hf hu ((j o ho ts).1 d) ((j p m ts).1 r);have:o=p:=(by cases o;cases p;simp only at e1 e3;rw [e1,e3]);subst this;rw [k0d] at q;omega
omit hu in
theorem kalp {i:Nat} (hi:i<s.ya.length):(TL s.ya i).length=((s.ya[i]).yc.map fun o=>kls (fun a=>(TL s.ya a.toNat).length) o.yb).sum:=by have hn:=qb hi;rw [kahk hn (fun o ho=>kqn hf hn (o:=o) ho)];unfold tlN;rw [List.length_flatMap];congr 1;refine qbl fun o ho=>?_;unfold tlO;rw [qs,k9p]
end
def cap (C x:Nat):Int:=((min x (C+1):Nat):Int)
theorem kadd (C x:Nat):0<=cap C x/\cap C x<=(C:Int)+1:=by unfold cap;omega
theorem kahg {C:Nat} (hC:C<=1000000):w64 ((C:Int)+1)=(C:Int)+1:=kas
theorem capA {C:Nat} (hC:C<=1000000) (a b:Nat):imin (w64 (cap C a+cap C b)) (w64 ((C:Int)+1))=cap C (a+b):=by have h1:=kadd C a;have c:=kadd C b;rw [kahg hC,kas];unfold imin cap;split <;> omega
theorem kajg (M a b:Nat) (e:1<=M):min (min a M*min b M) M=min (a*b) M:=by
 by_cases ha:a<=M
 ·by_cases d:b<=M;rw [qce ha,qce d]
  ·rw [qce ha,Nat.min_eq_right (show M<=b by omega)];cases a with
   | zero=>simp
   | succ a=>
    have h1:M<=(a+1)*M:=Nat.le_mul_of_pos_left _ (by omega);have c:M<=(a+1)*b:=qag (show M<=b by omega) (Nat.le_mul_of_pos_left _ (by omega));rw [Nat.min_eq_right h1,Nat.min_eq_right c]
 ·rw [Nat.min_eq_right (show M<=a by omega)];cases b with
  | zero=>simp
  | succ b=>
   have h1:M<=M*min (b+1) M:=Nat.le_mul_of_pos_right _ (by omega);have c:M<=a*(b+1):=qag (show M<=a by omega) (Nat.le_mul_of_pos_right _ (by omega));rw [Nat.min_eq_right h1,Nat.min_eq_right c]
theorem capM {C:Nat} (hC:C<=1000000) (a b:Nat):imin (w64 (cap C a*cap C b)) (w64 ((C:Int)+1))=cap C (a*b):=by
 have e:cap C a*cap C b=((min a (C+1)*min b (C+1):Nat):Int):=by unfold cap;rw [Int.natCast_mul]
 have c:min a (C+1)*min b (C+1)<=1000001*1000001:=Nat.mul_le_mul (by omega) (by omega);rw [kahg hC,e,kas];have h:=kajg (C+1) a b (by omega);unfold imin cap;rw [<- h];split <;> omega
section
variable {s:Spa} (hf:kb6 s) {C:Nat} (hC:C<=1000000)
def cT (s:Spa) (a:Int):Nat:=(TL s.ya a.toNat).length
def kjn (s:Spa) (n:Nat):Nat:=((List.range n).map fun i=>(TL s.ya i).length).sum
include hf hC
theorem kagc {i:Nat} {n:Nod} {o:Opn} (hn:s.ya[i]?=some n) (ho:o∈n.yc) (ways:List Int) (f:∀ a:Nat,a<i->ways[a]?=some (cap C (TL s.ya a).length)) (k:Int):
  kac (kfs (C:Int) (k,ways) o) fuel (1,0)=some (cap C (kls (cT s) o.yb)):=by
 have c:=kqn hf hn ho;have g:=kgt hf hn ho;have h:=kck (kfs (C:Int) (k,ways) o) o.yb.length (fun j=>(cap C (kls (cT s) (o.yb.take j)),(j:Int))) (cap C (kls (cT s) o.yb)) (fun j b=>?_) ?_
 ·have e:cap C (kls (cT s) (o.yb.take 0))=1:=by show cap C 1=1;unfold cap;omega
  rw [e] at h;exact h
 ·have ha:=c _ (qn b);have d:idx ways o.yb[j]=some (cap C (cT s o.yb[j])):=by rw [idxN ha.1,f _ (by omega)];rfl
  simp only [kfs,kao b,qd,kaf,qb b,qa,d,kak b (show o.yb.length<=9223372036854775807 by omega)];rw [capM hC,<- k1i,List.take_append_getElem b]
 ·simp only [kfs,kan,qc,qar]
theorem kabl {i:Nat} (hi:i<s.ya.length) (ways:List Int) (d:ways.length=s.ya.length) (g:∀ a:Nat,a<i->ways[a]?=some (cap C (TL s.ya a).length)) (b:∀ a:Nat,i<=a->a<s.ya.length->ways[a]?=some 0) (k:Int):
  Ev (kac (kfz s (C:Int) (k,(i:Int),ways)) fuel (0,ways)) fun w=>w.length=s.ya.length/\(∀ a:Nat,a<i+1->w[a]?=some (cap C (TL s.ya a).length))/\∀ a:Nat,i+1<=a->a<s.ya.length->w[a]?=some 0:=by
 have hn:=qb hi;have h:(s.ya[i]).yc.length<=32768:=qag (ksc hn) hf.opts
 let part:Nat->Nat:=fun j=>(((s.ya[i]).yc.take j).map fun o=>kls (cT s) o.yb).sum
 refine ko9 (step:=kfz s (C:Int) (k,(i:Int),ways)) (s.ya[i]).yc.length (fun j st=>∃ w,st=((j:Int),w)/\w.length=s.ya.length/\(∀ a:Nat,a<i->w[a]?=some (cap C (TL s.ya a).length))/\w[i]?=some (cap C (part j))/\∀ a:Nat,i+1<=a->a<s.ya.length->w[a]?=some 0) (by omega)
  ⟨ways,rfl,d,g,by rw [b i (qx _) hi];show some 0=some (cap C 0);unfold cap;simp,fun a ha=>b a (by omega)⟩ (fun j st c hst=>?_) (fun st hst=>?_)
 ·obtain ⟨w,rfl,w1,w2,w3,w4⟩:=hst;have f:=kagc hf hC hn (qn c) w w2 (j:Int);simp only [kfz,kaf,hn,qa,kao c,qd,qb c,f,w3,kak c (show (s.ya[i]).yc.length<=9223372036854775807 by omega),qah];rw [capA hC];refine ⟨_,rfl,_,rfl,by rw [qbk];exact w1,fun a ha=>?_,?_,fun a h1 l=>?_⟩;rw [List.getElem?_set,qi (by omega)];exact w2 a ha;rw [List.getElem?_set,ql rfl,ql (by omega)];show some (cap C _)=some (cap C (part (j+1)));congr 2;show _=(((s.ya[i]).yc.take (j+1)).map fun o=>kls (cT s) o.yb).sum;rw [<- List.take_append_getElem c,qax,qb4];show _=part j+_;simp
  ·rw [List.getElem?_set,qi (by omega)];exact w4 a h1 l
 ·obtain ⟨w,rfl,w1,w2,w3,w4⟩:=hst;refine ⟨.inr w,by simp only [kfz,kaf,hn,qa,kan,qc],w,rfl,w1,fun a ha=>?_,w4⟩;by_cases e:a=i;subst e;rw [w3,kalp hf hi];show some (cap C (part (s.ya[a]).yc.length))=_;congr 2;show (((s.ya[a]).yc.take (s.ya[a]).yc.length).map fun o=>kls (cT s) o.yb).sum=_;rw [qar];rfl
  ·exact w2 a (by omega)
theorem k5u:khj s (C:Int)=some (cap C (kjn s s.ya.length)):=by
 have d:=hf.nodes;unfold khj;rw [kla 8 (0:Int) s.ya.length,qa];have b:((0:Int),(0:Int),List.replicate s.ya.length (0:Int))=(cap C (kjn s 0),((0:Nat):Int),List.replicate s.ya.length (0:Int)):=by
  have e:cap C 0=0:=by unfold cap;simp
  show _=(cap C 0,_,_);rw [e];rfl
 refine Ev.eq (kc7 (Ev.mono (ko9 (step:=khp s (C:Int)) (Q:=fun v=>v=cap C (kjn s s.ya.length)) s.ya.length (fun i st=>∃ w,st=(cap C (kjn s i),(i:Int),w)/\w.length=s.ya.length/\(∀ a:Nat,a<i->w[a]?=some (cap C (TL s.ya a).length))/\∀ a:Nat,i<=a->a<s.ya.length->w[a]?=some 0) (by omega)
  ⟨List.replicate s.ya.length 0,b,qa0,fun a ha=>by omega,fun a _ ha=>by rw [qbu,ql ha]⟩ (fun i st hi hst=>?_) (fun st hst=>?_)) fun v h=>⟨v,rfl,h⟩))
 obtain ⟨w,rfl,w1,w2,w3⟩:=hst;obtain ⟨w',h1,f,c,g⟩:=kabl hf hC hi w w1 w2 w3 (cap C (kjn s i));simp only [khp,kao hi,qd,h1,qa,kaf,c i (by omega),kak hi (show s.ya.length<=9223372036854775807 by omega)];rw [capA hC];refine ⟨_,rfl,w',?_,f,c,g⟩;congr 2;unfold kjn;rw [qbg,qax,qb4];simp
 ·obtain ⟨w,rfl,_⟩:=hst;exact ⟨.inr _,by simp only [khp,kan,qc],_,rfl,rfl⟩
omit hC in
theorem kado:∃ b,kfg s 1000=some b/\(b=true->s.ya.length<=40/\kjn s s.ya.length<=1000):=by
 have g:=hf.nodes;obtain ⟨b,j,d⟩:=kvs (ko8 hf);obtain rfl:b=true:=d.2 hf;have f:=k5u hf (C:=1000) (by omega);unfold kfg;by_cases e:s.ya.length<=40
 ·rw [qg (by omega),qc];have c:∀ i,optN (s.ya.take i)<=32768:=fun i=>qag (knq _ _) hf.opts;obtain ⟨v,hv,_⟩:=ksp (step:=khb s) (s0:=(0,0)) (Q:=fun _=>True) (fun st=>∃ i:Nat,st=((optN (s.ya.take i):Int),(i:Int))/\i<=s.ya.length) (fun st=>s.ya.length - st.2.toNat) (by show _ - _<_;omega) ⟨0,by simp [optN],qao _⟩ (fun st hst=>by
   obtain ⟨i,rfl,hi⟩:=hst;by_cases a:i<s.ya.length
   ·have hn:=qb a;simp only [khb,kao a,qd,qa];cases decide ((optN (s.ya.take i):Int)<=120) with
    | false=>exact ⟨.inr _,rfl,trivial⟩
    | true=>
     have h1:=c (i+1);have k:=ko7 (ns:=s.ya) a;rw [qd,kaf,hn,qa,kak a (by omega),show w64 ((optN (s.ya.take i):Int)+((s.ya[i]).yc.length:Int))=(optN (s.ya.take (i+1)):Int) by rw [kas];omega];exact ⟨_,rfl,⟨i+1,rfl,by omega⟩,by show s.ya.length - ((i+1:Nat):Int).toNat<s.ya.length - (i:Int).toNat;omega⟩
   ·obtain rfl:i=s.ya.length:=(by omega);exact ⟨.inr (optN (s.ya.take s.ya.length):Int),by simp only [khb,kan,qc,qa],trivial⟩)
  rw [hv,qa];cases decide (v<=120) with
  | false=>exact ⟨false,rfl,fun h=>by cases h⟩
  | true=>
   rw [qd,j,qa,qd];rw [show ((1000:Nat):Int)=1000 from rfl] at f;rw [f,qa,qa];refine ⟨_,rfl,fun h=>⟨e,?_⟩⟩;have:=of_decide_eq_true h;unfold cap at this;omega
 ·rw [qj (by omega),qd];exact ⟨false,rfl,fun h=>by cases h⟩
end
theorem kaf7 (t:Tm) (h:t.size<=1000):kcp t t=some 0:=by rw [kyb t t h h,cmpT_eq0.2 rfl]
theorem kadm (L:List Tm) (hl:L.length<=100000) (a:∀ u∈L,u.size<=1000):kiu L L=some true:=by unfold kiu;rw [show ((L.length:Int) != (L.length:Int))=false by simp,qc];have h:kac (kfv L L) fuel 0=some (.inl ()):=kck (kfv L L) L.length (fun k=>(k:Int)) _ (fun k hk=>by simp only [kfv,kao hk,qd,kaf,qb hk,qa,kaf7 _ (a _ (qn hk)),kak hk (show L.length<=9223372036854775807 by omega)];rfl) (by simp only [kfv,kan,qc]);rw [h];rfl
theorem kaa0 (all:List Tm) (t:Tm) (hl:all.length<=100000) (c:∀ u∈all,u.size<=1000) (ht:t.size<=1000) (a:t∉all):khs all t=some (-1):=by unfold khs;have h:kac (kea all t) fuel 0=some (.inl ()):=kck (kea all t) all.length (fun k=>(k:Int)) _ (fun k hk=>by have hm:=qn hk;have b:cmpT all[k] t≠0:=fun e=>a (cmpT_eq0.1 e ▸ hm);simp only [kea,kao hk,qd,kaf,qb hk,qa,kyb _ _ (c _ hm) ht,kak hk (show all.length<=9223372036854775807 by omega)];rw [show (cmpT all[k] t == 0)=false by simp [b],qc]) (by simp only [kea,kan,qc]);rw [h];rfl
theorem un_l1 (L all:List Tm) (hl:all.length+L.length<=100000) (f:∀ u∈all,u.size<=1000) (b:∀ u∈L,u.size<=1000) (hn:L.Nodup) (g:∀ u∈L,u∉all) (e:Int):
  kac (kc6 (L,e)) fuel (0,all)=some (.inl (all++L)):=by
 have h:=kck (kc6 (L,e)) L.length (fun j=>((j:Int),all++L.take j)) (.inl (all++L)) (fun j a=>?_) ?_;simpa using h
 ·have hm:=qn a;have k:(L.take j).length<=L.length:=by rw [qam];omega
  have c:L[j]∉all++L.take j:=fun hc=>by
   rcases qak.1 hc with h1 | h1;exact g _ hm h1
   ·obtain ⟨i,hi,e⟩:=List.mem_take_iff_getElem.1 h1;have d:=List.pairwise_iff_getElem.1 hn i j (by omega) a (by omega);exact d e
  have hp:=kaa0 (all++L.take j) (L[j]) (by rw [qac];omega) (fun u hu=>by
   rcases qak.1 hu with h1 | h1;exact f u h1
   ·exact b u (qbd h1)) (b _ hm) c
  simp only [kc6,kao a,qd,kaf,qb a,qa,hp,kak a (show L.length<=9223372036854775807 by omega)];rw [show decide ((0:Int) <= -1)=false from rfl,qc,kcg (by rw [qac,qab];omega),qa,qbi,List.take_append_getElem a]
 ·simp only [kc6,kan,qc,qar]
theorem unamb {s:Spa} (hf:kb6 s) (hu:kx2 s.ya) (p:FewT s.ya) (ht:kbz s=some (s,0)) (q:kjn s s.ya.length<=1000):kfk s=some true:=by
 have B:=hf.nodes;have c:∀ (i:Nat) (t:Tm),Bt s.ya i t->t.size<=1000:=fun i t h=>by have hi:=k01 h;have h1:=kxo hf t i _ (qb hi) h;have w:=(hf.node i _ (qb hi)).size;omega
 have d:∀ i,i<=s.ya.length->kjn s i<=kjn s s.ya.length:=fun i hi=>by
  have key:∀ n,i<=n->kjn s i<=kjn s n:=fun n=>by
   induction n with
   | zero=>
     intro h;obtain rfl:i=0:=(by omega);exact qx _
   | succ n ih=>
    intro h;by_cases e:i=n+1;subst e;exact qx _
    ·have:=ih (by omega);have e2:kjn s (n+1)=kjn s n+(TL s.ya n).length:=(by unfold kjn;rw [qbg,qax,qb4];simp);omega
  exact key _ hi
 unfold kfk;rw [ht,qa];simp only;rw [show ((0:Int) != 0)=false from rfl,qc,qa,show ((s.ya.length:Int) != (s.ya.length:Int))=false by simp,qc];obtain ⟨r,hr,all,rfl,f⟩:=ko9 (step:=ked s (s,0)) (s0:=(0,([]:List Tm))) (Q:=fun v=>∃ all,v = .inl all/\all.length=kjn s s.ya.length) s.ya.length
  (fun i st=>∃ all:List Tm,st=((i:Int),all)/\all.length=kjn s i/\∀ u∈all,∃ a,a<i/\Bt s.ya a u) (by omega) ⟨[],rfl,rfl,by simp⟩ (fun i st hi hst=>by
   obtain ⟨all,rfl,a1,a2⟩:=hst;have hn:=qb hi;have j:kb6 ⟨s.ya,[(i:Int)]⟩:=⟨hf.nodes,⟨fun x D=>by rw [qai.1 D];show (0:Int)<=(i:Int)/\(i:Int)<(s.ya.length:Int);omega,fun k x y h1 w=>by simp at w⟩,hf.node,hf.opts,hf.con⟩;obtain ⟨X,x1,x2,x3⟩:=p i;have g:∀ t,InS ⟨s.ya,[(i:Int)]⟩ t↔Bt s.ya i t:=fun t=>by
    constructor;rintro ⟨r,hr,_,b⟩;rw [qai.1 hr,qah] at b;exact b
    ·intro h;exact ⟨(i:Int),qai.2 rfl,by omega,by rw [qah];exact h⟩
   obtain ⟨⟨L,e⟩,E,rfl,l1,l2⟩:=k30 j p (Y:=X) x1 x2 (fun t h=>x3 t ((g t).1 h));simp only at l1 l2;have l3:∀ t,t∈L↔Bt s.ya i t:=fun t=>(l2 t).trans (g t);obtain ⟨t1,t2⟩:=k76 hf hu (i+1) i (by omega) hi;have z:L.length=(TL s.ya i).length:=Nat.le_antisymm (ktq _ _ l1.nodup fun u h=>(t1 u).2 ((l3 u).1 h)) (ktq _ _ t2 fun u h=>(l3 u).2 ((t1 u).1 h));have e2:kjn s (i+1)=kjn s i+(TL s.ya i).length:=(by unfold kjn;rw [qbg,qax,qb4];simp);have F:=d (i+1) (by omega);have l:=un_l1 L all (by omega) (fun u h=>by obtain ⟨a,_,b⟩:=a2 u h;exact c a u b) (fun u h=>c i u ((l3 u).1 h)) l1.nodup (fun u h hc=>by obtain ⟨a,ha,b⟩:=a2 u hc;have:=k78 hf hu b ((l3 u).1 h);omega) 0;simp only [ked,kao hi,qd,kaf,hn,qa,kak hi (show s.ya.length<=9223372036854775807 by omega)];rw [show (((s.ya[i]).yc.length:Int) != ((s.ya[i]).yc.length:Int))=false by simp,qc];have m:kd3 (Sad.mk s.ya ([(i:Int)]:List Int))=some (L,0):=E;rw [m,qa,l,qa];refine ⟨_,rfl,all++L,rfl,by rw [qac];omega,fun u o=>?_⟩;rcases qak.1 o with h1 | h1;obtain ⟨a,ha,b⟩:=a2 u h1;exact ⟨a,by omega,b⟩
   ·exact ⟨i,by omega,(l3 u).1 h1⟩) (fun st hst=>by
   obtain ⟨all,rfl,a1,a2⟩:=hst;exact ⟨.inr (.inl all),by simp only [ked,kan,qc],_,rfl,all,rfl,a1⟩)
 rw [hr,qa,qy];have A:=k5u hf (C:=1000000) (by omega);rw [show ((1000000:Nat):Int)=1000000 from rfl] at A;rw [A,qa,f];congr 1;rw [beq_iff_eq];unfold cap;omega
theorem kakn (l:La):kjf l=some (decide (l.rules.length<=20) && decide (l.symbols.length<=8)):=by
 unfold kjf;by_cases h1:l.rules.length<=20
 ·rw [qj (show (l.rules.length:Int)<=20 by omega),qd,qj h1,Bool.true_and];by_cases a:l.symbols.length<=8;rw [qj (show (l.symbols.length:Int)<=8 by omega),qj a];rfl
  ·rw [qg (show ¬ (l.symbols.length:Int)<=8 by omega),qg a];rfl
 ·rw [qg (show ¬ (l.rules.length:Int)<=20 by omega),qc,qg h1,Bool.false_and];rfl
theorem kadk (l:La) (s:Int):∀ (n k:Nat),1<=k->k<=n->VN l s k<=totC l s n
 | 0,k,h1,a=>by omega
 | n+1,k,h1,a=>by
  show VN l s k<=totC l s n+VN l s (n+1);by_cases hk:k=n+1;subst hk;omega
  ·have:=kadk l s n k h1 (by omega);omega
theorem k0p {α:Type} (f:Nat->List α):∀ n,((List.range n).flatMap f).length=NS.sum (fun k=>(f k).length) n
 | 0=>rfl
 | n+1=>by rw [qbg,qbz,qac,k0p f n];simp [SR.sum,NS]
def kahj (l:La) (most:Int) (x:Nat):Prop:=(errC l 0 (x:Int) most=0->totC l (x:Int) most.toNat<=300)/\¬ (6<most/\most<=24)
theorem kacr {l:La} {c:Int} (e:kaz l=some c) (hg:c=0->khu l) (hs:l.symbols.length<=8) (most:Int):
  Ev (kac (kc2 l most) fuel 0) fun v=>v = .inr true\/(v = .inl ()/\(c=0->∀ x,x<l.symbols.length->kahj l most x)):=by
 refine ko9 (step:=kc2 l most) l.symbols.length (fun i st=>st=(i:Int)/\(c=0->∀ x,x<i->kahj l most x)) (by omega) ⟨rfl,fun _ x h=>by omega⟩ (fun i st hi hst=>?_) (fun st hst=>?_)
 ·obtain ⟨rfl,m⟩:=hst;by_cases hc:c=0
  ·subst hc;have g:=kace (hg rfl) (i:Int) most e;simp only [kc2,kao hi,qd,e,qa,kak hi (show l.symbols.length<=9223372036854775807 by omega)];rw [show ((0:Int) == 0)=true from rfl,qd,g,qa];generalize hv:(if errC l 0 (i:Int) most≠0 then ((0:Int),errC l 0 (i:Int) most) else ansC (totC l (i:Int) most.toNat))=v;by_cases b:v.2=11;rw [show (v.2 == 11)=true by simp [b],qd,qa,qd];exact ⟨_,rfl, .inl rfl⟩
   ·rw [show (v.2 == 11)=false by simp [b],qc];by_cases a:300<v.1;rw [qj a,qd,qa,qd];exact ⟨_,rfl, .inl rfl⟩
    ·rw [qg a,qc];by_cases n:6<most
     ·rw [qj n,qd];by_cases f:most<=24;rw [qj f,qa,qd];exact ⟨_,rfl, .inl rfl⟩
      ·rw [qg f,qa,qc];refine ⟨_,rfl,rfl,fun _ x p=>⟨fun j=>?_,fun h=>f h.2⟩⟩;have q:badQ l (x:Int) most=true:=(by unfold badQ;rw [qj (show (24:Int)<most by omega)];simp);unfold errC at j;rw [qi (by simp),ql q] at j;cases j
     ·rw [qg n,qc,qa,qc];refine ⟨_,rfl,rfl,fun _ x p=>?_⟩;by_cases o:x=i
      ·subst o;refine ⟨fun j=>?_,fun h=>n h.1⟩;rw [qi (by simp [j])] at hv;subst hv;unfold ansC at b a;by_cases d:(1152921504606846976:Int)<en (totC l (x:Int) most.toNat);rw [ql d] at b;exact absurd rfl b
       ·rw [qi d] at a;unfold en at a;simp only at a;omega
      ·exact m rfl x (by omega)
  ·simp only [kc2,kao hi,qd,e,qa];rw [show (c == 0)=false by simp [hc],qc];exact ⟨_,rfl, .inr ⟨rfl,fun h=>absurd h hc⟩⟩
 ·obtain ⟨rfl,m⟩:=hst;refine ⟨.inr (.inl ()),?_,_,rfl, .inr ⟨rfl,m⟩⟩;simp only [kc2,kan,qc,qa]
theorem k5v (l:La) (sy most:Int) (hl:k1k l) (_:ki5 sy) (_:ki5 most):kio l sy most=some true:=by
 unfold kio;rw [kakn,qa];by_cases h20:l.rules.length<=20
 ·by_cases h8:l.symbols.length<=8
  ·rw [qj h20,qj h8,Bool.and_self,qbc,qc];obtain ⟨c,y,g,hg⟩:=kaku l hl;obtain ⟨v,hv,N⟩:=kacr g hg h8 most;rw [hv,qa];rcases N with rfl | ⟨rfl,z⟩;rfl;rw [qy]
   -- errors are alike
   have F:(∃ e:Int,e≠0/\kmi l sy most=some (⟨[],[]⟩,e)/\ke0 l sy most=some (⟨[],[]⟩,e))\/(c=0/\badQ l sy most=false):=by
    by_cases hc:c=0
    ·subst hc;cases a:badQ l sy most with
     | false=>exact .inr ⟨rfl,rfl⟩
     | true=>
      refine .inl ⟨1,by omega,?_,?_⟩;unfold kmi;rw [y,qa,show ((0:Int) != 0)=false from rfl,qc,kye,a,qa,qd]
      ·unfold ke0;rw [g,qa,show ((0:Int) != 0)=false from rfl,qc,kye,a,qa,qd]
    ·refine .inl ⟨c,hc,?_,?_⟩;unfold kmi;rw [y,qa,show (c != 0)=true by simp [hc],qd]
     ·unfold ke0;rw [g,qa,show (c != 0)=true by simp [hc],qd]
   rcases F with ⟨e,he,h1,V⟩ | ⟨rfl,a⟩;rw [h1,V,qa,qa];simp only;rw [show (e != e)=false by simp,qc,show (e != 0)=true by simp [he],qd];rfl
   ·have d:=hg rfl;obtain ⟨s0,s1,m1,m24⟩:=k0w a;have Y:=z rfl;have aa:most<=6:=(by have:=(Y 0 (by omega)).2;omega);obtain ⟨m,rfl⟩:∃ m:Nat,most=(m:Int):=⟨most.toNat,by omega⟩;have q:∀ x:Nat,x<l.symbols.length->totC l (x:Int) m<=300:=fun x G=>(by have:=(Y x G).1 (k2t m1 m24);rw [qah] at this;exact this);have Z:∀ x k:Nat,x<l.symbols.length->k<=m->VN l (x:Int) k<=300:=fun x k G hk=>by
     by_cases h0:k=0;subst h0;rw [k08,kxq];exact qao _
     ·exact qag (kadk l (x:Int) m k (by omega) hk) (q x G)
    obtain ⟨L,Q,hT,hA,hR⟩:=kae0 (sy:=sy) d h8 h20 (by omega) y g s0 s1 (by omega) (fun x k G hk=>qag (Z x k G hk) (by omega));have hI:=kqp d h8 h20 (show m<=6 by omega);have j:=k5y (sy:=sy) d h8 h20 (show m<=6 by omega);have hk:=kac9 hT;have hf:=kxh j hk;have hu:=kade (fg L) (fg Q) (kae5 (sy:=sy) d h8 h20 (show m<=6 by omega));have H:=kagk j hk (kaix (sy:=sy) d h8 h20 (show m<=6 by omega));have I:∀ t,InS (spA l m sy) t->∃ k,k<m/\t∈dl l sy (k+1):=fun t ⟨r,hr,_,A⟩=>(by obtain ⟨i,n,rfl,hn,hs⟩:=mem_rsL.1 hr;obtain ⟨⟨k,k1,k2,k3,k4⟩,_,_,_,o⟩:=hI.ainv.node i n hn;rw [qah] at A;have:=(o t).1 A;rw [hs,k1,qah] at this;exact ⟨k - 1,by omega,by rw [show k - 1+1=k by omega];exact this⟩);have B:FewT (spA l m sy).ya:=fun i=>by
     by_cases hi:i<(nsK l m).length
     ·obtain ⟨⟨k,k1,k2,k3,k4⟩,g0,g1,_,A⟩:=hI.ainv.node i (nsK l m)[i] (qb hi);refine ⟨dl l ((nsK l m)[i]).yf ((nsK l m)[i]).ye.toNat,?_,fun u hu=>?_,fun t ht=>(A t).1 ht⟩;rw [<- k08,k1,qah];have:=Z ((nsK l m)[i]).yf.toNat k (by omega) (by omega);rw [show ((((nsK l m)[i]).yf.toNat:Nat):Int)=((nsK l m)[i]).yf by omega] at this;omega
      ·have:=k8w _ _ u hu;rw [this,k1,qah];omega
     ·exact ⟨[],by simp,by simp,fun t ht=>absurd (k01 ht) hi⟩
    have w:=k7x j hk B;have hY:((List.range m).flatMap fun k=>dl l sy (k+1)).length<=4096:=(by rw [k0p];have e:NS.sum (fun k=>(dl l sy (k+1)).length) m=totC l sy m:=(by unfold totC;congr 1;funext k;rw [k08]);rw [e];have:=q sy.toNat (by omega);rw [show ((sy.toNat:Nat):Int)=sy by omega] at this;omega);have J:∀ t,InS (kb7 (fg L) (fg Q) (spA l m sy)) t->t∈(List.range m).flatMap fun k=>dl l sy (k+1):=fun t h=>(by obtain ⟨k,C,O⟩:=I t ((k5a j hk t).1 h);exact qay.2 ⟨k,qa8.2 C,O⟩);have D:=k30 hf w hY (fun u hu=>by obtain ⟨k,C,O⟩:=qay.1 hu;have:=qa8.1 C;rw [k8w _ _ u O];omega) J;have P:kbz (kb7 (fg L) (fg Q) (spA l m sy))=some (kb7 (fg L) (fg Q) (spA l m sy),0):=by
     obtain ⟨r,hr,h⟩:=kadf (ko8 hf);rcases h with ⟨h0,_⟩ | ⟨_,L',Q',R,rfl⟩;exact absurd hf h0
     ·rw [hr,kaaz j hT R]
    have K:=kad5 d g hf H;rw [hA,hR,qa,qa];simp only;generalize kb7 (fg L) (fg Q) (spA l m sy)=s at *
    rw [show ((0:Int) != 0)=false from rfl,qc,qc,K,qa,show ((0:Int) != 0)=false from rfl,qc];obtain ⟨b,A,S⟩:=kado hf;rw [A,qa];cases b with
    | false=>rfl
    | true=>
     rw [qbc,qc,qa,qbc,qa,qc];obtain ⟨⟨X,e⟩,hX,rfl,x1,x2⟩:=D;simp only at x1 x2;obtain ⟨_,M⟩:=S rfl;have T:∀ u∈X,u.size<=1000:=fun u U=>(by obtain ⟨r,_,_,o⟩:=(x2 u).1 U;have hi:=k01 o;have h1:=kxo hf u _ _ (qb hi) o;have V:=(hf.node _ _ (qb hi)).size;omega);have ab:X.length<=4096:=(by exact qag (x1.len fun u h=>J u ((x2 u).1 h)) hY);have E:khz l s X=some true:=(by unfold khz;rw [K,qa,show ((0:Int) != 0)=false from rfl,qc,A,qa,qbc,qc,hX,qa];simp only;rw [show ((0:Int) == 0)=true from rfl,qd,kadm X (by omega) T,qa,qd,unamb hf hu w P M];rfl);rw [hX,qa];simp only;rw [E];rfl
  ·rw [qg h8,Bool.and_false,Bool.not_false,qd];rfl
 ·rw [qg h20,Bool.false_and,Bool.not_false,qd];rfl
open Go Go.RowKit Go.Proofs Go.Proofs.Tryz
def gv0:Array Value:=#[.int .u64 1, .int .u64 10, .int .u64 100, .int .u64 1000, .int .u64 10000, .int .u64 100000, .int .u64 1000000, .int .u64 10000000, .int .u64 100000000, .int .u64 1000000000, .int .u64 10000000000, .int .u64 100000000000, .int .u64 1000000000000, .int .u64 10000000000000, .int .u64 100000000000000, .int .u64 1000000000000000, .int .u64 10000000000000000, .int .u64 100000000000000000, .int .u64 1000000000000000000, .int .u64 10000000000000000000]
def gv2:Array Value:=#[.int .u8 0, .int .u8 1, .int .u8 28, .int .u8 2, .int .u8 29, .int .u8 14, .int .u8 24, .int .u8 3, .int .u8 30, .int .u8 22, .int .u8 20, .int .u8 15, .int .u8 25, .int .u8 17, .int .u8 4, .int .u8 8, .int .u8 31, .int .u8 27, .int .u8 13, .int .u8 23, .int .u8 21, .int .u8 19, .int .u8 16, .int .u8 7, .int .u8 26, .int .u8 12, .int .u8 18, .int .u8 6, .int .u8 11, .int .u8 5, .int .u8 10, .int .u8 9]
def gv3:Array Value:=#[.int .u8 0, .int .u8 1, .int .u8 56, .int .u8 2, .int .u8 57, .int .u8 49, .int .u8 28, .int .u8 3, .int .u8 61, .int .u8 58, .int .u8 42, .int .u8 50, .int .u8 38, .int .u8 29, .int .u8 17, .int .u8 4, .int .u8 62, .int .u8 47, .int .u8 59, .int .u8 36, .int .u8 45, .int .u8 43, .int .u8 51, .int .u8 22, .int .u8 53, .int .u8 39, .int .u8 33, .int .u8 30, .int .u8 24, .int .u8 18, .int .u8 12, .int .u8 5, .int .u8 63, .int .u8 55, .int .u8 48, .int .u8 27, .int .u8 60, .int .u8 41, .int .u8 37, .int .u8 16, .int .u8 46, .int .u8 35, .int .u8 44, .int .u8 21, .int .u8 52, .int .u8 32, .int .u8 23, .int .u8 11, .int .u8 54, .int .u8 26, .int .u8 40, .int .u8 15, .int .u8 34, .int .u8 20, .int .u8 31, .int .u8 10, .int .u8 25, .int .u8 14, .int .u8 19, .int .u8 9, .int .u8 13, .int .u8 8, .int .u8 7, .int .u8 6]
def k99 : List (String × DataW Unit) := [("math/bits.deBruijn32tab", Rows.laid_math_bits_deBruijn32tab), ("math/bits.deBruijn64tab", Rows.laid_math_bits_deBruijn64tab), ("internal/strconv.uint64pow10", Rows.laid_internal_strconv_uint64pow10)]
theorem kw3 {H:Type} {enc:TypeId×Value->H} {a:Assume} {C:Checked} {os:Os} {f:FuncId} {fn:Func} {s:ChangeSpec} {conds:List PathCond} {apart fresh b again:Bool} {X:World->Array Value->Prop}
  (o:∀ (w w':World) (args:Array Value),w.heap=w'.heap->X w args->X w' args)
  (own:ownKnob C.prog.godebug=none) (started:os.Started) (noInit:C.prog.inits.idxOf? f=none) (k:C.prog.funcs[f]?=some fn)
  (witness:∃ (w:World) (tape:Tape) (i:Input),w.os=os/\(w.forCall tape i).Shaped C.prog/\i.vars=[]/\Input.okWide C.prog (w.forCall tape i) .any w.heap.size f i /\
   ((s.pre enc C.prog fn conds apart (w.forCall tape i).memory i.args/\X (w.forCall tape i).memory i.args)/\sizedMet enc C.prog fn (OpenSpec.ofChange s) apart (w.forCall tape i).memory i.args)/\a.holds C.prog (lone (Frame.enter C.prog f i.args .normal) [] (w.forCall tape i)))
  (contract:∀ (W:World) (base:Nat) (args:Array Value) (ds gs:List (DataW H)) (before:List MemPlace),
   (∀ (j:Nat) t v,fn.params[j]?=some t->args[j]?=some v->Value.okWide C.prog W .any base t v) ->
   DataW.Whole enc C.prog fn.params.toList s.vars apart W args.toList ds gs before->X W args->(DataW.weightsEach C.prog (fn.params.toList++s.plain.varTypes C.prog) (ds++gs)).all (·<=reachBytes)=true ->
   Calls C.prog f args W fun e W'=>∃ v,e = .returned v/\s.post enc C.prog fn apart fresh b again W args v W'):
  ReturnsInHanded a C os f .any (fun w args=>(s.pre enc C.prog fn conds apart w args/\X w args)/\sizedMet enc C.prog fn (OpenSpec.ofChange s) apart w args) (s.post enc C.prog fn apart fresh b again):=by
 refine returnsInHanded_of_calls own started noInit witness ?_;intro w tape i _ p _ l c h;obtain ⟨_,_,_,fn',d,_,_,_,_,g⟩:=l;have e:fn'=fn:=qas (d.symm.trans k);subst e;obtain ⟨⟨⟨ds,gs,before,n,hc⟩,q⟩,r⟩:=c;have m:=DataW.Whole.of_heap (w':=w.forCall tape i) (by rfl) n;refine (contract (w.forCall tape i) w.heap.size i.args ds gs before g m (o _ _ _ (by rfl) q) (r.weights n)).mono fun e W' ⟨v,u,hp⟩=>?_;subst u;exact ChangeSpec.post_blind hp
noncomputable def k23 (os:Os):World:=
 let w0:=World.holding prog os ⟨#[],#[],[]⟩
 { w0 with heap:=(((w0.heap).modify 0 (fun | Obj.cells _ t fr=>Obj.cells gv0 t fr | o=>o)).modify 2 (fun | Obj.cells _ t fr=>Obj.cells gv2 t fr | o=>o)).modify 3 (fun | Obj.cells _ t fr=>Obj.cells gv3 t fr | o=>o) }
theorem k4f (os:Os) (args:Array Value):laidMetH prog k99 ((k23 os).forCall (fun _ _=>0) ⟨#[],args,[]⟩).memory:=
 laidMetH_of_parts (laidMet_of_run' 8 (by kernel_rfl) (by kernel_rfl)) (by kernel_rfl)
open Go Go.RowKit Go.ChangeShapes Go.WideShapes Go.Proofs.Tryz
theorem kalo:laidOutB Tryz.checked.prog=true:=by as_aux_lemma=>kernel_rfl
theorem kahz:mapsRowed Tryz.checked.prog=true:=by as_aux_lemma=>kernel_rfl
theorem kaiq:Tryz.checked.prog.stopsHeard=true:=by as_aux_lemma=>kernel_rfl
theorem kaid:Tryz.checked.prog.liftsFinal=false:=by as_aux_lemma=>kernel_rfl
theorem kalm:Tryz.checked.prog.make=some .cut:=by as_aux_lemma=>kernel_rfl
open Go Go.RowKit Go.ChangeShapes Go.WideShapes Go.ChangeAt Go.Proofs.Tryz
set_option maxRecDepth 100000 in
theorem kz9 (os:Os) (started:os.Started) (H:Type) (enc:TypeId×Value->H):
  ReturnsInHanded {} Tryz.checked os 3 .any (fun w args=>(Rows.spaceAllSpec.pre enc prog Tryz.f3 Rows.spaceAllRow.domain false w args/\laidMetH prog Rows.spaceAllRow.laid w)/\sizedMet enc prog Tryz.f3 (OpenSpec.ofChange Rows.spaceAllSpec) false w args) (Rows.spaceAllSpec.post enc prog Tryz.f3 false true false false):=by
 refine kw3 (C:=Tryz.checked) (X:=fun w _=>laidMetH prog k99 w) (fun _ _ _ o h=>h.of_heap o) kaeu started (by kernel_rfl) func3
  (ChangeSpec.witness_at (enc:=enc) (C:=Tryz.checked) (os:=os) (X:=fun w _=>laidMetH prog k99 w) false (k23 os) #[.agg #[.string ⟨#[]⟩, .slice none 0 0, .slice none 0 0, .slice none 0 0], .int .i64 0, .int .i64 0] 8 rfl (by kernel_rfl) (by kernel_rfl) (by kernel_rfl) (by kernel_rfl) (by kernel_rfl) (k4f os _)) ?_
 intro W base args ds gs before b n B d;have a:∀ (j:Nat) t v,Tryz.f3.params[j]?=some t->args[j]?=some v->Value.okWide prog W .any base t v:=b;have g:=n;obtain ⟨p,q,l,r,rfl,s,u⟩:=n;have hA:DataW.TrodAll enc prog W 0 (fun _=>true) true Tryz.f3.params.toList args.toList ds p:=l;have f:=qr.1 d;rw [Tryz.params3] at hA a f;obtain ⟨v0,vs0,d0,ds0,p0,q0,m,rfl,rfl,h0,r0⟩:=trodAll_cons hA;obtain ⟨v1,vs1,d1,ds1,p1,q1,rfl,rfl,rfl,h1,r1⟩:=trodAll_cons r0;obtain ⟨v2,vs2,d2,ds2,p2,q2,rfl,rfl,rfl,y,r2⟩:=trodAll_cons r1;obtain ⟨rfl,rfl,rfl⟩:=trodAll_nil r2;obtain rfl:args=#[v0,v1,v2]:=by cases args;simp_all
 obtain ⟨rfl,rfl⟩:=trodVars_none r;have z:=k83 (fun k hk=>of_decide_eq_true (f k hk));obtain ⟨x0,e0,b0⟩:=in_La (a 0 26 v0 rfl rfl) h0;obtain ⟨x1,e1,b1⟩:=kab7 underlying3 (a 1 3 v1 rfl rfl) h1;obtain ⟨x2,e2,b2⟩:=kab7 underlying3 (a 2 3 v2 rfl rfl) y;refine (kadg [eLa x0,eI x1,eI x2] (kro x0 x1 x2 true (k5v x0 x1 x2 b0 b1 b2)) rfl ?_).mono fun e W' ⟨A,hg⟩=>?_
 ·intro i v x hv c
  match i with
  | 0=>simp at hv c;subst hv c;exact e0
  | 1=>simp at hv c;subst hv c;exact e1
  | 2=>simp at hv c;subst hv c;exact e2
  | i+3=>simp at hv
 subst A;exact ⟨_,rfl,kafw kaf2 (by rw [Tryz.params3];intro t ht;simp at ht;rcases ht with rfl | rfl | rfl <;> exact ⟨by kernel_rfl,of_decide_eq_true (by kernel_rfl)⟩) rfl underlying4 rfl rfl g hg⟩
set_option maxHeartbeats 4000000 in
theorem kz6:joinedFacts Tryz.checked.prog 3 Tryz.f3 Rows.spaceAllSpec Rows.spaceAllRow=true:=by
 unfold joinedFacts;simp only [kaau,kaid,kalm,kalo,kahz,kaiq,qv,Bool.and_true]
 repeat' apply And.intro
 all_goals (as_aux_lemma=>kernel_rfl)
theorem k2o:Rows.SpaceAllSaid:=
 OpenClaim.holds_of_wide 3 Tryz.f3 rfl rfl rfl rfl rfl rfl rfl ⟨rfl,rfl,rfl,rfl,rfl⟩ rfl rfl rfl rfl rfl (by kernel_rfl) func3 kz6
  (of_decide_eq_true (by kernel_rfl)) (by unfold Func.isWrapper;rw [qi (of_decide_eq_false (by kernel_rfl))];exact ⟨rfl,rfl⟩)
  (fun os started H enc _=>kz9 os started H enc)
theorem spaceAll_card_holds:Rows.SpaceAllCardSaid:=
 Claim7.holds_tied_plain_at .later [] [.data, .data, .data] true (true, "e7f1e0aa69d5eda530a66b93db3c3bb95ac7cc0622ac79b13935bf3f56b60434") true k2o (fun _ h => by cases h) (by kernel_rfl) (fun _ h => by cases h) spaceAll_row_tie rfl ⟨rfl, rfl⟩ (by kernel_rfl) rfl
  (fun f fn hf a=>by
   obtain rfl : f = 3 := qas ((show prog.funcNamed "synthesis/synthesislaw25.SpaceAll" = some 3 by kernel_rfl).symm.trans hf) |>.symm;obtain rfl:fn=Tryz.f3:=(qas (func3.symm.trans a)).symm;exact ⟨by kernel_rfl,fun j t ht=>by
    rw [Tryz.params3] at ht
    match j with
    | 0=>obtain rfl:=qas ht;exact (show prog.wantsStandIn 26=false by kernel_rfl)
    | 1=>obtain rfl:=qas ht;exact (show prog.wantsStandIn 3=false by kernel_rfl)
    | 2=>obtain rfl:=qas ht;exact (show prog.wantsStandIn 3=false by kernel_rfl)
    | j+3=>simp at ht⟩)
  (by kernel_rfl)
end Go.Proofs.YtjbonbdomgoklaaGreatDoor
