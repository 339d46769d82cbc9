import Derived.Test.YtpcfkflhnkfjjaaGreatDm
set_option linter.all false
namespace Go.Proofs.YtpcfkflhnkfjjaaGreat
open Go Go.RowKit
theorem krc {α β:Type} {f g:α->List β}:∀ (l:List α),(∀ x∈l,f x=g x)->l.flatMap f=l.flatMap g
 | [],_=>rfl
 | x::l,h=>by rw [List.flatMap_cons,List.flatMap_cons,h x (qs ..),krc l fun y a=>h y (qo _ a)]
def kgp (V:Int->Nat->List Tm):List Int->Nat->List (List Tm)
 | [],n=>if n=0 then [[]] else []
 | a::ys,n=>(List.range (n+1)).flatMap fun k=>(V a k).flatMap fun t=>(kgp V ys (n - k)).map (t::·)
def tabD (l:La):Nat->Int->Nat->List Tm
 | 0=>fun _ _=>[]
 | n+1=>fun s k=>if k=n+1 then (List.range l.rules.length).flatMap (fun i=>if khs l i=s then (kgp (tabD l n) (keo l i) n).map (Tm.mk (i:Int)) else []) else tabD l n s k
def dl (l:La) (s:Int) (k:Nat):List Tm:=tabD l k s k
theorem k0n (l:La) (s:Int):∀ (n k:Nat),tabD l n s k=if k<=n then dl l s k else []
 | 0,k=>by
  by_cases h:k=0;subst h;rw [qn (by omega)];rfl
  ·rw [qk (by omega)];rfl
 | n+1,k=>by
  by_cases h:k=n+1;subst h;rw [qn (by omega)];rfl
  ·show (if k=n+1 then _ else tabD l n s k)=_;rw [qk h,k0n l s n k];by_cases a:k<=n;rw [qn a,qn (by omega)]
   ·rw [qk a,qk (by omega)]
theorem kpw {V V':Int->Nat->List Tm}:∀ (ys:List Int) (n:Nat),(∀ a k,k<=n->V a k=V' a k)->kgp V ys n=kgp V' ys n
 | [],n,_=>rfl
 | a::ys,n,h=>by rw [kgp,kgp];refine krc _ fun k hk=>?_;rw [List.mem_range] at hk;rw [h a k (by omega),kpw ys (n - k) fun b j c=>h b j (by omega)]
theorem knj (l:La) (s:Int):dl l s 0=[]:=rfl
theorem k9r (l:La) (s:Int) (n:Nat):dl l s (n+1)=(List.range l.rules.length).flatMap (fun i=>if khs l i=s then (kgp (dl l) (keo l i) n).map (Tm.mk (i:Int)) else []):=by
 unfold dl;show (if n+1=n+1 then _ else _)=_;rw [qn rfl];refine krc _ fun i _=>?_;split;rw [kpw (keo l i) n fun a k hk=>by rw [k0n,qn hk]];rfl
 ·rfl
theorem mem_prodL {V:Int->Nat->List Tm} {a:Int} {ys:List Int} {n:Nat} {ts:List Tm}:ts∈kgp V (a::ys) n↔∃ t us k,ts=t::us/\k<=n/\t∈V a k/\us∈kgp V ys (n - k):=by
 rw [kgp];simp only [qa2,List.mem_range,qae];constructor;rintro ⟨k,hk,t,ht,us,b,rfl⟩;exact ⟨t,us,k,rfl,by omega,ht,b⟩
 ·rintro ⟨t,us,k,rfl,hk,ht,b⟩;exact ⟨k,by omega,t,ht,us,b,rfl⟩
theorem mem_prodN {V:Int->Nat->List Tm} {n:Nat} {ts:List Tm}:ts∈kgp V [] n↔ts=[]/\n=0:=by
 rw [kgp];split;rename_i h;simp [h]
 ·rename_i h;simp [h]
theorem mem_dl {l:La} {s:Int} {n:Nat} {t:Tm}:t∈dl l s n↔∃ (i:Nat) (ts:List Tm) (m:Nat),n=m+1/\i<l.rules.length/\khs l i=s/\t=Tm.mk (i:Int) ts/\ts∈kgp (dl l) (keo l i) m:=by
 cases n with
 | zero=>rw [knj];simp
 | succ m=>
  rw [k9r];simp only [qa2,List.mem_range];constructor
  ·rintro ⟨i,hi,h⟩;split at h;rename_i hs;obtain ⟨ts,h1,rfl⟩:=qae.1 h;exact ⟨i,ts,m,rfl,hi,hs,rfl,h1⟩
   ·simp at h
  ·rintro ⟨i,ts,m',hm,hi,hs,rfl,h⟩;obtain rfl:m'=m:=(by omega);exact ⟨i,hi,by rw [qn hs];exact qae.2 ⟨ts,h,rfl⟩⟩
theorem kvw {V:Int->Nat->List Tm}:∀ (ys:List Int) (n:Nat) (ts:List Tm),(∀ a k t,t∈V a k->t.size=k)->ts∈kgp V ys n->Tm.sizeL ts=n/\ts.length=ys.length
 | [],n,ts,_,h=>by obtain ⟨rfl,rfl⟩:=mem_prodN.1 h;exact ⟨rfl,rfl⟩
 | a::ys,n,ts,b,h=>by obtain ⟨t,us,k,rfl,hk,ht,c⟩:=mem_prodL.1 h;obtain ⟨h1,d⟩:=kvw ys (n - k) us b c;rw [Tm.sizeL,b a k t ht,h1,qax,qax,d];exact ⟨by omega,rfl⟩
theorem kv9 {l:La}:∀ (n:Nat) (s:Int) (t:Tm),t∈dl l s n->t.size=n:=by
 have key:∀ (N n:Nat),n<=N->∀ (s:Int) (t:Tm),t∈dl l s n->t.size=n:=by
  intro N
  induction N with
  | zero=>
   intro n hn s t h;obtain rfl:n=0:=(by omega);rw [knj] at h;simp at h
  | succ N ih=>
   intro n hn s t h;obtain ⟨i,ts,m,rfl,hi,hs,rfl,hp⟩:=mem_dl.1 h;have b:ts∈kgp (fun a k=>if k<=N then dl l a k else []) (keo l i) m:=(by rw [kpw (V':=dl l) (keo l i) m fun a k hk=>qn (by omega)];exact hp);have:=(kvw _ m ts (fun a k t ht=>by
    split at ht;rename_i hk;exact ih k hk a t ht
    ·simp at ht) b).1
   rw [Tm.size,this]
 exact fun n=>key n n (qx _)
theorem k6u {l:La}:∀ (N n:Nat),n<=N->∀ (s:Int) (t:Tm),t∈dl l s n->∀ r∈t.rules,0<=r/\r<(l.rules.length:Int):=by
 intro N
 induction N with
 | zero=>
  intro n hn s t h;obtain rfl:n=0:=by omega
  rw [knj] at h;simp at h
 | succ N ih=>
  intro n hn s t h;obtain ⟨i,ts,m,rfl,hi,hs,rfl,hp⟩:=mem_dl.1 h;have key:∀ (ys:List Int) (m:Nat) (ts:List Tm),m<=N->ts∈kgp (dl l) ys m->∀ r∈Tm.preL Tm.rule ts,0<=r/\r<(l.rules.length:Int):=by
   intro ys
   induction ys with
   | nil=>
    intro m ts hm h;obtain ⟨rfl,rfl⟩:=mem_prodN.1 h;intro r hr;simp [Tm.preL] at hr
   | cons a ys ih2=>
    intro m ts hm h;obtain ⟨t,us,k,rfl,hk,ht,c⟩:=mem_prodL.1 h;intro r hr;rw [Tm.preL] at hr;rcases qac.1 hr with hr | hr;exact ih k (by omega) a t ht r hr
    ·exact ih2 (m - k) us (by omega) c r hr
  intro r hr;have b:r=(i:Int)\/r∈Tm.preL Tm.rule ts:=by have:(Tm.mk (i:Int) ts).rules=(i:Int)::Tm.preL Tm.rule ts:=rfl;rw [this] at hr;exact qar.1 hr
  rcases b with rfl | hr;omega
  ·exact key _ m ts (by omega) hp r hr
namespace SR
variable {R:Type} (S:SR R)
def lsum {α:Type} (f:α->R):List α->R
 | []=>S.zero
 | x::l=>S.add (f x) (lsum f l)
theorem lsum_append {α:Type} (f:α->R):∀ (xs ys:List α),S.lsum f (xs++ys)=S.add (S.lsum f xs) (S.lsum f ys)
 | [],ys=>(S.zero_add _).symm
 | x::xs,ys=>by rw [List.cons_append,lsum,lsum,lsum_append f xs ys,S.add_assoc]
theorem lsum_map {α β:Type} (f:β->R) (g:α->β):∀ xs:List α,S.lsum f (xs.map g)=S.lsum (fun x=>f (g x)) xs
 | []=>rfl
 | x::xs=>by rw [qbi,lsum,lsum,lsum_map f g xs]
theorem lsum_mul {α:Type} (c:R) (f:α->R):∀ xs:List α,S.lsum (fun x=>S.mul c (f x)) xs=S.mul c (S.lsum f xs)
 | []=>(S.mul_zero c).symm
 | x::xs=>by rw [lsum,lsum,lsum_mul c f xs,S.mul_add]
theorem lsum_mulr {α:Type} (c:R) (f:α->R):∀ xs:List α,S.lsum (fun x=>S.mul (f x) c) xs=S.mul (S.lsum f xs) c
 | []=>(S.zero_mul c).symm
 | x::xs=>by rw [lsum,lsum,lsum_mulr c f xs,S.add_mul]
theorem lsum_flat {α β:Type} (f:β->R) (g:α->List β):∀ xs:List α,S.lsum f (xs.flatMap g)=S.lsum (fun x=>S.lsum f (g x)) xs
 | []=>rfl
 | x::xs=>by rw [List.flatMap_cons,S.lsum_append,lsum,lsum_flat f g xs]
theorem lsum_congr {α:Type} {f g:α->R}:∀ (xs:List α),(∀ x∈xs,f x=g x)->S.lsum f xs=S.lsum g xs
 | [],_=>rfl
 | x::xs,h=>by rw [lsum,lsum,h x (qs ..),lsum_congr xs fun y a=>h y (qo _ a)]
theorem lsum_range (f:Nat->R):∀ n,S.lsum f (List.range n)=S.sum f n
 | 0=>rfl
 | n+1=>by rw [List.range_succ,S.lsum_append,lsum_range f n,lsum,lsum,S.add_zero,sum]
end SR
mutual
def wgT {R:Type} (S:SR R) (wt:Nat->R):Tm->R
 | .mk r ts=>S.mul (wt r.toNat) (wgL S wt ts)
def wgL {R:Type} (S:SR R) (wt:Nat->R):List Tm->R
 | []=>S.one
 | t::ts=>S.mul (wgT S wt t) (wgL S wt ts)
end
theorem kuu {R:Type} (S:SR R) (wt:Nat->R) {V:Int->Nat->List Tm} {U:Int->Nat->R}:∀ (ys:List Int) (n:Nat),(∀ a k,k<=n->S.lsum (wgT S wt) (V a k)=U a k)->S.lsum (wgL S wt) (kgp V ys n)=S.rr U ys n
 | [],n,_=>by
  rw [kgp,SR.rr];split;rw [SR.lsum,SR.lsum,S.add_zero,wgL]
  ·rfl
 | a::ys,n,h=>by rw [kgp,SR.rr,S.lsum_flat,S.lsum_range];refine S.sum_congr _ fun k hk=>?_;rw [S.lsum_flat,<- kuu S wt ys (n - k) fun b j c=>h b j (by omega),<- h a k (by omega),<- S.lsum_mulr];refine S.lsum_congr _ fun t _=>?_;rw [S.lsum_map,<- S.lsum_mul];exact S.lsum_congr _ fun us _=>by rw [wgL]
theorem krv {R:Type} (S:SR R) (wt:Nat->R) (l:La):∀ (n:Nat) (s:Int) (k:Nat),S.lsum (wgT S wt) (tabD l n s k)=S.tab l.rules.length (khs l) (keo l) wt n s k
 | 0,s,k=>rfl
 | n+1,s,k=>by
  show S.lsum (wgT S wt) (if k=n+1 then _ else tabD l n s k)=(if k=n+1 then _ else S.tab _ _ _ _ n s k);by_cases h:k=n+1
  ·rw [qn h,qn h,S.lsum_flat,S.lsum_range];refine S.sum_congr _ fun i hi=>?_;split
   ·rw [S.lsum_map,<- kuu S wt (keo l i) n fun a k _=>krv S wt l n a k,<- S.lsum_mul];exact S.lsum_congr _ fun ts _=>by rw [wgT,q8]
   ·rfl
  ·rw [qk h,qk h];exact krv S wt l n s k
theorem k07 {R:Type} (S:SR R) (wt:Nat->R) (l:La) (s:Int) (k:Nat):S.lsum (wgT S wt) (dl l s k)=S.val l.rules.length (khs l) (keo l) wt s k:=krv S wt l k s k
theorem kw8 {α:Type}:∀ (xs ys:List α),xs.Nodup->(∀ x∈xs,x∈ys)->xs.length<=ys.length
 | [],ys,_,_=>qaj _
 | x::xs,ys,h,hs=>by
  obtain ⟨a,b,rfl⟩:=List.append_of_mem (hs x (qs ..));rw [List.nodup_cons] at h;have:=kw8 xs (a++b) h.2 fun y c=>by
   have h1:=hs y (qo _ c);have d:y≠x:=fun e=>h.1 (e ▸ c);simp only [qac,qar] at h1 ⊢;rcases h1 with h1 | h1 | h1;exact .inl h1;exact absurd h1 d
   ·exact .inr h1
  simp only [qab,qax] at this ⊢;omega
end Go.Proofs.YtpcfkflhnkfjjaaGreat
