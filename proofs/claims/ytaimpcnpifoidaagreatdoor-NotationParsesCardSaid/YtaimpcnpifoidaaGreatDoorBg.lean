import Derived.Test.YtaimpcnpifoidaaGreatDoorBd
import Derived.Test.YtaimpcnpifoidaaGreatDoorYE
set_option linter.all false
set_option maxRecDepth 100000
namespace Go.Proofs.YtaimpcnpifoidaaGreatDoor
open Go Go.RowKit
theorem k8w:∀ n:Fin 256,khi ((n.val:Nat):Int)=some (decide ((97<=n.val/\n.val<=122)\/(65<=n.val/\n.val<=90))):=by decide +kernel
theorem kwd (c:UInt8):khi (c.toNat:Int)=some (decide (letC c)):=k8w ⟨c.toNat,c.toNat_lt⟩
theorem k2z {s:List UInt8} {step:Int->Option (Int ⊕ Int)}:∀ (r0:List UInt8) (n:Nat),r0 <:+ s->r0.length<n ->
  (∀ r,r <:+ r0->step (pos s r)=some (match r with | [] => .inr (pos s r) | c::t=>if wc c=true then .inl (pos s t) else .inr (pos s r))) ->
  kaa step n (pos s r0)=some (pos s (r0.drop (r0.takeWhile wc).length))
 | r0,0,_,h,_=>by omega
 | [],n+1,_,_,hs=>by rw [kbm (hs [] (List.suffix_refl _))];rfl
 | c::t,n+1,h0,hn,hs=>by
  have h1:=hs (c::t) (List.suffix_refl _);simp only at h1;by_cases a:wc c=true;rw [qj a] at h1;rw [kgj h1,k2z t n (krh h0) (by simp only [qu] at hn;omega) (fun r hr=>hs r (hr.trans (List.suffix_cons c t))),List.takeWhile_cons,qj a];rfl
  ·rw [qg a] at h1;rw [kbm h1,List.takeWhile_cons,qg a];rfl
theorem k6k:fuel=18446744073709551615+1:=rfl
theorem rwd_p {s r:List UInt8} (hs:s.length<=4000000) (h:r <:+ s):kie (mkB s) (pos s r)=some (mkB (wdL r)):=by
 unfold kie;have hl:=kj6 h;have main:kaa (kdm (mkB s) (pos s r)) fuel (pos s r)=some (pos s (r.drop (wdL r).length)):=by
  cases r with
  | nil=>
   rw [k6k,kbm (b:=pos s [])];rfl
   ·unfold kdm;rw [krk h];rfl
  | cons c t=>
   by_cases hc:letC c
   ·have st:kdm (mkB s) (pos s (c::t)) (pos s (c::t))=some (.inl (pos s t)):=(by unfold kdm;rw [krk h,qe (by simp),qf,kql h];simp only [qa,kwd,qe hc,qf,kmk hs h]);have j:wc c=true:=(by unfold wc;rw [qe hc];rfl);rw [k6k,kgj st,k2z t _ (krh h) (by simp only [qu] at hl;omega) fun q i=>?_,wdL,qj hc,List.takeWhile_cons,qj j];rfl
    ·have a:q <:+ s:=i.trans (krh h);have f:=kj6 i;unfold kdm;rw [krk a];cases q with
     | nil=>rfl
     | cons d u=>
      have g:pos s (c::t)<pos s (d::u):=(by unfold pos;simp only [qu] at hl f ⊢;omega);rw [qe (show d::u≠[] by simp),qf,kql a];simp only [qa,kwd,qe g,qf,kmk hs a];unfold wc;by_cases h1:letC d;rw [qe h1];rfl
      ·rw [qb h1];by_cases h2:48<=d.toNat
       ·rw [qe (show (48:Int)<=(d.toNat:Int) by omega)];by_cases h3:d.toNat<=57;rw [qe (show (d.toNat:Int)<=57 by omega),qe (show digC d from ⟨h2,h3⟩)];rfl
        ·rw [qb (show ¬ (d.toNat:Int)<=57 by omega),qb (show ¬ digC d from fun h=>h3 h.2)];rfl
       ·rw [qb (show ¬ (48:Int)<=(d.toNat:Int) by omega),qb (show ¬ digC d from fun h=>h2 h.1)];rfl
   ·rw [k6k,kbm (b:=pos s (c::t)),wdL,qg hc];rfl
    ·unfold kdm;rw [krk h,qe (by simp),qf,kql h];simp only [qa,kwd,qb hc,qd,qb (show ¬ pos s (c::t)<pos s (c::t) by omega)]
 rw [main,qa];have e:=koo r;have h2:(wdL r++r.drop (wdL r).length) <:+ s:=by rw [e];exact h
 have:=k3t h2;rw [e] at this;rw [this];rfl
theorem is_p {s r:List UInt8} (h:r <:+ s) (c:UInt8) {n:Int} (hn:n=(c.toNat:Int)):kco (mkB s) (pos s r) n=some (decide (r.head?=some c)):=by
 subst hn;unfold kco;rw [krk h];cases r with
 | nil=>rfl
 | cons d t=>
  rw [qe (by simp),qf,kql h];simp only [qa];by_cases hd:d=c;subst hd;rw [qbr,qe (by rfl)]
  ·rw [show ((d.toNat:Int) == (c.toNat:Int))=false from beq_false_of_ne fun e=>hd (cEq e),qb (show ¬ (d::t).head?=some c from fun e=>hd (qq e))]
def rxV (v:Va):Rx:=Rx.mk (-1) v ⟨#[]⟩ []
def rx0:Rx:=Rx.mk 0 (Va.mk 0 0 ⟨#[]⟩ []) ⟨#[]⟩ []
mutual
def toRx:Ex->Rx
 | .nil=>rx0
 | .mk k i v o xs=>Rx.mk (if k=1 then i else -1) v o (klw xs)
def klw:List Ex->List Rx
 | []=>[]
 | x::xs=>toRx x::klw xs
end
theorem kq4:∀ xs:List Ex,klw xs=xs.map toRx
 | []=>by simp [klw]
 | x::xs=>by simp [klw,kq4 xs]
def kwr (s r:List UInt8):Nat->Unit ⊕ (Rx×Int×Bool)
 | 0 => .inl ()
 | k+1=>if (prV (mkB (r.take (k+1)))).2.2=0 then .inr (rxV (prV (mkB (r.take (k+1)))).1,pos s (r.drop (k+1)),true) else kwr s r k
theorem k0h {s r:List UInt8} {k:Nat} (h:r <:+ s) (hk:k<=r.length):pos s (r.drop k)=pos s r+(k:Int):=by have:=k25 (s:=s) (a:=r.take k) (m:=r.drop k) (by rw [qa9];exact h);rw [qa9,qah,Nat.min_eq_left hk] at this;exact this
theorem k59 {s r:List UInt8}:0<=pos s r/\pos s r<=(s.length:Int):=by unfold pos;omega
theorem k53 {s r:List UInt8} (hs:s.length<=4000000) (h:r <:+ s):∀ (k n:Nat),k<=r.length->k<n->kaa (keg (mkB s) (pos s r)) n (pos s (r.drop k))=some (kwr s r k)
 | k,0,_,hn=>by omega
 | 0,n+1,_,_=>by rw [qaz];refine kbm ?_;unfold keg;rw [qb (Int.lt_irrefl _)];rfl
 | k+1,n+1,hk,hn=>by
  have hl:=kj6 h;have hp:=k0h (s:=s) h hk;have c:=k0h (s:=s) (k:=k) h (by omega);have f:=k59 (s:=s) (r:=r);have d:=k59 (s:=s) (r:=r.drop (k+1));have b:cutS (mkB s) (pos s r) (pos s (r.drop (k+1)))=some (mkB (r.take (k+1))):=by have:=k3t (s:=s) (a:=r.take (k+1)) (m:=r.drop (k+1)) (by rw [qa9];exact h);rw [qa9] at this;exact this
  have e:keg (mkB s) (pos s r) (pos s (r.drop (k+1)))=some (if (prV (mkB (r.take (k+1)))).2.2=0 then .inr (.inr (rxV (prV (mkB (r.take (k+1)))).1,pos s (r.drop (k+1)),true)) else .inl (pos s (r.drop k))):=by
   unfold keg;rw [qe (by rw [hp];omega),qf,b,qa,k38 (by rw [kb8,qah];omega),qa];by_cases h0:(prV (mkB (r.take (k+1)))).2.2=0;rw [qj h0,h0,qbr,qf];rfl
   ·rw [qg h0,show ((prV (mkB (r.take (k+1)))).2.2 == 0)=false from beq_false_of_ne h0,qd,kdn (by omega) (by omega),show pos s (r.drop (k+1)) - 1=pos s (r.drop k) by omega]
  rw [kwr];by_cases h0:(prV (mkB (r.take (k+1)))).2.2=0;rw [qj h0] at e ⊢;exact kbm e
  ·rw [qg h0] at e ⊢;rw [kgj e];exact k53 hs h k n (by omega) (by omega)
theorem kxt {s r:List UInt8} {j:Nat} (d:0<j) (a:(prV (mkB (r.take j))).2.2=0):∀ k,j<=k->(∀ q,j<q->q<=k->(prV (mkB (r.take q))).2.2≠0)->kwr s r k = .inr (rxV (prV (mkB (r.take j))).1,pos s (r.drop j),true)
 | 0,h,_=>by omega
 | k+1,h,c=>by
  rw [kwr];by_cases b:j=k+1;subst b;rw [qj a]
  ·rw [qg (c (k+1) (by omega) (qy _))];exact kxt d a k (by omega) fun q h1 h2=>c q h1 (by omega)
theorem k4k {s r:List UInt8}:∀ k,(∀ q,0<q->q<=k->(prV (mkB (r.take q))).2.2≠0)->kwr s r k = .inl ()
 | 0,_=>rfl
 | k+1,a=>by rw [kwr,qg (a (k+1) (by omega) (qy _))];exact k4k k fun q h1 h2=>a q h1 (by omega)
theorem kyh {r:List UInt8} {j k:Nat} (a:j<=r.length) (hk:k<=r.length) (h:r.drop j=r.drop k):j=k:=by have:=q9 List.length h;rw [qau,qau] at this;omega
theorem kair {r:List UInt8} {v:Va} {j q:Nat} (h:oneP.ev (mkB r) 0=(some v,j)) (b:q<=r.length) (c:j<q):(prV (mkB (r.take q))).2.2≠0:=by
 obtain ⟨o,j',h1,h2,h3⟩:=kku r;rw [h] at h3;obtain ⟨rfl,rfl⟩:=Prod.mk.inj h3;have d:(r.take q).length=q:=by rw [qah,Nat.min_eq_left b]
 rcases kwa oneP false r q k41 (fun h=>by cases h) with ⟨k,e1,hk,e,e2⟩ | ⟨⟨k,e1,hk,a⟩,_⟩
 ·rw [h1] at e1 e2;obtain rfl:=kyh h2 hk e1;obtain ⟨o2,j2,g1,g2,g3⟩:=kku (r.take q);rw [e2] at g1;obtain ⟨ga,gb⟩:=Prod.mk.inj g1;subst ga;obtain rfl:=kyh (by omega) g2 gb;rw [k8i g3,qj (by omega)];exact show ¬ (8:Int)=0 by decide
 ·rw [h1] at e1;obtain rfl:=kyh h2 hk e1;have:=a b;omega
theorem kamq {s r:List UInt8} (hs:s.length<=4000000) (h:r <:+ s):kg0 (mkB s) (pos s r)=some (match litM r with
  | .inl (v,m)=>(rxV v,pos s m,true)
  | .inr m=>(rx0,pos s m,false)):=by
 have hl:=kj6 h;unfold kg0;have g:((mkB s).size:Int)=pos s (r.drop r.length):=by rw [List.drop_length,kb8];unfold pos;simp
 have d:=k53 hs h r.length fuel (qy _) (kbk (by omega));rw [<- g] at d;rw [d,qa];obtain ⟨o,j,h1,h2,h3⟩:=kku r;unfold litM;rw [h1];cases o with
 | some v=>
  obtain ⟨e1,e2⟩:=ky5 h1;have el:=q9 List.length e1;rw [qr,qau] at el;have et:r.take j=kad v:=by have:=q9 (List.take j) e1;rw [this,List.take_append_of_le_length (by omega),List.take_of_length_le (by omega)]
  have hp:prV (mkB (r.take j))=(v,0,0):=by rw [et];exact kzk e2
  have h0:=List.length_pos_iff.2 (k7q e2);rw [kxt (j:=j) (by omega) (by rw [hp]) r.length h2 fun q a b=>kair h3 b a,hp];rfl
 | none=>
  simp only;by_cases e:r.head?=some 48
  ·rw [qj e];cases r with
   | nil=>cases e
   | cons c t=>
    have hc:c=48:=qq e;subst hc;have e0:prV (mkB [48])=(Va.mk 2 0 ⟨#[]⟩ [],0,0):=(by have:=kzk (v:=Va.mk 2 0 ⟨#[]⟩ []) (.inr (.inl ⟨0,rfl,by omega,by omega⟩));rw [show kad (Va.mk 2 0 ⟨#[]⟩ [])=[48] by simp [kad,kd8,decN]] at this;exact this);have e1:(48::t:List UInt8).take 1=[48]:=rfl;rw [kxt (j:=1) (by omega) (by rw [e1,e0]) _ (by simp) fun q a b hk=>by obtain ⟨q1,_⟩:=k0k h3 hk;omega];rw [e1,e0];rfl
  ·rw [qg e,k4k _ fun q a b hk=>by obtain ⟨_,⟨t,q2⟩,_⟩:=k0k h3 hk;subst q2;exact e rfl];have f:=k3i h;simp only [qh];rw [f,qa,k38 (by rw [kb8];omega),qa,k79 h3];have hp:=k0h (s:=s) h h2;have i:=k59 (s:=s) (r:=r);show some (rx0,w64 (pos s r+(j:Int)),false)=_;rw [kdn (by omega) (by omega),<- hp]
def ExR (s:List UInt8):(Ex×List UInt8) ⊕ List UInt8->Rx×Int×Bool
 | .inl (x,m)=>(toRx x,pos s m,true)
 | .inr m=>(rx0,pos s m,false)
theorem k6h:opNames.all (fun n=>(ka7 n).all fun o=>!o.2 || decide (0<o.1.f_Args.length))=true:=by kernel_rfl
theorem kaif {s:BA} {o:Saa} (h:ka7 s=some (o,true)):0<o.f_Args.length:=by
 by_cases a:s∈opNames;have:=qs.1 k6h s a;rw [h] at this;simpa using this
 ·rw [(kuf s a).2] at h;cases h
theorem kalx {s t:List UInt8} {c d:UInt8} (hs:s.length<=4000000) (h:(c::d::t) <:+ s):w64 (pos s (c::d::t)+2)=pos s t:=kvs (a:=[c,d]) hs h
theorem kal7 {s r:List UInt8} {n:Nat} (hs:s.length<=4000000) (hr:(40::r) <:+ s) (hn:r.length<n) {f:List UInt8->(Ex×List UInt8) ⊕ List UInt8} {rec:BA->Int->Option (Rx×Int×Bool)}
  (C:∀ q,k5d q (f q)) (o:∀ q,q <:+ s->q.length<n->rec (mkB s) (pos s q)=some (ExR s (f q))) {v:Saa×Bool} (hc:v.1.f_Args.length<=5):
  Ev (kaa (kez (mkB s) rec v) fuel (pos s r,0,[])) fun res=>match argL f v.1.f_Args.length 0 [] (40::r) with
   | .inl (acc,m)=>(0<v.1.f_Args.length->res = .inl (pos s m,klw acc))
   | .inr m=>res = .inr (rx0,pos s m,false):=by
 refine kj5 v.1.f_Args.length (fun i st=>∃ acc q,st=(pos s (if i=0 then r else q),(i:Int),klw acc)/\argL f v.1.f_Args.length 0 [] (40::r)=argL f (v.1.f_Args.length - i) i acc q/\acc.length=i/\q <:+ s/\(0<i->q.length<n)/\(i=0->q=40::r)) (by omega) ⟨[],40::r,rfl,rfl,rfl,hr,fun h=>by omega,fun _=>rfl⟩ (fun i st hi ⟨acc,q,e,a,hl,l,w,g⟩=>?_) fun st ⟨acc,q,e,a,hl,l,w,g⟩=>?_
 ·subst e;obtain ⟨k,hk⟩:∃ k,v.1.f_Args.length - i=k+1:=⟨v.1.f_Args.length - i - 1,by omega⟩;rw [hk,argL] at a
  -- what stands between
  have sep:((bif (decide ((0:Int)<(i:Int))) then (Option.bind (kco (mkB s) (pos s (if i=0 then r else q)) (44)) fun v10=>(bif (!v10) then (some (.inr ((Rx.mk (0) (Va.mk (0) (0) ((⟨#[]⟩:BA)) (([]:List Va))) ((⟨#[]⟩:BA)) (([]:List Rx))),pos s (if i=0 then r else q),false))) else (Option.bind (kco (mkB s) ((w64 (pos s (if i=0 then r else q)+1))) (32)) fun v11=>(bif (!v11) then (some (.inr ((Rx.mk (0) (Va.mk (0) (0) ((⟨#[]⟩:BA)) (([]:List Va))) ((⟨#[]⟩:BA)) (([]:List Rx))),(w64 (pos s (if i=0 then r else q)+1)),false))) else (some (.inl ((w64 (pos s (if i=0 then r else q)+2))))))))) else (some (.inl (pos s (if i=0 then r else q))))):Option ((Int) ⊕ ((Rx)×(Int)×(Bool))))=some (match kff (sepW i) q with | .inl m => .inl (pos s m) | .inr m => .inr (rx0,pos s m,false)):=by
   by_cases h0:i=0;subst h0;rw [g rfl];rfl
   ·rw [qe (show (0:Int)<(i:Int) by omega),qf,qg h0,show sepW i=[44,32] by unfold sepW;rw [qg h0],is_p (n:=44) l 44 rfl,qa];cases q with
    | nil=>rfl
    | cons c t=>
     by_cases j:c=44
     ·subst j;rw [qe (by rfl),qab,qd,kmk hs l,is_p (n:=32) (krh l) 32 rfl,qa];cases t with
      | nil=>rfl
      | cons d u=>
       by_cases hd:d=32;subst hd;rw [qe (by rfl),qab,qd,kalx hs l];rfl
       ·rw [qb (show ¬ (d::u).head?=some 32 from fun e=>hd (qq e)),kff,qj rfl,kff,qg hd];rfl
     ·rw [qb (show ¬ (c::t).head?=some 44 from fun e=>j (qq e)),kff,qg j];rfl
  unfold kez;simp only [kbd hi,qf];rw [sep,qa];have h1:=kox (sepW i) q;cases hm:kff (sepW i) q with
  | inr m=>
   rw [hm] at a;refine kni (b := .inr (rx0,pos s m,false)) rfl ?_;rw [a]
  | inl m=>
   rw [hm] at a h1;simp only at a h1;have y:m <:+ s:=k3o (by rw [<- h1];exact l);have A:m.length<n:=by
    by_cases h0:i=0;subst h0;rw [g rfl] at h1;have:=q9 List.length h1;simp only [sepW,qa6,qu,qr,qaf] at this;omega
    ·have:=w (by omega);rw [h1,qr] at this;omega
   simp only [qh];rw [o m y A,qa];have h2:=C m;cases B:f m with
   | inr z=>
    rw [B] at a;refine kni (b := .inr (rx0,pos s z,false)) rfl ?_;rw [a]
   | inl p=>
    obtain ⟨x,z⟩:=p;rw [B] at a h2;have h3:=h2.2;simp only [ExR,qab,qd];rw [ki2 (by rw [kq4,qag];simp only [qu,qaf];omega),qa,w64s i (by omega)];refine knn (s:=(pos s z,((i+1:Nat):Int),klw acc++[toRx x])) rfl ⟨acc++[x],z,?_,?_,by simp [hl],h2.1.trans y,fun _=>by omega,fun h=>by omega⟩;rw [qg (by omega),kq4,kq4,List.map_append];rfl
    ·rw [a,show v.1.f_Args.length - (i+1)=k by omega]
 ·subst e;rw [Nat.sub_self,argL] at a;refine knl (b := .inl (pos s (if v.1.f_Args.length=0 then r else q),klw acc)) ?_ (by rw [a];intro h;rw [qg (by omega)]);unfold kez;simp only [kfm,qd]
theorem k99 {s:List UInt8} (hs:s.length<=4000000):∀ (n:Nat) (r:List UInt8),r <:+ s->r.length<n->kdg n (mkB s) (pos s r)=some (ExR s (exM n r))
 | 0,r,_,hn=>by omega
 | n+1,r,hr,hn=>by
  show ke1 (kdg n) (mkB s) (pos s r)=_;unfold ke1;rw [exM,rwd_p hs hr,qa];have j:(wdL r++r.drop (wdL r).length) <:+ s:=by rw [koo];exact hr
  have g:w64 (pos s r+((mkB (wdL r)).size:Int))=pos s (r.drop (wdL r).length):=by have:=kvs hs j;rw [koo] at this;rw [kb8];exact this
  have i:((bif ((mkB (wdL r)).toList == (⟨#[]⟩:BA).toList) then (some (true)) else (bif ((mkB (wdL r)).toList == (⟨#[116,114,117,101]⟩:BA).toList) then (some (true)) else (bif ((mkB (wdL r)).toList == (⟨#[102,97,108,115,101]⟩:BA).toList) then (some (true)) else (bif ((mkB (wdL r)).toList == (⟨#[114]⟩:BA).toList) then (Option.bind (kco (mkB s) (w64 (pos s r+1)) (34)) fun v2=>(some (v2))) else (some (false)))))):Option (Bool))=some (decide (litW (wdL r) r)):=by
   rw [km0,km0,km0,km0];by_cases c1:wdL r=[];rw [qe c1,qe (show litW (wdL r) r from .inl c1)];rfl;by_cases c2:wdL r=[116,114,117,101];rw [qb c1,qe c2,qe (show litW (wdL r) r from .inr (.inl c2))];rfl;by_cases c3:wdL r=[102,97,108,115,101];rw [qb c1,qb c2,qe c3,qe (show litW (wdL r) r from .inr (.inr (.inl c3)))];rfl;rw [qb c1,qb c2,qb c3];by_cases c4:wdL r=[114]
   ·rw [qe c4];obtain ⟨t,ht⟩:∃ t,r=114::t:=⟨r.drop 1,by have:=koo r;rw [c4] at this;exact this.symm⟩;have e:decide (litW (wdL r) r)=decide (r.tail.head?=some 34):=by
     rw [qbj];constructor
     ·rintro (h | h | h | h);exact absurd h c1;exact absurd h c2;exact absurd h c3
      ·exact h.2
     ·exact fun h => .inr (.inr (.inr ⟨c4,h⟩))
    rw [e];subst ht;simp only [qd,qf];rw [kmk hs hr,is_p (n:=34) (krh hr) 34 rfl,qa];rfl
   ·rw [qb c4,qb (show ¬ litW (wdL r) r by
     rintro (h | h | h | h);exact c1 h;exact c2 h;exact c3 h
     ·exact c4 h.1)];rfl
  rw [i,qa];by_cases x:litW (wdL r) r
  ·rw [qe x,qf,qj x,kamq hs hr,qa];cases litM r with
   | inl p=>
    obtain ⟨v,m⟩:=p;simp only [ExR,toRx,klw];rw [qg (by decide)];rfl
   | inr m=>rfl
  rw [qb x,qd,qg x,inp_r,qa];cases hi:inpL (wdL r) with
  | some k=>
   simp only;rw [qe (show (0:Int)<=(k:Int) by omega),qf,g];simp only [ExR,toRx,klw,qa6];rfl
  | none=>
   simp only;rw [qb (by decide),qd];obtain ⟨o,o1,o2⟩:=kub (mkB (wdL r));rw [o2,qa];obtain ⟨o,b⟩:=o;cases b with
   | false=>
    have:opM (wdL r)=none:=(by unfold opM;rw [o2]);rw [this];rfl
   | true=>
    have A:opM (wdL r)=some o.f_Args.length:=(by unfold opM;rw [o2]);have C:=kqm o2 rfl;have h0:=kaif o2;have a:r.drop (wdL r).length <:+ s:=(List.drop_suffix _ _).trans hr;have l:(r.drop (wdL r).length).length<n+1:=(by rw [qau];omega);rw [A];simp only [qab,qd,g];generalize r.drop (wdL r).length=q at a l ⊢;rw [is_p (n:=40) a 40 rfl,qa];obtain ⟨c,hcl⟩:∃ c,o.f_Args.length=c+1:=⟨o.f_Args.length - 1,by omega⟩;cases q with
    | nil=>
     rw [hcl,argL];rfl
    | cons d u=>
     by_cases hd:d=40
     ·subst hd;rw [qe (by rfl),qab,qd,kmk hs a];obtain ⟨res,e1,e2⟩:=kal7 (n:=n) hs a (by simp only [qu] at l;omega) (f:=exM n) (rec:=kdg n) (ktb n) (fun q h1 h2=>k99 hs n q h1 h2) (v:=(o,true)) C;rw [e1,qa];simp only at e2;have h3:=kyp (f:=exM n) (ktb n) o.f_Args.length 0 [] (40::u);cases ha:argL (exM n) o.f_Args.length 0 [] (40::u) with
      | inr m=>
       rw [ha] at e2;subst e2;rfl
      | inl p=>
       obtain ⟨acc,m⟩:=p;rw [ha] at e2 h3;simp only at e2 h3;rw [e2 h0];simp only [qh];have w:=h3.trans a;rw [is_p (n:=41) w 41 rfl,qa];cases m with
       | nil=>rfl
       | cons y z=>
        by_cases B:y=41;subst B;rw [qe (by rfl),qab,qd,kmk hs w,kff,qj rfl];simp only [kff,ExR,toRx];rw [qg (by decide)];rfl
        ·rw [qb (show ¬ (y::z).head?=some 41 from fun e=>B (qq e)),kff,qg B];rfl
     ·rw [qb (show ¬ (d::u).head?=some 40 from fun e=>hd (qq e)),hcl,argL];have:kff (sepW 0) (d::u) = .inr (d::u):=(by show kff [40] (d::u)=_;rw [kff,qg hd]);rw [this];rfl
inductive XC:Ex->Prop
 | lit {v:Va} (hv:okV v):XC (.mk 2 0 v ⟨#[]⟩ [])
 | inp {k:Nat}:XC (.mk 1 (k:Int) kcw ⟨#[]⟩ [])
 | op {o:BA} {xs:List Ex} (ho:opM (bsOf o)=some xs.length) (hne:o≠⟨#[]⟩) (ha:∀ a∈xs,XC a):XC (.mk 3 0 kcw o xs)
theorem XC.ok {x:Ex} (h:XC x):XOk x:=by
 induction h with
 | lit hv=>exact .mk hv (fun h=>absurd h (by decide)) (fun _=>rfl) fun a h=>by cases h
 | inp=>exact .mk ks9 (fun h=>absurd h (by decide)) (fun _=>rfl) fun a h=>by cases h
 | op ho _ _ ih=>exact .mk ks9 (fun _=>ho) (fun h=>absurd rfl h) ih
theorem k6a (x:Ex):∀ xs:List Ex,szXs (xs++[x])=szXs xs+szX x
 | []=>by simp [szXs]
 | y::xs=>by rw [qam,szXs,k6a x xs,szXs];omega
theorem kajv {r m:List UInt8} {v:Va} (h:litM r = .inl (v,m)):okV v:=by
 obtain ⟨o,j,h1,h2,h3⟩:=kku r;unfold litM at h;rw [h1] at h;cases o with
 | some u=>
  cases h;exact kvl oneP 0 kaab (by rw [h3])
 | none=>
  simp only at h;by_cases a:r.head?=some 48;rw [qj a] at h;cases h;exact (k2n (x:=Va.mk 2 0 ⟨#[]⟩ []) (.inr (.inl ⟨0,rfl,by omega,by omega⟩))).2
  ·rw [qg a] at h;cases h
def CM (r:List UInt8):(Ex×List UInt8) ⊕ List UInt8->Prop
 | .inl (x,m)=>XC x/\szX x+m.length<=r.length
 | .inr _=>True
theorem kaje {f:List UInt8->(Ex×List UInt8) ⊕ List UInt8} (b:∀ q,CM q (f q)):∀ (left k:Nat) (acc:List Ex) (r:List UInt8),(∀ a∈acc,XC a)->match argL f left k acc r with
  | .inl (ac,m)=>(∀ a∈ac,XC a)/\ac.length=acc.length+left/\szXs ac+m.length<=szXs acc+r.length
  | .inr _=>True
 | 0,_,acc,r,h=>⟨h,rfl,qy _⟩
 | left+1,k,acc,r,h=>by
  rw [argL];have h1:=kox (sepW k) r;cases hm:kff (sepW k) r with
  | inr m=>exact True.intro
  | inl m=>
   rw [hm] at h1;simp only at h1 ⊢;have hl:=q9 List.length h1;rw [qr] at hl;have h2:=b m;cases c:f m with
   | inr q=>exact True.intro
   | inl p=>
    obtain ⟨x,q⟩:=p;rw [c] at h2;simp only;have h3:=kaje b left (k+1) (acc++[x]) q fun a ha=>by
     rcases qao.1 ha with ha | ha;exact h a ha
     ·rw [qbf.1 ha];exact h2.1
    cases ha:argL f left (k+1) (acc++[x]) q with
    | inr m2=>exact True.intro
    | inl p=>
     obtain ⟨ac,m2⟩:=p;rw [ha] at h3;obtain ⟨g1,g2,g3⟩:=h3;refine ⟨g1,by rw [g2,qr];simp only [qu,qaf];omega,?_⟩;rw [k6a] at g3;have:=h2.2;omega
theorem ex_c:∀ (n:Nat) (r:List UInt8),CM r (exM n r)
 | 0,r=>True.intro
 | n+1,r=>by
  rw [exM];by_cases b:litW (wdL r) r
  ·rw [qj b];cases hl:litM r with
   | inl p=>
    obtain ⟨v,m⟩:=p;have:=k7u hl;refine ⟨.lit (kajv hl),?_⟩;simp only [szX,szXs];omega
   | inr m=>exact True.intro
  ·rw [qg b];have hne:wdL r≠[]:=fun e=>b (.inl e);have h1:=q9 List.length (koo r);have h2:=List.length_pos_iff.2 hne;rw [qr] at h1;cases inpL (wdL r) with
   | some k=>
    refine ⟨.inp,?_⟩;simp only [szX,szXs];omega
   | none=>
    simp only;cases ho:opM (wdL r) with
    | none=>exact True.intro
    | some c=>
     simp only;have h3:=kaje (f:=exM n) (ex_c n) c 0 [] (r.drop (wdL r).length) fun a h=>(by cases h);cases ha:argL (exM n) c 0 [] (r.drop (wdL r).length) with
     | inr m=>exact True.intro
     | inl p=>
      obtain ⟨acc,m⟩:=p;rw [ha] at h3;obtain ⟨g1,g2,g3⟩:=h3;simp only;have d:=kox [41] m;cases hm:kff [41] m with
      | inr q=>exact True.intro
      | inl q=>
       rw [hm] at d;have g:=q9 List.length (show m=[41]++q from d);simp only [qr,qu,qaf] at g g2;refine ⟨.op ?_ ?_ g1,?_⟩;have e:bsOf (mkB (wdL r))=wdL r:=kb9 _;rw [e,ho,g2,Nat.zero_add];intro e;have:=q9 bsOf e;rw [show bsOf (mkB (wdL r))=wdL r from kb9 _] at this;exact hne this
       ·simp only [szX,szXs] at g3 ⊢;omega
theorem kald {l:La} (hl:kk5 l) (hv:klh l) {r:Ru} (hr:r∈l.rules) {x:Ex} (d:XC x):kid r (toRx x)=some (fitB r x):=by
 obtain ⟨j,f,e⟩:=qad.1 hr;have a:=hv.valid j f;rw [e] at a;have b:okV r.const:=(ValidR.modR (hl.wide _ hr) a).2;have a:=a.2;have nil:((⟨#[]⟩:BA).toList == (⟨#[]⟩:BA).toList)=true:=qbr _;unfold kid fitB;cases d with
 | @lit v c=>
  rw [show toRx (Ex.mk 2 0 v ⟨#[]⟩ [])=Rx.mk (-1) v ⟨#[]⟩ [] by simp [toRx,klw],qb (show ¬ (0:Int)<=(Rx.mk (-1) v ⟨#[]⟩ []).input from (by decide:¬ (0:Int) <= -1))];simp only [Rx.op,Rx.input,Rx.value,Ex.kind,Ex.op,Ex.input,Ex.value];rw [nil];simp only [qab,qd];rcases a with ⟨q,_⟩ | ⟨q,q2,q3,_⟩ | ⟨q,_⟩;rw [q];rfl;rw [q,q2,q3,nil,ks8 b c];simp
  ·rw [q];rfl
 | @inp k=>
  rw [show toRx (Ex.mk 1 (k:Int) kcw ⟨#[]⟩ [])=Rx.mk (k:Int) kcw ⟨#[]⟩ [] by simp [toRx,klw],qe (show (0:Int)<=(Rx.mk (k:Int) kcw ⟨#[]⟩ []).input from (by omega:(0:Int)<=(k:Int)))];simp only [Rx.op,Rx.input,Rx.value,Ex.kind,Ex.op,Ex.input,Ex.value];rw [nil];simp only [qab,qd,qf];rcases a with ⟨q,q2,q3,_⟩ | ⟨q,_⟩ | ⟨q,_⟩;rw [q,q2,q3,nil,eqV_iff.2 rfl];simp;rw [q];rfl
  ·rw [q];rfl
 | @op o xs ho hne ha=>
  simp only [toRx,klw,Rx.op,Rx.input,Rx.value,Ex.kind,Ex.op,Ex.input,Ex.value];rw [show (o.toList == (⟨#[]⟩:BA).toList)=false from by
   cases g:(o.toList == (⟨#[]⟩:BA).toList) with
   | false=>rfl
   | true=>exact absurd (beqB_iff.1 g) hne]
  simp only [qbb,qf];rcases a with ⟨q,_⟩ | ⟨q,_⟩ | ⟨q,q2,q3,_⟩;rw [q];rfl;rw [q];rfl
  ·rw [q,q2,q3,eqV_iff.2 rfl];simp
def tm0:Tm:=Tm.mk 0 []
def tV (l:La) (g:Int->Option Tm):List Tm:=(List.range l.symbols.length).map fun (s:Nat)=>(g (s:Int)).getD tm0
def fV (l:La) (g:Int->Option Tm):List Bool:=(List.range l.symbols.length).map fun (s:Nat)=>(g (s:Int)).isSome
theorem kad5 (l:La) (g:Int->Option Tm):(tV l g).length=l.symbols.length:=by simp [tV]
theorem k8e {l:La} {g:Int->Option Tm} {s:Int} (h0:0<=s) (h1:s<(l.symbols.length:Int)):idx (tV l g) s=some ((g s).getD tm0):=by obtain ⟨k,rfl⟩:∃ k:Nat,s=(k:Int):=⟨s.toNat,by omega⟩;rw [kak,tV,qp,List.getElem?_range (by omega)];rfl
theorem k7m {l:La} {g:Int->Option Tm} {s:Int} (h0:0<=s) (h1:s<(l.symbols.length:Int)):idx (fV l g) s=some (g s).isSome:=by obtain ⟨k,rfl⟩:∃ k:Nat,s=(k:Int):=⟨s.toNat,by omega⟩;rw [kak,fV,qp,List.getElem?_range (by omega)];rfl
theorem k91 {β:Type} {n k:Nat} (hk:k<n) (f g:Nat->β) (b:β) (h1:g k=b) (h2:∀ i,i≠k->g i=f i):List.set ((List.range n).map f) k b=(List.range n).map g:=by
 apply List.ext_getElem?;intro i;rw [List.getElem?_set];by_cases hi:k=i;subst hi;rw [qj rfl,qj (by simpa using hk),qp,List.getElem?_range hk,<- h1];rfl
 ·rw [qg hi,qp,qp];by_cases a:i<n;rw [List.getElem?_range a,qbk,qbk,h2 i (fun e=>hi e.symm)]
  ·rw [qbm (by simpa using a)];rfl
def kgv (l:La) (f:Ex->Int->Option Tm) (x:Ex) (i:Nat) (s:Int):Option Tm:=kip l f x (selN (fun j=>decide ((kax l (j:Int)).symbol=s)) i)
theorem kah3 (l:La) (f:Ex->Int->Option Tm) (x:Ex) (is:List Nat) (i:Nat):kip l f x (is++[i])=match kip l f x is with
  | some t=>some t
  | none=>kip l f x [i]:=by
 induction is with
 | nil=>rfl
 | cons j is ih=>
  rw [qam,kip,kip];by_cases a:fitB (kax l (j:Int)) x=true
  ·rw [qj a,qj a];cases kgu f (kax l (j:Int)).args x.args with
   | some ys=>rfl
   | none=>exact ih
  ·rw [qg a,qg a];exact ih
theorem k2g (l:La) (f:Ex->Int->Option Tm) (x:Ex) (s:Int):kgv l f x 0 s=none:=rfl
theorem kuv {l:La} {f:Ex->Int->Option Tm} {x:Ex} {i:Nat} {s:Int} (h:(kax l (i:Int)).symbol≠s):kgv l f x (i+1) s=kgv l f x i s:=by unfold kgv;rw [k9y (qb h)]
theorem kac8 {l:La} {f:Ex->Int->Option Tm} {x:Ex} {i:Nat} {s:Int} (h:(kax l (i:Int)).symbol=s):kgv l f x (i+1) s=match kgv l f x i s with
  | some t=>some t
  | none=>kip l f x [i]:=by
 unfold kgv;rw [k5x (qe h),kah3]
theorem kv2 {l:La} {f:Ex->Int->Option Tm} {x:Ex} {i:Nat} (h:kgv l f x (i+1) (kax l (i:Int)).symbol=kgv l f x i (kax l (i:Int)).symbol):kgv l f x (i+1)=kgv l f x i:=by
 funext s;by_cases hs:(kax l (i:Int)).symbol=s;subst hs;exact h
 ·exact kuv hs
theorem kak4 {l:La} {f:Ex->Int->Option Tm} {r:Ru} {xs:List Ex} (i:r.args.length=xs.length) (m:r.args.length<=1000) (h:∀ a∈r.args,0<=a/\a<(l.symbols.length:Int)):
  Ev (kaa (kgc (xs.map fun x=>tV l (f x),xs.map fun x=>fV l (f x)) r) fuel (true,0,[])) fun res=>(kgu f r.args xs=none/\res.1=false)\/∃ ys,kgu f r.args xs=some ys/\res=(true,ys):=by
 refine kj5 r.args.length (fun k v=>∃ b acc,v=(b,(k:Int),acc)/\acc.length=k/\((b=true/\kgu f r.args xs=(kgu f (r.args.drop k) (xs.drop k)).map (acc++·))\/(b=false/\kgu f r.args xs=none))) (by omega) ⟨true,[],rfl,rfl, .inl ⟨rfl,by rw [qaz,qaz];cases kgu f r.args xs <;> rfl⟩⟩ (fun k v hk ⟨b,acc,e,d,c⟩=>?_) fun v ⟨b,acc,e,d,c⟩=>?_
 ·subst e;have g:k<xs.length:=by omega
  have hs:=h _ (qv hk);have e1:(xs.map fun x=>tV l (f x))[k]?=some (tV l (f xs[k])):=by rw [qp,qc g];rfl
  have e2:(xs.map fun x=>fV l (f x))[k]?=some (fV l (f xs[k])):=by rw [qp,qc g];rfl
  have e3:idx r.args (k:Int)=some r.args[k]:=by rw [kak,qc hk]
  unfold kgc;simp only [kbd hk,qf,kak,e1,e2,qa,qc hk,k8e hs.1 hs.2,k7m hs.1 hs.2];rw [ki2 (by simp only [qu,qaf];omega),qa,ki3 hk (show r.args.length<=9223372036854775807 by omega)];rcases c with ⟨rfl,c⟩ | ⟨rfl,c⟩
  ·rw [qf,qa];refine knn (s:=((f xs[k] r.args[k]).isSome,((k+1:Nat):Int),acc++[(f xs[k] r.args[k]).getD tm0])) rfl ⟨_,_,rfl,by simp [d],?_⟩;rw [qaa hk,qaa g,kgu] at c;cases j:f xs[k] r.args[k] with
   | none=>
    rw [j] at c;exact .inr ⟨rfl,by rw [c];rfl⟩
   | some t=>
    rw [j] at c;refine .inl ⟨rfl,?_⟩;rw [c];simp only [qa2];cases kgu f (r.args.drop (k+1)) (xs.drop (k+1)) with
    | none=>rfl
    | some ys=>simp
  ·rw [qd,qa];exact knn (s:=(false,((k+1:Nat):Int),acc++[(f xs[k] r.args[k]).getD tm0])) rfl ⟨_,_,rfl,by simp [d], .inr ⟨rfl,c⟩⟩
 ·subst e;refine knl (b:=(b,acc)) ?_ ?_;unfold kgc;simp only [kfm,qd]
  ·rcases c with ⟨rfl,c⟩ | ⟨rfl,c⟩;rw [List.drop_length,kgu] at c;exact .inr ⟨acc,by rw [c];simp,rfl⟩
   ·exact .inl ⟨c,rfl⟩
theorem k4i {l:La} (hl:kk5 l) (hv:klh l):∀ (n:Nat) (x:Ex),XC x->szX x<=n->keq n l (toRx x)=some (tV l (drvM l n x),fV l (drvM l n x))
 | 0,x,m,hn=>by cases m <;> simp only [szX] at hn <;> omega
 | n+1,x,m,hn=>by
  have H:=hv.rules;have I:=hv.sym16;show kgt (keq n) l (toRx x)=_;unfold kgt;have g:(toRx x).args=x.args.map toRx:=by cases m <;> simp [toRx,klw,kq4,Rx.args,Ex.args]
  have u:∀ a∈x.args,XC a:=by
   cases m with
   | lit _=>intro a h;cases h
   | inp=>intro a h;cases h
   | op _ _ ha=>exact ha
  have w:∀ a∈x.args,szX a<=n:=by
   intro a h;cases m with
   | lit _=>cases h
   | inp=>cases h
   | @op o xs _ _ _=>
    have:=k3g (xs:=xs) h;simp only [szX] at hn;omega
  have J:x.args.length<=5:=by
   cases m with
   | lit _=>simp [Ex.args]
   | inp=>simp [Ex.args]
   | @op o xs ho _ _=>
    obtain ⟨_,_,h1,h2,_⟩:=kain ho;exact h2
  have loop1:kaa (kge l (toRx x) (keq n)) fuel (0,([]:List (List Tm)),([]:List (List Bool)))=some (x.args.map (fun y=>tV l (drvM l n y)),x.args.map fun y=>fV l (drvM l n y)):=by
   refine Ev.eq (kj5 x.args.length (fun k v=>v=((k:Int),(x.args.take k).map (fun y=>tV l (drvM l n y)),(x.args.take k).map fun y=>fV l (drvM l n y))) (by omega) (by simp) (fun k v hk e=>?_) fun v e=>?_);subst e;have e1:(x.args.map toRx)[k]?=some (toRx x.args[k]):=(by rw [qp,qc hk];rfl);have ih:=k4i hl hv n x.args[k] (u _ (qv hk)) (w _ (qv hk));have ht:x.args.take (k+1)=x.args.take k++[x.args[k]]:=(by rw [List.take_add_one,qc hk];rfl);have p:(x.args.take k).length=k:=(by rw [qah];omega);unfold kge;rw [g,qag];simp only [kbd hk,qf,kak,e1,qa,ih];rw [ki2 (by simp only [qag,qu,qaf,p];omega),qa,ki2 (by simp only [qag,qu,qaf,p];omega),qa,ki3 hk (show x.args.length<=9223372036854775807 by omega)];refine knn (s:=(((k+1:Nat):Int),(x.args.take (k+1)).map (fun y=>tV l (drvM l n y)),(x.args.take (k+1)).map fun y=>fV l (drvM l n y))) ?_ rfl;rw [ht,List.map_append,List.map_append];rfl
   ·subst e;refine knl (b:=(x.args.map (fun y=>tV l (drvM l n y)),x.args.map fun y=>fV l (drvM l n y))) ?_ rfl;unfold kge;rw [g,qag];simp only [kfm,qd,List.take_length]
  have mk1:mkL 32 (Tm.mk (0) (([]:List Tm))) (List.length l.symbols:Int)=some (tV l (kgv l (drvM l n) x 0)):=by unfold mkL;rw [qj (by omega)];congr 1;simp [tV,k2g,tm0,List.map_const']
  have mk2:mkL 1 false (List.length l.symbols:Int)=some (fV l (kgv l (drvM l n) x 0)):=by unfold mkL;rw [qj (by omega)];congr 1;simp [fV,k2g,List.map_const']
  rw [loop1,qa,mk1,qa,mk2,qa];have loop2:kaa (kf9 l (toRx x) (x.args.map (fun y=>tV l (drvM l n y)),x.args.map fun y=>fV l (drvM l n y))) fuel (0,tV l (kgv l (drvM l n) x 0),fV l (kgv l (drvM l n) x 0))=some (tV l (drvM l (n+1) x),fV l (drvM l (n+1) x)):=by
   refine Ev.eq (kj5 l.rules.length (fun i v=>v=((i:Int),tV l (kgv l (drvM l n) x i),fV l (kgv l (drvM l n) x i))) (by omega) rfl (fun i v hi e=>?_) fun v e=>?_)
   ·subst e;have er:l.rules[i]=kax l (i:Int):=(k18 hi).symm;have hm:kax l (i:Int)∈l.rules:=(by rw [<- er];exact qv hi);have d:=(hv.valid i hi).1;have G:=(hv.valid i hi).2;rw [er] at d G;refine knn (s:=(((i+1:Nat):Int),tV l (kgv l (drvM l n) x (i+1)),fV l (kgv l (drvM l n) x (i+1)))) ?_ rfl;have c:=kac8 (l:=l) (f:=drvM l n) (x:=x) (i:=i) rfl;unfold kf9;simp only [kbd hi,qf,kak,qc hi,qa,er,k7m d.1 d.2,k8e d.1 d.2,kald hl hv hm m,ki3 hi (show l.rules.length<=9223372036854775807 by omega)];cases hp:kgv l (drvM l n) x i (kax l (i:Int)).symbol with
    | some t=>
     rw [hp] at c;rw [kv2 (c.trans hp.symm)];rfl
    | none=>
     rw [hp] at c;simp only [Option.isSome_none,qd,qa];cases z:fitB (kax l (i:Int)) x with
     | false=>
      rw [kv2 (by rw [c,hp];simp only [kip];rw [z];rfl)];rfl
     | true=>
      have A:=k0o hv hm m.ok z;have B:(kax l (i:Int)).args.length<=1000:=k8k hl hv hm;have C:∀ a∈(kax l (i:Int)).args,0<=a/\a<(l.symbols.length:Int):=by
       intro a ha;rcases G with ⟨_,_,_,q,_⟩ | ⟨_,_,_,q,_⟩ | ⟨_,_,_,o,_,_,q,_⟩;rw [q] at ha;cases ha;rw [q] at ha;cases ha
       ·obtain ⟨j,D,rfl⟩:=qad.1 ha;exact (q j D).1
      obtain ⟨res,e1,e2⟩:=kak4 (l:=l) (f:=drvM l n) A B C;simp only [qab,qd,e1,qa];have r:kip l (drvM l n) x [i]=(kgu (drvM l n) (kax l (i:Int)).args x.args).map (Tm.mk (i:Int)):=(by rw [kip,qj z];cases kgu (drvM l n) (kax l (i:Int)).args x.args <;> rfl);rcases e2 with ⟨e2,e3⟩ | ⟨ys,e2,rfl⟩;rw [e3,kv2 (by rw [c,hp,r,e2];rfl)];rfl
      ·rw [r,e2] at c;have E:List.set (tV l (kgv l (drvM l n) x i)) (Int.toNat (kax l (i:Int)).symbol) (Tm.mk (i:Int) ys)=tV l (kgv l (drvM l n) x (i+1)):=by
        refine k91 (by omega) _ _ _ ?_ fun j D=>?_;rw [show (((kax l (i:Int)).symbol.toNat:Nat):Int)=(kax l (i:Int)).symbol by omega,c];rfl
        ·rw [kuv (by omega)]
       have F:List.set (fV l (kgv l (drvM l n) x i)) (Int.toNat (kax l (i:Int)).symbol) true=fV l (kgv l (drvM l n) x (i+1)):=by
        refine k91 (by omega) _ _ _ ?_ fun j D=>?_;rw [show (((kax l (i:Int)).symbol.toNat:Nat):Int)=(kax l (i:Int)).symbol by omega,c];rfl
        ·rw [kuv (by omega)]
       simp only [qf,E,F];rw [show k1z (tV l (kgv l (drvM l n) x i)) (tV l (kgv l (drvM l n) x (i+1)))=some () by unfold k1z;rw [kad5,kad5,qj rfl]];rfl
   ·subst e;refine knl (b:=(tV l (drvM l (n+1) x),fV l (drvM l (n+1) x))) ?_ rfl;unfold kf9;simp only [kfm,qd];rfl
  rw [loop2,qa]
end Go.Proofs.YtaimpcnpifoidaaGreatDoor
