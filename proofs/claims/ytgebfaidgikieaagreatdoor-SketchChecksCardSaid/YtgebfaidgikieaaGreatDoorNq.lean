import Derived.Test.YtgebfaidgikieaaGreatDoorTv
import Derived.Test.YtgebfaidgikieaaGreatDoorTv
import Derived.Test.YtgebfaidgikieaaGreatDoorTv
import Derived.Test.YtgebfaidgikieaaGreatDoorTT
import Derived.Test.YtgebfaidgikieaaGreatDoorZE
import Derived.Test.YtgebfaidgikieaaGreatDoorTv
import Derived.Lib.DecodeNEq
import Derived.Lib.ItoaNum
set_option linter.all false
set_option maxRecDepth 100000
namespace Go.Proofs.YtgebfaidgikieaaGreatDoor
open Go Go.RowKit TV
def ke8 (m s:Nat):Int:=if s<=m then (m:Int) - (s:Int) else -1
theorem kws:∀ (n:Nat) (t:Tm) (m:Nat),m<=10000->m<n->kdn n t (m:Int)=some (ke8 m t.size)/\khi n t (m:Int)=some (ke8 m t.size)
 | 0,t,m,_,h=>by omega
 | n+1,t,m,hm,hn=>by
  show kfz (kdn n) t (m:Int)=_/\kko (khi n) t (m:Int)=_;obtain ⟨r0,l⟩:=t;have g:(Tm.mk r0 l).size=Tm.sizeL l+1:=rfl;have a:w64 ((m:Int) - 1)=ke8 m (1+Tm.sizeL (l.take 0)):=by rw [kje];simp only [List.take_zero,Tm.sizeL,ke8];split <;> omega
  obtain ⟨r,r',h1,p,q,o⟩:=kiq (step:=kg0 (Tm.mk r0 l) (khi n)) (step':=kdf (Tm.mk r0 l) (kdn n)) (min l.length m) (by omega)
   (fun i=>(ke8 m (1+Tm.sizeL (l.take i)),(i:Int))) (fun i=>(ke8 m (1+Tm.sizeL (l.take i)),(i:Int))) (fun r r'=>Sum.elim id id r=ke8 m (Tm.sizeL l+1)/\r'=ke8 m (Tm.sizeL l+1)) (fun i hi=>by
   have c:i<l.length:=(by omega);have e1:(Tm.mk r0 l).args[i]?=some l[i]:=qb c;have b1:decide ((i:Int)<((Tm.mk r0 l).args.length:Int))=true:=qh (by show (i:Int)<(l.length:Int);omega);have e:=kqu l i (by omega);simp only [kg0,kdf,b1,qe,qa,kag,e1];by_cases hp:1+Tm.sizeL (l.take i)<=m
   ·have hv:ke8 m (1+Tm.sizeL (l.take i))=((m - (1+Tm.sizeL (l.take i)):Nat):Int):=(by unfold ke8;rw [qs hp];omega);obtain ⟨q1,q2⟩:=kws n l[i] (m - (1+Tm.sizeL (l.take i))) (by omega) (by omega);have d:ke8 (m - (1+Tm.sizeL (l.take i))) l[i].size=ke8 m (1+Tm.sizeL (l.take (i+1))):=(by rw [k1m c];unfold ke8;split <;> split <;> omega);rw [hv,qh (show (0:Int)<=((m - (1+Tm.sizeL (l.take i)):Nat):Int) by omega),qf (show ¬ ((m - (1+Tm.sizeL (l.take i)):Nat):Int)<0 by omega)];simp only [qe,qd,q1,q2,qa,d,ka1 i]
    first | exact .inl ⟨rfl,rfl⟩ | exact .inl ⟨trivial,trivial⟩
   ·have hv:ke8 m (1+Tm.sizeL (l.take i)) = -1:=(by unfold ke8;rw [ql hp]);have f:ke8 m (Tm.sizeL l+1) = -1:=(by unfold ke8;rw [ql (by omega)]);rw [hv,f];exact .inr ⟨_,_,rfl,rfl,rfl,rfl⟩) (by
   have e:=kqu l (min l.length m) (by omega);by_cases s:l.length<=m;have b:min l.length m=l.length:=(by omega);have b1:decide ((l.length:Int)<((Tm.mk r0 l).args.length:Int))=false:=qf (by show ¬ (l.length:Int)<(l.length:Int);omega);have f:ke8 m (1+Tm.sizeL l)=ke8 m (Tm.sizeL l+1):=(by rw [Nat.add_comm]);simp only [b,kg0,kdf,b1,qd,qa,List.take_length,f];exact ⟨_,_,rfl,rfl,rfl,rfl⟩
   ·have b:min l.length m=m:=(by omega);rw [b] at e;have b1:decide ((m:Int)<((Tm.mk r0 l).args.length:Int))=true:=qh (by show (m:Int)<(l.length:Int);omega);have c:m<l.length:=(by omega);have e1:(Tm.mk r0 l).args[m]?=some l[m]:=qb c;have hv:ke8 m (1+Tm.sizeL (l.take m)) = -1:=(by unfold ke8;rw [ql (by omega)]);have f:ke8 m (Tm.sizeL l+1) = -1:=(by unfold ke8;rw [ql (by omega)]);simp only [b,kg0,kdf,b1,qe,qa,kag,e1,hv,f];exact ⟨_,_,rfl,rfl,rfl,rfl⟩)
  have j:kab (kg0 (Tm.mk r0 l) (khi n)) fuel (w64 ((m:Int) - 1),0)=some r:=by rw [a];simpa using h1
  have k:kab (kdf (Tm.mk r0 l) (kdn n)) fuel (w64 ((m:Int) - 1),0)=some r':=by rw [a];simpa using p
  unfold kfz kko;rw [j,k,g,<- o];refine ⟨rfl,?_⟩;rw [o,<- q];cases r <;> rfl
theorem k74 {l:List Tm} {i:Nat} (h:i<l.length):Tm.depthL (l.take (i+1))=max (Tm.depthL (l.take i)) l[i].depth:=by rw [List.take_succ_eq_append_getElem h,Tm.depthL_snoc]
theorem depth_le_size (t:Tm):t.depth<=t.size:=by
 refine Tm.ind (P:=fun t=>t.depth<=t.size) (fun r l ih=>?_) t;show Tm.depthL l+1<=Tm.sizeL l+1;have:∀ l:List Tm,(∀ t∈l,t.depth<=t.size)->Tm.depthL l<=Tm.sizeL l:=fun l=>by
  induction l with
  | nil=>exact fun _=>qw _
  | cons x l ih=>
   intro h;have h1:=h x (qx ..);have a:=ih fun t ht=>h t (qk _ ht);show max x.depth (Tm.depthL l)<=x.size+Tm.sizeL l;omega
 have:=this l ih;omega
theorem k67:∀ (n:Nat) (t:Tm),t.size<=1000->t.size<=n->ka7 n t=some (t.depth:Int)
 | 0,t,_,h=>by have:=Tm.size_pos t;omega
 | n+1,t,ht,hn=>by
  show kcn (ka7 n) t=_;obtain ⟨r0,l⟩:=t;have e:(Tm.mk r0 l).size=Tm.sizeL l+1:=rfl;have d:=koc l;have hl:=kuv (kce (Tm.mk r0 l) (ka7 n)) l.length (by omega) (fun i=>((Tm.depthL (l.take i):Int),(i:Int))) (Tm.depthL l:Int) (fun i hi=>by
   have e1:(Tm.mk r0 l).args[i]?=some l[i]:=qb hi;have b1:decide ((i:Int)<((Tm.mk r0 l).args.length:Int))=true:=qh (by show (i:Int)<(l.length:Int);omega);have hs:=Tm.sizeL_mem (qv hi);have q:=k67 n l[i] (by omega) (by omega);have a:imax (Tm.depthL (l.take i):Int) (l[i].depth:Int)=(Tm.depthL (l.take (i+1)):Int):=(by rw [k74 hi];unfold imax;split <;> omega);simp only [kce,b1,qe,kag,e1,qa,q,a,ka1 i]) (by
   have b1:decide ((l.length:Int)<((Tm.mk r0 l).args.length:Int))=false:=qf (by show ¬ (l.length:Int)<(l.length:Int);omega);simp only [kce,b1,qd,List.take_length])
  have b:kab (kce (Tm.mk r0 l) (ka7 n)) fuel (0,0)=some (Tm.depthL l:Int):=by simpa [Tm.depthL] using hl
  unfold kcn;rw [b,qa];have hd:=depth_le_size (Tm.mk r0 l);have c:(Tm.mk r0 l).depth=Tm.depthL l+1:=rfl;rw [ka1 _,c]
theorem kzi:∀ (n:Nat) (t:Tm) (k:Nat),k<=1000->t.size<=1000->t.size<=n->kgf n t (k:Int)=some (decide (t.depth<=k))
 | 0,t,k,_,_,h=>by have:=Tm.size_pos t;omega
 | n+1,t,k,hk,ht,hn=>by
  show kj0 (kgf n) t (k:Int)=_;obtain ⟨r0,l⟩:=t;have e:(Tm.mk r0 l).size=Tm.sizeL l+1:=rfl;have f:(Tm.mk r0 l).depth=Tm.depthL l+1:=rfl;have d:=koc l;unfold kj0;by_cases h0:k=0;subst h0;rw [qf (show ¬ (Tm.mk r0 l).depth<=0 by omega)];rfl
  ·have c0:((k:Int) == 0)=false:=(by rw [qam];omega);rw [c0];have hl:=ki5 (kh8 (Tm.mk r0 l) (k:Int) (kgf n)) l.length (fun i=>(i:Int)) (fun i=>if (l.drop i).all (fun t=>decide (t.depth<=k - 1))=true then .inl () else .inr false) (fun i hi=>by
    have e1:(Tm.mk r0 l).args[i]?=some l[i]:=qb hi;have b1:decide ((i:Int)<((Tm.mk r0 l).args.length:Int))=true:=qh (by show (i:Int)<(l.length:Int);omega);have hs:=Tm.sizeL_mem (qv hi);have a:w64 ((k:Int) - 1)=((k - 1:Nat):Int):=(by rw [kje];omega);have q:=kzi n l[i] (k - 1) (by omega) (by omega) (by omega);have hd:l.drop i=l[i]::l.drop (i+1):=qac hi;simp only [kh8,b1,qe,kag,e1,qa,a,q,hd,List.all_cons,ka1 i];cases decide (l[i].depth<=k - 1) with
    | true=>exact .inl ⟨rfl,by simp⟩
    | false=>exact .inr rfl) (by
    have b1:decide ((l.length:Int)<((Tm.mk r0 l).args.length:Int))=false:=qf (by show ¬ (l.length:Int)<(l.length:Int);omega);simp only [kh8,b1,qd,List.drop_length,List.all_nil,if_true])
   have c:kab (kh8 (Tm.mk r0 l) (k:Int) (kgf n)) fuel 0=some (if l.all (fun t=>decide (t.depth<=k - 1))=true then .inl () else .inr false):=(by simpa using hl);have b:l.all (fun t=>decide (t.depth<=k - 1))=decide ((Tm.mk r0 l).depth<=k):=by
    have gen:∀ l:List Tm,l.all (fun t=>decide (t.depth<=k - 1))=decide (Tm.depthL l<=k - 1):=fun l=>by
     induction l with
     | nil=>simp [Tm.depthL]
     | cons x l ih=>
      rw [List.all_cons,ih,<- Bool.decide_and];exact decide_eq_decide.2 (by show _↔max x.depth (Tm.depthL l)<=k - 1;omega)
    rw [gen];exact decide_eq_decide.2 (by omega)
   simp only [qd];rw [c,b,qa];cases decide ((Tm.mk r0 l).depth<=k) <;> rfl
theorem kwj:∀ (n:Nat) (l:La) (s:Int) (t:Tm),t.size<=1000->t.size<=n->(∀ x∈l.rules,x.kind≠3->x.args.length=0)->∃ c,kgh n l s t=some c/\kb9 n l s t=some c
 | 0,l,s,t,_,h,_=>by have:=Tm.size_pos t;omega
 | n+1,l,s,t,ht,hn,hr=>by
  show ∃ c,kjw (kgh n) l s t=some c/\kdv (kb9 n) l s t=some c;obtain ⟨r0,ts⟩:=t;have m:(Tm.mk r0 ts).size=Tm.sizeL ts+1:=rfl;have k:=koc ts;unfold kjw kdv;have b:(Tm.mk r0 ts).rule=r0:=rfl;have a:(Tm.mk r0 ts).args=ts:=rfl;simp only [b,a];by_cases h0:r0<0;rw [qh h0];exact ⟨1,rfl,rfl⟩;by_cases h1:(l.rules.length:Int)<=r0;rw [qf h0,qh h1];exact ⟨1,rfl,rfl⟩;rw [qf h0,qf h1];obtain ⟨x,hx,d⟩:=kt8 (i:=r0) l.rules (by omega) (by omega);simp only [qd,qa,hx];cases x.symbol != s with
  | true=>exact ⟨3,rfl,rfl⟩
  | false=>
   have e:kec x=some (x.args.length:Int):=by
    unfold kec;by_cases hk:x.kind=3;rw [show (x.kind != 3)=false by rw [qae];exact hk];rfl
    ·rw [show (x.kind != 3)=true by rw [qbc];exact hk,hr x d hk];rfl
   simp only [qd,e,qa];by_cases hl:(ts.length:Int)=(x.args.length:Int)
   ·rw [show ((ts.length:Int) != (x.args.length:Int))=false by rw [qae];exact hl];obtain ⟨r,h1,o⟩:=knv (kh1 l (Tm.mk r0 ts) (kgh n) x) (kco l (Tm.mk r0 ts) (kb9 n) x) ts.length (fun i=>(i:Int)) (fun i hi=>by
     have e1:ts[i]?=some ts[i]:=qb hi;have f:i<x.args.length:=(by omega);have e2:x.args[i]?=some x.args[i]:=qb f;have b1:decide ((i:Int)<(ts.length:Int))=true:=qh (by omega);have hs:=Tm.sizeL_mem (qv hi);obtain ⟨c,c1,c2⟩:=kwj n l x.args[i] ts[i] (by omega) (by omega) hr;simp only [kh1,kco,a,b1,qe,kag,e1,e2,qa,c1,c2,ka1 i];cases c != 0 with
     | true=>exact .inr ⟨_,rfl,rfl⟩
     | false=>exact .inl ⟨rfl,rfl⟩) (.inl ()) (by
     have b1:decide ((ts.length:Int)<(ts.length:Int))=false:=qf (by omega);simp only [kh1,a,b1,qd]) (by
     have b1:decide ((ts.length:Int)<(ts.length:Int))=false:=qf (by omega);simp only [kco,a,b1,qd])
    have g:kab (kh1 l (Tm.mk r0 ts) (kgh n) x) fuel 0=some r:=(by simpa using h1);have j:kab (kco l (Tm.mk r0 ts) (kb9 n) x) fuel 0=some r:=(by simpa using o);simp only [qd,g,j,qa];cases r <;> exact ⟨_,rfl,rfl⟩
   ·rw [show ((ts.length:Int) != (x.args.length:Int))=true by rw [qbc];exact hl];exact ⟨4,rfl,rfl⟩
theorem kwr (t:Tm) (m:Nat) (hm:m<=10000):kdr t (m:Int)=some (decide (t.size<=m)):=by unfold kdr;rw [(kws fuel t m hm (ka9 (by omega))).1,qa];refine qbg some (decide_eq_decide.2 ?_);unfold ke8;split <;> omega
theorem k16 (l:La) (s:Int) (t:Tm) (hl:kot l) (ht:t.size<=1000):∃ c,ki9 l s t=some c/\kd8 l s t=some c/\(c=0->k1x l/\kgh fuel l s t=some 0):=by
 obtain ⟨c,c1,c2,c3⟩:=kabk l hl;unfold ki9 kd8;rw [c1,c2];simp only [qa];by_cases hc:c=0
 ·subst hc;have e:((0:Int) != 0)=false:=rfl;rw [e];simp only [qd];by_cases s0:s<0;rw [qh s0];exact ⟨1,rfl,rfl,fun h=>absurd h (by decide)⟩;by_cases s1:(l.symbols.length:Int)<=s;rw [qf s0,qh s1];exact ⟨1,rfl,rfl,fun h=>absurd h (by decide)⟩;have f:khi fuel t 4096=some (ke8 4096 t.size):=(kws fuel t 4096 (by omega) (ka9 (by omega))).2;have g:kdr t 4096=some (decide (t.size<=4096)):=kwr t 4096 (by omega);have hs:kgf fuel t 32=some (decide (t.depth<=32)):=kzi fuel t 32 (by omega) (by omega) (qa4 (ka9 (by omega)));have hd:=k67 fuel t (by omega) (qa4 (ka9 (by omega)));have a:decide (ke8 4096 t.size<0)=false:=qf (by unfold ke8;split <;> omega);rw [qf s0,qf s1];simp only [qd,qa,f,g,hs,hd,a,qh (show t.size<=4096 by omega),qbo];have b:(!(decide (t.depth<=32)))=decide ((32:Int)<(t.depth:Int)):=by rw [<- decide_not];exact decide_eq_decide.2 (by omega)
  rw [b];cases decide ((32:Int)<(t.depth:Int)) with
  | true=>exact ⟨2,rfl,rfl,fun h=>absurd h (by decide)⟩
  | false=>
   obtain ⟨d,d1,d2⟩:=kwj fuel l s t (by omega) (qa4 (ka9 (by omega))) (fun x hx hk=>by rw [((c3 rfl).good x hx).noargs hk];rfl);simp only [qd,d1,d2,qa];exact ⟨d,rfl,rfl,fun h=>⟨c3 rfl,by rw [h]⟩⟩
 ·rw [show (c != 0)=true by rw [qbc];exact hc];exact ⟨c,rfl,rfl,fun h=>absurd h hc⟩
theorem w64n (n:Nat) (h:n<=9223372036854775807):w64 (n:Int)=n:=kje
theorem w64s (n:Nat) (h:n<=9223372036854775806:=by omega):w64 ((n:Int)+1)=((n+1:Nat):Int):=ka1 _
theorem kpu {σ β:Type} {st:σ->Option (σ ⊕ β)} {s s':σ} {n:Nat} (h:st s=some (.inl s')):kab st (n+1) s=kab st n s':=by rw [kab,h]
theorem ktv {σ β:Type} {st:σ->Option (σ ⊕ β)} {s:σ} {b:β} {n:Nat} (h:st s=some (.inr b)):kab st (n+1) s=some b:=by rw [kab,h]
def mk (s:List Bool) (i:Nat):Bool:=s.getD i false
def hd:List UInt8->Int
 | []=>0
 | c::_=>(c.toNat:Int)
def decN (n:Nat):List UInt8:=if h:n<10 then [UInt8.ofNat (48+n)] else decN (n / 10)++[UInt8.ofNat (48+n % 10)]
def klw (n:Int):List UInt8:=if n<0 then 45::decN n.natAbs else decN n.natAbs
def hexD (n:Nat):UInt8:=if n<10 then UInt8.ofNat (48+n) else UInt8.ofNat (87+n)
def k1n (c:UInt8):Bool:=decide (32<=c.toNat) && decide (c.toNat<=126)
def escB (c:UInt8):List UInt8:=if c=34\/c=92 then [92,c] else if k1n c=true then [c] else [92,120,hexD (c.toNat / 16),hexD (c.toNat % 16)]
def kif (l:List UInt8):List UInt8:=34::(l.flatMap escB++[34])
def ke5:List (List UInt8)->List UInt8
 | []=>[]
 | [x]=>x
 | x::y::l=>x++(44::32::ke5 (y::l))
mutual
def kax:Va->List UInt8
 | .mk t n s l=>if t=1 then (if n=1 then [116,114,117,101] else [102,97,108,115,101]) else if t=2 then klw n else if t=4 then [48,120,hexD (n.toNat / 16),hexD (n.toNat % 16)]
  else if t=3 then kif s.data.toList else if t=8 then 114::kif s.data.toList
  else if t=5 then 91::(ke5 (kun l)++[93]) else if t=6 then 123::(ke5 (kun l)++[125]) else 60::(ke5 (kun l)++[62])
def kun:List Va->List (List UInt8)
 | []=>[]
 | v::l=>kax v::kun l
end
def dig (c:UInt8):Prop:=48<=(c.toNat:Int)/\(c.toNat:Int)<=57
def valD (n:Int) (ds:List UInt8):Int:=ds.foldl (fun a c=>a*10+((c.toNat:Int) - 48)) n
theorem ktp {n:Nat} (h:n<256:=by omega):(UInt8.ofNat n).toNat=n:=by simp [UInt8.toNat_ofNat,Nat.mod_eq_of_lt h]
theorem kahk (n:Nat):∃ d ds,decN n=d::ds/\(∀ c∈d::ds,dig c)/\valD ((d.toNat:Int) - 48) ds=n/\(0<n->48<d.toNat)/\∀ k,0<k->n<10 ^ k->ds.length<k:=by
 induction n using Nat.strongRecOn with
 | ind n ih=>
  rw [decN];by_cases h:n<10
  ·rw [dif_pos h];have e:(UInt8.ofNat (48+n)).toNat=48+n:=ktp;refine ⟨_,[],rfl,fun c hc=>?_,?_,fun h0=>by rw [e];omega,fun k hk _=>hk⟩
   ·rcases qab.1 hc with rfl | hc;unfold dig;rw [e];omega
    ·cases hc
   ·show ((UInt8.ofNat (48+n)).toNat:Int) - 48=n;rw [e];omega
  ·rw [dif_neg h];obtain ⟨d,ds,h1,g,f,i,l⟩:=ih (n / 10) (by omega);have e:(UInt8.ofNat (48+n % 10)).toNat=48+n % 10:=ktp;refine ⟨d,ds++[UInt8.ofNat (48+n % 10)],by rw [h1];rfl,fun c hc=>?_,?_,fun h0=>i (by omega),fun k hk a=>?_⟩
   ·rw [<- List.cons_append] at hc;rcases qa7.1 hc with hc | hc;exact g c hc
    ·rcases qab.1 hc with rfl | hc;unfold dig;rw [e];omega
     ·cases hc
   unfold valD at f ⊢;rw [List.foldl_append,f];show (((n / 10:Nat):Int))*10+(((UInt8.ofNat (48+n % 10)).toNat:Int) - 48)=n;rw [e];omega
   ·obtain ⟨j,rfl⟩:∃ j,k=j+1:=⟨k - 1,by omega⟩;have b:0<j:=by
     rcases Nat.eq_zero_or_pos j with rfl | b;simp at a;omega
     ·exact b
    have:=l j b (by rw [Nat.pow_succ] at a;omega);rw [qy,qa5];omega
theorem kad0 (s:BA):toBA (s.data.toList.map fun c=>(c.toNat:Int))=s:=by
 have key:∀ (l:List UInt8) (r:BA),(l.map fun c=>(c.toNat:Int)).foldl (fun r n=>r.push (UInt8.ofNat n.toNat)) r=⟨r.data++l.toArray⟩:=by
  intro l
  induction l with
  | nil=>intro r;simp
  | cons c l ih=>
   intro r;rw [qa8,List.foldl_cons,ih];simp [ByteArray.push]
 unfold toBA;rw [key];cases s;simp [ByteArray.empty,ByteArray.emptyWithCapacity];(try rfl)
def koj {α:Type} (sh:α->List UInt8) (l:List α):List UInt8:=l.flatMap fun v=>44::32::sh v
theorem kre {α:Type} (sh:α->List UInt8):∀ (l:List α) (v:α),ke5 ((v::l).map sh)=sh v++koj sh l
 | [],v=>by simp [ke5,koj]
 | w::l,v=>by have:=kre sh l w;rw [qa8] at this;rw [qa8,qa8,ke5,this];simp [koj]
def k6b (least most:Nat) (s:BA):Prop:=least<=s.size/\s.size<=most/\∀ c∈s.data.toList,k1n c=true
def k48 (v:Va):Prop:=∃ n,v=Va.mk 2 n ⟨#[]⟩ [] /\ -1000000<=n/\n<=1000000
def k4t (v:Va):Prop:=∃ s,v=Va.mk 3 0 s []/\k6b 0 64 s
def k5e (lo hi:Nat) (v:Va):Prop:=∃ l,v=Va.mk 6 0 ⟨#[]⟩ l/\lo<=l.length/\l.length<=hi/\∀ x∈l,k4t x
def kri (v:Va):Prop:=
 (v=Va.mk 1 0 ⟨#[]⟩ []\/v=Va.mk 1 1 ⟨#[]⟩ [])\/k48 v\/(∃ n,v=Va.mk 4 n ⟨#[]⟩ []/\0<=n/\n<=255)\/k4t v\/(∃ s,v=Va.mk 8 0 s []/\k6b 1 40 s) \/
 (∃ l,v=Va.mk 5 0 ⟨#[]⟩ l/\l.length<=16/\∀ x∈l,k48 x)\/k5e 0 16 v \/
 (∃ l,v=Va.mk 7 0 ⟨#[]⟩ l/\l.length<=8/\∃ m,1<=m/\m<=8/\∀ x∈l,k5e m m x)
theorem k0s:∀ l:List Va,kun l=l.map kax
 | []=>rfl
 | v::l=>by rw [kun,k0s l];rfl
def ksd (c:Int):Bool:=decide (32<=c) && decide (c<=126)
def atI (s:BA) (i:Nat):Int:=hd (s.data.toList.drop i)
theorem at_lt {s:BA} {i:Nat} (h:i<s.size):byt s (i:Int)=some (atI s i)/\s.data.toList.drop i=(s.data.toList[i]'(by rw [<- kbo];exact h))::s.data.toList.drop (i+1)/\atI s i=((s.data.toList[i]'(by rw [<- kbo];exact h)).toNat:Int):=by
 have a:i<s.data.toList.length:=by rw [<- kbo];exact h
 have d:=qac a;refine ⟨?_,d,?_⟩;rw [krr,qb a,atI,d];rfl
 ·rw [atI,d];rfl
def wl (w:BA):List Int:=w.data.toList.map fun c=>(c.toNat:Int)
theorem k5m {a b:BA} (h:a.data.toList=b.data.toList):a=b:=by cases a;cases b;congr 1;exact Array.toList_inj.1 h
theorem k6v (c:Int):kks c=some (ksd c):=by unfold kks ksd;cases decide (32<=c) <;> cases decide (c<=126) <;> rfl
theorem k70 (s:BA) (a b:Nat):(s.extract a b).data.toList=(s.data.toList.take b).drop a:=by simp [ByteArray.data_extract,Array.toList_extract,List.drop_take]
def iB (l:List UInt8):List Int:=l.map fun c=>(c.toNat:Int)
def mkB (l:List UInt8):BA:=⟨l.toArray⟩
theorem klo (l:List UInt8):(mkB l).data.toList=l:=by simp [mkB]
theorem kva (l:List UInt8):(mkB l).size=l.length:=by rw [kbo,klo]
theorem kaa1 (a b:List UInt8):mkB a++mkB b=mkB (a++b):=by apply k5m;rw [klo];simp [ByteArray.data_append,mkB]
theorem kx4 (l:List UInt8):toBA (iB l)=mkB l:=by
 have:=kad0 (mkB l)
 rwa [klo] at this
theorem k4f (a b:List UInt8):iB a++iB b=iB (a++b):=by simp [iB]
theorem k0x (l:List UInt8):(iB l).length=l.length:=by simp [iB]
theorem k56 (l:List UInt8):ofBA (mkB l)=iB l:=by unfold ofBA iB;rw [klo]
theorem kakb (c:UInt8):([(c.toNat:Int)]:List Int)=iB [c]:=rfl
theorem kq2 (acc:List UInt8) (c:UInt8) (n:Int) (h:acc.length<=4000000000) (hn:n=(c.toNat:Int):=by rfl):kao (iB acc) n=some (iB (acc++[c])):=by subst hn;have:=k51 (b:=1) (xs:=iB acc) (ys:=[(c.toNat:Int)]) (by rw [k0x];simp;omega);simp only [kao,kc2,qa,this];rw [kakb,k4f]
theorem kkk {acc l:List UInt8} {s:BA} (hs:s=mkB l) (h:acc.length<=4000000000) (hl:l.length<=4000000000):kaj (iB acc) s=some (iB (acc++l)):=by
 subst hs;have:appS (iB acc) (mkB l)=some (iB (acc++l)):=by unfold appS;rw [k0x,kva,qs (by omega),k56,k4f]
 simp only [kaj,kc2,qa,this]
theorem kum (c:UInt8):byt (⟨#[48,49,50,51,52,53,54,55,56,57,97,98,99,100,101,102]⟩:BA) (Int.fdiv (c.toNat:Int) (2 ^ (4:Nat)))=some ((hexD (c.toNat / 16)).toNat:Int) /\
  byt (⟨#[48,49,50,51,52,53,54,55,56,57,97,98,99,100,101,102]⟩:BA) (iand .u8 (c.toNat:Int) 15)=some ((hexD (c.toNat % 16)).toNat:Int) /\
  kcm (w64 (Int.tdiv (c.toNat:Int) 16))=some (mkB [hexD (c.toNat / 16)])/\kcm (Int.tmod (c.toNat:Int) 16)=some (mkB [hexD (c.toNat % 16)]):=by
 have key:∀ n:Fin 256,byt (⟨#[48,49,50,51,52,53,54,55,56,57,97,98,99,100,101,102]⟩:BA) (Int.fdiv ((n.val:Nat):Int) (2 ^ (4:Nat)))=some ((hexD (n.val / 16)).toNat:Int) /\
  byt (⟨#[48,49,50,51,52,53,54,55,56,57,97,98,99,100,101,102]⟩:BA) (iand .u8 ((n.val:Nat):Int) 15)=some ((hexD (n.val % 16)).toNat:Int):=by decide
 have key2:∀ n:Fin 256,kcm (w64 (Int.tdiv ((n.val:Nat):Int) 16))=some (mkB [hexD (n.val / 16)])/\kcm (Int.tmod ((n.val:Nat):Int) 16)=some (mkB [hexD (n.val % 16)]):=by decide
 have hc:=c.toNat_lt;exact ⟨(key ⟨c.toNat,hc⟩).1,(key ⟨c.toNat,hc⟩).2,(key2 ⟨c.toNat,hc⟩).1,(key2 ⟨c.toNat,hc⟩).2⟩
theorem k9e (acc:List UInt8) (c:UInt8) {n:Int} (hn:n=(c.toNat:Int)) (h:acc.length<=3000000000):keu (iB acc) n=some (iB (acc++[hexD (c.toNat / 16),hexD (c.toNat % 16)])):=by subst hn;have h1:=kq2 acc (hexD (c.toNat / 16)) _ (by omega);have a:=kq2 (acc++[hexD (c.toNat / 16)]) (hexD (c.toNat % 16)) _ (by simp;omega);rw [qaq] at a;simp only [keu,(kum c).1,(kum c).2.1,qa,h1,a];rfl
def hex4 (c:UInt8):List UInt8:=[92,120,hexD (c.toNat / 16),hexD (c.toNat % 16)]
theorem kaet (v:List UInt8) (hv:v.length<=1000000):∀ (k m:Nat) (acc:List UInt8) (n:Nat),m+k=v.length->k<n->acc.length+4*k<=2000000000 ->
  kab (khx (iB v)) n ((m:Int),iB acc)=some (iB (acc++(v.drop m).flatMap hex4)):=by
 intro k
 induction k with
 | zero=>
  intro m acc n hm hn hl;obtain ⟨n,rfl⟩:∃ j,n=j+1:=⟨n - 1,by omega⟩;rw [qax (by omega)];refine ktv ?_;have:decide ((m:Int)<((iB v).length:Int))=false:=qf (by rw [k0x];omega);simp only [khx,this,qd];simp
 | succ k ih=>
  intro m acc n hm hn hl;obtain ⟨n,rfl⟩:∃ j,n=j+1:=⟨n - 1,by omega⟩;have a:m<v.length:=by omega
  rw [qac a,qbd,<- qaq,<- ih (m+1) (acc++hex4 v[m]) n (by omega) (by omega) (by simp [hex4];omega)];refine kpu ?_;have d1:decide ((m:Int)<((iB v).length:Int))=true:=qh (by rw [k0x];omega);have e1:idx (iB v) (m:Int)=some (v[m].toNat:Int):=by rw [kag];simp [iB,a]
  have h1:=kkk (acc:=acc) (l:=[92,120]) (s:=⟨#[92,120]⟩) rfl (by omega) (by decide);have b:=k9e (acc++[92,120]) (v[m]) rfl (by simp;omega);rw [qaq] at b;simp only [khx,d1,qe,e1,qa,h1,b,w64s m];rfl
theorem kacu {s:BA} {j:Nat} (h:j<s.size):(s.get! j).toNat=(s.data.toList[j]'(by rw [<- kbo];exact h)).toNat:=by obtain ⟨a⟩:=s;have b:j<a.size:=h;show (a[j]!).toNat=_;rw [getElem!_pos a j b];rfl
theorem kaau (n b0 b1 b2 b3:Nat) (hn:1<=n) (h0:128<=b0):128<=(Lib.decodeN n b0 b1 b2 b3).1/\1<=(Lib.decodeN n b0 b1 b2 b3).2/\(Lib.decodeN n b0 b1 b2 b3).2<=n/\(Lib.decodeN n b0 b1 b2 b3).2<=4/\(2<=(Lib.decodeN n b0 b1 b2 b3).2->128<=b1)/\(3<=(Lib.decodeN n b0 b1 b2 b3).2->128<=b2)/\(4<=(Lib.decodeN n b0 b1 b2 b3).2->128<=b3):=by
 unfold Lib.decodeN
 repeat' split
 all_goals refine ⟨?_,?_,?_,?_,?_,?_,?_⟩
 all_goals (simp only;omega)
theorem kafg:∀ n:Fin 256,idx gt4 ((n.val:Nat):Int)=some (Lib.firstT n.val:Int)/\w64 (iand .u8 (Lib.firstT n.val:Int) 7)=((Lib.firstT n.val % 8:Nat):Int) /\
  (Lib.firstT n.val<240->(idx gt5 (Int.fdiv (Lib.firstT n.val:Int) (2 ^ (4:Nat)))).map (fun r=>(r.yn,r.yo))=some ((Lib.accLo (Lib.firstT n.val / 16):Int),(Lib.accHi (Lib.firstT n.val / 16):Int)))/\(Lib.firstT n.val<240\/Lib.firstT n.val=240\/Lib.firstT n.val=241)/\(Lib.firstT n.val<240->2<=Lib.firstT n.val % 8/\Lib.firstT n.val % 8<=4):=by decide
theorem kajl (n b0 b1 b2 b3 sz lo hi:Nat):(Lib.slowN n b0 b1 b2 b3 sz lo hi).2=if n<sz then 1 else if b1<lo\/hi<b1 then 1 else if sz<=2 then 2 else if b2<128\/191<b2 then 1 else if sz<=3 then 3 else if b3<128\/191<b3 then 1 else 4:=by
 unfold Lib.slowN
 repeat' split
 all_goals first | rfl | omega
theorem kah2 {s:BA} (hs:s.size<=1000000) {i:Nat} (hi:i<s.size):∃ t r,cutS s (i:Int) (s.size:Int)=some t/\kbg t=some (r,((Utf8.decode s i).2:Int)):=by
 have hd:(s.extract i s.size).data.toList=s.data.toList.drop i:=by rw [k70,List.take_of_length_le (by rw [<- kbo];exact qw _)]
 generalize ht:s.extract i s.size=t at hd;have m:t.size=s.size - i:=by rw [kbo,hd,qa2,<- kbo]
 have f:cutS s (i:Int) (s.size:Int)=some t:=by unfold cutS;rw [qs ⟨by omega,by omega,by omega⟩,<- ht];rfl
 have l:∀ k:Nat,i+k<s.size->byt t (k:Int)=some ((s.get! (i+k)).toNat:Int):=fun k hk=>by rw [krr,hd,qag,qb (by rw [<- kbo];exact hk),kacu hk];rfl
 have d:∀ k:Nat,(s.get! k).toNat<256:=fun k=>UInt8.toNat_lt _;rw [Lib.decode_at];have b0:=l 0 (by omega);have n:=l 1;have o:=l 2;have p:=l 3;rw [Nat.add_zero] at b0;have h0:=d i;have h1:=d (i+1);have u:=d (i+2);have v:=d (i+3);generalize (s.get! i).toNat=c0 at *
 generalize (s.get! (i+1)).toNat=c1 at *
 generalize (s.get! (i+2)).toNat=c2 at *
 generalize (s.get! (i+3)).toNat=c3 at *
 refine ⟨t,?_⟩;have j:(!(t.toList == (⟨#[]⟩:BA).toList))=true:=by rw [qbm,qam];intro h;have:=qbg ByteArray.size (kne h);rw [m,show (⟨#[]⟩:BA).size=0 from rfl] at this;omega
 have b0':byt t 0=some (c0:Int):=b0;by_cases ha:c0<128
 ·have d1:decide ((c0:Int)<128)=true:=qh (by omega);have:Lib.decodeN (s.size - i) c0 c1 c2 c3=(c0,1):=by unfold Lib.decodeN;rw [qs ha]
  rw [this];exact ⟨_,f,by simp only [kbg,j,qe,b0',qa,d1];rfl⟩
 ·have d1:decide ((c0:Int)<128)=false:=qf (by omega);obtain ⟨f1,f2,f3,f4,f5⟩:=kafg ⟨c0,h0⟩;simp only at f1 f2 f3 f4 f5;have d2:decide ((t.size:Int)<1)=false:=qf (by omega);have goal:∀ r,(∃ a,kam t=some (a,(r:Int)))->∃ a,cutS s (i:Int) (s.size:Int)=some t/\kbg t=some (a,(r:Int)):=fun r ⟨a,h⟩=>
   ⟨a,f,by simp only [kbg,j,qe,b0',qa,d1,qd,h]⟩
  refine goal _ ?_;rcases f4 with f4 | f4
  ·have e:=Lib.slow_eq (s.size - i) c0 c1 c2 c3 (by omega) h1 u v f4;rw [<- e,kajl];have d3:decide ((240:Int)<=(Lib.firstT c0:Int))=false:=qf (by omega);obtain ⟨v4,g,g'⟩:=qm.1 (f3 f4);obtain ⟨glo,ghi⟩:=Prod.mk.inj g';obtain ⟨g1,g2⟩:=f5 f4;generalize Lib.firstT c0 % 8=sz at *
   generalize Lib.accLo (Lib.firstT c0 / 16)=lo at *
   generalize Lib.accHi (Lib.firstT c0 / 16)=b at *
   by_cases k1:s.size - i<sz;rw [qs k1];have d4:decide ((t.size:Int)<(sz:Int))=true:=qh (by omega);exact ⟨65533,by simp only [kam,d2,qd,b0',qa,f1,d3,g,glo,ghi,f2,d4,qe];rfl⟩
   ·rw [ql k1];have d4:decide ((t.size:Int)<(sz:Int))=false:=qf (by omega);have b1':byt t 1=some (c1:Int):=n (by omega);have c1b:(bif (decide ((c1:Int)<(lo:Int))) then (some (true)) else (some (decide ((b:Int)<(c1:Int)))):Option Bool)=some (decide (c1<lo\/b<c1)):=by
     by_cases q:c1<lo;rw [qh (show (c1:Int)<(lo:Int) by omega),qh (show c1<lo\/b<c1 from .inl q)];rfl
     ·rw [qf (show ¬ (c1:Int)<(lo:Int) by omega),qd];congr 1;by_cases q':b<c1;rw [qh (show (b:Int)<(c1:Int) by omega),qh (show c1<lo\/b<c1 from .inr q')]
      ·rw [qf (show ¬ (b:Int)<(c1:Int) by omega),qf (by omega)]
    by_cases k2:c1<lo\/b<c1;rw [qs k2];exact ⟨65533,by simp only [kam,d2,qd,b0',qa,f1,d3,g,glo,ghi,f2,d4,b1',c1b,qh k2,qe];rfl⟩
    ·rw [ql k2];by_cases k3:sz<=2;rw [qs k3];have d5:decide ((sz:Int)<=2)=true:=qh (by omega);exact ⟨_,by simp only [kam,d2,qd,b0',qa,f1,d3,g,glo,ghi,f2,d4,b1',c1b,qf k2,d5,qe];rfl⟩
     ·rw [ql k3];have d5:decide ((sz:Int)<=2)=false:=qf (by omega);have b2':byt t 2=some (c2:Int):=o (by omega);have c2b:∀ c:Nat,(bif (decide ((c:Int)<128)) then (some (true)) else (some (decide (191<(c:Int)))):Option Bool)=some (decide (c<128\/191<c)):=fun c=>by
       by_cases q:c<128;rw [qh (show (c:Int)<128 by omega),qh (show c<128\/191<c from .inl q)];rfl
       ·rw [qf (show ¬ (c:Int)<128 by omega),qd];congr 1;by_cases q':191<c;rw [qh (show 191<(c:Int) by omega),qh (show c<128\/191<c from .inr q')]
        ·rw [qf (show ¬ 191<(c:Int) by omega),qf (by omega)]
      by_cases k4:c2<128\/191<c2;rw [qs k4];exact ⟨65533,by simp only [kam,d2,qd,b0',qa,f1,d3,g,glo,ghi,f2,d4,b1',c1b,qf k2,d5,b2',c2b,qh k4,qe];rfl⟩
      ·rw [ql k4];by_cases k5:sz<=3;rw [qs k5];have d6:decide ((sz:Int)<=3)=true:=qh (by omega);exact ⟨_,by simp only [kam,d2,qd,b0',qa,f1,d3,g,glo,ghi,f2,d4,b1',c1b,qf k2,d5,b2',c2b,qf k4,d6,qe];rfl⟩
       ·rw [ql k5];have d6:decide ((sz:Int)<=3)=false:=qf (by omega);have b3':byt t 3=some (c3:Int):=p (by omega);by_cases k6:c3<128\/191<c3;rw [qs k6];exact ⟨65533,by simp only [kam,d2,qd,b0',qa,f1,d3,g,glo,ghi,f2,d4,b1',c1b,qf k2,d5,b2',c2b,qf k4,d6,b3',qh k6,qe];rfl⟩
        ·rw [ql k6];exact ⟨_,by simp only [kam,d2,qd,b0',qa,f1,d3,g,glo,ghi,f2,d4,b1',c1b,qf k2,d5,b2',c2b,qf k4,d6,b3',qf k6];rfl⟩
  ·have:(Lib.decodeN (s.size - i) c0 c1 c2 c3).2=1:=by
    rcases f4 with f4 | f4;rw [Lib.ascii_eq _ _ _ _ _ f4]
    ·rw [Lib.bad_eq _ _ _ _ _ h0 f4]
   rw [this];have d3:decide ((240:Int)<=(Lib.firstT c0:Int))=true:=qh (by omega);exact ⟨_,by simp only [kam,d2,qd,b0',qa,f1,d3,qe];rfl⟩
theorem kabx {s:BA} {i w:Nat} (h:i+w<=s.size):cutS s (i:Int) ((i+w:Nat):Int)=some (mkB ((s.data.toList.drop i).take w)):=by unfold cutS;rw [qs ⟨by omega,by omega,by omega⟩];congr 1;apply k5m;rw [klo,show ((i:Int).toNat)=i from rfl,show (((i+w:Nat):Int).toNat)=i+w from rfl,k70,List.drop_take];congr 1;omega
theorem kaj5 (l:List UInt8) (h:l.length<=4000000000):s2b (mkB l)=some (iB l):=by unfold s2b;rw [kva,qs (by omega),k56]
theorem kaj0 {s:BA} {i:Nat} (hi:i<s.size) (c:UInt8) (hc:s.data.toList[i]?=some c):(c.toNat<128/\Utf8.decode s i=(c.toNat,1)) \/
  (128<=c.toNat/\128<=(Utf8.decode s i).1/\1<=(Utf8.decode s i).2/\i+(Utf8.decode s i).2<=s.size/\∀ x∈(s.data.toList.drop i).take (Utf8.decode s i).2,128<=x.toNat):=by
 have b:∀ k:Nat,i+k<s.size->∀ x,s.data.toList[i+k]?=some x->(s.get! (i+k)).toNat=x.toNat:=fun k hk x hx=>by rw [kacu hk];rw [qb (by rw [<- kbo];exact hk)] at hx;rw [qt hx]
 have h0:=b 0 hi c hc;rw [Nat.add_zero] at h0;rw [Lib.decode_at,h0];by_cases h:c.toNat<128;exact .inl ⟨h,by unfold Lib.decodeN;rw [qs h]⟩
 ·obtain ⟨k1,k2,k3,k4,k5,k6,k7⟩:=kaau (s.size - i) c.toNat (s.get! (i+1)).toNat (s.get! (i+2)).toNat (s.get! (i+3)).toNat (by omega) (by omega);refine .inr ⟨by omega,k1,k2,by omega,fun x hx=>?_⟩;obtain ⟨k,hk⟩:=qbl.1 hx;rw [q9] at hk;split at hk
  ·rename_i d;rw [qag] at hk;have a:i+k<s.size:=(by omega);have:=b k a x hk;rcases (by omega:k=0\/k=1\/k=2\/k=3) with rfl | rfl | rfl | rfl;rw [Nat.add_zero,hc] at hk;cases hk;omega;rw [<- this];exact k5 (by omega);rw [<- this];exact k6 (by omega)
   ·rw [<- this];exact k7 (by omega)
  ·cases hk
theorem k2p {c:UInt8} (h1:c.toNat≠34) (b:c.toNat≠92) (a:¬ (32<=c.toNat/\c.toNat<=126)):escB c=hex4 c:=by unfold escB hex4;rw [ql (by rintro (rfl | rfl) <;> simp_all),ql (by unfold k1n;simpa using a)]
theorem k3q {c:UInt8} (h1:c.toNat≠34) (a:32<=c.toNat/\c.toNat<=126) (b:c.toNat≠92:=by omega):escB c=[c]:=by unfold escB;rw [ql (by rintro (rfl | rfl) <;> simp_all),qs (by unfold k1n;simpa using a)]
theorem kaf7 {c:UInt8} (h:c.toNat=34\/c.toNat=92):escB c=[92,c]:=by
 unfold escB;rw [qs];rcases h with h | h;exact .inl (UInt8.toNat.inj h)
 ·exact .inr (UInt8.toNat.inj h)
theorem kaed {l:List UInt8} (h:∀ x∈l,escB x=hex4 x):l.flatMap escB=l.flatMap hex4:=by
 induction l with
 | nil=>rfl
 | cons x l ih=>rw [qbd,qbd,h x (qx ..),ih fun y hy=>h y (qk _ hy)]
theorem k2d (c:UInt8):wu8 ((c.toNat:Nat):Int)=(c.toNat:Int):=by have:=c.toNat_lt;simp [wu8,IntKind.wrap,IntKind.signed,IntKind.bits,IntKind.min,IntKind.max];omega
theorem kaa9 {s:BA} (hs:s.size<=100000):∀ (d i:Nat) (acc:List UInt8) (n:Nat),s.size - i=d->i<=s.size->d<n->acc.length+4*d<=1000000000 ->
  kab (ke0 s) n (iB acc,i)=some (iB (acc++(s.data.toList.drop i).flatMap escB)):=by
 intro d
 induction d using Nat.strongRecOn with
 | ind d ih=>
  intro i acc n hd hi hn hl;obtain ⟨n,rfl⟩:∃ m,n=m+1:=⟨n - 1,by omega⟩;by_cases h:i<s.size
  ·have j:i<s.data.toList.length:=(by rw [<- kbo];exact h);have b:=qac j;have f:s.data.toList[i]?=some s.data.toList[i]:=qb j;generalize s.data.toList[i]=c at b f;have d1:decide (i<ByteArray.size s)=true:=qh h;have a:=kaj0 h c f;by_cases k:c.toNat=34\/c.toNat=92
   ·obtain ⟨g1,g2⟩:c.toNat<128/\Utf8.decode s i=(c.toNat,1):=by
     rcases a with a | a;exact a
     ·omega
    rw [b,qbd,kaf7 k,<- qaq,<- ih (d - 1) (by omega) (i+1) (acc++[92,c]) n (by omega) (by omega) (by omega) (by simp;omega)];refine kpu ?_;have e1:(bif (((c.toNat:Nat):Int) == 34) then (some (true)) else (some (((c.toNat:Nat):Int) == 92)):Option Bool)=some true:=(by rcases k with k | k <;> rw [k] <;> rfl);have w1:=kq2 acc 92 92 (by omega);have w2:=kq2 (acc++[92]) c _ (by simp;omega);rw [qaq] at w2;simp only [ke0,d1,qe,g2,e1,qa,w1,k2d,w2];rfl
   ·have e1:∀ r:Nat,r≠34->r≠92->(bif (((r:Nat):Int) == 34) then (some (true)) else (some (((r:Nat):Int) == 92)):Option Bool)=some false:=fun r h1 y=>(by rw [show ((r:Int) == 34)=false by rw [qam];omega,show ((r:Int) == 92)=false by rw [qam];omega];rfl);by_cases hp:32<=c.toNat/\c.toNat<=126
    ·obtain ⟨g1,g2⟩:c.toNat<128/\Utf8.decode s i=(c.toNat,1):=by
      rcases a with a | a;exact a
      ·omega
     have q:ksd (c.toNat:Int)=true:=(by unfold ksd;simp;omega);rw [b,qbd,k3q (by omega) hp,<- qaq,<- ih (d - 1) (by omega) (i+1) (acc++[c]) n (by omega) (by omega) (by omega) (by simp;omega)];refine kpu ?_;have w2:=kq2 acc c _ (by omega);simp only [ke0,d1,qe,g2,e1 c.toNat (by omega) (by omega),qa,qd,k6v,q,k2d,w2]
    ·obtain ⟨t,r,u,g⟩:=kah2 (by omega) h
     -- what is escaped
     obtain ⟨q1,q2,q3,q4,q5⟩:(Utf8.decode s i).1≠34/\(Utf8.decode s i).1≠92/\ksd ((Utf8.decode s i).1:Int)=false/\(1<=(Utf8.decode s i).2/\i+(Utf8.decode s i).2<=s.size)/\∀ x∈(s.data.toList.drop i).take (Utf8.decode s i).2,escB x=hex4 x:=by
      rcases a with ⟨g1,g2⟩ | ⟨g1,g2,g3,g4,g5⟩;rw [g2];refine ⟨by omega,by omega,by unfold ksd;simp;omega,⟨by omega,by show i+1<=_;omega⟩,fun x hx=>?_⟩;rw [b] at hx;simp at hx;rw [hx];exact k2p (by omega) (by omega) hp
      ·exact ⟨by omega,by omega,by unfold ksd;simp;omega,⟨g3,g4⟩,fun x hx=>k2p (by have:=g5 x hx;omega) (by have:=g5 x hx;omega) (by have:=g5 x hx;omega)⟩
     obtain ⟨r',w,o⟩:∃ r' w,Utf8.decode s i=(r',w):=⟨_,_,rfl⟩;rw [o] at q1 q2 q3 q4 q5 g;simp only at q1 q2 q3 q4 q5 g;have e:s.data.toList.drop i=(s.data.toList.drop i).take w++s.data.toList.drop (i+w):=(by rw [<- List.drop_drop,List.take_append_drop]);have p:((s.data.toList.drop i).take w).length=w:=(by rw [qap,qa2,<- kbo];omega);have v:(((s.data.toList.drop i).take w).flatMap hex4).length<=4*w:=by
      have gen:∀ l:List UInt8,(l.flatMap hex4).length=4*l.length:=fun l=>by
       induction l with
       | nil=>rfl
       | cons x l ih=>rw [qbd,qy,ih,qad];simp [hex4];omega
      rw [gen,p];exact qw _
     rw [e,List.flatMap_append,kaed q5,<- qaq,<- ih (d - w) (by omega) (i+w) (acc++((s.data.toList.drop i).take w).flatMap hex4) n (by omega) (by omega) (by omega) (by simp only [qy];omega)];refine kpu ?_;have ew:w64 ((i:Int)+(w:Int))=((i+w:Nat):Int):=(by rw [<- w64n (i+w) (by omega)];congr 1);have hx:=kaet ((s.data.toList.drop i).take w) (by omega) w 0 acc fuel (by omega) (ka9 (by omega)) (by omega);rw [List.drop_zero] at hx;simp only [ke0,d1,qe,o,e1 r' q1 q2,qa,qd,k6v,q3,u,g,ew,kabx q4.2,kaj5 ((s.data.toList.drop i).take w) (by omega)];rw [show (0:Int)=((0:Nat):Int) from rfl,hx];rfl
  ·rw [qax (by rw [<- kbo];omega)];refine ktv ?_;have d1:decide (i<ByteArray.size s)=false:=qf h;simp only [ke0,d1,qd];simp
theorem k88 (c:UInt8):(escB c).length<=4:=by unfold escB;split <;> (try split) <;> simp
theorem kzw (l:List UInt8):(l.flatMap escB).length<=4*l.length:=by
 induction l with
 | nil=>exact qw _
 | cons x l ih=>rw [qbd,qy,qad];have:=k88 x;omega
theorem k7f {s:BA} (hs:s.size<=100000):ki7 s=some (mkB (kif s.data.toList)):=by have h1:=kq2 [] 34 34 (by simp);have b:=kaa9 hs (s.size - 0) 0 [34] fuel rfl (by omega) (ka9 (by omega)) (by simp;omega);have hl:=kzw s.data.toList;rw [<- kbo] at hl;rw [List.drop_zero] at b;have d:=kq2 ([34]++s.data.toList.flatMap escB) 34 34 (by simp only [qy,qa5];omega);have a:kao [] 34=some (iB [34]):=h1;simp only [ki7,a,qa,b,d,kb5,kx4];unfold kif;simp
theorem kdx (a b:List UInt8) (h:a.length+b.length<=4000000000):cat (mkB a) (mkB b)=some (mkB (a++b)):=by rw [kakc (by rw [kva,kva];omega),kaa1]
theorem k8c {s:BA} (hs:s.size<=100000):∀ (d i:Nat) (acc:List UInt8) (n:Nat),i+d=s.size->d<n->acc.length+4*d<=1000000000 ->
  kab (kcc s) n (mkB acc,(i:Int))=some (mkB (acc++(s.data.toList.drop i).flatMap escB)):=by
 intro d
 induction d with
 | zero=>
  intro i acc n hd hn hl;obtain ⟨n,rfl⟩:∃ m,n=m+1:=⟨n - 1,by omega⟩;rw [qax (by rw [<- kbo];omega)];refine ktv ?_;have d1:decide ((i:Int)<(s.size:Int))=false:=qf (by omega);simp only [kcc,d1,qd];simp
 | succ d ih=>
  intro i acc n hd hn hl;obtain ⟨n,rfl⟩:∃ m,n=m+1:=⟨n - 1,by omega⟩;have h:i<s.size:=by omega
  obtain ⟨b1,b2,b3⟩:=at_lt h;generalize s.data.toList[i]'(by rw [<- kbo];exact h)=c at b2 b3;have e:cutS s (i:Int) ((i+1:Nat):Int)=some (mkB [c]):=by rw [kabx (by omega),b2];rfl
  have g:w64 (c.toNat:Int)=(c.toNat:Int):=by have:=c.toNat_lt;exact kje
  rw [b2,qbd,<- qaq,<- ih (i+1) (acc++escB c) n (by omega) (by omega) (by have:=k88 c;simp only [qy];omega)];refine kpu ?_;by_cases f:c.toNat=34\/c.toNat=92;have e1:(bif ((c.toNat:Int) == 34) then (some (true)) else (some ((c.toNat:Int) == 92)):Option Bool)=some true:=(by rcases f with f | f <;> rw [f] <;> rfl);have c1:cat (mkB acc) (⟨#[92]⟩:BA)=some (mkB (acc++[92])):=kdx _ [92] (by simp;omega);have c2:=kdx (acc++[92]) [c] (by simp;omega);rw [qaq] at c2;simp only [kcc,kdy h,qe,b1,b3,qa,e1,c1,w64s i,e,c2,kaf7 f];rfl
  ·have e1:(bif ((c.toNat:Int) == 34) then (some (true)) else (some ((c.toNat:Int) == 92)):Option Bool)=some false:=(by rw [show ((c.toNat:Int) == 34)=false by rw [qam];omega,show ((c.toNat:Int) == 92)=false by rw [qam];omega];rfl);by_cases hp:32<=c.toNat/\c.toNat<=126;have e2:(bif (decide ((c.toNat:Int)<32)) then (some (true)) else (some (decide (126<(c.toNat:Int)))):Option Bool)=some false:=(by rw [qf (by omega),qf (by omega)];rfl);simp only [kcc,kdy h,qe,qd,b1,b3,g,qa,e1,e2,w64s i,e,kdx acc [c] (by simp;omega),k3q (show c.toNat≠34 by omega) hp]
   ·have e2:(bif (decide ((c.toNat:Int)<32)) then (some (true)) else (some (decide (126<(c.toNat:Int)))):Option Bool)=some true:=by
     by_cases q:c.toNat<32;rw [qh (by omega)];rfl
     ·rw [qf (by omega),qh (by omega)];rfl
    have c1:cat (mkB acc) (⟨#[92,120]⟩:BA)=some (mkB (acc++[92,120])):=kdx _ [92,120] (by simp;omega);have c2:=kdx (acc++[92,120]) [hexD (c.toNat / 16)] (by simp;omega);have c3:=kdx (acc++[92,120]++[hexD (c.toNat / 16)]) [hexD (c.toNat % 16)] (by simp;omega);simp only [kcc,kdy h,qe,qd,b1,b3,g,qa,e1,e2,w64s i,c1,(kum c).2.2.1,(kum c).2.2.2,c2,c3,k2p (show c.toNat≠34 by omega) (by omega) hp];simp [hex4]
theorem k30 {s:BA} (hs:s.size<=100000):kfc s=some (mkB (kif s.data.toList)):=by have c:=k8c hs s.size 0 [34] fuel (by omega) (ka9 (by omega)) (by simp;omega);have hl:=kzw s.data.toList;rw [<- kbo] at hl;rw [List.drop_zero] at c;have a:kab (kcc s) fuel ((⟨#[34]⟩:BA),0)=some (mkB ([34]++s.data.toList.flatMap escB)):=c;have d:cat (mkB ([34]++s.data.toList.flatMap escB)) (⟨#[34]⟩:BA)=some (mkB ([34]++s.data.toList.flatMap escB++[34])):=kdx _ [34] (by simp only [qy,qa5];omega);simp only [kfc,a,qa,d];unfold kif;simp
theorem kwv (n:Nat):Lib.decDigits n=decN n:=by
 induction n using Nat.strongRecOn with
 | ind n ih=>
  rw [Lib.decDigits,decN];split;rfl
  ·rw [ih (n / 10) (by omega)]
theorem k5z {n:Int} (h1 : -9223372036854775808<=n) (a:n<=9223372036854775807):kys n 10=some (mkB (klw n)):=by
 unfold kys;rw [qs ⟨rfl,h1,a⟩];congr 1;unfold mkB Lib.itoa klw;split;rw [kwv]
 ·rw [kwv,show n.toNat=n.natAbs by omega]
theorem kzn (n:Nat) (h:n<100000000000):(decN n).length<=11:=by obtain ⟨d,ds,h1,_,_,_,a⟩:=kahk n;rw [h1,qad];have:=a 11 (by omega) (by simpa using h);omega
theorem k7w (m:Int) (h0:0<=m:=by omega) (h1:m<=9:=by omega):toBA [wu8 (w64 (48+m))]=mkB [UInt8.ofNat (48+m.toNat)]:=by rcases (by omega:m=0\/m=1\/m=2\/m=3\/m=4\/m=5\/m=6\/m=7\/m=8\/m=9) with rfl | rfl | rfl | rfl | rfl | rfl | rfl | rfl | rfl | rfl <;> rfl
theorem kady:∀ (m:Nat) (tl:List UInt8) (n:Nat),m<9223372036854775807->m<n->tl.length+(decN m).length<=1000000 ->
  ∃ d:Nat,∃ t:List UInt8,d<=9/\kab kdj n ((m:Int),mkB tl)=some ((d:Int),mkB t)/\[UInt8.ofNat (48+d)]++t=decN m++tl:=by
 intro m
 induction m using Nat.strongRecOn with
 | ind m ih=>
  intro tl n hm hn hl;obtain ⟨n,rfl⟩:∃ j,n=j+1:=⟨n - 1,by omega⟩;by_cases h:m<10;have d1:decide ((10:Int)<=(m:Int))=false:=qf (by omega);refine ⟨m,tl,by omega,ktv (by simp only [kdj,d1,qd]),?_⟩;rw [decN,dif_pos h]
  ·have d1:decide ((10:Int)<=(m:Int))=true:=qh (by omega);have e0:decN m=decN (m / 10)++[UInt8.ofNat (48+m % 10)]:=(by rw [decN,dif_neg h]);rw [e0] at hl ⊢;simp only [qy,qa5] at hl;obtain ⟨d,t,h1,c,e⟩:=ih (m / 10) (by omega) (UInt8.ofNat (48+m % 10)::tl) n (by omega) (by omega) (by simp;omega);refine ⟨d,t,h1,?_,by rw [e];simp⟩;rw [<- c];refine kpu ?_;have e1:Int.tmod (m:Int) 10=((m % 10:Nat):Int):=rfl;have e2:w64 (Int.tdiv (m:Int) 10)=((m / 10:Nat):Int):=(by rw [show Int.tdiv (m:Int) 10=((m / 10:Nat):Int) from rfl];exact kje);have e3:=k7w ((m % 10:Nat):Int);have e4:=kdx [UInt8.ofNat (48+m % 10)] tl (by simp;omega);rw [show (((m % 10:Nat):Int)).toNat=m % 10 from rfl] at e3;simp only [kdj,d1,qe,e1,e2,e3,qa,e4];rfl
theorem kzh (k m:Nat) (h:m<100000000000:=by omega):kbe (k+1) (m:Int)=some (mkB (decN m)):=by show kcw (kbe k) (m:Int)=_;have d1:decide ((m:Int)<0)=false:=qf (by omega);have hl:=kzn m h;obtain ⟨d,t,h1,g,c⟩:=kady m [] fuel (by omega) (ka9 (by omega)) (by simp;omega);have e:kab kdj fuel ((m:Int),(⟨#[]⟩:BA))=some ((d:Int),mkB t):=g;rw [List.append_nil] at c;have e3:=k7w (d:Int);rw [show ((d:Int)).toNat=d from rfl] at e3;have f:=qbg List.length c;simp only [qy,qa5] at f;simp only [kcw,d1,qd,e,qa,e3,kdx [UInt8.ofNat (48+d)] t (by simp;omega),c]
theorem ku9 {n:Int} (h1 : -1000000<=n) (b:n<=1000000):kbe fuel n=some (mkB (klw n)):=by
 rw [knx];unfold klw;by_cases h:n<0
 ·rw [qs h];show kcw (kbe 18446744073709551615) n=_;have d1:decide (n<0)=true:=qh h;have ew:w64 (0 - n)=(n.natAbs:Int):=by rw [show 0 - n=(n.natAbs:Int) by omega];exact kje
  have hp:=kzh 18446744073709551614 n.natAbs;have hl:=kzn n.natAbs (by omega);have hc:cat (⟨#[45]⟩:BA) (mkB (decN n.natAbs))=some (mkB ([45]++decN n.natAbs)):=kdx [45] _ (by simp;omega);simp only [kcw,d1,qe,ew,hp,qa,hc];rfl
 ·rw [ql h];have:=kzh 18446744073709551615 n.natAbs
  rwa [show ((n.natAbs:Nat):Int)=n by omega] at this
theorem kta (v:Va) (l:List Va):koj kax (v::l)=[44,32]++kax v++koj kax l:=by simp [koj]
theorem k6j {B:Nat}:∀ (l:List Va),(∀ x∈l,(kax x).length<=B)->(koj kax l).length<=l.length*(B+2)
 | [],_=>qaj _
 | v::l,h=>by rw [kta];have h1:=h v (qx ..);have a:=k6j l fun x hx=>h x (qk _ hx);simp only [qy,qad,qat];rw [qa3,Nat.one_mul];omega
theorem k3u {B:Nat} (l:List Va) (h:∀ x∈l,(kax x).length<=B):(ke5 (l.map kax)).length<=l.length*(B+2):=by
 cases l with
 | nil=>exact qaj _
 | cons v l=>
  have:=k6j (v::l) h;rw [kta] at this;rw [kre];simp only [qy] at this ⊢;omega
theorem kwa {l:List Va} {B C:Nat} (d:C<=3000000000) {r22:List Int->List Va->Option (List Int)} (hl:l.length<=1000) (e:B<=100000) (b:∀ x∈l,(kax x).length<=B)
  (H:∀ x∈l,∀ acc:List UInt8,acc.length<=C->kcb r22 (iB acc) x=some (iB (acc++kax x))):
  ∀ (k m:Nat) (acc:List UInt8) (n:Nat),m+k=l.length->k<n->acc.length+k*(B+2)<=C ->
  kab (kc1 l r22) n ((m:Int),iB acc)=some (iB (acc++if m=0 then ke5 (l.map kax) else koj kax (l.drop m))):=by
 intro k
 induction k with
 | zero=>
  intro m acc n hm hn ha;obtain ⟨n,rfl⟩:∃ j,n=j+1:=⟨n - 1,by omega⟩;have d1:decide ((m:Int)<(l.length:Int))=false:=qf (by omega);refine ktv ?_;simp only [kc1,d1,qd];by_cases h:m=0;rw [qs h,qar (by omega:l.length=0)];simp [ke5]
  ·rw [ql h,qax (by omega)];simp [koj]
 | succ k ih=>
  intro m acc n hm hn ha;obtain ⟨n,rfl⟩:∃ j,n=j+1:=⟨n - 1,by omega⟩;have a:m<l.length:=by omega
  have e1:idx l (m:Int)=some l[m]:=by rw [kag,qb a]
  have hx:=qv a;have c:=b _ hx;rw [qa3,Nat.one_mul] at ha;by_cases h:m=0;subst h;have d2:decide ((0:Int)<((0:Nat):Int))=false:=rfl;have w:=H _ hx acc (by omega);have hc:l.map kax=(l[0]::l.drop 1).map kax:=(by rw [List.getElem_cons_drop,List.drop_zero]);rw [qs rfl,hc,kre,<- qaq];have:=ih 1 (acc++kax l[0]) n (by omega) (by omega) (by simp only [qy];omega);rw [ql (by omega)] at this;rw [<- this];refine kpu ?_;simp only [kc1,kdy a,qe,e1,qa,d2,qd,w,w64s 0]
  ·have d2:decide ((0:Int)<(m:Int))=true:=qh (by omega);have w1:=kkk (acc:=acc) (l:=[44,32]) (s:=⟨#[44,32]⟩) rfl (by omega) (by decide);have w:=H _ hx (acc++[44,32]) (by simp only [qy,qad,qat];omega);rw [ql h,qac a,kta,<- qaq,<- qaq];have:=ih (m+1) (acc++[44,32]++kax l[m]) n (by omega) (by omega) (by simp only [qy,qad,qat];omega);rw [ql (by omega)] at this;rw [<- this];refine kpu ?_;simp only [kc1,kdy a,qe,e1,qa,d2,w1,w,w64s m]
theorem kac5 {l:List Va} {B:Nat} {r29:Va->Option BA} (hl:l.length<=1000) (f:B<=100000) (d:∀ x∈l,(kax x).length<=B) (H:∀ x∈l,r29 x=some (mkB (kax x))):
  ∀ (k m:Nat) (acc:List UInt8) (n:Nat),m+k=l.length->k<n->acc.length+k*(B+2)<=1000000000 ->
  kab (kdg l r29) n (mkB acc,(m:Int))=some (mkB (acc++if m=0 then ke5 (l.map kax) else koj kax (l.drop m))):=by
 intro k
 induction k with
 | zero=>
  intro m acc n hm hn ha;obtain ⟨n,rfl⟩:∃ j,n=j+1:=⟨n - 1,by omega⟩;have d1:decide ((m:Int)<(l.length:Int))=false:=qf (by omega);refine ktv ?_;simp only [kdg,d1,qd];by_cases h:m=0;rw [qs h,qar (by omega:l.length=0)];simp [ke5]
  ·rw [ql h,qax (by omega)];simp [koj]
 | succ k ih=>
  intro m acc n hm hn ha;obtain ⟨n,rfl⟩:∃ j,n=j+1:=⟨n - 1,by omega⟩;have c:m<l.length:=by omega
  have e1:idx l (m:Int)=some l[m]:=by rw [kag,qb c]
  have hx:=qv c;have e:=d _ hx;have w:=H _ hx;rw [qa3,Nat.one_mul] at ha;by_cases h:m=0;subst h;have d2:decide ((0:Int)<((0:Nat):Int))=false:=rfl;have hc:l.map kax=(l[0]::l.drop 1).map kax:=(by rw [List.getElem_cons_drop,List.drop_zero]);rw [qs rfl,hc,kre,<- qaq];have:=ih 1 (acc++kax l[0]) n (by omega) (by omega) (by simp only [qy];omega);rw [ql (by omega)] at this;rw [<- this];refine kpu ?_;simp only [kdg,kdy c,qe,e1,qa,d2,qd,w,kdx acc (kax l[0]) (by omega),w64s 0]
  ·have d2:decide ((0:Int)<(m:Int))=true:=qh (by omega);have c1:cat (mkB acc) (⟨#[44,32]⟩:BA)=some (mkB (acc++[44,32])):=kdx _ [44,32] (by simp;omega);have c2:=kdx (acc++[44,32]) (kax l[m]) (by simp only [qy,qad,qat];omega);rw [ql h,qac c,kta,<- qaq,<- qaq];have:=ih (m+1) (acc++[44,32]++kax l[m]) n (by omega) (by omega) (by simp only [qy,qad,qat];omega);rw [ql (by omega)] at this;rw [<- this];refine kpu ?_;simp only [kdg,kdy c,qe,e1,qa,d2,c1,c2,w,w64s m]
def okW (C B n m:Nat) (v:Va):Prop:=(∀ acc:List UInt8,acc.length<=C->kcb (kbb n) (iB acc) v=some (iB (acc++kax v)))/\kaw m v=some (mkB (kax v))/\(kax v).length<=B
theorem k8z {C B n m:Nat} (e:C<=3000000000) {l:List Va} (hl:l.length<=1000) (h:∀ x∈l,okW C B n m x) (acc:List UInt8) (ha:acc.length+110000000<=C) (c:B<=100000:=by omega):
  kbb (n+1) (iB acc) l=some (iB (acc++ke5 (l.map kax)))/\kc0 (m+1) l=some (mkB (ke5 (l.map kax))):=by
 have hk:l.length*(B+2)<=1000*(100000+2):=Nat.mul_le_mul hl (by omega);have h1:=kwa e (r22:=kbb n) hl c (fun x hx=>(h x hx).2.2) (fun x hx=>(h x hx).1) l.length 0 acc fuel (by omega) (ka9 (by omega)) (by omega);have d:=kac5 (r29:=kaw m) hl c (fun x hx=>(h x hx).2.2) (fun x hx=>(h x hx).2.1) l.length 0 [] fuel (by omega) (ka9 (by omega)) (by simp;omega);rw [qs rfl] at h1 d;constructor;show keb (kbb n) (iB acc) l=_;have a:kab (kc1 l (kbb n)) fuel (0,iB acc)=some (iB (acc++ke5 (l.map kax))):=h1;simp only [keb,a,qa]
 ·show kfu (kaw m) (kc0 m) l=_;have b:kab (kdg l (kaw m)) fuel ((⟨#[]⟩:BA),0)=some (mkB (ke5 (l.map kax))):=d;simp only [kfu,b,qa]
theorem kw0 (n:Int) (h1: -1000000<=n) (a:n<=1000000):(klw n).length<=12:=by
 have:=kzn n.natAbs (by omega);unfold klw;split;simp only [qad];omega
 ·omega
theorem k80 {v:Va} (h:k48 v) (n m:Nat):okW 3000000000 300 n (m+1) v:=by
 obtain ⟨k,rfl,h1,a⟩:=h;have hs:kax (Va.mk 2 k ⟨#[]⟩ [])=klw k:=by simp [kax]
 have hl:=kw0 _ h1 a;refine ⟨fun acc ha=>?_,?_,by rw [hs];omega⟩;have w:=kkk (acc:=acc) (l:=klw k) (s:=mkB (klw k)) rfl (by omega) (by omega);simp only [kcb,show ((Va.mk 2 k ⟨#[]⟩ []).type == 1)=false from rfl,show ((Va.mk 2 k ⟨#[]⟩ []).type == 2)=true from rfl,qd,qe,kiy,show (Va.mk 2 k ⟨#[]⟩ []).num=k from rfl,k5z (show -9223372036854775808<=k by omega) (by omega),qa,w,qan,qaa,hs]
 ·rw [show ∀ v,kaw (m+1) v=ka8 (kaw m) (kc0 m) v from fun _=>rfl];simp only [ka8,show ((Va.mk 2 k ⟨#[]⟩ []).type == 1)=false from rfl,show ((Va.mk 2 k ⟨#[]⟩ []).type == 2)=true from rfl,qd,qe,show (Va.mk 2 k ⟨#[]⟩ []).num=k from rfl,ku9 h1 a,qa,hs]
theorem k19 (l:List UInt8):(kif l).length<=4*l.length+2:=by have:=kzw l;unfold kif;simp only [qad,qy,qat];omega
theorem k8r {v:Va} (h:k4t v) (n m:Nat):okW 3000000000 300 n (m+1) v:=by
 obtain ⟨s,rfl,h1,a,_⟩:=h;have hs:kax (Va.mk 3 0 s [])=kif s.data.toList:=by simp [kax]
 have hl:=k19 s.data.toList;rw [<- kbo] at hl;refine ⟨fun acc ha=>?_,?_,by rw [hs];omega⟩;have w:=kkk (acc:=acc) (l:=kif s.data.toList) (s:=mkB (kif s.data.toList)) rfl (by omega) (by omega);simp only [kcb,show ((Va.mk 3 0 s []).type == 1)=false from rfl,show ((Va.mk 3 0 s []).type == 2)=false from rfl,show ((Va.mk 3 0 s []).type == 4)=false from rfl,show ((Va.mk 3 0 s []).type == 8)=false from rfl,show ((Va.mk 3 0 s []).type == 3)=true from rfl,qd,qe,show (Va.mk 3 0 s []).text=s from rfl,k7f (show s.size<=100000 by omega),qa,w,qan,qaa,hs]
 ·rw [show ∀ v,kaw (m+1) v=ka8 (kaw m) (kc0 m) v from fun _=>rfl];simp only [ka8,show ((Va.mk 3 0 s []).type == 1)=false from rfl,show ((Va.mk 3 0 s []).type == 2)=false from rfl,show ((Va.mk 3 0 s []).type == 4)=false from rfl,show ((Va.mk 3 0 s []).type == 3)=true from rfl,qd,qe,show (Va.mk 3 0 s []).text=s from rfl,k30 (show s.size<=100000 by omega),qa,hs]
theorem k0m (t:Int) (a b:UInt8) {l:List Va} (C B n m:Nat) (ht:(t=5/\a=91/\b=93)\/(t=6/\a=123/\b=125)\/(t=7/\a=60/\b=62)) (hl:l.length<=16) (h:∀ x∈l,okW C B n m x) (f:2000000000<=C/\C<=3000000000:=by omega) (i:B<=5000:=by omega):okW (C - 100000) (l.length*(B+2)+2) (n+1) (m+2) (Va.mk t 0 ⟨#[]⟩ l)/\kax (Va.mk t 0 ⟨#[]⟩ l)=a::(ke5 (l.map kax)++[b]):=by
 have hs:kax (Va.mk t 0 ⟨#[]⟩ l)=a::(ke5 (l.map kax)++[b]):=by rcases ht with ⟨rfl,rfl,rfl⟩ | ⟨rfl,rfl,rfl⟩ | ⟨rfl,rfl,rfl⟩ <;> simp [kax,k0s]
 have j:=k3u l fun x hx=>(h x hx).2.2;have hk:l.length*(B+2)<=16*(5000+2):=Nat.mul_le_mul hl (by omega);refine ⟨⟨fun acc ha=>?_,?_,by rw [hs];simp only [qad,qy,qat];omega⟩,hs⟩
 ·have w0:=fun c:UInt8=>kkk (acc:=acc) (l:=[c]) (s:=⟨#[c]⟩) rfl (by omega) (by simp);have w1:kbb (n+1) (iB (acc++[a])) l=some (iB (acc++[a]++ke5 (l.map kax))):=by have h1:=kwa f.2 (r22:=kbb n) (by omega) (show B<=100000 by omega) (fun x hx=>(h x hx).2.2) (fun x hx=>(h x hx).1) l.length 0 (acc++[a]) fuel (by omega) (ka9 (by omega)) (by simp only [qy,qad,qat];omega);rw [qs rfl] at h1;show keb (kbb n) (iB (acc++[a])) l=_;have e:kab (kc1 l (kbb n)) fuel (0,iB (acc++[a]))=_:=h1;simp only [keb,e,qa]
  have w2:=fun c:UInt8=>kkk (acc:=acc++[a]++ke5 (l.map kax)) (l:=[c]) (s:=⟨#[c]⟩) rfl (by simp only [qy,qad,qat];omega) (by simp);rw [hs];rcases ht with ⟨rfl,rfl,rfl⟩ | ⟨rfl,rfl,rfl⟩ | ⟨rfl,rfl,rfl⟩
  all_goals
   simp only [kcb,show (Va.mk _ 0 (⟨#[]⟩:BA) l).items=l from rfl];show (Option.bind (kaj (iB acc) _) _:Option (List Int)).bind _=_;rw [w0,qa,w1,qa,w2];simp
 ·rw [show ∀ v,kaw (m+2) v=ka8 (kaw (m+1)) (kc0 (m+1)) v from fun _=>rfl];have g:=(k8z f.2 (by omega) h [] (by simp;omega)).2;rw [hs];have c1:=fun c:UInt8=>kdx [c] (ke5 (l.map kax)) (by simp;omega);have c2:=fun c d:UInt8=>kdx ([c]++ke5 (l.map kax)) [d] (by simp only [qy,qad,qat];omega);rcases ht with ⟨rfl,rfl,rfl⟩ | ⟨rfl,rfl,rfl⟩ | ⟨rfl,rfl,rfl⟩
  all_goals
   simp only [ka8];show (Option.bind (kc0 (m+1) l) _:Option BA)=_;rw [g,qa];show (Option.bind (cat (mkB [_]) _) _:Option BA)=_;rw [c1,qa];show (Option.bind (cat _ (mkB [_])) _:Option BA)=_;rw [c2];rfl
theorem kji {C C' B B' n m:Nat} {v:Va} (h:okW C B n m v) (a:C'<=C:=by omega) (b:B<=B':=by omega):okW C' B' n m v:=⟨fun acc ha=>h.1 acc (by omega),h.2.1,by have:=h.2.2;omega⟩
theorem k62 (m:Nat) (v:Va):kaw (m+1) v=ka8 (kaw m) (kc0 m) v:=rfl
theorem k6n {k:Int} (h:k=0\/k=1) (n m:Nat):okW 3000000000 300 n (m+1) (Va.mk 1 k ⟨#[]⟩ []):=by
 rcases h with rfl | rfl;refine ⟨fun acc ha=>?_,rfl,by decide⟩;have w:=kkk (acc:=acc) (l:=[102,97,108,115,101]) (s:=⟨#[102,97,108,115,101]⟩) rfl (by omega) (by decide);rw [show kax (Va.mk 1 0 ⟨#[]⟩ [])=[102,97,108,115,101] from rfl];simp only [kcb,show ((Va.mk 1 0 ⟨#[]⟩ []).type == 1)=true from rfl,qe,show ((Va.mk 1 0 ⟨#[]⟩ []).num == 1)=false from rfl,kho,kdw,qd,qa,w,qan,qaa]
 ·refine ⟨fun acc ha=>?_,rfl,by decide⟩;have w:=kkk (acc:=acc) (l:=[116,114,117,101]) (s:=⟨#[116,114,117,101]⟩) rfl (by omega) (by decide);rw [show kax (Va.mk 1 1 ⟨#[]⟩ [])=[116,114,117,101] from rfl];simp only [kcb,show ((Va.mk 1 1 ⟨#[]⟩ []).type == 1)=true from rfl,qe,show ((Va.mk 1 1 ⟨#[]⟩ []).num == 1)=true from rfl,kho,kdw,qa,w,qan,qaa]
theorem kael {k:Int} (h0:0<=k) (h1:k<=255) (n m:Nat):okW 2900000000 300 n (m+1) (Va.mk 4 k ⟨#[]⟩ []):=by
 obtain ⟨c,rfl⟩:∃ c:UInt8,k=(c.toNat:Int):=⟨UInt8.ofNat k.toNat,by rw [ktp];omega⟩;have hs:kax (Va.mk 4 (c.toNat:Int) ⟨#[]⟩ [])=[48,120,hexD (c.toNat / 16),hexD (c.toNat % 16)]:=by simp [kax]
 refine ⟨fun acc ha=>?_,?_,by rw [hs];simp⟩;have w:=kkk (acc:=acc) (l:=[48,120]) (s:=⟨#[48,120]⟩) rfl (by omega) (by decide);have w2:=k9e (acc++[48,120]) c rfl (by simp;omega);rw [hs];simp only [kcb,show ((Va.mk 4 (c.toNat:Int) ⟨#[]⟩ []).type == 1)=false from rfl,show ((Va.mk 4 (c.toNat:Int) ⟨#[]⟩ []).type == 2)=false from rfl,show ((Va.mk 4 (c.toNat:Int) ⟨#[]⟩ []).type == 4)=true from rfl,qe,qd,show (Va.mk 4 (c.toNat:Int) ⟨#[]⟩ []).num=(c.toNat:Int) from rfl,k2d,qa,w,w2,qan,qaa];simp
 ·rw [k62,hs];have c1:cat (⟨#[48,120]⟩:BA) (mkB [hexD (c.toNat / 16)])=some (mkB ([48,120]++[hexD (c.toNat / 16)])):=kdx [48,120] _ (by simp);have c2:=kdx ([48,120]++[hexD (c.toNat / 16)]) [hexD (c.toNat % 16)] (by simp);simp only [ka8,show ((Va.mk 4 (c.toNat:Int) ⟨#[]⟩ []).type == 1)=false from rfl,show ((Va.mk 4 (c.toNat:Int) ⟨#[]⟩ []).type == 2)=false from rfl,show ((Va.mk 4 (c.toNat:Int) ⟨#[]⟩ []).type == 4)=true from rfl,qe,qd,show (Va.mk 4 (c.toNat:Int) ⟨#[]⟩ []).num=(c.toNat:Int) from rfl,(kum c).2.2.1,(kum c).2.2.2,qa,c1,c2];rfl
theorem kact {s:BA} (h:s.size<=40) (n m:Nat):okW 2900000000 300 n (m+1) (Va.mk 8 0 s []):=by
 have hs:kax (Va.mk 8 0 s [])=114::kif s.data.toList:=by simp [kax]
 have hl:=k19 s.data.toList;rw [<- kbo] at hl;refine ⟨fun acc ha=>?_,?_,by rw [hs];simp only [qad];omega⟩;have w:=kq2 acc 114 114 (by omega);have w2:=kkk (acc:=acc++[114]) (l:=kif s.data.toList) (s:=mkB (kif s.data.toList)) rfl (by simp;omega) (by omega);rw [hs];simp only [kcb,show ((Va.mk 8 0 s []).type == 1)=false from rfl,show ((Va.mk 8 0 s []).type == 2)=false from rfl,show ((Va.mk 8 0 s []).type == 4)=false from rfl,show ((Va.mk 8 0 s []).type == 8)=true from rfl,qe,qd,show (Va.mk 8 0 s []).text=s from rfl,k7f (show s.size<=100000 by omega),qa,w,w2,qan,qaa];simp
 ·rw [k62,hs];have c1:cat (⟨#[114]⟩:BA) (mkB (kif s.data.toList))=some (mkB ([114]++kif s.data.toList)):=kdx [114] _ (by simp;omega);simp only [ka8,show ((Va.mk 8 0 s []).type == 1)=false from rfl,show ((Va.mk 8 0 s []).type == 2)=false from rfl,show ((Va.mk 8 0 s []).type == 4)=false from rfl,show ((Va.mk 8 0 s []).type == 3)=false from rfl,show ((Va.mk 8 0 s []).type == 8)=true from rfl,qe,qd,show (Va.mk 8 0 s []).text=s from rfl,k30 (show s.size<=100000 by omega),qa,c1];rfl
theorem k9u {v:Va} {lo hi:Nat} (c:hi<=16) (h:k5e lo hi v) (n m:Nat):okW 2999900000 5000 (n+1) (m+3) v:=by obtain ⟨l,rfl,h1,e,d⟩:=h;have:=(k0m 6 123 125 3000000000 300 n (m+1) (.inr (.inl ⟨rfl,rfl,rfl⟩)) (by omega) fun x hx=>k8r (d x hx) n m).1;have hk:l.length*(300+2)<=16*(300+2):=qau _ (by omega);exact kji this
theorem kx9 {v:Va} (h:kri v) (n m:Nat):okW 2500000000 60000 (n+2) (m+5) v:=by
 rcases h with (rfl | rfl) | h | ⟨k,rfl,h0,h1⟩ | h | ⟨s,rfl,h⟩ | ⟨l,rfl,h1,c⟩ | h | ⟨l,rfl,h1,k,c,e,d⟩;exact kji (k6n (.inl rfl) (n+2) (m+4));exact kji (k6n (.inr rfl) (n+2) (m+4));exact kji (k80 h (n+2) (m+4));exact kji (kael h0 h1 (n+2) (m+4));exact kji (k8r h (n+2) (m+4));exact kji (kact h.2.1 (n+2) (m+4));have:=(k0m 5 91 93 3000000000 300 (n+1) (m+3) (.inl ⟨rfl,rfl,rfl⟩) h1 fun x hx=>k80 (c x hx) (n+1) (m+2)).1;have hk:l.length*(300+2)<=16*(300+2):=qau _ (by omega);exact kji this;exact kji (k9u (by omega) h (n+1) (m+2))
 ·have:=(k0m 7 60 62 2999900000 5000 (n+1) (m+3) (.inr (.inr ⟨rfl,rfl,rfl⟩)) (by omega) fun x hx=>k9u (show k<=16 by omega) (d x hx) n m).1;have hk:l.length*(5000+2)<=8*(5000+2):=qau _ (by omega);exact kji this
theorem kaf4:∃ k,fuel=k+9:=⟨18446744073709551607,by unfold fuel;omega⟩
theorem written (l:List Va) (hl:l.length<=1000) (h:∀ x∈l,kri x):kbb fuel [] l=some (iB (ke5 (l.map kax)))/\kc0 fuel l=some (mkB (ke5 (l.map kax)))/\(ke5 (l.map kax)).length<=l.length*60002:=by obtain ⟨k,hk⟩:=kaf4;rw [hk];generalize fuel=ff at hk;have h1:=k8z (m:=k+8) (n:=k+8) (B:=60000) (C:=2500000000) (by omega) hl (fun x hx=>kx9 (h x hx) (k+6) (k+3)) [] (by simp);exact ⟨h1.1,h1.2,k3u l fun x hx=>(kx9 (h x hx) 0 0).2.2⟩
theorem krp {m a b:Int} (h:kgi m a b=some 0):a<=m/\m<=b:=by
 unfold kgi at h;by_cases h1:m<a;rw [qh h1] at h;simp at h
 ·rw [qf h1] at h;by_cases c:b<m;rw [qh c] at h;simp at h
  ·omega
theorem k1i {s:BA} (a b:Nat) (hs:s.size<=9223372036854775807) (h:kha s (a:Int) (b:Int)=some 0):k6b a b s:=by
 unfold kha at h;by_cases h1:(s.size:Int)<(a:Int);rw [qh h1] at h;simp at h
 ·rw [qf h1] at h;by_cases e:(b:Int)<(s.size:Int);rw [qh e] at h;simp at h
  ·rw [qf e,knj s hs] at h;cases d:s.data.toList.all klv with
   | false=>rw [d] at h;simp at h
   | true=>exact ⟨by omega,by omega,fun c hc=>qp.1 d c hc⟩
theorem kib {s:BA} (h:(s.toList == (⟨#[]⟩:BA).toList)=true):s=⟨#[]⟩:=kne (by simpa using h)
theorem kij {l:List Va} (h:((l.length:Int) == 0)=true):l=[]:=qar (by have:=eq_of_beq h;omega)
theorem k6r {v:Va} (h:kri v) (ht:v.type=2):k48 v:=by
 rcases h with (rfl | rfl) | h | ⟨k,rfl,h0,h1⟩ | ⟨s,rfl,h⟩ | ⟨s,rfl,h⟩ | ⟨l,rfl,h1,a⟩ | ⟨l,rfl,h⟩ | ⟨l,rfl,h1,k,a,b,c⟩
 all_goals first | exact h | (simp [Va.type] at ht)
theorem k6f {v:Va} (h:kri v) (ht:v.type=3):k4t v:=by
 rcases h with (rfl | rfl) | ⟨k,rfl,h0,h1⟩ | ⟨k,rfl,h0,h1⟩ | h | ⟨s,rfl,h⟩ | ⟨l,rfl,h1,a⟩ | ⟨l,rfl,h⟩ | ⟨l,rfl,h1,k,a,b,c⟩
 all_goals first | exact h | (simp [Va.type] at ht)
theorem k7a {v:Va} (h:kri v) (ht:v.type=6):k5e 0 16 v:=by
 rcases h with (rfl | rfl) | ⟨k,rfl,h0,h1⟩ | ⟨k,rfl,h0,h1⟩ | ⟨s,rfl,h⟩ | ⟨s,rfl,h⟩ | ⟨l,rfl,h1,a⟩ | h | ⟨l,rfl,h1,k,a,b,c⟩
 all_goals first | exact h | (simp [Va.type] at ht)
theorem ktc {n:Nat} {l:List Va} {t:Int} (wl:∀ x∈l,inV x) (f:l.length<=9223372036854775807) (hc:∀ x∈l,x.type=t->∃ c,kah n x=some c) (h:kel (n+1) l t=some 0):l.length<=16/\∀ x∈l,x.type=t/\kah n x=some 0:=by
 have h:keg (kah n) (kel n) (khh n) l t=some 0:=h;by_cases d:(16:Int)<(l.length:Int);simp only [keg,qh d,qe] at h;cases h
 ·simp only [keg,qf d,qd] at h;refine ⟨by omega,?_⟩;have hst:∀ (i:Nat) (hi:i<l.length),(kal l t (kah n) (i:Int)=some (.inl ((i+1:Nat):Int))/\l[i].type=t/\kah n l[i]=some 0)\/∃ c,c≠0/\kal l t (kah n) (i:Int)=some (.inr (.inr c)):=fun i hi=>by
   have e1:l[i]?=some l[i]:=qb hi;have g:=ka1 i;cases ht:(l[i].type != t) with
   | true=>exact .inr ⟨3,by decide,by simp only [kal,kdy hi,kag,e1,ht,qe,qa]⟩
   | false=>
    have e:l[i].type=t:=(by rwa [qae] at ht);obtain ⟨c,k1⟩:=hc _ (qv hi) e;cases a:(c != 0) with
    | true=>exact .inr ⟨c,by simpa using a,by simp only [kal,kdy hi,kag,e1,ht,k1,a,qe,qd,qa]⟩
    | false=>exact .inl ⟨by simp only [kal,kdy hi,kag,e1,ht,k1,a,g,qe,qd,qa],e,by rw [k1];rw [qae] at a;rw [a]⟩
  cases hr:kab (kal l t (kah n)) fuel 0 with
  | none=>rw [hr] at h;cases h
  | some r=>
   obtain ⟨r2,r3,f1,f2,f3⟩:=kiq (step:=kal l t (kah n)) (step':=kal l t (kah n)) l.length (by omega) (fun i=>(i:Int)) (fun i=>(i:Int)) (fun r r'=>∀ c,r = .inr c->c≠0) (fun i hi=>by
    rcases hst i hi with ⟨a1,_⟩ | ⟨c,h0,a1⟩;exact .inl ⟨a1,a1⟩
    ·exact .inr ⟨_,_,a1,a1,fun c' h=>by cases h;exact h0⟩) ⟨.inl (), .inl (),by simp [kal],by simp [kal],fun c h=>by cases h⟩
   have f1':kab (kal l t (kah n)) fuel 0=some r2:=(by simpa using f1);rw [hr] at f1';cases f1';rw [hr,qa] at h;cases r with
   | inr c=>exact absurd (qt h) (f3 c rfl)
   | inl u=>
    intro x hx;obtain ⟨i,hi,rfl⟩:=qaf.1 hx;have b:=kpi (step:=kal l t (kah n)) l.length (fun i=>(i:Int)) (.inl u) (fun i hi=>by
     rcases hst i hi with ⟨a1,_⟩ | ⟨c,_,a1⟩;exact .inl a1
     ·exact .inr ⟨_,a1,fun h=>by cases h⟩) fuel 0 hr i (qaj _) hi
    rcases hst i hi with ⟨_,h⟩ | ⟨c,_,a1⟩;exact h
    ·rw [a1] at b;cases b
theorem kaf0 {n:Nat} {l:List Va} (wl:∀ x∈l,inV x) (g:l.length<=9223372036854775807) (hc:∀ x∈l,x.type=6->∃ c,kah n x=some c) (h:khh (n+1) l=some 0):l.length<=8/\∃ k,1<=k/\k<=8/\∀ x∈l,x.type=6/\x.items.length=k/\kah n x=some 0:=by
 have h:kgk (kah n) (kel n) (khh n) l=some 0:=h;by_cases d:(8:Int)<(l.length:Int);simp only [kgk,qh d,qe] at h;cases h
 ·simp only [kgk,qf d,qd] at h;refine ⟨by omega,?_⟩;have hst:∀ (i:Nat) (hi:i<l.length),(kaq l (kah n) (i:Int)=some (.inl ((i+1:Nat):Int))/\l[i].type=6/\(1<=l[i].items.length/\l[i].items.length<=8/\l[i].items.length=(l[0]'(by omega)).items.length)/\kah n l[i]=some 0)\/∃ c,c≠0/\kaq l (kah n) (i:Int)=some (.inr (.inr c)):=fun i hi=>by
   have e1:l[i]?=some l[i]:=qb hi;have e0:idx l 0=some (l[0]'(by omega)):=(by rw [show (0:Int)=((0:Nat):Int) from rfl,kag,qb]);have m:=ka1 i;cases ht:(l[i].type != 6) with
   | true=>exact .inr ⟨3,by decide,by simp only [kaq,kdy hi,kag,e1,ht,qe,qa]⟩
   | false=>
    have e:l[i].type=6:=(by rwa [qae] at ht);obtain ⟨c,k1⟩:=hc _ (qv hi) e;by_cases j:1<=l[i].items.length/\l[i].items.length<=8/\l[i].items.length=(l[0]'(by omega)).items.length
    ·have e3:(bif decide ((l[i].items.length:Int)<1) then some true else bif decide (8<(l[i].items.length:Int)) then some true else (some ((l[i].items.length:Int) != ((l[0]'(by omega)).items.length:Int)):Option Bool))=some false:=(by rw [qf (by omega),qf (by omega),j.2.2];simp);cases a:(c != 0) with
     | true=>exact .inr ⟨c,by simpa using a,by simp only [kaq,kdy hi,kag,e1,e0,ht,e3,k1,a,qe,qd,qa]⟩
     | false=>exact .inl ⟨by simp only [kaq,kdy hi,kag,e1,e0,ht,e3,k1,a,m,qe,qd,qa],e,j,by rw [k1];rw [qae] at a;rw [a]⟩
    ·have e3:(bif decide ((l[i].items.length:Int)<1) then some true else bif decide (8<(l[i].items.length:Int)) then some true else (some ((l[i].items.length:Int) != ((l[0]'(by omega)).items.length:Int)):Option Bool))=some true:=by
      by_cases q1:(l[i].items.length:Int)<1;rw [qh q1];rfl
      ·by_cases q2:8<(l[i].items.length:Int);rw [qh q2,qf q1];rfl
       ·rw [qf q1,qf q2,qd,qd];congr 1;simp;omega
     exact .inr ⟨2,by decide,by simp only [kaq,kdy hi,kag,e1,e0,ht,e3,qe,qd,qa]⟩
  cases hr:kab (kaq l (kah n)) fuel 0 with
  | none=>rw [hr] at h;cases h
  | some r=>
   obtain ⟨r2,r3,f1,f2,f3⟩:=kiq (step:=kaq l (kah n)) (step':=kaq l (kah n)) l.length (by omega) (fun i=>(i:Int)) (fun i=>(i:Int)) (fun r r'=>∀ c,r = .inr c->c≠0) (fun i hi=>by
    rcases hst i hi with ⟨a1,_⟩ | ⟨c,h0,a1⟩;exact .inl ⟨a1,a1⟩
    ·exact .inr ⟨_,_,a1,a1,fun c' h=>by cases h;exact h0⟩) ⟨.inl (), .inl (),by simp [kaq],by simp [kaq],fun c h=>by cases h⟩
   have f1':kab (kaq l (kah n)) fuel 0=some r2:=(by simpa using f1);rw [hr] at f1';cases f1';rw [hr,qa] at h;cases r with
   | inr c=>exact absurd (qt h) (f3 c rfl)
   | inl u=>
    have all:∀ (i:Nat) (hi:i<l.length),l[i].type=6/\(1<=l[i].items.length/\l[i].items.length<=8/\l[i].items.length=(l[0]'(by omega)).items.length)/\kah n l[i]=some 0:=fun i hi=>by
     have b:=kpi (step:=kaq l (kah n)) l.length (fun i=>(i:Int)) (.inl u) (fun i hi=>by
      rcases hst i hi with ⟨a1,_⟩ | ⟨c,_,a1⟩;exact .inl a1
      ·exact .inr ⟨_,a1,fun h=>by cases h⟩) fuel 0 hr i (qaj _) hi
     rcases hst i hi with ⟨_,h⟩ | ⟨c,_,a1⟩;exact h
     ·rw [a1] at b;cases b
    by_cases f:0<l.length;have z:=(all 0 f).2.1;refine ⟨(l[0]'f).items.length,z.1,z.2.1,fun x hx=>?_⟩;obtain ⟨i,hi,rfl⟩:=qaf.1 hx;have:=all i hi;exact ⟨this.1,this.2.1.2.2,this.2.2⟩
    ·exact ⟨1,by omega,by omega,fun x hx=>by rw [qar (by omega:l.length=0)] at hx;cases hx⟩
theorem va_t (t m:Int) (s:BA) (l:List Va):(Va.mk t m s l).type=t:=rfl
theorem va_n (t m:Int) (s:BA) (l:List Va):(Va.mk t m s l).num=m:=rfl
theorem va_s (t m:Int) (s:BA) (l:List Va):(Va.mk t m s l).text=s:=rfl
theorem va_l (t m:Int) (s:BA) (l:List Va):(Va.mk t m s l).items=l:=rfl
theorem kadu:∀ (n:Nat) (x:Va),2*rkT x.type<=n->inV x->kah n x=some 0->kri x:=by
 intro n
 induction n using Nat.strongRecOn with
 | ind n ih=>
  intro x hn hx h;have j:1<=rkT x.type:=by unfold rkT;split <;> (try split) <;> omega
  obtain ⟨n,rfl⟩:∃ m,n=m+2:=⟨n - 2,by omega⟩;replace h:kbi (kah (n+1)) (kel (n+1)) (khh (n+1)) x=some 0:=h;obtain ⟨lx,sx,wx⟩:=k3s hx;by_cases h0:x.type<1;simp [kbi,h0] at h;by_cases o:8<x.type;simp [kbi,h0,o] at h;have g:∀ k (y:Va),2*rkT y.type<=k->inV y->∃ c,kah k y=some c:=fun k y h1 e=>by obtain ⟨c,hc,_⟩:=(k2e k).1 y h1 e;exact ⟨c,hc⟩
  have ht:x.type=1\/x.type=2\/x.type=3\/x.type=4\/x.type=5\/x.type=6\/x.type=7\/x.type=8:=by omega
  obtain ⟨t,m,s,l⟩:=x;simp only [va_t,va_n,va_s,va_l] at *
  cases i:(s.toList == (⟨#[]⟩:BA).toList) <;> cases hm:(m == 0) <;> cases hl:((l.length:Int) == 0) <;>
   rcases ht with rfl | rfl | rfl | rfl | rfl | rfl | rfl | rfl <;>
   simp only [kbi,kdp,va_t,va_n,va_s,va_l,i,hm,hl] at h <;> simp at h
  obtain ⟨c,hc⟩:=kod s 0 64 sx;rw [hc] at h;simp at h;subst h;obtain rfl:=kij hl;obtain rfl:=eq_of_beq hm;exact .inr (.inr (.inr (.inl ⟨s,rfl,k1i 0 64 sx hc⟩)));obtain ⟨c,hc⟩:=kod s 1 40 sx;rw [hc] at h;simp at h;subst h;obtain rfl:=kij hl;obtain rfl:=eq_of_beq hm;exact .inr (.inr (.inr (.inr (.inl ⟨s,rfl,k1i 1 40 sx hc⟩))))
  ·obtain ⟨c,hc,_⟩:=khe m 0 1;rw [hc] at h;simp at h;subst h;obtain rfl:=kij hl;obtain rfl:=kib i;have hr:=krp hc;rcases (by omega:m=0\/m=1) with rfl | rfl;exact .inl (.inl rfl)
   ·exact .inl (.inr rfl)
  obtain ⟨c,hc,_⟩:=khe m (-1000000) 1000000;rw [hc] at h;simp at h;subst h;obtain rfl:=kij hl;obtain rfl:=kib i;have hr:=krp hc;exact .inr (.inl ⟨m,rfl,hr.1,hr.2⟩);obtain ⟨c,hc,_⟩:=khe m 0 255;rw [hc] at h;simp at h;subst h;obtain rfl:=kij hl;obtain rfl:=kib i;have hr:=krp hc;exact .inr (.inr (.inl ⟨m,rfl,hr.1,hr.2⟩));obtain rfl:=kib i;obtain rfl:=eq_of_beq hm;have d:2<=n:=(by have:rkT 5=2:=rfl;omega);obtain ⟨h1,e⟩:=ktc wx lx (fun y hy f=>g n y (by rw [f];exact d) (wx y hy)) h;exact .inr (.inr (.inr (.inr (.inr (.inl ⟨l,rfl,h1,fun y hy=>k6r (ih n (by omega) y (by rw [(e y hy).1];exact d) (wx y hy) (e y hy).2) (e y hy).1⟩)))));obtain rfl:=kib i;obtain rfl:=eq_of_beq hm;have d:2<=n:=(by have:rkT 6=2:=rfl;omega);obtain ⟨h1,e⟩:=ktc wx lx (fun y hy f=>g n y (by rw [f];exact d) (wx y hy)) h;exact .inr (.inr (.inr (.inr (.inr (.inr (.inl ⟨l,rfl,qaj _,h1,fun y hy=>k6f (ih n (by omega) y (by rw [(e y hy).1];exact d) (wx y hy) (e y hy).2) (e y hy).1⟩))))));obtain rfl:=kib i;obtain rfl:=eq_of_beq hm;have d:4<=n:=(by have:rkT 7=3:=rfl;omega);obtain ⟨h1,k,k1,k2,e⟩:=kaf0 wx lx (fun y hy f=>g n y (by rw [f];exact d) (wx y hy)) h;refine .inr (.inr (.inr (.inr (.inr (.inr (.inr ⟨l,rfl,h1,k,k1,k2,fun y hy=>?_⟩))))));obtain ⟨l',rfl,_,_,q⟩:=k7a (ih n (by omega) y (by rw [(e y hy).1];exact d) (wx y hy) (e y hy).2.2) (e y hy).1;have hk:l'.length=k:=(e _ hy).2.1;exact ⟨l',rfl,by omega,by omega,q⟩
  ·obtain ⟨c,hc,_⟩:=khe m 0 1;rw [hc] at h;simp at h;subst h;obtain rfl:=kij hl;obtain rfl:=kib i;have hr:=krp hc;rcases (by omega:m=0\/m=1) with rfl | rfl;exact .inl (.inl rfl)
   ·exact .inl (.inr rfl)
  obtain ⟨c,hc,_⟩:=khe m (-1000000) 1000000;rw [hc] at h;simp at h;subst h;obtain rfl:=kij hl;obtain rfl:=kib i;have hr:=krp hc;exact .inr (.inl ⟨m,rfl,hr.1,hr.2⟩);obtain ⟨c,hc⟩:=kod s 0 64 sx;rw [hc] at h;simp at h;subst h;obtain rfl:=kij hl;obtain rfl:=eq_of_beq hm;exact .inr (.inr (.inr (.inl ⟨s,rfl,k1i 0 64 sx hc⟩)));obtain ⟨c,hc,_⟩:=khe m 0 255;rw [hc] at h;simp at h;subst h;obtain rfl:=kij hl;obtain rfl:=kib i;have hr:=krp hc;exact .inr (.inr (.inl ⟨m,rfl,hr.1,hr.2⟩));obtain rfl:=kib i;obtain rfl:=eq_of_beq hm;have d:2<=n:=(by have:rkT 5=2:=rfl;omega);obtain ⟨h1,e⟩:=ktc wx lx (fun y hy f=>g n y (by rw [f];exact d) (wx y hy)) h;exact .inr (.inr (.inr (.inr (.inr (.inl ⟨l,rfl,h1,fun y hy=>k6r (ih n (by omega) y (by rw [(e y hy).1];exact d) (wx y hy) (e y hy).2) (e y hy).1⟩)))));obtain rfl:=kib i;obtain rfl:=eq_of_beq hm;have d:2<=n:=(by have:rkT 6=2:=rfl;omega);obtain ⟨h1,e⟩:=ktc wx lx (fun y hy f=>g n y (by rw [f];exact d) (wx y hy)) h;exact .inr (.inr (.inr (.inr (.inr (.inr (.inl ⟨l,rfl,qaj _,h1,fun y hy=>k6f (ih n (by omega) y (by rw [(e y hy).1];exact d) (wx y hy) (e y hy).2) (e y hy).1⟩))))));obtain rfl:=kib i;obtain rfl:=eq_of_beq hm;have d:4<=n:=(by have:rkT 7=3:=rfl;omega);obtain ⟨h1,k,k1,k2,e⟩:=kaf0 wx lx (fun y hy f=>g n y (by rw [f];exact d) (wx y hy)) h;refine .inr (.inr (.inr (.inr (.inr (.inr (.inr ⟨l,rfl,h1,k,k1,k2,fun y hy=>?_⟩))))));obtain ⟨l',rfl,_,_,q⟩:=k7a (ih n (by omega) y (by rw [(e y hy).1];exact d) (wx y hy) (e y hy).2.2) (e y hy).1;have hk:l'.length=k:=(e _ hy).2.1;exact ⟨l',rfl,by omega,by omega,q⟩
  ·obtain ⟨c,hc⟩:=kod s 1 40 sx;rw [hc] at h;simp at h;subst h;obtain rfl:=kij hl;obtain rfl:=eq_of_beq hm;exact .inr (.inr (.inr (.inr (.inl ⟨s,rfl,k1i 1 40 sx hc⟩))))
theorem ok_of {x:Va} (hx:inV x) (h:kah fuel x=some 0):kri x:=kadu fuel x (qa1 (Nat.mul_le_mul_left 2 (k7k x.type)) (qa4 (ka9 (by omega)))) hx h
theorem k5f {n:Int} (h:kg9 n):kim n=some (mkB (klw n)):=by
 have h1 : -9223372036854775808<=n:=h.1;have a:n<=9223372036854775807:=by have:=h.2;omega
 simp only [kim,kgw,k5z h1 a,qa]
theorem kadm {v:Va} (h:kri v):(kax v).length<=60000:=(kx9 h 0 0).2.2
theorem k8d {x:Va} (hx:inV x) (h:kah fuel x=some 0):kri x/\kjg x=some (mkB (kax x),0)/\ke7 x=some (mkB (kax x),0):=by
 have a:=ok_of hx h;obtain ⟨c,c1,c2,_⟩:=kyf hx;obtain rfl:c=0:=by rw [h] at c1;exact (qt c1).symm
 obtain ⟨w1,_,_⟩:=written [x] (by simp) (fun y hy=>by rw [qbh.1 hy];exact a);have d:ke5 ([x].map kax)=kax x:=by simp [ke5]
 rw [d] at w1;refine ⟨a,?_,?_⟩
 ·have hl:kab (khz [x]) fuel 0=some (.inl ()):=by
   refine (kpa (s0:=(0:Int)) (Q:=(·=Sum.inl ())) 1 (fun i s=>s=(i:Int)) (by omega) rfl (fun i s hi e=>?_) (fun s e=>?_)).eq;subst e;obtain rfl:i=0:=(by omega);refine ev_go 1 ?_ rfl;simp only [khz,Int.natCast_zero,show decide ((0:Int)<(([x]:List Va).length:Int))=true from rfl,show idx [x] 0=some x from rfl,qe,qa,h,bne_self_eq_false,qd];rfl
   ·subst e;exact kt3 (.inl ()) rfl rfl
  simp only [kjg,kja,hl,qa,qaa,w1,kb5,kx4]
 ·obtain ⟨k,hk⟩:=kaf4;have ht:kaw fuel x=some (mkB (kax x)):=by rw [hk];exact (kx9 a (k+4) (k+4)).2.1
  simp only [ke7,c2,qa,bne_self_eq_false,qd,ht]
end Go.Proofs.YtgebfaidgikieaaGreatDoor
