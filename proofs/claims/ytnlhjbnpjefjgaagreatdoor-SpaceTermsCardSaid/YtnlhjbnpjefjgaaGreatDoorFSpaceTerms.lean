/- SpaceTerms: the law returns true for every input where the listed tables hold what the program lays into them. -/
import Derived.Test.YtnlhjbnpjefjgaaGreatDoorKz
import Derived.Test.YtnlhjbnpjefjgaaGreatDoorDt
import Derived.ChangeMaps5
import Derived.JoinedOf
import Derived.Test.YtnlhjbnpjefjgaaGreatDoorRows
import Derived.Test.YtnlhjbnpjefjgaaGreatDoorAv
import Derived.Test.YtnlhjbnpjefjgaaGreatDoorSv
import Derived.Test.YtnlhjbnpjefjgaaGreatDoorCards
import Derived.Test.YtnlhjbnpjefjgaaGreatDoorTie
import Derived.Test.YtnlhjbnpjefjgaaGreatDoorGl
import Derived.SevenTiedAt
set_option linter.all false
set_option maxRecDepth 100000
namespace Go.Proofs.YtnlhjbnpjefjgaaGreatDoor
open Go Go.RowKit Go.Proofs.Tryz
theorem kk9 {α:Type} (s:BA):∀ (m:List (BA×α)) (i:Nat),keu s m i=(keu s m 0).map fun p=>(p.1+i,p.2)
 | [],i=>rfl
 | (k,v)::l,i=>by
  simp only [keu];cases s.toList == k.toList with
  | true=>simp
  | false=>
   simp only [qf];rw [kk9 s l (i+1),kk9 s l (0+1),Option.map_map];congr 1;funext p;simp only [Function.comp,qt,and_true];omega
theorem kli {α:Type} (k s:BA) (v z:α) (l:List (BA×α)):mget ((k,v)::l) s z=bif s.toList == k.toList then v else mget l s z:=by
 unfold mget;simp only [keu];cases s.toList == k.toList with
 | true=>rfl
 | false=>
  simp only [qf];rw [kk9];cases keu s l 0 <;> rfl
theorem k19 {α:Type} (k s:BA) (v y:α) (l:List (BA×α)):mput ((k,v)::l) s y=bif s.toList == k.toList then (s,y)::l else (k,v)::mput l s y:=by
 unfold mput;simp only [keu];cases s.toList == k.toList with
 | true=>rfl
 | false=>
  simp only [qf];rw [kk9];cases keu s l 0 <;> rfl
theorem k1a {a b:BA} (c:BA) (h:(a.toList == b.toList)=true):(c.toList == a.toList)=(c.toList == b.toList):=by rw [beq_iff_eq] at h;rw [h]
theorem knw {α:Type} (k s:BA) (y z:α):∀ m:List (BA×α),mget (mput m k y) s z=bif s.toList == k.toList then y else mget m s z
 | []=>by show mget [(k,y)] s z=_;rw [kli]
 | (k',v)::l=>by
  rw [k19];cases h:k.toList == k'.toList with
  | true=>
   simp only [qe];rw [kli,kli,k1a s h];cases s.toList == k'.toList <;> rfl
  | false=>
   simp only [qf];rw [kli,kli,knw k s y z l];cases h1:s.toList == k'.toList with
   | false=>rfl
   | true=>
    cases a:s.toList == k.toList with
    | false=>rfl
    | true=>
     rw [beq_iff_eq] at h1 a;rw [<- h1,<- a] at h;simp at h
theorem kxz (m:List (BA×Int)) (s:BA):mhas m s=true↔mget m s 0=mget m s 1:=by unfold mhas mget;cases keu s m 0 <;> simp
theorem k6d (m:List (BA×Int)) (k s:BA) (y:Int):mhas (mput m k y) s=((s.toList == k.toList) || mhas m s):=by rw [Bool.eq_iff_iff,qbx,kxz,kxz,knw,knw];cases s.toList == k.toList <;> simp
def kb (r:Int) (xs:List Int):BA:=⟨(keyL r xs).toArray⟩
theorem kb_eq {r:Int} {xs:List Int} (h:inI r=true) (h1:xs.length<=1000000) (a:xs.all inI=true):keyB r xs=some (kb r xs):=by
 unfold keyB;have b:Nat.ble xs.length 1000000=true:=by rw [Nat.ble_eq];exact h1
 rw [h,a,b];rfl
theorem k99 {r r':Int} {xs ys:List Int} (h:(kb r xs).toList=(kb r' ys).toList):r=r'/\xs=ys:=by
 apply k4h;have e:∀ l:List UInt8,(ByteArray.mk l.toArray).toList=l:=by intro l;rw [ByteArray.toList_eq]
 unfold kb at h;rw [e,e] at h;exact h
def Pool (m:List (BA×Int)) (ps:List (Int×List Int)):Prop:=
 (∀ r xs,mhas m (kb r xs)=true↔(r,xs)∈ps)/\∀ (i:Nat) r xs,ps[i]?=some (r,xs)->mget m (kb r xs) 0=(i:Int)
theorem k47 {m:List (BA×Int)} {ps:List (Int×List Int)} {r:Int} {xs:List Int} (h:Pool m ps) (hn:(r,xs)∉ps):Pool (mput m (kb r xs) (ps.length:Int)) (ps++[(r,xs)]):=by
 have e:∀ r' ys,((kb r' ys).toList == (kb r xs).toList)=true↔(r',ys)=(r,xs):=by
  intro r' ys;rw [beq_iff_eq];constructor;intro q;obtain ⟨a,b⟩:=k99 q;rw [a,b]
  ·intro q;injection q with a b;rw [a,b]
 refine ⟨fun r' ys=>?_,fun i r' ys hi=>?_⟩;rw [k6d,qbx,h.1,e,qab,q9];exact Or.comm
 ·rw [knw];by_cases q:(r',ys)=(r,xs)
  ·rw [(e r' ys).2 q];by_cases hl:i<ps.length;rw [qac hl] at hi;exact absurd (q ▸ qk hi) hn
   ·rw [qai (by omega)] at hi;have:i - ps.length=0:=by
     cases c:i - ps.length with
     | zero=>rfl
     | succ n=>
      rw [c] at hi;simp at hi
    have:i=ps.length:=(by omega);rw [this];rfl
  ·have q':((kb r' ys).toList == (kb r xs).toList)=false:=by
    cases d:(kb r' ys).toList == (kb r xs).toList with
    | true=>exact absurd ((e r' ys).1 d) q
    | false=>rfl
   rw [q'];by_cases hl:i<ps.length;rw [qac hl] at hi;exact h.2 i r' ys hi
   ·rw [qai (by omega)] at hi;cases c:i - ps.length with
    | zero=>
     rw [c] at hi;simp at hi;exact absurd (by rw [hi.1,hi.2]) q
    | succ n=>
     rw [c] at hi;simp at hi
theorem k51 (zs:List Int) (js cs:List Nat) (h:js.map (fun j=>zs[j]?)=cs.map (fun (c:Nat)=>some (c:Int))) (f:cs.sum<=1000000) (hl:js.length<=1000000):
  kac (kda zs (js.map fun (j:Nat)=>(j:Int))) fuel (1,0)=some ((1+cs.sum:Nat):Int):=by
 have a:js.length=cs.length:=by simpa using qau List.length h
 have key:=kmr (kda zs (js.map fun (j:Nat)=>(j:Int))) js.length (fun i=>(((1+(cs.take i).sum:Nat):Int),(i:Int))) ((1+cs.sum:Nat):Int) (fun i hi=>by
  have b:js[i]?=some js[i]:=qa hi;have hc:cs[i]?=some (cs[i]'(by omega)):=qa (by omega);have d:zs[js[i]]?=some ((cs[i]'(by omega):Nat):Int):=by have:=qau (fun l=>l[i]?) h;simp only [ql,b,hc,qaw] at this;exact qag this
  have hs:(cs.take (i+1)).sum=(cs.take i).sum+cs[i]'(by omega):=by rw [List.take_add_one,hc,List.sum_append];simp only [Option.toList_some,List.sum_cons,List.sum_nil,Nat.add_zero]
  have ht:(cs.take (i+1)).sum<=cs.sum:=by have:=qau List.sum (List.take_append_drop (i+1) cs);rw [List.sum_append] at this;omega
  unfold kda;simp only [qaa];rw [show (decide ((i:Int)<(js.length:Int)))=true by simpa using hi,qe,kag,ql,b];simp only [qaw,qb];rw [kag,d];simp only [qb];rw [kfl _,kdf,hs];have e:(((1+(cs.take i).sum:Nat):Int)+((cs[i]'(by omega):Nat):Int))=((1+((cs.take i).sum+cs[i]'(by omega)):Nat):Int):=by omega
  rw [e]) (by
  unfold kda;simp only [qaa];rw [show (decide ((js.length:Int)<(js.length:Int)))=false by simp,qf,a,qae])
 simpa using key
def kfv (ts:List Tm) (i:Nat) (xs:List Int) (l:List Tm):Prop:=∃ js:List Nat,xs=js.map (fun (j:Nat)=>(j:Int))/\(∀ j∈js,j<i)/\js.map (fun j=>ts[j]?)=l.map some
structure kh9 (m:List (BA×Int)) (rs:List Int) (ag:List (List Int)) (zs:List Int) (ts:List Tm):Prop where
 mp:Pool m (rs.zip ag)
 lr:rs=ts.map Tm.rule
 la:ag.length=ts.length
 lz:zs=ts.map fun t=>(t.size:Int)
 ar:∀ (i:Nat) xs t,ag[i]?=some xs->ts[i]?=some t->kfv ts i xs t.args
 nd:ts.Nodup
theorem kp4 {α:Type}:∀ {l l':List α},l.map some=l'.map some->l=l'
 | [],[],_=>rfl
 | [],_::_,h=>by simp at h
 | _::_,[],h=>by simp at h
 | a::l,b::l',h=>by simp only [qao,List.cons.injEq,qc] at h;rw [h.1,kp4 h.2]
theorem kyq:∀ {l l':List Nat},l.map (fun (j:Nat)=>(j:Int))=l'.map (fun (j:Nat)=>(j:Int))->l=l'
 | [],[],_=>rfl
 | [],_::_,h=>by simp at h
 | _::_,[],h=>by simp at h
 | a::l,b::l',h=>by
  simp only [qao,List.cons.injEq] at h;have:a=b:=by omega
  rw [this,kyq h.2]
theorem kz0 {ts:List Tm} (nd:ts.Nodup):∀ {l l':List Nat},(∀ j∈l,j<ts.length)->l.map (fun j=>ts[j]?)=l'.map (fun j=>ts[j]?)->l=l'
 | [],[],_,_=>rfl
 | [],_::_,_,h=>by simp at h
 | _::_,[],_,h=>by simp at h
 | a::l,b::l',c,h=>by simp only [qao,List.cons.injEq] at h;have:a=b:=(List.getElem?_inj (c a qq) nd).1 h.1;rw [this,kz0 nd (fun j d=>c j (qh _ d)) h.2]
theorem kqx {ts e:List Tm} {i:Nat} {xs:List Int} {l:List Tm} (hi:i<=ts.length) (h:kfv ts i xs l):kfv (ts++e) i xs l:=by obtain ⟨js,h1,a,b⟩:=h;refine ⟨js,h1,a,?_⟩;rw [<- b];apply List.map_congr_left;intro j c;rw [qac (by have:=a j c;omega)]
theorem kqi:∀ l:List Tm,Tm.sizeL l=(l.map Tm.size).sum
 | []=>by simp [Tm.sizeL]
 | t::l=>by rw [Tm.sizeL,kqi l];simp
theorem k74 {α β:Type} {ag:List α} {bs:List β} {i:Nat} {a:α} {b:β} (ha:ag[i]?=some a) (c:bs[i]?=some b):(ag.zip bs)[i]?=some (a,b):=by rw [List.getElem?_zip_eq_some];exact ⟨ha,c⟩
theorem k9d {m:List (BA×Int)} {rs:List Int} {ag:List (List Int)} {zs:List Int} {ts:List Tm} (h:kh9 m rs ag zs ts) {r:Int} {xs:List Int} {l:List Tm} (b:kfv ts ts.length xs l)
  (hm:(r,xs)∈rs.zip ag):∃ i:Nat,mget m (kb r xs) 0=(i:Int)/\ts[i]?=some (Tm.mk r l):=by
 obtain ⟨i,hi⟩:=qal.1 hm;refine ⟨i,h.mp.2 i r xs hi,?_⟩;rw [List.getElem?_zip_eq_some] at hi;obtain ⟨h1,c⟩:=hi;have a:=h1;rw [h.lr,ql] at a;cases ht:ts[i]? with
 | none=>rw [ht] at a;simp at a
 | some t=>
  rw [ht] at a;simp only [qaw,qc] at a;obtain ⟨js,a1,a2,a3⟩:=h.ar i xs t c ht;obtain ⟨ks,b1,b2,b3⟩:=b;have:js=ks:=kyq (a1.symm.trans b1);rw [this,b3] at a3;have:=kp4 a3;cases t with
  | mk r0 l0=>
   simp only [Tm.rule,Tm.args] at a this;rw [a,this]
theorem k8q {m:List (BA×Int)} {rs:List Int} {ag:List (List Int)} {zs:List Int} {ts:List Tm} (h:kh9 m rs ag zs ts) {r:Int} {xs:List Int} {l:List Tm} (f:kfv ts ts.length xs l)
  (hm:(r,xs)∉rs.zip ag):kh9 (mput m (kb r xs) (rs.length:Int)) (rs++[r]) (ag++[xs]) (zs++[((Tm.mk r l).size:Int)]) (ts++[Tm.mk r l]):=by
 have hl:rs.length=ts.length:=by rw [h.lr,qaa]
 have k:(rs.zip ag).length=rs.length:=by rw [List.length_zip,h.la,hl,Nat.min_self]
 refine ⟨?_,?_,?_,?_,?_,?_⟩;have:=k47 h.mp hm;rw [k] at this;rw [List.zip_append (by rw [hl,h.la])];exact this;rw [qas,<- h.lr];rfl;simp [h.la];rw [qas,<- h.lz];rfl
 ·intro i ys t hy ht;by_cases hi:i<ts.length;rw [qac (by rw [h.la];exact hi)] at hy;rw [qac hi] at ht;exact kqx (by omega) (h.ar i ys t hy ht)
  ·have n:i=ts.length:=(by have:=(qd.1 ht).1;simp at this;omega);subst n;rw [<- h.la,List.getElem?_concat_length] at hy;rw [List.getElem?_concat_length] at ht;cases hy;cases ht;exact kqx (qy _) f
 ·rw [List.nodup_append];refine ⟨h.nd,by simp,?_⟩;intro a ha b g d;rw [q9] at g;rw [d,g] at ha;obtain ⟨i,hi⟩:=qal.1 ha;have e:=(qd.1 hi).1;have c:ag[i]?=some (ag[i]'(by rw [h.la];exact e)):=qa _;obtain ⟨js,a1,a2,a3⟩:=h.ar i _ _ c hi;obtain ⟨ks,b1,b2,b3⟩:=f;have:js=ks:=kz0 h.nd (fun j o=>by have:=a2 j o;omega) (a3.trans b3.symm);apply hm;refine qal.2 ⟨i,k74 ?_ ?_⟩;rw [h.lr,ql,hi];rfl
  ·rw [c,a1,this,b1]
theorem k7n {n:Nat} (h:n<=1000000):inI (n:Int)=true:=by unfold inI;rw [qv,qay,qay];omega
theorem k5k {m:List (BA×Int)} {rs:List Int} {ag:List (List Int)} {zs:List Int} {ts:List Tm} (h:kh9 m rs ag zs ts) {r:Int} {xs:List Int} {l:List Tm} (d:kfv ts ts.length xs l)
  (hr:inI r=true) (n:ts.length<=1000) (hs:(Tm.mk r l).size<=1000):
  ∃ (i:Nat) (m':List (BA×Int)) (rs':List Int) (ag':List (List Int)) (zs':List Int) (e:List Tm),kgt m rs ag zs r xs=some ((i:Int),m',rs',ag',zs')/\kh9 m' rs' ag' zs' (ts++e)/\(ts++e)[i]?=some (Tm.mk r l)/\e.length<=1/\∀ t∈e,t=Tm.mk r l:=by
 obtain ⟨js,x1,x2,x3⟩:=d;have c:js.length=l.length:=by simpa using qau List.length x3
 have b:(Tm.mk r l).size=(l.map Tm.size).sum+1:=by rw [Tm.size,kqi]
 have f:l.length<=1000:=by
  have key:∀ l:List Tm,l.length<=Tm.sizeL l:=by
   intro l
   induction l with
   | nil=>simp
   | cons t l ih=>
    rw [Tm.sizeL,qbq];have:1<=t.size:=(by cases t;rw [Tm.size];omega);omega
  have:=key l;rw [kqi] at this;omega
 have hk:keyB r xs=some (kb r xs):=by refine kb_eq hr (by rw [x1,qaa];omega) ?_;rw [x1,qu];intro y hy;obtain ⟨j,g,rfl⟩:=qaf.1 hy;exact k7n (by have:=x2 j g;omega)
 have hl:rs.length=ts.length:=by rw [h.lr,qaa]
 have k:zs.length=ts.length:=by rw [h.lz,qaa]
 unfold kgt;rw [hk];simp only [qb];cases hm:mhas m (kb r xs) with
 | true=>
  obtain ⟨i,i1,i2⟩:=k9d h ⟨js,x1,x2,x3⟩ ((h.mp.1 r xs).1 hm);refine ⟨i,m,rs,ag,zs,[],?_,by rw [qbh];exact h,by rw [qbh];exact i2,by simp,by simp⟩;simp only [qbd,qf,qb,i1]
 | false=>
  have hn:(r,xs)∉rs.zip ag:=fun q=>by rw [(h.mp.1 r xs).2 q] at hm;cases hm
  refine ⟨ts.length,mput m (kb r xs) (rs.length:Int),rs++[r],ag++[xs],zs++[((Tm.mk r l).size:Int)],[Tm.mk r l],?_,k8q h ⟨js,x1,x2,x3⟩ hn,by rw [List.getElem?_concat_length],by simp,by simp⟩;have a:kac (kda zs xs) fuel (1,0)=some (((Tm.mk r l).size:Nat):Int):=by
   rw [x1,k51 zs js (l.map Tm.size) ?_ (by omega) (by omega),b,Nat.add_comm];rw [List.map_map];have:=qau (List.map (Option.map fun t:Tm=>(t.size:Int))) x3;rw [List.map_map,List.map_map] at this;rw [show (fun j=>zs[j]?)=(Option.map fun t:Tm=>(t.size:Int)) ∘ fun j=>ts[j]? from ?_,this];rfl
   ·funext j;rw [h.lz,ql];rfl
  simp only [Bool.not_false,qe];rw [kb4 (by simp;omega),kb4 (by simp [h.la];omega)];simp only [qb];rw [a];simp only [qb];rw [kb4 (by simp;omega)];simp only [qb,hl]
theorem kkw {σ β:Type} {step:σ->Option (σ ⊕ β)} (n:Nat) (hn:n<18446744073709551616) (P:Nat->σ->Prop) (Q:β->Prop) (hs:∀ i s,i<n->P i s->∃ s',step s=some (.inl s')/\P (i+1) s') (c:∀ s,P n s->∃ b,step s=some (.inr b)/\Q b) (s:σ) (h0:P 0 s):∃ b,kac step fuel s=some b/\Q b:=by
 have key:∀ (k i:Nat) (s:σ),i<=n->n - i<k->P i s->∃ b,kac step k s=some b/\Q b:=by
  intro k
  induction k with
  | zero=>intro i s _ h;omega
  | succ k ih=>
   intro i s hi hk hp;rw [kac];by_cases h:i=n;subst h;obtain ⟨b,h1,a⟩:=c s hp;exact ⟨b,by rw [h1],a⟩
   ·obtain ⟨s',h1,a⟩:=hs i s (by omega) hp;rw [h1];exact ih (i+1) s' (by omega) (by omega) a
 exact key fuel 0 s (by omega) (kb8 (by omega)) h0
def mk1 (j:Nat):Int×Bool:=((j:Int),true)
def kju (seen:List (Int×Bool)) (ts:List Tm) (P:Tm->Prop):Prop:=∃ js:List Nat,seen=js.map mk1/\js.Nodup/\(∀ j∈js,j<ts.length)/\∀ t,P t↔∃ j∈js,ts[j]?=some t
theorem ks5 {α:Type} {s:Int}:∀ {m:List (Int×α)} {i:Nat},imf s m i=none->∀ p∈m,p.1≠s
 | [],_,_,p,hp=>nomatch hp
 | (k,x)::m,i,h,p,hp=>by
  simp only [imf] at h;cases a:s == k with
  | true=>rw [a] at h;cases h
  | false=>
   rw [a] at h;rcases qat.1 hp with rfl | hp;intro e;rw [<- e] at a;simp at a
   ·exact ks5 h p hp
theorem kzx {js:List Nat} (j:Nat):(j∈js/\iput (js.map mk1) (j:Int) true=js.map mk1)\/(j∉js/\iput (js.map mk1) (j:Int) true=(js++[j]).map mk1):=by
 unfold iput;cases h:imf (j:Int) (js.map mk1) 0 with
 | none=>
  refine .inr ⟨fun b=>ks5 h (mk1 j) (qby b) rfl,?_⟩;rw [qas];rfl
 | some p=>
  obtain ⟨i,x⟩:=p;obtain ⟨_,c,k,a,e⟩:=kt9 h;rw [Nat.sub_zero] at a c;rw [ql] at a;cases b:js[i]? with
  | none=>rw [b] at a;cases a
  | some j'=>
   rw [b] at a;have a:mk1 j'=(k,x):=qag a;unfold mk1 at a;injection a with e1 e2;have:j'=j:=(by omega);subst this;refine .inl ⟨qk b,?_⟩;show (js.map mk1).set i ((j':Int),true)=_;have hl:i<(js.map mk1).length:=c;have d:(js.map mk1)[i]=((j':Int),true):=(by have:=(qd.1 b).2;rw [List.getElem_map,this];rfl);rw [<- d,List.set_getElem_self]
theorem k4s {seen:List (Int×Bool)} {ts:List Tm} {P:Tm->Prop} (h:kju seen ts P) (nd:ts.Nodup) {j:Nat} {t:Tm} (d:ts[j]?=some t):kju (iput seen (j:Int) true) ts (fun u=>P u\/u=t):=by
 obtain ⟨js,rfl,h1,m,f⟩:=h;have g:=(qd.1 d).1;rcases kzx (js:=js) j with ⟨hm,i⟩ | ⟨hm,i⟩
 ·refine ⟨js,i,h1,m,fun u=>⟨fun c=>?_,fun c => .inl ((f u).2 c)⟩⟩;rcases c with c | rfl;exact (f u).1 c
  ·exact ⟨j,hm,d⟩
 ·refine ⟨js++[j],i,?_,fun k hk=>?_,fun u=>⟨fun c=>?_,fun ⟨k,hk,c⟩=>?_⟩⟩;rw [List.nodup_append];exact ⟨h1,by simp,fun a ha b n e=>hm (by rw [q9] at n;rw [<- n,<- e];exact ha)⟩
  ·rcases qab.1 hk with hk | hk;exact m k hk
   ·rw [q9] at hk;rw [hk];exact g
  ·rcases c with c | rfl;obtain ⟨k,hk,l⟩:=(f u).1 c;exact ⟨k,List.mem_append_left _ hk,l⟩
   ·exact ⟨j,qb3 _ (q9.2 rfl),d⟩
  ·rcases qab.1 hk with hk | hk;exact .inl ((f u).2 ⟨k,hk,c⟩)
   ·rw [q9] at hk;subst hk;rw [d] at c;exact .inr (qag c).symm
theorem k8b {seen:List (Int×Bool)} {ts:List Tm} (e:List Tm) {P:Tm->Prop} (h:kju seen ts P):kju seen (ts++e) P:=by obtain ⟨js,h0,h1,b,c⟩:=h;refine ⟨js,h0,h1,fun j a=>by rw [qaj];have:=b j a;omega,fun t=>(c t).trans ⟨fun ⟨j,a,ht⟩=>⟨j,a,by rw [qac (b j a)];exact ht⟩,fun ⟨j,a,ht⟩=>⟨j,a,by rw [qac (b j a)] at ht;exact ht⟩⟩⟩
theorem kja {seen:List (Int×Bool)} {ts:List Tm} {P Q:Tm->Prop} (h:kju seen ts P) (a:∀ t,Q t↔P t):kju seen ts Q:=by obtain ⟨js,h0,h1,b,c⟩:=h;exact ⟨js,h0,h1,b,fun t=>(a t).trans (c t)⟩
theorem kmg {X:List Tm}:∀ {l:List Tm},l.Nodup->(∀ t∈l,t∈X)->l.length<=X.length:=fun {l} h1 a=>kqn l X h1 a
theorem kxu {seen:List (Int×Bool)} {ts:List Tm} (X:List Tm) {P:Tm->Prop} (h:kju seen ts P) (nd:ts.Nodup) (hX:∀ t,P t->t∈X):seen.length<=X.length:=by
 obtain ⟨js,rfl,h1,d,g⟩:=h;rw [qaa];have hm:(js.filterMap fun j=>ts[j]?).length=js.length:=by
  have:∀ l:List Nat,(∀ j∈l,j<ts.length)->(l.filterMap fun j=>ts[j]?).length=l.length:=by
   intro l
   induction l with
   | nil=>intro _;rfl
   | cons a l ih=>
    intro hl;rw [List.filterMap_cons,qa (hl a (qq ..))];simp only [qbq];rw [ih fun j c=>hl j (qh _ c)]
  exact this js d
 rw [<- hm];refine kmg ?_ fun t ht=>?_
 ·have:∀ l:List Nat,l.Nodup->(∀ j∈l,j<ts.length)->(l.filterMap fun j=>ts[j]?).Nodup:=by
   intro l
   induction l with
   | nil=>intro _ _;exact List.nodup_nil
   | cons a l ih=>
    intro hn hl;have ha:=hl a (qq ..);rw [List.filterMap_cons,qa ha];simp only;rw [List.nodup_cons] at hn ⊢;refine ⟨fun hm=>?_,ih hn.2 fun j c=>hl j (qh _ c)⟩;obtain ⟨b,f,e⟩:=List.mem_filterMap.1 hm;rw [<- qa ha] at e;have:b=a:=(List.getElem?_inj (hl b (qh _ f)) nd).1 e;exact hn.1 (this ▸ f)
  exact this js h1 d
 ·obtain ⟨j,c,e⟩:=List.mem_filterMap.1 ht;exact hX t ((g t).2 ⟨j,c,e⟩)
theorem kr1 {ts e:List Tm} {xs:List Int} {l:List Tm} (h:kfv ts ts.length xs l):kfv (ts++e) (ts++e).length xs l:=by obtain ⟨js,h1,a,b⟩:=kqx (e:=e) (qy _) h;exact ⟨js,h1,fun j c=>by rw [qaj];have:=a j c;omega,b⟩
theorem kpf {ts:List Tm} {i:Nat} {xs:List Int} {l:List Tm} (h:kfv ts i xs l):xs.length=l.length:=by obtain ⟨js,h1,b,a⟩:=h;rw [h1,qaa];simpa using qau List.length a
theorem k0h {ts:List Tm} {i k:Nat} {xs:List Int} {l:List Tm} (h:kfv ts i xs l) (hk:k<l.length):∃ j:Nat,xs[k]?=some (j:Int)/\j<i/\ts[j]?=some l[k]:=by
 obtain ⟨js,h1,c,b⟩:=h;have hl:js.length=l.length:=by simpa using qau List.length b
 have a:k<js.length:=by omega
 refine ⟨js[k],?_,c _ (qo _),?_⟩;rw [h1,ql,qa a];rfl
 ·have:=qau (fun z=>z[k]?) b;simp only [ql,qa a,qa hk,qaw] at this;exact qag this
theorem k2c {ts:List Tm} {xs:List Int} {l:List Tm} {j:Nat} {t:Tm} (h:kfv ts ts.length xs l) (a:ts[j]?=some t):kfv ts ts.length (xs++[(j:Int)]) (l++[t]):=by
 obtain ⟨js,h1,b,c⟩:=h;refine ⟨js++[j],by rw [h1,qas];rfl,fun k hk=>?_,by rw [qas,qas,c];simp [a]⟩;rcases qab.1 hk with hk | hk;exact b k hk
 ·rw [q9] at hk;rw [hk];exact (qd.1 a).1
theorem k4o (q:List Int):cut3 q 0 (q.length:Int) (q.length:Int)=some q:=by unfold cut3;simp
theorem k4j {b:Nat} {xs:List Int} {y:Int} (h:(xs.length+1)*(b+1)<=140737488355328):appN b xs [y]=some (xs++[y]):=by unfold appN;rw [show ([y]:List Int).isEmpty=false from rfl,qf];exact kb4 (by simpa using h)
abbrev PSt:=List (Int×Bool)×List (BA×Int)×List Int×List (List Int)×List Int
variable {a7:List (List Int)} {o:Sab} {LT:Int->List Tm} {X0:List Tm}
def ExpQ (X0 ts:List Tm) (P:Tm->Prop) (r:PSt):Prop:=∃ e:List Tm,kh9 r.2.1 r.2.2.1 r.2.2.2.1 r.2.2.2.2 (ts++e)/\(∀ u∈e,u∈X0)/\kju r.1 (ts++e) P
theorem k50 (hr:inI o.yd=true) (hX0:X0.length<=1000) (hXs:∀ u∈X0,u.size<=1000) (V:o.yb.length<=1000):∀ (n:Nat) (xs:List Int) (l:List Tm),l.length<=o.yb.length->o.yb.length - l.length<n ->
  (∀ l2∈prT LT (o.yb.drop l.length),Tm.mk o.yd (l++l2)∈X0) ->
  ∀ m rs ag zs (ts:List Tm) seen (P:Tm->Prop),kh9 m rs ag zs ts->(∀ u∈ts,u∈X0)->kfv ts ts.length xs l ->
  (∀ a∈o.yb,∃ row,idx a7 a=some row/\kfv ts ts.length row (LT a)/\(LT a).length<=1000)->kju seen ts P->(∀ t,P t->t∈X0) ->
  ∃ r,kcu n xs o seen m rs ag zs a7=some (true,r)/\ExpQ X0 ts (fun t=>P t\/∃ l2∈prT LT (o.yb.drop l.length),t=Tm.mk o.yd (l++l2)) r:=by
 intro n
 induction n with
 | zero=>intro xs l _ h;omega
 | succ n ih=>
  intro xs l hl hn hcl m rs ag zs ts seen P F w f p hS y;have G:=kpf f;have H:ts.length<=1000:=qap (kmg F.nd w) hX0;rw [kcu];unfold ke8;by_cases Y:l.length=o.yb.length
  ·-- all arguments are there
   have d:o.yb.drop l.length=[]:=(by rw [Y,List.drop_length]);rw [d] at hcl ⊢;have q:Tm.mk o.yd l∈X0:=(by simpa using hcl [] (by simp [prT]));rw [show ((xs.length:Int) == (o.yb.length:Int))=true by rw [beq_iff_eq];omega,qe];rw [show ke3 xs=some xs by unfold ke3;rw [kb4 (by simp;omega)];rfl,qb];obtain ⟨i,m',rs',ag',zs',e,q1,q2,q3,q4,q5⟩:=k5k F f hr H (hXs _ q);rw [q1,qb];have I:∀ u∈e,u∈X0:=fun u g=>(by rw [q5 u g];exact q);have z:=k4s (k8b e hS) q2.nd q3;have U:=kxu X0 z q2.nd fun t ht=>by
    rcases ht with ht | rfl;exact y t ht
    ·exact q
   refine ⟨(iput seen (i:Int) true,m',rs',ag',zs'),?_,e,q2,I,kja z fun t=>?_⟩;simp only;rw [qs (by omega)]
   ·simp [prT]
  ·-- one more argument
   have A:l.length<o.yb.length:=(by omega);rw [show ((xs.length:Int) == (o.yb.length:Int))=false by rw [qbu];omega,qf];have ha:=qa A;obtain ⟨a,v⟩:∃ a,a=o.yb[l.length]:=⟨_,rfl⟩;rw [<- v] at ha;have J:a∈o.yb:=(by rw [v];exact qo _);obtain ⟨row,K,B,Z⟩:=p a J;have L:=kpf B;rw [G,kag,ha,qb,K,qb];have d:o.yb.drop l.length=a::o.yb.drop (l.length+1):=(by rw [v];exact qbb A);obtain ⟨b,M,N⟩:=kkw (step:=kdr xs o a7 (kcu n) row) row.length (by omega)
    (fun i s=>s.1=(i:Int)/\ExpQ X0 ts (fun t=>P t\/∃ x∈(LT a).take i,∃ l2∈prT LT (o.yb.drop (l.length+1)),t=Tm.mk o.yd (l++x::l2)) s.2)
    (fun b=>∃ r,b = .inl r/\ExpQ X0 ts (fun t=>P t\/∃ l2∈prT LT (o.yb.drop l.length),t=Tm.mk o.yd (l++l2)) r)
    (fun i s hi hs=>by
     obtain ⟨si,ss,sm,srs,sag,szs⟩:=s;obtain ⟨rfl,e,p1,p2,p3⟩:=hs;simp only at p1 p3;have k:i<(LT a).length:=(by omega);obtain ⟨j,j1,j2,j3⟩:=k0h B k;have C:∀ u∈ts++e,u∈X0:=fun u g=>by
      rcases qab.1 g with g | g;exact w u g
      ·exact p2 u g
     have O:(ts++e)[j]?=some (LT a)[i]:=(by rw [qac j2];exact j3);have D:∀ l2∈prT LT (o.yb.drop (l.length+1)),(LT a)[i]::l2∈prT LT (o.yb.drop l.length):=fun l2 c=>(by rw [d,prT,qa5];exact ⟨_,qo k,qaf.2 ⟨l2,c,rfl⟩⟩);have E:∀ t,(P t\/∃ x∈(LT a).take i,∃ l2∈prT LT (o.yb.drop (l.length+1)),t=Tm.mk o.yd (l++x::l2))->t∈X0:=fun t ht=>by
      rcases ht with ht | ⟨x,f,l2,c,rfl⟩;exact y t ht
      ·refine hcl (x::l2) ?_;rw [d,prT,qa5];exact ⟨x,qa8 f,qaf.2 ⟨l2,c,rfl⟩⟩
     obtain ⟨r,r1,e',r2,r3,r4⟩:=ih (xs++[(j:Int)]) (l++[(LT a)[i]]) (by rw [qaj,qak];omega) (by rw [qaj,qak];omega) (fun l2 c=>by rw [qaj,qak] at c;have:=hcl _ (D l2 c);rw [qa1];exact this)
      sm srs sag szs (ts++e) ss _ p1 C (k2c (kr1 f) O) (fun a' R=>by obtain ⟨row',y1,y2,y3⟩:=p a' R;exact ⟨row',y1,kr1 y2,y3⟩) p3 E
     have S:=kja (Q:=fun t=>P t\/∃ x∈(LT a).take (i+1),∃ l2∈prT LT (o.yb.drop (l.length+1)),t=Tm.mk o.yd (l++x::l2)) r4 fun t=>by
      rw [qaj,qak];constructor
      ·rintro (ht | ⟨x,f,l2,c,rfl⟩);exact .inl (.inl ht)
       ·rw [qx k] at f;rcases qab.1 f with f | f;exact .inl (.inr ⟨x,f,l2,c,rfl⟩)
        ·rw [q9] at f;subst f;exact .inr ⟨l2,c,by rw [qa1];rfl⟩
      ·rintro ((ht | ⟨x,f,l2,c,rfl⟩) | ⟨l2,c,rfl⟩);exact .inl ht;exact .inr ⟨x,by rw [qx k];exact List.mem_append_left _ f,l2,c,rfl⟩
       ·exact .inr ⟨(LT a)[i],by rw [qx k];exact qb3 _ (q9.2 rfl),l2,c,by rw [qa1];rfl⟩
     refine ⟨(((i+1:Nat):Int),r),?_,rfl,e++e',by rw [<- qa1];exact r2,fun u g=>?_,by rw [<- qa1];exact S⟩;unfold kdr;simp only;rw [qs (show (i:Int)<(row.length:Int) by omega),qe,kag,j1,qb,k4o,qb,k4j (by omega),qb,r1,qb];simp only [qbd,qf];rw [kfl i]
     ·rcases qab.1 g with g | g;exact p2 u g
      ·exact r3 u g)
    (fun s hs=>by
     obtain ⟨si,ss,sm,srs,sag,szs⟩:=s;obtain ⟨rfl,e,p1,p2,p3⟩:=hs;refine ⟨.inl (ss,sm,srs,sag,szs),?_,_,rfl,e,p1,p2,kja p3 fun t=>?_⟩;unfold kdr;simp only;rw [qp (by omega),qf]
     ·rw [L,qae,d,prT];constructor
      ·rintro (ht | ⟨l2,c,rfl⟩);exact .inl ht
       ·obtain ⟨x,f,c⟩:=qa5.1 c;obtain ⟨l3,T,rfl⟩:=qaf.1 c;exact .inr ⟨x,f,l3,T,rfl⟩
      ·rintro (ht | ⟨x,f,l2,c,rfl⟩);exact .inl ht
       ·exact .inr ⟨x::l2,qa5.2 ⟨x,f,qaf.2 ⟨l2,c,rfl⟩⟩,rfl⟩)
    (s:=(0,seen,m,rs,ag,zs)) ⟨rfl,[],by rw [qbh];exact F,(fun u g=>nomatch g),by rw [qbh];exact kja hS fun t=>by simp⟩
   obtain ⟨r,rfl,hQ⟩:=N;refine ⟨r,?_,hQ⟩;rw [M];rfl
theorem k3v:∀ l:List Tm,l.length<=Tm.sizeL l
 | []=>by simp
 | t::l=>by rw [Tm.sizeL,qbq];have:=Tm.size_pos t;have:=k3v l;omega
theorem k3g {m:List (BA×Int)} {rs:List Int} {ag:List (List Int)} {zs:List Int} {ts:List Tm} (h:kh9 m rs ag zs ts) (r:∀ t∈ts,t.size<=1000):∀ (n:Nat) (j:Nat) (t:Tm),t.size<=n->ts[j]?=some t->kd7 n m rs ag zs (j:Int)=some (t.rule,t.args):=by
 intro n
 induction n with
 | zero=>
  intro j t ht;have:=Tm.size_pos t;omega
 | succ n ih=>
  intro j t ht e;have d:=(qd.1 e).1;rw [kd7];unfold kg0;have a:ag[j]?=some (ag[j]'(by rw [h.la];exact d)):=qa _;obtain ⟨xs,f⟩:∃ xs,xs=ag[j]'(by rw [h.la];exact d):=⟨_,rfl⟩;rw [<- f] at a;have q:=h.ar j xs t a e;have g:=kpf q;have hr:rs[j]?=some t.rule:=by rw [h.lr,ql,e];rfl
  rw [kag,hr,qb,kag,a,qb];have u:t.size=Tm.sizeL t.args+1:=by cases t;rfl
  have v:=k3v t.args;have w:=r t (qk e);obtain ⟨b,l,o⟩:=kkw (step:=kew m rs ag zs (kd7 n) xs) xs.length (by omega)
   (fun i s=>s=((i:Int),t.args.take i)) (fun b=>b=t.args)
   (fun i s hi hs=>by subst hs;have c:i<t.args.length:=(by omega);obtain ⟨k,k1,k2,k3⟩:=k0h q c;have p:(t.args[i]).size<=n:=(by have:=Tm.sizeL_mem (qo c);omega);refine ⟨_,?_,rfl⟩;unfold kew;simp only;rw [qs (show (i:Int)<(xs.length:Int) by omega),qe,kag,k1,qb,ih k _ p k3,qb,kb4 (by simp;omega),qb,kfl i];rw [qx c,show Tm.mk (t.args[i]).rule (t.args[i]).args=t.args[i] by cases t.args[i];rfl])
   (fun s hs=>by subst hs;refine ⟨_,?_,rfl⟩;unfold kew;simp only;rw [qp (by omega),qf,g,qae])
   (s:=(0,[])) rfl
  subst o;rw [l];rfl
theorem kz4 {js:List Nat} (j:Nat):iget (js.map mk1) (j:Int) false=decide (j∈js):=by
 unfold iget;cases h:imf (j:Int) (js.map mk1) 0 with
 | none=>
  rw [qp];exact fun b=>ks5 h (mk1 j) (qby b) rfl
 | some p=>
  obtain ⟨i,x⟩:=p;obtain ⟨_,c,k,a,d⟩:=kt9 h;rw [Nat.sub_zero] at a;rw [ql] at a;cases b:js[i]? with
  | none=>rw [b] at a;cases a
  | some j'=>
   rw [b] at a;have a:mk1 j'=(k,x):=qag a;unfold mk1 at a;injection a with e1 e2;have:j'=j:=(by omega);subst this;rw [qs (qk b),<- e2]
variable {m:List (BA×Int)} {rs:List Int} {ag:List (List Int)} {zs:List Int} {ts:List Tm} {tab:List (List Int)}
def OutQ (ts:List Tm) (P:Nat->Prop) (r:List (Int×Bool)×List Tm):Prop:=∃ js:List Nat,r.1=js.map mk1/\js.Nodup/\(∀ j∈js,j<ts.length)/\js.map (fun j=>ts[j]?)=r.2.map some/\∀ j,j∈js↔P j
theorem k8z (h:kh9 m rs ag zs ts) (v:∀ t∈ts,t.size<=1000) (u:ts.length<=1000) {row:List Nat} (g:∀ j∈row,j<ts.length) (z:row.length<=100000) {seen:List (Int×Bool)} {out:List Tm} {P:Nat->Prop} (A:OutQ ts P (seen,out)):
  ∃ r,kac (keo (rs,ag,zs,tab,m) (row.map fun (j:Nat)=>(j:Int))) fuel (0,seen,out)=some r/\OutQ ts (fun j=>P j\/j∈row) r:=by
 refine kkw (step:=keo (rs,ag,zs,tab,m) (row.map fun (j:Nat)=>(j:Int))) row.length (by omega)
  (fun i s=>s.1=(i:Int)/\OutQ ts (fun j=>P j\/j∈row.take i) s.2) _
  (fun i s hi hs=>?_) (fun s hs=>?_) (s:=(0,seen,out)) ⟨rfl,?_⟩
 ·obtain ⟨si,ss,so⟩:=s;obtain ⟨rfl,js,h1,k,l,d,o⟩:=hs;simp only at h1 d;subst h1;have c:=g row[i] (qo hi);have w:so.length=js.length:=by simpa using (qau List.length d).symm
  have B:js.length<=1000:=qap (ko1 ts.length js k l) u;have p:∀ j,(P j\/j∈row.take (i+1))↔((P j\/j∈row.take i)\/j=row[i]):=fun j=>by rw [qx hi,qab,q9,or_assoc]
  by_cases hm:row[i]∈js
  ·refine ⟨(((i+1:Nat):Int),js.map mk1,so),?_,rfl,js,rfl,k,l,d,fun j=>?_⟩;unfold keo;simp only [qaa];rw [qs (show (i:Int)<(row.length:Int) by omega),qe,kag,ql,qa hi];simp only [qaw,qb];rw [kz4,qs hm];simp only [qbd,qf,qb];rw [kfl i]
   ·refine (o j).trans (Iff.trans ?_ (p j).symm);exact ⟨.inl,fun h=>by
     rcases h with h | rfl;exact h
     ·exact (o _).1 hm⟩
  ·have ht:=qa c;refine ⟨(((i+1:Nat):Int),(js++[row[i]]).map mk1,so++[ts[row[i]]]),?_,rfl,js++[row[i]],rfl,?_,fun j f=>?_,?_,fun j=>?_⟩
   ·unfold keo;simp only [qaa];rw [qs (show (i:Int)<(row.length:Int) by omega),qe,kag,ql,qa hi];simp only [qaw,qb];rw [kz4,qp hm];simp only [Bool.not_false,qe];have C:=v _ (qo c);rw [k3g h v fuel row[i] ts[row[i]] (Nat.le_of_lt (kb8 (by omega))) ht,qb,kb4 (by simp;omega),qb,qb,kfl i];rcases kzx (js:=js) row[i] with ⟨q,_⟩ | ⟨_,q⟩;exact absurd q hm
    ·rw [q,show Tm.mk (ts[row[i]]).rule (ts[row[i]]).args=ts[row[i]] by cases ts[row[i]];rfl]
   rw [List.nodup_append];exact ⟨k,by simp,fun a ha b x e=>hm (by rw [q9] at x;rw [<- x,<- e];exact ha)⟩
   ·rcases qab.1 f with f | f;exact l j f
    ·rw [q9] at f;rw [f];exact c
   rw [qas,qas,d];simp [ht]
   ·refine Iff.trans ?_ (p j).symm;rw [qab,q9,o j]
 ·obtain ⟨si,ss,so⟩:=s;obtain ⟨rfl,y⟩:=hs;refine ⟨(ss,so),?_,?_⟩;unfold keo;simp only [qaa];rw [qp (by omega),qf]
  ·rw [qae] at y;exact y
 ·obtain ⟨js,h1,k,l,d,o⟩:=A;exact ⟨js,h1,k,l,d,fun j=>by rw [o j];simp⟩
theorem kue {ns:List Nod} {X:Int->List Tm}:∀ (vs:List Int),(∀ a∈vs,0<=a/\∀ t,t∈X a↔Bt ns a.toNat t)->∀ l,l∈prT X vs↔Bts ns vs l
 | [],_,l=>by
  rw [prT,q9];constructor;rintro rfl;exact .nil
  ·intro h;cases h;rfl
 | a::vs,h,l=>by
  rw [prT,qa5];have ih:=kue vs (fun b d=>h b (qh _ d));obtain ⟨h0,h1⟩:=h a (qq ..);constructor;rintro ⟨t,ht,hl⟩;obtain ⟨l2,c,rfl⟩:=qaf.1 hl;exact .cons h0 ((h1 t).1 ht) ((ih l2).1 c)
  ·intro hl;cases hl with
   | cons _ ht hs=>exact ⟨_,(h1 _).2 ht,qaf.2 ⟨_,(ih _).2 hs,rfl⟩⟩
theorem k3o {ts:List Tm}:∀ l:List Nat,(∀ j∈l,j<ts.length)->l.map (fun j=>ts[j]?)=(l.filterMap fun j=>ts[j]?).map some
 | [],_=>rfl
 | a::l,h=>by rw [qao,List.filterMap_cons,qa (h a (qq ..))];simp only [qao];rw [k3o l fun j b=>h j (qh _ b)]
theorem k3x {js:List Nat} {τ:List Int} (h:τ.Perm ((js.map mk1).map fun p=>p.1)):∃ ks:List Nat,τ=ks.map (fun (j:Nat)=>(j:Int))/\ks.length=js.length/\∀ j,j∈ks↔j∈js:=by
 rw [List.map_map] at h;have hm:∀ x,x∈τ↔∃ j∈js,((j:Nat):Int)=x:=fun x=>by rw [h.mem_iff,qaf];rfl
 have e:τ=(τ.map Int.toNat).map (fun (j:Nat)=>(j:Int)):=by
  rw [List.map_map]
  conv=>lhs;rw [<- List.map_id τ]
  refine List.map_congr_left fun x a=>?_;obtain ⟨j,_,rfl⟩:=(hm x).1 a;simp
 refine ⟨τ.map Int.toNat,e,?_,fun j=>?_⟩;rw [qaa,h.length_eq,qaa]
 ·rw [qaf];constructor;rintro ⟨x,a,rfl⟩;obtain ⟨k,hk,rfl⟩:=(hm x).1 a;simpa using hk
  ·intro b;exact ⟨(j:Int),(hm _).2 ⟨j,b,rfl⟩,by simp⟩
abbrev T6:=Int×List Int×List (List Int)×List Int×List (List Int)×List (BA×Int)
def JInv (sp:Spa) (X0:List Tm) (i:Nat) (s:T6):Prop:=s.1=(i:Int)/\∃ (ts:List Tm) (LT:Int->List Tm),kh9 s.2.2.2.2.2 s.2.1 s.2.2.1 s.2.2.2.1 ts/\(∀ u∈ts,u∈X0)/\s.2.2.2.2.1.length=sp.ya.length /\
 (∀ a:Nat,a<i->∃ row,s.2.2.2.2.1[a]?=some row/\kfv ts ts.length row (LT (a:Int))/\(LT (a:Int)).length<=1000/\∀ t,t∈LT (a:Int)↔Bt sp.ya a t)/\∀ a:Nat,i<=a->a<sp.ya.length->s.2.2.2.2.1[a]?=some []
section
variable {sp:Spa} {X0:List Tm} (hf:kbh sp) (hX0:X0.length<=1000) (hXs:∀ u∈X0,u.size<=1000) (hX:∀ i t,Bt sp.ya i t->t∈X0) (hru:∀ n∈sp.ya,∀ o∈n.yc,inI o.yd=true)
include hf hX0 hXs hX hru
theorem k1j {i:Nat} {n:Nod} (hn:sp.ya[i]?=some n) {tab:List (List Int)} {LT:Int->List Tm} {m rs ag zs} {ts:List Tm} (C:kh9 m rs ag zs ts) (w:∀ u∈ts,u∈X0)
  (p:∀ a:Nat,a<i->∃ row,tab[a]?=some row/\kfv ts ts.length row (LT (a:Int))/\(LT (a:Int)).length<=1000/\∀ t,t∈LT (a:Int)↔Bt sp.ya a t):
  ∃ rs' ag' zs' seen' m' e,kac (kfk ((i:Int),rs,ag,zs,tab,m) n) fuel (0,rs,ag,zs,[],m)=some (.inl (rs',ag',zs',seen',m'))/\kh9 m' rs' ag' zs' (ts++e)/\(∀ u∈e,u∈X0)/\kju seen' (ts++e) (Bt sp.ya i):=by
 have D:=qap (kmm hn) hf.opts;have x:=qk hn;have r:∀ o∈n.yc,∀ l,l∈prT LT o.yb↔Bts sp.ya o.yb l:=fun o ho=>kue _ fun a ha=>by obtain ⟨h0,h1⟩:=ki9 hf hn ho a ha;obtain ⟨row,_,_,_,q⟩:=p a.toNat (by omega);rw [Int.toNat_of_nonneg h0] at q;exact ⟨h0,q⟩
 obtain ⟨b,y,rs',ag',zs',seen',m',rfl,e,p1,p2,p3⟩:=kkw (step:=kfk ((i:Int),rs,ag,zs,tab,m) n) n.yc.length (by omega)
  (fun k s=>s.1=(k:Int)/\∃ e,kh9 s.2.2.2.2.2 s.2.1 s.2.2.1 s.2.2.2.1 (ts++e)/\(∀ u∈e,u∈X0)/\kju s.2.2.2.2.1 (ts++e) (fun t=>∃ o∈n.yc.take k,∃ l2∈prT LT o.yb,t=Tm.mk o.yd l2))
  (fun b=>∃ rs' ag' zs' seen' m',b = .inl (rs',ag',zs',seen',m')/\∃ e,kh9 m' rs' ag' zs' (ts++e)/\(∀ u∈e,u∈X0)/\kju seen' (ts++e) (Bt sp.ya i))
  (fun k s hk hs=>by
   obtain ⟨sk,srs,sag,szs,ss,sm⟩:=s;obtain ⟨rfl,e,p1,p2,p3⟩:=hs;simp only at p1 p3;obtain ⟨o,ho⟩:∃ o,o=n.yc[k]:=⟨_,rfl⟩;have g:o∈n.yc:=(by rw [ho];exact qo _);have z:n.yc[k]?=some o:=(by rw [ho];exact qa hk);have E:=kds hf hn g;have v:∀ o∈n.yc,∀ l2∈prT LT o.yb,Tm.mk o.yd l2∈X0:=fun o ho l2 c=>hX i _ (.mk hn ho ((r o ho l2).1 c));obtain ⟨⟨s1,m1,rs1,ag1,zs1⟩,r1,e',r2,r3,r4⟩:=k50 (a7:=tab) (o:=o) (LT:=LT) (X0:=X0) (hru n x o g) hX0 hXs (by omega) fuel [] [] (by simp) (kb8 (by simp;omega)) (fun l2 c=>v o g l2 (by simpa using c))
    sm srs sag szs (ts++e) ss _ p1 (fun u f=>by
     rcases qab.1 f with f | f;exact w u f
     ·exact p2 u f) ⟨[],rfl,(fun j A=>nomatch A),rfl⟩ (fun a ha=>by
     obtain ⟨h0,h1⟩:=ki9 hf hn g a ha;obtain ⟨row,q1,q2,q3,_⟩:=p a.toNat (by omega);rw [Int.toNat_of_nonneg h0] at q2 q3;exact ⟨row,by rw [idxN h0];exact q1,kr1 q2,q3⟩) p3 (fun t ⟨o',d,l2,c,e1⟩=>by rw [e1];exact v o' (qa8 d) l2 c)
   refine ⟨(((k+1:Nat):Int),rs1,ag1,zs1,s1,m1),?_,rfl,e++e',by rw [<- qa1];exact r2,fun u f=>?_,?_⟩;unfold kfk;simp only;rw [qs (show (k:Int)<(n.yc.length:Int) by omega),qe,kag,z,qb];unfold kgz;rw [r1];simp only [qb,qbd,qf];rw [kfl k]
   ·rcases qab.1 f with f | f;exact p2 u f
    ·exact r3 u f
   ·rw [<- qa1];refine kja r4 fun t=>?_;rw [qx hk,<- ho];constructor
    ·rintro ⟨o',d,l2,c,rfl⟩;rcases qab.1 d with d | d;exact .inl ⟨o',d,l2,c,rfl⟩
     ·rw [q9] at d;subst d;exact .inr ⟨l2,by simpa using c,rfl⟩
    ·rintro (⟨o',d,l2,c,rfl⟩ | ⟨l2,c,rfl⟩);exact ⟨o',List.mem_append_left _ d,l2,c,rfl⟩
     ·exact ⟨o,qb3 _ (q9.2 rfl),l2,by simpa using c,rfl⟩)
  (fun s hs=>by
   obtain ⟨sk,srs,sag,szs,ss,sm⟩:=s;obtain ⟨rfl,e,p1,p2,p3⟩:=hs;refine ⟨.inl (srs,sag,szs,ss,sm),?_,srs,sag,szs,ss,sm,rfl,e,p1,p2,kja p3 fun t=>?_⟩;unfold kfk;simp only;rw [qp (by omega),qf]
   ·rw [qae];constructor;intro h;obtain ⟨n',o,l2,h1,q,rfl,B⟩:=h.inv;rw [hn] at h1;cases h1;exact ⟨o,q,l2,(r o q l2).2 B,rfl⟩
    ·rintro ⟨o,q,l2,B,rfl⟩;exact .mk hn q ((r o q l2).1 B))
  (s:=(0,rs,ag,zs,[],m)) ⟨rfl,[],by rw [qbh];exact C,(fun u f=>nomatch f),[],rfl,List.nodup_nil,(fun j A=>nomatch A),fun t=>by simp⟩
 exact ⟨rs',ag',zs',seen',m',e,y,p1,p2,p3⟩
theorem k06 {i:Nat} (hi:i<sp.ya.length) {s:T6} (z:JInv sp X0 i s):∃ keys next,kfn (sp,0) s=some (.inl (keys,next))/\∀ τ:List Int,τ.Perm keys->JInv sp X0 (i+1) (next τ):=by
 obtain ⟨si,rs,ag,zs,tab,m⟩:=s;obtain ⟨rfl,ts,LT,x,f,g,c,d⟩:=z;simp only at x g c d;have hn:=qa hi;obtain ⟨rs',ag',zs',seen',m',e,q1,q2,q3,q4⟩:=k1j hf hX0 hXs hX hru hn (tab:=tab) x f c;have p:=kxu X0 q4 q2.nd fun t ht=>hX i t ht;have q:=d i (qy _) hi;have b:idx tab (i:Int)=some []:=by rw [kag,q]
 have r:kqg tab (i:Int) seen'=some []:=by unfold kqg;rw [b,qb,show Nat.ble ((([]:List Int).length+seen'.length)*9) 140737488355328=true from Nat.ble_eq_true_of_le (by simp;omega),qe]
 refine ⟨_,_,by unfold kfn;simp only;rw [qs (show (i:Int)<(sp.ya.length:Int) by omega),qe,kag,hn,qb,q1,qb];simp only [qaq];rw [r,qb],fun τ A=>?_⟩;obtain ⟨js,rfl,j1,j2,j3⟩:=q4;obtain ⟨ks,rfl,k2,k3⟩:=k3x A;have h:∀ j∈ks,j<(ts++e).length:=fun j B=>j2 j ((k3 j).1 B);have k:=k3o ks h;have l:(ks.filterMap fun j=>(ts++e)[j]?).length=ks.length:=by simpa using (qau List.length k).symm
 rw [qaa] at p;obtain ⟨L,y⟩:∃ L:Int->List Tm,∀ a,L a=if a=(i:Int) then ks.filterMap (fun j=>(ts++e)[j]?) else LT a:=⟨_,fun _=>rfl⟩;refine ⟨kfl i (h:=(by have:=hf.nodes;omega)),ts++e,L,q2,fun u o=>?_,?_,fun a ha=>?_,fun a ha v=>?_⟩
 ·rcases qab.1 o with o | o;exact f u o
  ·exact q3 u o
 show (kfs tab (i:Int) [] _).length=_;rw [kk3 b,qbs,g]
 ·show ∃ row,(kfs tab (i:Int) [] _)[a]?=some row/\_;rw [kk3 b,qbw,List.nil_append];by_cases C:a=i;subst C;refine ⟨_,qbj (by omega),?_⟩;rw [y,qn rfl];refine ⟨⟨ks,rfl,h,k⟩,by rw [l,k2];omega,fun t=>?_⟩;rw [List.mem_filterMap,j3 t];exact ⟨fun ⟨j,h1,w⟩=>⟨j,(k3 j).1 h1,w⟩,fun ⟨j,h1,w⟩=>⟨j,(k3 j).2 h1,w⟩⟩
  ·rw [qbm (by omega)];obtain ⟨row,r1,r2,r3,r4⟩:=c a (by omega);rw [y,qj (show ¬ ((a:Int)=(i:Int)) by omega)];exact ⟨row,r1,kr1 r2,r3,r4⟩
 ·show (kfs tab (i:Int) [] _)[a]?=some [];rw [kk3 b,qbw,qbm (by omega)];exact d a (by omega) v
end
theorem kvv {α β:Type} {f:α->β}:∀ {l:List α},l.Nodup->(∀ a∈l,∀ b∈l,f a=f b->a=b)->(l.map f).Nodup
 | [],_,_=>List.nodup_nil
 | a::l,h,hi=>by rw [qao,List.nodup_cons];rw [List.nodup_cons] at h;refine ⟨fun hm=>?_,kvv h.2 fun b d c hc=>hi b (qh _ d) c (qh _ hc)⟩;obtain ⟨b,d,e⟩:=qaf.1 hm;exact h.1 (hi b (qh _ d) a (qq ..) e ▸ d)
theorem kqw {α β:Type} {f:α->β}:∀ {l:List α},(l.map f).Nodup->l.Nodup
 | [],_=>List.nodup_nil
 | a::l,h=>by rw [qao,List.nodup_cons] at h;rw [List.nodup_cons];exact ⟨fun hm=>h.1 (qby hm),kqw h.2⟩
noncomputable def ktt (sp:Spa):((List Int×List (List Int)×List Int×List (List Int)×List (BA×Int)) ⊕ Unit)->Option (List Tm×Int):=fun v17=>Sum.elim (fun v18=>(Option.bind (kac (ken (sp,0) v18) fuel (0,([]:List (Int×Bool)),([]:List (Tm)))) fun (v31:List Tm)=>(bif (decide (4096<(List.length (v31):Int))) then (some (([]:List Tm),11)) else (Option.bind (kll v31) fun v32=>(some (v32,0)))))) (fun v33=>(some (([]:List Tm),11))) v17
section
variable {sp:Spa} {X0:List Tm} (hf:kbh sp) (hX0:X0.length<=1000) (hXs:∀ u∈X0,u.size<=1000) (hX:∀ i t,Bt sp.ya i t->t∈X0) (hru:∀ n∈sp.ya,∀ o∈n.yc,inI o.yd=true)
include hf hX0 hXs hX hru
omit hX hru in
theorem k1s {m rs ag zs} {tab:List (List Int)} {ts:List Tm} {LT:Int->List Tm} (w:kh9 m rs ag zs ts) (i:∀ u∈ts,u∈X0)
  (c:∀ a:Nat,a<sp.ya.length->∃ row,tab[a]?=some row/\kfv ts ts.length row (LT (a:Int))/\(LT (a:Int)).length<=1000/\∀ t,t∈LT (a:Int)↔Bt sp.ya a t):
  ∃ out,kac (ken (sp,0) (rs,ag,zs,tab,m)) fuel (0,[],[])=some out/\out.Nodup/\(∀ t,t∈out↔InS sp t)/\out.length<=X0.length:=by
 have y:ts.length<=1000:=qap (kmg w.nd i) hX0;have A:∀ t∈ts,t.size<=1000:=fun t ht=>hXs t (i t ht);have B:=kk5 hf.roots;have C:=hf.nodes;obtain ⟨out,h1,sn,o⟩:=kkw (step:=ken (sp,0) (rs,ag,zs,tab,m)) sp.ye.length (by omega)
  (fun k s=>s.1=(k:Int)/\OutQ ts (fun j=>∃ r∈sp.ye.take k,∃ t,ts[j]?=some t/\Bt sp.ya r.toNat t) s.2)
  (fun out=>∃ sn,OutQ ts (fun j=>∃ r∈sp.ye,∃ t,ts[j]?=some t/\Bt sp.ya r.toNat t) (sn,out))
  (fun k s hk hs=>by
   obtain ⟨sk,ss,so⟩:=s;obtain ⟨rfl,x⟩:=hs;have hr:=qa hk;obtain ⟨r,l⟩:∃ r,r=sp.ye[k]:=⟨_,rfl⟩;rw [<- l] at hr;obtain ⟨r0,r1⟩:=hf.roots.1 r (by rw [l];exact qo _);obtain ⟨row,q1,⟨js,rfl,q2,q3⟩,q4,q5⟩:=c r.toNat (by omega);have D:js.length<=1000:=(by have:=qau List.length q3;simp only [qaa] at this;omega);obtain ⟨⟨ss',so'⟩,w1,w2⟩:=k8z (tab:=tab) w A y q2 (by omega) x;have z:∀ j,j∈js↔∃ t,ts[j]?=some t/\Bt sp.ya r.toNat t:=fun j=>by
    constructor;intro p;have:ts[j]?∈(LT ((r.toNat:Nat):Int)).map some:=(by rw [<- q3];exact qaf.2 ⟨j,p,rfl⟩);obtain ⟨t,ht,e⟩:=qaf.1 this;exact ⟨t,e.symm,(q5 t).1 ht⟩
    ·rintro ⟨t,ht,d⟩;have:some t∈js.map fun j=>ts[j]?:=(by rw [q3];exact qby ((q5 t).2 d));obtain ⟨k,hk,e⟩:=qaf.1 this;have:k=j:=(List.getElem?_inj (q2 k hk) w.nd).1 (e.trans ht.symm);exact this ▸ hk
   refine ⟨(((k+1:Nat):Int),ss',so'),?_,rfl,?_⟩;unfold ken;simp only;rw [qs (show (k:Int)<(sp.ye.length:Int) by omega),qe,kag,hr,qb,idxN r0,q1,qb,w1,qb,kfl k]
   ·obtain ⟨js',z1,z2,z3,z4,z5⟩:=w2;refine ⟨js',z1,z2,z3,z4,fun j=>(z5 j).trans ?_⟩;show ((∃ r∈sp.ye.take k,∃ t,ts[j]?=some t/\Bt sp.ya r.toNat t)\/j∈js)↔∃ r∈sp.ye.take (k+1),∃ t,ts[j]?=some t/\Bt sp.ya r.toNat t;rw [z j,qx hk,<- l];constructor
    ·rintro (⟨r',h1,o⟩ | h);exact ⟨r',List.mem_append_left _ h1,o⟩
     ·exact ⟨r,qb3 _ (q9.2 rfl),h⟩
    ·rintro ⟨r',h1,o⟩;rcases qab.1 h1 with h1 | h1;exact .inl ⟨r',h1,o⟩
     ·rw [q9] at h1;subst h1;exact .inr o)
  (fun s hs=>by obtain ⟨sk,ss,so⟩:=s;obtain ⟨rfl,x⟩:=hs;refine ⟨so,?_,ss,by rw [qae] at x;exact x⟩;unfold ken;simp only;rw [qp (by omega),qf])
  (s:=(0,[],[])) ⟨rfl,[],rfl,List.nodup_nil,(fun j p=>nomatch p),rfl,fun j=>by simp⟩
 obtain ⟨js,z1,z2,z3,z4,z5⟩:=o;simp only at z4;have g:∀ t,t∈out↔∃ j∈js,ts[j]?=some t:=fun t=>by
  have:t∈out↔some t∈out.map some:=by simp
  rw [this,<- z4,qaf]
 have q:out.Nodup:=by refine kqw (f:=some) ?_;rw [<- z4];exact kvv z2 fun a ha b d e=>(List.getElem?_inj (z3 a ha) w.nd).1 e
 refine ⟨out,h1,q,fun t=>?_,kmg q fun t ht=>?_⟩
 ·rw [g];constructor;rintro ⟨j,p,ht⟩;obtain ⟨r,hr,t',v,d⟩:=(z5 j).1 p;rw [ht] at v;cases v;exact ⟨r,hr,(hf.roots.1 r hr).1,d⟩
  ·rintro ⟨r,hr,h0,d⟩;obtain ⟨row,q1,⟨js',rfl,q2,q3⟩,q4,q5⟩:=c r.toNat (kpj d);have:some t∈js'.map fun j=>ts[j]?:=(by rw [q3];exact qby ((q5 t).2 d));obtain ⟨k,hk,e⟩:=qaf.1 this;exact ⟨k,(z5 k).2 ⟨r,hr,t,e,d⟩,e⟩
 ·obtain ⟨j,p,e⟩:=(g t).1 ht;exact i t (qk e)
theorem k5i {Y:List Tm} (d:Y.Nodup) (e:∀ t,t∈Y↔InS sp t) (f:Y.Pairwise fun a b=>TV.cmpT b a<0->False):∀ (k i:Nat) (s:T6) (fu:Nat),sp.ya.length - i=k->i<=sp.ya.length->k<fu->JInv sp X0 i s->DlP (kfn (sp,0)) (ktt sp) (Y,(0:Int)) fu s:=by
 intro k
 induction k with
 | zero=>
  intro i s fu h1 p q g;obtain ⟨n,rfl⟩:∃ n,fu=n+1:=⟨fu - 1,by omega⟩;have hi:i=sp.ya.length:=by omega
  subst hi;obtain ⟨si,rs,ag,zs,tab,m⟩:=s;obtain ⟨rfl,ts,LT,o,h,j,c,_⟩:=g;simp only at o j c;refine ⟨.inr (.inl (rs,ag,zs,tab,m)),?_,?_⟩;unfold kfn;simp only;rw [qp (by omega),qf]
  ·show ktt sp (.inl (rs,ag,zs,tab,m))=some (Y,0);obtain ⟨out,o1,o2,o3,o4⟩:=k1s hf hX0 hXs o h c;unfold ktt;simp only [qaq];rw [o1,qb,qp (by omega),qf];have l:∀ t∈out,t.size<=1000:=fun t ht=>(by obtain ⟨r,_,_,u⟩:=(o3 t).1 ht;exact hXs t (hX _ _ u));have hst:kll out=some (kos out):=(by unfold kll;rw [show (Nat.blt out.length 4611686018427387904 && out.all (fun t=>Nat.ble t.size 1000))=true from ?_,qe];rw [qv];refine ⟨Nat.ble_eq_true_of_le (by omega),qu.2 fun t ht=>Nat.ble_eq_true_of_le (l t ht)⟩);rw [hst,qb];rw [<- kqq (xs:=out) (ys:=Y) ((List.perm_ext_iff_of_nodup d o2).2 fun t=>(e t).trans (o3 t).symm) f]
 | succ k ih=>
  intro i s fu h1 p q g;obtain ⟨n,rfl⟩:∃ n,fu=n+1:=⟨fu - 1,by omega⟩;obtain ⟨keys,next,q1,q2⟩:=k06 hf hX0 hXs hX hru (by omega) g;exact ⟨.inl (keys,next),q1,fun τ v=>ih (i+1) (next τ) n (by omega) (by omega) (by omega) (q2 τ v)⟩
theorem k9f {a0:Spa} (ht:ki5 a0=some (sp,0)) {Y:List Tm} (c:Y.Nodup) (d:∀ t,t∈Y↔InS sp t) (e:Y.Pairwise fun a b=>TV.cmpT b a<0->False):kel a0=some (Y,0):=by have f:=hf.nodes;unfold kel;rw [ht,qb];show (bif ((0:Int) != 0) then _ else _)=_;rw [show ((0:Int) != 0)=false from rfl,qf];rw [show kim=some () from rfl,qb,klp 24 ([]:List Int) sp.ya.length,qb];refine k4x (ktt sp) (k5i hf hX0 hXs hX hru c d e sp.ya.length 0 _ fuel (by omega) (by omega) (kb8 (by omega)) ?_);refine ⟨rfl,[],fun _=>[],?_,(fun u g=>nomatch g),by simp,fun a ha=>absurd ha (Nat.not_lt_zero a),fun a _ ha=>by simp [ha]⟩;exact ⟨⟨fun r xs=>⟨fun h=>Bool.noConfusion (show false=true from h),fun h=>by simp at h⟩,fun i r xs h=>by simp at h⟩,rfl,rfl,rfl,fun i xs t h=>by simp at h,List.nodup_nil⟩
end
theorem k0k:∀ xs ys:List Int,TV.lexC xs ys=lexC xs ys
 | [],_=>by rw [TV.lexC,lexC] <;> simp
 | _::_,[]=>by rw [TV.lexC,lexC] <;> simp
 | x::xs,y::ys=>by rw [TV.lexC,lexC,k0k xs ys]
theorem kaay (a b:Tm):TV.cmpT a b=cmpT a b:=by unfold TV.cmpT cmpT;simp only [k0k]
theorem k3d {s:Spa} (hf:kbh s):∀ (N i:Nat),i<N->∀ n,s.ya[i]?=some n->∀ t,t∈TL s.ya i↔Bt s.ya i t:=by
 intro N
 induction N with
 | zero=>intro i h;omega
 | succ N ih=>
  intro i hi n hn t;have hX:∀ o∈n.yc,∀ l,l∈prT (fun a=>TL s.ya a.toNat) o.yb↔Bts s.ya o.yb l:=fun o ho=>kue _ fun a ha=>by obtain ⟨h0,h1⟩:=ki9 hf hn ho a ha;have hl:=(qd.1 hn).1;exact ⟨h0,ih a.toNat (by omega) _ (qa (by omega))⟩
  rw [k7f hn fun o ho=>ki9 hf hn ho];unfold tlN tlO;rw [qa5];constructor;rintro ⟨o,ho,ht⟩;obtain ⟨l,hl,rfl⟩:=qaf.1 ht;exact .mk hn ho ((hX o ho l).1 hl)
  ·intro h;obtain ⟨n',o,l,h1,b,rfl,c⟩:=h.inv;rw [hn] at h1;cases h1;exact ⟨o,b,qaf.2 ⟨l,(hX o b l).2 c,rfl⟩⟩
theorem k5q (s:Spa) (n:Nat):((List.range n).flatMap (TL s.ya)).length=kno s n:=by rw [List.length_flatMap];rfl
theorem k3q {s:Spa} {f p:Nat->Bool} (h:∀ n∈s.ya,∀ o∈n.yc,inI o.yd=true):∀ n∈(kep f p s).ya,∀ o∈n.yc,inI o.yd=true:=fun n hn o ho=>by obtain ⟨i,hi,rfl⟩:=qaf.1 hn;have a:i<s.ya.length:=List.mem_range.1 (qbc.1 hi).1;rw [qa a,qam] at ho;unfold kld at ho;obtain ⟨o',b,rfl⟩:=qaf.1 ho;exact h _ (qo a) o' (qbc.1 b).1
theorem k5j {Y:List Tm} (h:SLt Y):Y.Pairwise fun a b=>TV.cmpT b a<0->False:=h.imp fun {a b} d c=>by rw [kaay] at c;have:=cmpT_ord.anti a b trivial;omega
open Classical in
theorem kuz (s:Spa) (t:Tm) (hs:SpW s):kd9 s t=some true:=by
 have g:kdt=some true:=rfl;unfold kd9;obtain ⟨b',C⟩:=k35 hs;rw [C,qb];have w:=k2h t 60 (by omega);rw [show ((60:Nat):Int)=60 from rfl] at w;rw [w];cases b' with
 | false=>simp only [Bool.not_false,qe,qb,g]
 | true=>
  simp only [qbd,qf,qb];by_cases ht:t.size<=60
  ·rw [qs ht];simp only [qbd,qf];obtain ⟨b,x,k⟩:=ksz hs.wide;unfold kf7;rw [x];simp only [qb];cases b with
   | false=>
    have D:¬ kbh s:=fun h=>absurd (k.2 h) qa0;obtain ⟨r,hr,o⟩:=k15 hs.wide;rcases o with ⟨_,rfl⟩ | ⟨h,_⟩;have E:kel s=some (([]:List Tm),4):=(by unfold kel;rw [hr,qb];rfl);simp only [Bool.not_false,qe];rw [E,qb];rfl
    ·exact absurd h D
   | true=>
    have hf:kbh s:=k.1 rfl;simp only [qbd,qf];obtain ⟨b,L,F⟩:=k31 hf;rw [L,qb];cases b with
    | false=>simp only [Bool.not_false,qe,g,qb]
    | true=>
     obtain ⟨l1,l2⟩:=F rfl;simp only [qbd,qf];obtain ⟨X0,d⟩:∃ X0,X0=(List.range s.ya.length).flatMap (TL s.ya):=⟨_,rfl⟩;have M:X0.length<=300:=(by rw [d,k5q];exact l2);have p:∀ i u,Bt s.ya i u->u∈X0:=fun i u a=>(by have hi:=kpj a;rw [d,qa5];exact ⟨i,List.mem_range.2 hi,(k3d hf (i+1) i (by omega) _ (qa hi) u).2 a⟩);have hXs:∀ u∈X0,u.size<=24:=fun u a=>(by rw [d] at a;obtain ⟨i,hi,a⟩:=qa5.1 a;have hi:=List.mem_range.1 hi;have hn:=qa hi;have x:=(k3d hf (i+1) i (by omega) _ hn u).1 a;have h1:=kze hf u i _ hn x;have R:=(hf.node i _ hn).size.2;omega);have f:∀ u∈X0,u.size<=1000:=fun u a=>(by have:=hXs u a;omega);have y:∀ u,InS s u->u∈X0:=fun u ⟨r,_,_,x⟩=>p _ u x;obtain ⟨⟨Y,e⟩,N,z,m,c⟩:=k3t hf (fun i=>⟨X0,by omega,f,fun u a=>p i u a⟩) X0 (by omega) f y;simp only at z m c;subst z;obtain ⟨r,hr,o⟩:=k15 hs.wide;rcases o with ⟨h,_⟩ | ⟨_,l,q,G,rfl⟩;exact absurd hf h;have hk:=kabk G;have H:=kvt hf hk;have I:∀ j u,Bt (kep (fg l) (fg q) s).ya j u->u∈X0:=fun j u a=>(by obtain ⟨i,n,_,_,_,h1⟩:=kvl hf hk (qa (kpj a));exact p i u (h1 u a));have E:kel s=some (Y,0):=k9f H (by omega) f I (k3q hs.rule) hr m.nodup (fun u=>(c u).trans (kwz hf hk u).symm) (k5j m);have A:∀ u∈Y,u∈X0:=fun u a=>y u ((c u).1 a);have O:=m.len A;have B:∀ u∈Y,u.size<=24:=fun u a=>hXs u (A u a);rw [E,qb,N,qb,k30 Y (by omega) (fun u a=>by have:=B u a;omega),qb];simp only [qbd,qf];rw [show ((0:Int) != 0)=false from rfl];simp only [qb,qf];obtain ⟨b,J,k⟩:=kkw (step:=kcc s t (Y,0)) Y.length (by omega)
      (fun i st=>st=(decide (t∈Y.take i),(i:Int))) (fun b=>b = .inl (decide (t∈Y)))
      (fun i st hi hst=>by
       subst hst;have P:=qa hi;have Q:=B _ (qo hi);have K:InS s Y[i]:=(c _).1 (qo hi);refine ⟨_,?_,rfl⟩;unfold kcc;simp only;rw [qs (show (i:Int)<(Y.length:Int) by omega),qe,kag,P,qb,kte hs.wide _ (by omega),qs ⟨hf,K⟩,qb];simp only [qbd,qf];rw [kfl i,qx hi];by_cases hm:t∈Y.take i;rw [qs hm,qe,qb,qs (List.mem_append_left _ hm)]
       ·rw [qp hm,qf];simp only [qb];rw [krq _ _ (by omega) (by omega),qb,qb];by_cases v:Y[i]=t;rw [cmpT_eq0.2 v,qs (qb3 _ (q9.2 v.symm))];rfl
        ·have h1:cmpT Y[i] t≠0:=fun h=>v (cmpT_eq0.1 h);rw [show (cmpT Y[i] t == 0)=false from qbu.2 h1,qp];intro h;rcases qab.1 h with h | h;exact hm h
         ·exact v (q9.1 h).symm)
      (fun st hst=>by subst hst;refine ⟨_,?_,rfl⟩;unfold kcc;simp only;rw [qp (by omega),qf,qae])
      (s:=(false,0)) (by simp)
     subst k;rw [J,qb];simp only [qaq];rw [kte hs.wide t ht,qb];have v:decide (kbh s/\InS s t)=decide (t∈Y):=decide_eq_decide.2 ⟨fun h=>(c t).2 h.2,fun h=>⟨hf,(c t).1 h⟩⟩;rw [v];simp only [beq_self_eq_true,qe,g,qb]
  ·rw [qp ht];simp only [Bool.not_false,qe,g,qb]
open Go Go.RowKit Go.ChangeShapes Go.WideShapes Go.Proofs.Tryz
theorem kaba:laidOutB Tryz.checked.prog=true:=by as_aux_lemma=>kernel_rfl
theorem k7o:mapsRowed Tryz.checked.prog=true:=by as_aux_lemma=>kernel_rfl
theorem k8g:Tryz.checked.prog.stopsHeard=true:=by as_aux_lemma=>kernel_rfl
theorem k75:Tryz.checked.prog.liftsFinal=false:=by as_aux_lemma=>kernel_rfl
theorem k1i:Tryz.checked.prog.mayEnter=true:=by as_aux_lemma=>kernel_rfl
theorem kaa8:Tryz.checked.prog.make=some .cut:=by as_aux_lemma=>kernel_rfl
open Go Go.RowKit Go.ChangeShapes Go.WideShapes Go.ChangeAt Go.Proofs.Tryz
theorem kp7 {H:Type} {enc:TypeId×Value->H} {a:Assume} {C:Checked} {os:Os} {f:FuncId} {fn:Func} {s:ChangeSpec} {conds:List PathCond} {apart fresh b again:Bool} {X:World->Array Value->Prop}
  (hX:∀ (w w':World) (args:Array Value),w.heap=w'.heap->X w args->X w' args)
  (own:ownKnob C.prog.godebug=none) (started:os.Started) (noInit:C.prog.inits.idxOf? f=none) (k:C.prog.funcs[f]?=some fn)
  (witness:∃ (w:World) (tape:Tape) (i:Input),w.os=os/\(w.forCall tape i).Shaped C.prog/\i.vars=[]/\Input.okWide C.prog (w.forCall tape i) .any w.heap.size f i /\
   ((s.pre enc C.prog fn conds apart (w.forCall tape i).memory i.args/\X (w.forCall tape i).memory i.args)/\sizedMet enc C.prog fn (OpenSpec.ofChange s) apart (w.forCall tape i).memory i.args)/\a.holds C.prog (lone (Frame.enter C.prog f i.args .normal) [] (w.forCall tape i)))
  (contract:∀ (W:World) (base:Nat) (args:Array Value) (ds gs:List (DataW H)) (before:List MemPlace),
   (∀ (j:Nat) t v,fn.params[j]?=some t->args[j]?=some v->Value.okWide C.prog W .any base t v) ->
   DataW.Whole enc C.prog fn.params.toList s.vars apart W args.toList ds gs before->X W args->W.ShapedOpen C.prog->(DataW.weightsEach C.prog (fn.params.toList++s.plain.varTypes C.prog) (ds++gs)).all (·<=reachBytes)=true ->
   Calls C.prog f args W fun e W'=>∃ v,e = .returned v/\s.post enc C.prog fn apart fresh b again W args v W'):
  ReturnsInHanded a C os f .any (fun w args=>(s.pre enc C.prog fn conds apart w args/\X w args)/\sizedMet enc C.prog fn (OpenSpec.ofChange s) apart w args) (s.post enc C.prog fn apart fresh b again):=by
 refine returnsInHanded_of_calls own started noInit witness ?_;intro w tape i _ l _ m c h;obtain ⟨_,_,_,fn',d,_,_,_,_,g⟩:=m;have e:fn'=fn:=qag (d.symm.trans k);subst e;obtain ⟨⟨⟨ds,gs,before,o,hc⟩,p⟩,q⟩:=c;have n:=DataW.Whole.of_heap (w':=w.forCall tape i) (by rfl) o;refine (contract (w.forCall tape i) w.heap.size i.args ds gs before g n (hX _ _ _ (by rfl) p) l (q.weights o)).mono fun e W' ⟨v,r,hp⟩=>?_;subst r;exact ChangeSpec.post_blind hp
set_option maxRecDepth 100000 in
theorem kr9 (os:Os) (started:os.Started) (H:Type) (enc:TypeId×Value->H):
  ReturnsInHanded {} Tryz.checked os 3 .any (fun w args=>(Rows.spaceTermsSpec.pre enc prog Tryz.f3 Rows.spaceTermsRow.domain false w args/\laidMetH prog Rows.spaceTermsRow.laid w)/\sizedMet enc prog Tryz.f3 (OpenSpec.ofChange Rows.spaceTermsSpec) false w args) (Rows.spaceTermsSpec.post enc prog Tryz.f3 false true false false):=by
 refine kp7 (C:=Tryz.checked) (X:=fun w _=>laidMetH prog kq4 w) (fun _ _ _ s h=>h.of_heap s) k4y started (by kernel_rfl) func3
  (ChangeSpec.witness_at (enc:=enc) (C:=Tryz.checked) (os:=os) (X:=fun w _=>laidMetH prog kq4 w) false (ku5 os) #[.agg #[.slice none 0 0, .slice none 0 0], .agg #[.int .i64 0, .slice none 0 0]] 8 rfl (by kernel_rfl) (by kernel_rfl) (by kernel_rfl) (by kernel_rfl) (by kernel_rfl) (kv7 os _)) ?_
 intro W base args ds gs before b r u g c;have a:∀ (j:Nat) t v,Tryz.f3.params[j]?=some t->args[j]?=some v->Value.okWide prog W .any base t v:=b;have l:=r;obtain ⟨p,q,m,y,rfl,z,A⟩:=r;have hA:DataW.TrodAll enc prog W 0 (fun _=>true) true Tryz.f3.params.toList args.toList ds p:=m;have d:=qu.1 c;rw [Tryz.params3] at hA a d;obtain ⟨v0,vs0,d0,ds0,p0,q0,n,rfl,rfl,h0,r0⟩:=trodAll_cons hA;obtain ⟨v1,vs1,d1,ds1,p1,q1,rfl,rfl,rfl,h1,r1⟩:=trodAll_cons r0;obtain ⟨rfl,rfl,rfl⟩:=trodAll_nil r1;obtain rfl:args=#[v0,v1]:=by cases args;simp_all
 obtain ⟨rfl,rfl⟩:=trodVars_none y;have o:=kup (fun k hk=>qb0 (d k hk));obtain ⟨x0,e0,b0⟩:=kaat (a 0 25 v0 rfl rfl) h0 (o 0 _ _ rfl rfl);obtain ⟨x1,e1,_⟩:=in_Tm (a 1 28 v1 rfl rfl) h1;refine (k1t [kaw x0,eTm x1] (kkj x0 x1 true (kuz x0 x1 b0)) rfl ?_ (kaap u g)).mono fun e W' ⟨B,D⟩=>?_
 ·intro i v x hv f
  match i with
  | 0=>simp at hv f;subst hv f;exact e0
  | 1=>simp at hv f;subst hv f;exact e1
  | i+2=>simp at hv
 subst B;exact ⟨_,rfl,k5y k53 (by rw [Tryz.params3];intro t ht;simp at ht;rcases ht with rfl | rfl <;> exact ⟨by kernel_rfl,qb0 (by kernel_rfl)⟩) rfl underlying4 rfl rfl l D⟩
set_option maxHeartbeats 4000000 in
theorem kr7:joinedFacts Tryz.checked.prog 3 Tryz.f3 Rows.spaceTermsSpec Rows.spaceTermsRow=true:=by
 unfold joinedFacts;simp only [k1i,k75,kaa8,kaba,k7o,k8g,qv,Bool.and_true]
 repeat' apply And.intro
 all_goals (as_aux_lemma=>kernel_rfl)
theorem ksm:Rows.SpaceTermsSaid:=
 OpenClaim.holds_of_wide 3 Tryz.f3 rfl rfl rfl rfl rfl rfl rfl ⟨rfl,rfl,rfl,rfl,rfl⟩ rfl rfl rfl rfl rfl (by kernel_rfl) func3 kr7
  (qb0 (by kernel_rfl)) (by unfold Func.isWrapper;rw [qj (of_decide_eq_false (by kernel_rfl))];exact ⟨rfl,rfl⟩)
  (fun os started H enc _=>kr9 os started H enc)
theorem spaceTerms_card_holds:Rows.SpaceTermsCardSaid:=
 Claim7.holds_tied_plain_at .later [] [.data, .data, .data] true (true, "ee1c03b67fa9f0473768b444943c2472881a4b7dae99c5d20959a91b13544a8a") true ksm (fun _ h => by cases h) (by kernel_rfl) (fun _ h => by cases h) spaceTerms_row_tie rfl ⟨rfl, rfl⟩ (by kernel_rfl) rfl
  (fun f fn hf a=>by
   obtain rfl : f = 3 := qag ((show prog.funcNamed "synthesis/synthesislaw25.SpaceTerms" = some 3 by kernel_rfl).symm.trans hf) |>.symm;obtain rfl:fn=Tryz.f3:=(qag (func3.symm.trans a)).symm;exact ⟨by kernel_rfl,fun j t ht=>by
    rw [Tryz.params3] at ht
    match j with
    | 0=>obtain rfl:=qag ht;exact (show prog.wantsStandIn 25=false by kernel_rfl)
    | 1=>obtain rfl:=qag ht;exact (show prog.wantsStandIn 28=false by kernel_rfl)
    | j+2=>simp at ht⟩)
  (by kernel_rfl)
end Go.Proofs.YtnlhjbnpjefjgaaGreatDoor
