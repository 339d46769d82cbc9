import Derived.Test.YtjpkdegjcilndaaGreatDoorNw
set_option linter.all false
set_option maxRecDepth 100000
namespace Go.Proofs.YtjpkdegjcilndaaGreatDoor
open Go Go.RowKit TV
namespace SR
variable {R:Type} (S:SR R)
theorem add4 (a b c d:R):S.add (S.add a b) (S.add c d)=S.add (S.add a c) (S.add b d):=by rw [S.add_assoc,<- S.add_assoc b,S.add_comm b c,S.add_assoc c,<- S.add_assoc a]
theorem sum_add (f g:Nat->R):∀ n,S.sum (fun i=>S.add (f i) (g i)) n=S.add (S.sum f n) (S.sum g n)
 | 0=>(S.zero_add _).symm
 | n+1=>by rw [sum,sum,sum,sum_add f g n,S.add4]
theorem tri (F:Nat->Nat->R):∀ n,S.sum (fun j=>S.sum (fun i=>F i (j - i)) (j+1)) n=S.sum (fun i=>S.sum (fun k=>F i k) (n - i)) n
 | 0=>rfl
 | n+1=>by
  rw [sum,tri F n];have h:S.sum (fun i=>S.sum (fun k=>F i k) (n+1 - i)) (n+1)=S.sum (fun i=>S.add (S.sum (fun k=>F i k) (n - i)) (F i (n - i))) (n+1):=S.sum_congr _ fun i hi=>by rw [show n+1 - i=(n - i)+1 by omega,sum]
  rw [h,S.sum_add];congr 1;rw [sum,qbs,sum,S.add_zero]
def conv (f g:Nat->R) (n:Nat):R:=S.sum (fun i=>S.mul (f i) (g (n - i))) (n+1)
def lf (V:Int->Nat->R) (f:Nat->R):List Int->Nat->R
 | []=>f
 | a::ys=>lf V (S.conv f (V a)) ys
theorem lf_eq (V:Int->Nat->R):∀ (ys:List Int) (f:Nat->R) (n:Nat),S.lf V f ys n=S.sum (fun i=>S.mul (f i) (S.rr V ys (n - i))) (n+1)
 | [],f,n=>by rw [lf,sum,S.sum_zero n fun i hi=>by rw [rr,qi (by omega),S.mul_zero],S.zero_add,qbs,rr,qo rfl,S.mul_one]
 | a::ys,f,n=>by
  rw [lf,lf_eq V ys];have h1:S.sum (fun j=>S.mul (S.conv f (V a) j) (S.rr V ys (n - j))) (n+1)=S.sum (fun j=>S.sum (fun i=>S.mul (f i) (S.mul (V a (j - i)) (S.rr V ys (n - i - (j - i))))) (j+1)) (n+1):=S.sum_congr _ fun j b=>by unfold conv;rw [S.sum_mul];exact S.sum_congr _ fun i hi=>by rw [S.mul_assoc,show n - i - (j - i)=n - j by omega]
  rw [h1,S.tri (fun i k=>S.mul (f i) (S.mul (V a k) (S.rr V ys (n - i - k)))) (n+1)];refine S.sum_congr _ fun i hi=>?_;rw [<- S.mul_sum,rr,show n+1 - i=n - i+1 by omega]
def dlt (n:Nat):R:=if n=0 then S.one else S.zero
theorem lf_dlt (V:Int->Nat->R) (ys:List Int) (n:Nat):S.lf V S.dlt ys n=S.rr V ys n:=by
 rw [S.lf_eq];have:∀ m,S.sum (fun i=>S.mul (S.dlt i) (S.rr V ys (n - i))) (m+1)=S.rr V ys n:=fun m=>by
  induction m with
  | zero=>rw [sum,sum,S.zero_add];show S.mul (S.dlt 0) _=_;rw [show S.dlt 0=S.one from rfl,S.one_mul,Nat.sub_zero]
  | succ m ih=>rw [sum,ih,show S.dlt (m+1)=S.zero from rfl,S.zero_mul,S.add_zero]
 exact this n
theorem rr_append {V:Int->Nat->R} (xs ys:List Int) (n:Nat):S.rr V (xs++ys) n=S.sum (fun i=>S.mul (S.rr V xs i) (S.rr V ys (n - i))) (n+1):=by
 have h:∀ (xs:List Int) (f:Nat->R),S.lf V f (xs++ys)=S.lf V (S.lf V f xs) ys:=fun xs=>by
  induction xs with
  | nil=>intro f;rfl
  | cons x xs ih=>intro f;exact ih _
 rw [<- S.lf_dlt,h,S.lf_eq];exact S.sum_congr _ fun i _=>by rw [S.lf_dlt]
end SR
theorem k0y (a b:Nat):kei (en a) (en b)=some (en (a+b)):=by unfold kei ker;rw [qa,k90]
theorem kaez (a b:Nat):kgk (en a) (en b)=some (en (a*b)):=by
 have hc:=k9d a b;have c:∀ n:Nat,imin (n:Int) 1152921504606846977=((min n 1152921504606846977:Nat):Int):=fun n=>by unfold imin;split <;> omega
 unfold kgk ker;by_cases h0:0<min a 1152921504606846977
 ·have e0:decide (0<en a)=true:=qj (by unfold en;omega);have f:quo .i64 1152921504606846977 (en a)=some ((1152921504606846977 / min a 1152921504606846977:Nat):Int):=kacz 1152921504606846977 _ h0;rw [e0,f];simp only [qe,qa];by_cases d:1152921504606846977 / min a 1152921504606846977<min b 1152921504606846977;have e1:decide (((1152921504606846977 / min a 1152921504606846977:Nat):Int)<en b)=true:=qj (by unfold en;omega);rw [e1,qe];have e:=(Nat.div_lt_iff_lt_mul h0).1 d;rw [Nat.mul_comm] at e;unfold en;congr 1;omega
  ·have e1:decide (((1152921504606846977 / min a 1152921504606846977:Nat):Int)<en b)=false:=qf (by unfold en;omega);rw [e1,qd];have e:¬ 1152921504606846977<min b 1152921504606846977*min a 1152921504606846977:=fun h=>d ((Nat.div_lt_iff_lt_mul h0).2 h);rw [Nat.mul_comm] at e;rw [k1h (by omega),c];unfold en;rw [hc]
 ·have e0:decide (0<en a)=false:=qf (by unfold en;omega);rw [e0];simp only [qd,qa];have g:min a 1152921504606846977=0:=by omega
  rw [k1h (by rw [g,Nat.zero_mul];omega),c];unfold en;rw [hc]
def rowN (f:Nat->Nat) (n:Nat):List Int:=(List.range n).map fun m=>en (f m)
theorem knd (f:Nat->Nat) (n:Nat):(rowN f n).length=n:=by simp [rowN]
theorem ki5 (f:Nat->Nat) {n k:Nat} (h:k<n):(rowN f n)[k]?=some (en (f k)):=by simp [rowN,h]
theorem kh6 {f g:Nat->Nat} {n:Nat} (h:∀ m,m<n->f m=g m):rowN f n=rowN g n:=by unfold rowN;exact List.map_congr_left fun m hm=>by rw [h m (qbk.1 hm)]
theorem k0q (f:Nat->Nat) (n k v:Nat):(rowN f n).set k (en v)=rowN (fun m=>if m=k then v else f m) n:=by
 refine qbg fun i=>?_;rw [List.getElem?_set,knd];by_cases hk:k=i
 ·subst hk;rw [qo rfl];split;rename_i h;rw [ki5 _ h,qo rfl]
  ·rename_i h;rw [qaq (by rw [knd];omega)]
 ·rw [qi hk];by_cases hi:i<n;rw [ki5 _ hi,ki5 _ hi,qi (fun h=>hk h.symm)]
  ·rw [qaq (by rw [knd];omega),qaq (by rw [knd];omega)]
theorem k0k (n:Nat):List.replicate n (0:Int)=rowN (fun _=>0) n:=by
 refine qbg fun i=>?_;by_cases hi:i<n;rw [ki5 _ hi,List.getElem?_replicate,qo hi];rfl
 ·rw [List.getElem?_replicate,qi hi,qaq (by rw [knd];omega)]
def tabN (T:Int->Nat->Nat) (n m:Nat):List (List Int):=(List.range n).map fun s:Nat=>rowN (T (s:Int)) m
theorem kuv (T:Int->Nat->Nat) (n m:Nat):(tabN T n m).length=n:=by simp [tabN]
theorem kt0 (T:Int->Nat->Nat) {n m i:Nat} (hi:i<n):(tabN T n m)[i]?=some (rowN (T (i:Int)) m):=by simp [tabN,hi]
theorem kvv (T:Int->Nat->Nat) {n m:Nat} {s:Int} (h:0<=s/\s<(n:Int)):idx (tabN T n m) s=some (rowN (T s) m):=by obtain ⟨k,rfl⟩:=qax h.1;rw [kag];exact kt0 T (by omega)
theorem k2j {T T':Int->Nat->Nat} {n m:Nat} (h:∀ s k,k<m->T s k=T' s k):tabN T n m=tabN T' n m:=by unfold tabN;exact List.map_congr_left fun s hs=>kh6 fun k hk=>h _ k hk
theorem kahn (T:Int->Nat->Nat) {n m:Nat} {s:Int} (h:0<=s/\s<(n:Int)) (f:Nat->Nat):(tabN T n m).set s.toNat (rowN f m)=tabN (fun q=>if q=s then f else T q) n m:=by
 obtain ⟨k,rfl⟩:=qax h.1;refine qbg fun i=>?_;rw [List.getElem?_set,kuv];have hk:k<n:=by omega
 by_cases a:k=i;subst a;rw [qap,qo rfl,qo hk,kt0 _ hk,qo rfl]
 ·rw [qap,qi a];by_cases hi:i<n;rw [kt0 _ hi,kt0 _ hi,qi (by omega)]
  ·rw [qaq (by rw [kuv];omega),qaq (by rw [kuv];omega)]
theorem kai7 {T:Int->Nat->Nat} {ns M p:Nat} {a:Int} (ha:0<=a/\a<(ns:Int)) (hp:p<M) (d:p<=100) {i:Nat} (hi:i<=p) (x:List Int) (z:Int) (o g:Nat->Nat):
  kab (kbx (tabN T ns M) (p:Int) (z,rowN o (p+1)) a ((i:Int),x)) fuel (1,rowN g (p+1))=some (rowN (fun m=>if i<m then g m+o i*T a (m - i) else g m) (p+1)):=by
 have h:=kbs (kbx (tabN T ns M) (p:Int) (z,rowN o (p+1)) a ((i:Int),x)) (p - i) (fun j=>(((j+1:Nat):Int),rowN (fun m=>if i<m/\m<=i+j then g m+o i*T a (m - i) else g m) (p+1))) (rowN (fun m=>if i<m then g m+o i*T a (m - i) else g m) (p+1)) (fun j e=>by
  have ew:w64 ((i:Int)+((j+1:Nat):Int))=((i+j+1:Nat):Int):=by rw [kc3];omega
  have ew2:w64 (((j+1:Nat):Int)+1)=((j+1+1:Nat):Int):=by rw [kc3];omega
  have b:decide (((i+j+1:Nat):Int)<=(p:Int))=true:=qj (by omega);have e3:(rowN (fun m=>if i<m/\m<=i+j then g m+o i*T a (m - i) else g m) (p+1))[i+j+1]?=some (en (g (i+j+1))):=by rw [ki5 _ (by omega),qi (by omega)]
  have e4:(rowN (T a) M)[j+1]?=some (en (T a (j+1))):=ki5 _ (by omega);have e5:(rowN o (p+1))[i]?=some (en (o i)):=ki5 _ (by omega);simp only [kbx,ew,ew2,b,qe,kag,e3,e4,e5,kvv T ha,qa,kaez,k0y,qap,k0q];congr 3;refine kh6 fun m hm=>?_;by_cases h1:m=i+j+1;subst h1;rw [qo rfl,qo (by omega),show i+j+1 - i=j+1 by omega]
  ·rw [qi h1];by_cases c:i<m/\m<=i+j;rw [qo c,qo (by omega)]
   ·rw [qi c,qi (by omega)]) (by
  have ew:w64 ((i:Int)+((p - i+1:Nat):Int))=((p+1:Nat):Int):=by rw [kc3];omega
  have b:decide (((p+1:Nat):Int)<=(p:Int))=false:=qf (by omega);simp only [kbx,ew,b,qd];congr 2;refine kh6 fun m hm=>?_;by_cases c:i<m;rw [qo c,qo (by omega)]
  ·rw [qi c,qi (by omega)])
 rw [show rowN g (p+1)=rowN (fun m=>if i<m/\m<=i+0 then g m+o i*T a (m - i) else g m) (p+1) from kh6 fun m hm=>by rw [qi (by omega)]];exact h
theorem kakh {T:Int->Nat->Nat} {ns M p:Nat} {a:Int} (ha:0<=a/\a<(ns:Int)) (hp:p<M) (c:p<=100) (z:Int) (o:Nat->Nat) (d:T a 0=0):
  kab (kaw (tabN T ns M) (p:Int) (z,rowN o (p+1)) a) fuel (0,rowN (fun _=>0) (p+1))=some (rowN (NS.conv o (T a)) (p+1)):=by
 have h:=kbs (kaw (tabN T ns M) (p:Int) (z,rowN o (p+1)) a) (p+1) (fun j=>((j:Int),rowN (fun m=>NS.sum (fun i=>o i*T a (m - i)) (min j m)) (p+1))) (rowN (NS.conv o (T a)) (p+1)) (fun j e=>by
  have b:decide ((j:Int)<=(p:Int))=true:=qj (by omega);simp only [kaw,b,qe,qa,kai7 ha hp c (show j<=p by omega),kee e (show p+1<=9223372036854775807 by omega)];congr 3;refine kh6 fun m hm=>?_;by_cases h1:j<m;rw [qo h1,show min j m=j by omega,show min (j+1) m=j+1 by omega];rfl
  ·rw [qi h1,show min j m=m by omega,show min (j+1) m=m by omega]) (by
  have b:decide (((p+1:Nat):Int)<=(p:Int))=false:=qf (by omega);simp only [kaw,b,qd];congr 2;refine kh6 fun m hm=>?_;unfold SR.conv;rw [SR.sum,show min (p+1) m=m by omega,qbs,d];show _=_+o m*0;rw [Nat.mul_zero,Nat.add_zero];rfl)
 rw [show rowN (fun _=>0) (p+1)=rowN (fun m=>NS.sum (fun i=>o i*T a (m - i)) (min 0 m)) (p+1) from kh6 fun m hm=>by rw [Nat.zero_min];rfl];exact h
theorem kafs (t:List (List Int)) (p a z z':Int) (s:List Int) (v6:Int×List Int):kbx t p (z,s) a v6=kbx t p (z',s) a v6:=by funext v7;unfold kbx;rfl
theorem kafr (t:List (List Int)) (p a z z':Int) (s:List Int):kaw t p (z,s) a=kaw t p (z',s) a:=by funext v6;unfold kaw;rw [kafs t p a z z' s v6]
theorem k44 {T:Int->Nat->Nat} {ns M p:Nat} (hp:p<M) (c:p<=100) (d:∀ a,T a 0=0):∀ (ys:List Int) (o:Nat->Nat),(∀ a∈ys,0<=a/\a<(ns:Int)) ->
  ys.foldlM (fun (s:List Int) a=>Option.bind (mkL 8 (0:Int) ((p+1:Nat):Int)) fun v5=>kab (kaw (tabN T ns M) (p:Int) (0,s) a) fuel (0,v5)) (rowN o (p+1))=some (rowN (NS.lf T o ys) (p+1))
 | [],o,_=>rfl
 | a::ys,o,ha=>by
  have e:(Option.bind (mkL 8 (0:Int) ((p+1:Nat):Int)) fun v5=>kab (kaw (tabN T ns M) (p:Int) (0,rowN o (p+1)) a) fuel (0,v5))=some (rowN (NS.conv o (T a)) (p+1)):=by rw [kxg 8 (0:Int) (p+1),qa,k0k,kakh (ha a (qu ..)) hp c 0 o (d a)]
  rw [qbw,e];exact k44 hp c d ys (NS.conv o (T a)) fun b f=>ha b (qh _ f)
theorem kam3:en 1=1:=by unfold en;rw [Nat.min_eq_left (by omega)];rfl
theorem kald (p:Nat):(rowN (fun _=>0) (p+1)).set (Int.toNat 0) 1=rowN NS.dlt (p+1):=by rw [<- kam3,Int.toNat_zero,k0q];refine kh6 fun m hm=>?_;unfold SR.dlt;split <;> rfl
theorem kago {T:Int->Nat->Nat} {ns M p:Nat} (hp:p<M) (b:p<=100) (c:∀ a,T a 0=0) (ys:List Int) (hl:ys.length<=1000000) (ha:∀ a∈ys,0<=a/\a<(ns:Int)):kab (ked (tabN T ns M) ys (p:Int)) fuel (0,rowN NS.dlt (p+1))=some (rowN (NS.lf T NS.dlt ys) (p+1)):=by
 have ew:w64 ((p:Int)+1)=((p+1:Nat):Int):=by rw [kc3];omega
 rw [kr3 (step:=ked (tabN T ns M) ys (p:Int)) ys (fun (s:List Int) a=>Option.bind (mkL 8 (0:Int) ((p+1:Nat):Int)) fun v5=>kab (kaw (tabN T ns M) (p:Int) (0,s) a) fuel (0,v5)) (fun i s=>(i,s)) (by omega) (fun i a s hx=>by
  have hi:=kho hx;have d:=kafr (tabN T ns M) (p:Int) a (i:Int) 0 s;unfold ked;simp only;rw [kfq hi,qe,kag,hx,qa,ew,kee hi (show ys.length<=9223372036854775807 by omega),d];cases mkL 8 (0:Int) ((p+1:Nat):Int) with
  | none=>rfl
  | some v=>rw [qa,qa];cases kab (kaw (tabN T ns M) (p:Int) (0,s) a) fuel (0,v) <;> rfl) (fun s=>by unfold ked;simp only;rw [kfm,qd])]
 exact k44 hp b c ys NS.dlt ha
theorem kaah (T:Int->Nat->Nat) (ns M p:Nat) (c:∀ a,T a 0=0) (ys:List Int) (ha:∀ a∈ys,0<=a/\a<(ns:Int)) (hp:p<M:=by omega) (b:p<=100:=by omega) (hl:ys.length<=1000000:=by omega):kef (tabN T ns M) ys (p:Int)=some (en (NS.rr T ys p)):=by
 have ew:w64 ((p:Int)+1)=((p+1:Nat):Int):=by rw [kc3];omega
 have e0:idx (rowN (fun _=>0) (p+1)) 0=some (en 0):=by have:=ki5 (fun _=>0) (show 0<p+1 by omega);rw [show (0:Int)=((0:Nat):Int) from rfl,kag,this]
 have es:=kald p;unfold kef;rw [ew,kxg 8 (0:Int) (p+1),k0k];simp only [qa,e0,es];rw [kago hp b c ys hl ha];simp only [qa,kag,ki5 _ (show p<p+1 by omega),NS.lf_dlt]
def tabQ (l:La):Nat->Int->Nat->Nat:=NS.tab l.rules.length (kc4 l) (kal l) (fun _=>1)
theorem kun (l:La) (n:Nat) (s:Int) (k:Nat) (h:k<=n:=by omega):tabQ l n s k=VN l s k:=by unfold tabQ;rw [SR.tab_eq,qo h];rfl
theorem kaj7 (l:La) (n:Nat) (s:Int) (k:Nat) (h:n<k):tabQ l n s k=0:=by unfold tabQ;rw [SR.tab_eq,qi (by omega)];rfl
def midC (l:La) (n i:Nat) (s:Int) (k:Nat):Nat:=if k=n+1 then NS.sum (fun i=>if kc4 l i=s then 1*NS.rr (tabQ l n) (kal l i) n else 0) i else tabQ l n s k
theorem kage {l:La} (m:kfj l) {n most:Nat} (hn:n<most) (hm:most<=24) (z:List (List Int)):
  kab (kdt l (((n+1:Nat):Int),z)) fuel (0,tabN (tabQ l n) l.symbols.length (most+1))=some (tabN (tabQ l (n+1)) l.symbols.length (most+1)):=by
 have o:=m.rules;have ew:w64 (((n+1:Nat):Int) - 1)=(n:Int):=by rw [kc3];omega
 have h:=kbs (kdt l (((n+1:Nat):Int),z)) l.rules.length (fun i=>((i:Int),tabN (midC l n i) l.symbols.length (most+1))) (tabN (tabQ l (n+1)) l.symbols.length (most+1)) (fun i hi=>by
  obtain ⟨y,hy,hs,g,e⟩:=klz l hi;have gy:=m.good y e;have q:=gy.few;have f:0<=y.symbol/\y.symbol<(l.symbols.length:Int):=⟨gy.sym0,gy.sym1⟩;have d:=kaah (midC l n i) l.symbols.length (most+1) n (fun a=>by unfold midC;rw [qi (by omega),kun l n a 0];rfl) y.args gy.args;have j:NS.rr (midC l n i) y.args n=NS.rr (tabQ l n) y.args n:=NS.rr_congr _ _ fun a _ k hk=>by unfold midC;rw [qi (by omega)]
  rw [j] at d;have e3:(rowN (midC l n i y.symbol) (most+1))[n+1]?=some (en (midC l n i y.symbol (n+1))):=ki5 _ (by omega);simp only [kdt,kfq hi,qe,kag,hy,qa,kvv _ f,ew,e3,d,k0y,kee hi (show l.rules.length<=9223372036854775807 by omega),qap,k0q,kahn _ f];congr 3;refine k2j fun s k hk=>?_;unfold midC;by_cases c:s=y.symbol
  ·rw [qo c];by_cases b:k=n+1;rw [qo b,qo b,qo rfl,SR.sum,<- hs,<- c,qo rfl,<- g,Nat.one_mul];rfl
   ·rw [qi b,qi b,qi b,c]
  ·rw [qi c];by_cases b:k=n+1;rw [qo b,qo b,SR.sum,<- hs,qi (fun h=>c h.symm)];exact (Nat.add_zero _).symm
   ·rw [qi b,qi b]) (by
  simp only [kdt,kfm,qd];rfl)
 have h0:tabN (tabQ l n) l.symbols.length (most+1)=tabN (midC l n 0) l.symbols.length (most+1):=k2j fun s k hk=>by
  unfold midC;by_cases b:k=n+1;rw [qo b,kaj7 l n s k (by omega)];rfl
  ·rw [qi b]
 rw [h0];exact h
theorem kag2 (ns:Nat) (c:ns<=16) {most:Nat} (hm:most<=24) (T:Int->Nat->Nat) (d:∀ s k,T s k=0):kab (kds (most:Int)) fuel (0,List.replicate ns ([]:List Int))=some (tabN T ns (most+1)):=by
 have ew:w64 ((most:Int)+1)=((most+1:Nat):Int):=by rw [kc3];omega
 have h:=kbs (kds (most:Int)) ns (fun j=>((j:Int),List.replicate j (rowN (fun _=>0) (most+1))++List.replicate (ns - j) ([]:List Int))) (tabN T ns (most+1)) (fun j b=>by
  have a:(List.replicate j (rowN (fun _=>0) (most+1))++List.replicate (ns - j) ([]:List Int)).length=ns:=by rw [qah,qby,qby];omega
  have e1':(List.replicate j (rowN (fun _=>0) (most+1))++List.replicate (ns - j) ([]:List Int))[j]?=some []:=by rw [qae (by rw [qby];omega),qby,qbs,List.getElem?_replicate,qo (by omega)]
  have e2':(List.replicate j (rowN (fun _=>0) (most+1))++List.replicate (ns - j) ([]:List Int)).set j (rowN (fun _=>0) (most+1))=List.replicate (j+1) (rowN (fun _=>0) (most+1))++List.replicate (ns - (j+1)) ([]:List Int):=by rw [List.set_append_right _ _ (by rw [qby];omega),qby,qbs,show ns - j=(ns - (j+1))+1 by omega,List.replicate_succ,List.set_cons_zero,List.replicate_succ',qbh];rfl
  simp only [kds,a,kfq b,qe,ew,kxg 8 (0:Int) (most+1),k0k,qa,kag,e1',qap,e2',kee b (show ns<=9223372036854775807 by omega)]) (by
  have a:(List.replicate ns (rowN (fun _=>0) (most+1))++List.replicate (ns - ns) ([]:List Int)).length=ns:=by simp
  simp only [kds,a,kfm,qd];congr 2;rw [qbs,List.replicate_zero,List.append_nil];refine qbg fun i=>?_;by_cases hi:i<ns;rw [List.getElem?_replicate,qo hi,kt0 T hi];congr 1;exact kh6 fun m _=>(d _ _).symm
  ·rw [List.getElem?_replicate,qi hi,qaq (by rw [kuv];omega)])
 rw [Nat.sub_zero,List.replicate_zero,List.nil_append] at h;exact h
theorem k0s {l:La} (c:kfj l) {most:Nat} (hm:most<=24:=by omega):kd4 l (most:Int)=some (tabN (tabQ l most) l.symbols.length (most+1)):=by
 have b:=c.sym16;unfold kd4;simp only [kxg 24 ([]:List Int) l.symbols.length,qa,kag2 l.symbols.length b hm (tabQ l 0) (fun _ _=>rfl)];have h:=kbs (kdq l (most:Int)) most (fun j=>(((j+1:Nat):Int),tabN (tabQ l j) l.symbols.length (most+1))) (tabN (tabQ l most) l.symbols.length (most+1)) (fun j d=>by
  have a:decide (((j+1:Nat):Int)<=(most:Int))=true:=qj (by omega);have ew:w64 (((j+1:Nat):Int)+1)=((j+1+1:Nat):Int):=by rw [kc3];omega
  simp only [kdq,a,qe,kage c d hm,qa,ew]) (by
  have a:decide (((most+1:Nat):Int)<=(most:Int))=false:=qf (by omega);simp only [kdq,a,qd])
 rw [show kab (kdq l (most:Int)) fuel (1,tabN (tabQ l 0) l.symbols.length (most+1))=_ from h];rfl
theorem kaag {l:La} {c:Int} (hc:kan l=some c) (s k:Int):ke5 l s k=some (errC l c s k):=by
 unfold ke5 errC;rw [hc,qa,kaai];by_cases h:c=0;rw [h,bne_self_eq_false,qi (by simp)];cases badQ l s k <;> rfl
 ·rw [show (c != 0)=true by rw [qba];exact h,qo h];rfl
theorem k4w {l:La} (b:kfj l) {c s k:Int} (hc:kan l=some c):ke3 l s k=some (if errC l c s k≠0 then (0,errC l c s k) else ansC (VN l s k.toNat)):=by
 unfold ke3;rw [kaag hc,qa];by_cases a:errC l c s k=0
 ·obtain ⟨_,h1,d,e,f⟩:=kpl a;obtain ⟨n,rfl⟩:=qax (show 0<=k by omega);rw [a,bne_self_eq_false,qi (by simp),qap,qd,k0s b,qa,kvv _ ⟨h1,d⟩,qa,kag,ki5 _ (by omega),qa,kun l n s n (h:=(qx _))];unfold ansC;by_cases hx:1152921504606846976<en (VN l s n);rw [qj hx,qo hx];rfl
  ·rw [qf hx,qi hx];rfl
 ·rw [show (errC l c s k != 0)=true by rw [qba];exact a,qo a];rfl
theorem k4o {l:La} (g:kfj l) {c s k:Int} (hc:kan l=some c):kfb l s k=some (if errC l c s k≠0 then (0,errC l c s k) else ansC (totC l s k.toNat)):=by
 unfold kfb;rw [kaag hc,qa];by_cases b:errC l c s k=0
 ·obtain ⟨_,h1,h,m,o⟩:=kpl b;obtain ⟨n,rfl⟩:=qax (show 0<=k by omega);have f:=kbs (kdw (rowN (tabQ l n s) (n+1))) (n+1) (fun j=>(en (NS.sum (tabQ l n s) j),(j:Int))) (en (NS.sum (tabQ l n s) (n+1))) (fun j d=>by
   unfold kdw;simp only;rw [knd,kfq d,qe,kag,ki5 _ d,qa,k0y,qa,kee d (by omega)];rfl) (by
   unfold kdw;simp only;rw [knd,kfm,qd])
  have a:NS.sum (tabQ l n s) (n+1)=totC l s n:=by have e:NS.sum (tabQ l n s) (n+1)=NS.sum (VN l s) (n+1):=NS.sum_congr _ fun i hi=>kun l n s i;rw [e,NS.sum_shift];show VN l s 0+totC l s n=_;rw [show VN l s 0=0 from rfl,Nat.zero_add]
  rw [a] at f;rw [b,bne_self_eq_false,qi (by simp),qap,qd,k0s g,qa,kvv _ ⟨h1,h⟩,qa];rw [show kab (kdw (rowN (tabQ l n s) (n+1))) fuel (0,0)=_ from f,qa];unfold ansC;by_cases hx:1152921504606846976<en (totC l s n);rw [qj hx,qo hx];rfl
  ·rw [qf hx,qi hx];rfl
 ·rw [show (errC l c s k != 0)=true by rw [qba];exact b,qo b];rfl
theorem kagp {n:Nat} (h:¬ (1152921504606846976:Int)<en n):en n=(n:Int):=by unfold en at *; omega
theorem kaic (F:Nat->Nat->Nat) (n:Nat):∀ m,NS.sum (fun j=>NS.sum (fun i=>F i j) n) m=NS.sum (fun i=>NS.sum (fun j=>F i j) m) n
 | 0=>(NS.sum_zero n fun i _=>rfl).symm
 | m+1=>by rw [SR.sum,kaic F n m,<- NS.sum_add];exact NS.sum_congr _ fun i _=>rfl
theorem kang (l:La) (s:Int) (k:Nat):VN l s (k+1)=NS.sum (fun i=>if kc4 l i=s then NS.rr (VN l) (kal l i) k else 0) l.rules.length:=by
 unfold VN;rw [NS.val_succ];refine NS.sum_congr _ fun i _=>?_;split;exact Nat.one_mul _
 ·rfl
theorem kaav (l:La) (y:Int) (tl:List Int) (k:Nat):NS.rr (VN l) (y::tl) (k+1)=((plL l y l.rules.length).map fun i=>NS.rr (VN l) (kal l i++tl) k).sum:=by
 rw [SR.rr,kyf,NS.sum_shift];show VN l y 0*_+_=_;rw [show VN l y 0=0 from rfl,Nat.zero_mul,Nat.zero_add];have h1:NS.sum (fun i=>NS.mul (VN l y (i+1)) (NS.rr (VN l) tl (k+1 - (i+1)))) (k+1)=NS.sum (fun j=>NS.sum (fun i=>(if kc4 l i=y then NS.rr (VN l) (kal l i) j else 0)*NS.rr (VN l) tl (k - j)) l.rules.length) (k+1):=NS.sum_congr _ fun j _=>by rw [kang,NS.sum_mul,show k+1 - (j+1)=k - j by omega];exact NS.sum_congr _ fun i _=>rfl
 rw [h1,kaic];refine NS.sum_congr _ fun i _=>?_;by_cases h:kc4 l i=y;simp only [qo h];exact (NS.rr_append (V:=VN l) (kal l i) tl k).symm
 ·simp only [qi h,Nat.zero_mul];exact NS.sum_zero _ fun j _=>rfl
def ksm (f:Nat->Nat):List Nat->Nat->Option (Nat×Nat)
 | [],_=>none
 | i::is,n=>if n<f i then some (i,n) else ksm f is (n - f i)
theorem k32 (f:Nat->Nat):∀ (is:List Nat) (n:Nat),n<(is.map f).sum->∃ pre i post n',is=pre++i::post/\ksm f is n=some (i,n')/\n'<f i/\n=(pre.map f).sum+n'
 | [],n,h=>by simp at h
 | i::is,n,h=>by
  rw [qa0,List.sum_cons] at h;unfold ksm;by_cases hi:n<f i;rw [qo hi];exact ⟨[],i,is,n,rfl,rfl,hi,by simp⟩
  ·rw [qi hi];obtain ⟨pre,j,post,n',h1,a,b,c⟩:=k32 f is (n - f i) (by omega);exact ⟨i::pre,j,post,n',by rw [h1];rfl,a,b,by rw [qa0,List.sum_cons];omega⟩
def chS (l:La) (r:List Int->Nat->List Tm) (tl:List Int):Option (Nat×Nat)->List Tm
 | none=>[]
 | some (i,n')=>Tm.mk (i:Int) ((r (kal l i++tl) n').take (kal l i).length)::(r (kal l i++tl) n').drop (kal l i).length
def chT (l:La):Nat->List Int->Nat->List Tm
 | 0,_,_=>[]
 | k+1,[],_=>[]
 | k+1,y::tl,n=>chS l (chT l k) tl (ksm (fun i=>NS.rr (VN l) (kal l i++tl) k) (plL l y l.rules.length) n)
theorem k1y (l:La) {k:Nat} {y:Int} {tl:List Int} {n:Nat} (h:n<NS.rr (VN l) (y::tl) (k+1)):∃ pre i post n',plL l y l.rules.length=pre++i::post/\n'<NS.rr (VN l) (kal l i++tl) k/\n=(pre.map fun i=>NS.rr (VN l) (kal l i++tl) k).sum+n' /\
  chT l (k+1) (y::tl) n=Tm.mk (i:Int) ((chT l k (kal l i++tl) n').take (kal l i).length)::(chT l k (kal l i++tl) n').drop (kal l i).length:=by
 rw [kaav] at h;obtain ⟨pre,i,post,n',h1,a,b,c⟩:=k32 _ _ _ h;refine ⟨pre,i,post,n',h1,b,c,?_⟩;show chS l (chT l k) tl (ksm (fun i=>NS.rr (VN l) (kal l i++tl) k) (plL l y l.rules.length) n)=_;rw [a];rfl
theorem k3t {l:La} {ys:List Int} {n:Nat} (h:n<NS.rr (VN l) ys 0):ys=[]:=by
 cases ys with
 | nil=>rfl
 | cons y tl=>
  have:=NS.rr_small (V:=VN l) (fun a=>rfl) (y::tl) 0 (by rw [qy];omega);rw [this] at h;exact absurd h (Nat.not_lt_zero n)
theorem kyw {l:La} {k n:Nat} (h:n<NS.rr (VN l) [] (k+1)):False:=by rw [SR.rr,qi (by omega)] at h;exact absurd h (Nat.not_lt_zero n)
theorem k9s (l:La):∀ (k:Nat) (ys:List Int) (n:Nat),n<NS.rr (VN l) ys k->(chT l k ys n).length=ys.length
 | 0,ys,n,h=>by rw [k3t h];rfl
 | k+1,[],n,h=>(kyw h).elim
 | k+1,y::tl,n,h=>by obtain ⟨pre,i,post,n',h1,a,c,b⟩:=k1y l h;have ih:=k9s l k _ n' a;rw [b,qy,qa9,ih,qah,qy];omega
theorem kaj1 {l:La} {ys:List Int} {k n:Nat} (h:n<NS.rr (VN l) ys k):ys.length<=k:=by
 by_cases hl:ys.length<=k;exact hl
 ·have:=NS.rr_small (V:=VN l) (fun a=>rfl) ys k (by omega);rw [this] at h;exact absurd h (Nat.not_lt_zero n)
theorem k8t (g:Tm->Int):∀ a b:List Tm,Tm.preL g (a++b)=Tm.preL g a++Tm.preL g b
 | [],b=>rfl
 | x::a,b=>by show x.pre g++Tm.preL g (a++b)=(x.pre g++Tm.preL g a)++Tm.preL g b;rw [k8t g a b,qbh]
theorem k1r (i:Int) (q:List Tm) (a:Nat):Tm.preL Tm.rule (Tm.mk i (q.take a)::q.drop a)=i::Tm.preL Tm.rule q:=by show (Tm.mk i (q.take a)).pre Tm.rule++Tm.preL Tm.rule (q.drop a)=_;rw [k2n];show i::(Tm.preL Tm.rule (q.take a)++Tm.preL Tm.rule (q.drop a))=_;rw [<- k8t,List.take_append_drop]
theorem kagw (l:La):∀ (k:Nat) (ys:List Int) (n:Nat),n<NS.rr (VN l) ys k->Tm.sizeL (chT l k ys n)=k:=fun k ys n h=>by
 rw [<- Tm.preL_length Tm.rule]
 induction k generalizing ys n with
 | zero=>rfl
 | succ k ih=>
  cases ys with
  | nil=>exact (kyw h).elim
  | cons y tl=>
   obtain ⟨pre,i,post,n',_,a,_,b⟩:=k1y l h;rw [b,k1r,qy,ih _ n' a]
theorem kacd (l:La) (s:Int) (n:Nat):(plL l s n).Pairwise (·<·):=List.Pairwise.filter _ List.pairwise_lt_range
def k52:Tm:=Tm.mk 0 []
def k59 (l:La) (c s k n:Int):Tm×Int:=
 if errC l c s k≠0 then (k52,errC l c s k) else
 if (ansC (VN l s k.toNat)).2≠0 then (k52,(ansC (VN l s k.toNat)).2) else
 if n<0\/(ansC (VN l s k.toNat)).1<=n then (k52,1) else ((chT l k.toNat [s] n.toNat).headD k52,0)
theorem k9u (l:La) (s:Int) (k:Nat):NS.rr (VN l) [s] k=VN l s k:=(NS.rr_one _ _ _).trans (NS.mul_one _)
mutual
def isT (l:La):Tm->Int->Bool
 | .mk r xs,s=>(decide (0<=r) && (decide (r<(l.rules.length:Int)) && kc4 l r.toNat == s)) && isL l xs (kal l r.toNat)
def isL (l:La):List Tm->List Int->Bool
 | [],[]=>true
 | x::xs,a::ys=>isT l x a && isL l xs ys
 | [],_::_=>false
 | _::_,[]=>false
end
theorem k91 (l:La):∀ (xs:List Tm) (ys:List Int),isL l xs ys=true->xs.length=ys.length
 | [],[],_=>rfl
 | x::xs,a::ys,h=>by rw [isL,qp] at h;rw [qy,qy,k91 l xs ys h.2]
 | [],_::_,h=>by rw [isL] at h;cases h
 | _::_,[],h=>by rw [isL] at h;cases h
theorem kaa2 (l:La):∀ (ys vs:List Int) (q:List Tm),isL l q (ys++vs)=true->isL l (q.take ys.length) ys=true/\isL l (q.drop ys.length) vs=true
 | [],vs,q,h=>by rw [qbn,List.take_zero,List.drop_zero];exact ⟨by rw [isL],h⟩
 | a::ys,vs,[],h=>by have h:isL l [] (a::(ys++vs))=true:=h;rw [isL] at h;cases h
 | a::ys,vs,x::q,h=>by have h:isL l (x::q) (a::(ys++vs))=true:=h;rw [isL,qp] at h;obtain ⟨h1,b⟩:=kaa2 l ys vs q h.2;rw [qy,List.take_succ_cons,List.drop_succ_cons,isL,qp];exact ⟨⟨h.1,h1⟩,b⟩
theorem kafa (l:La):∀ (k:Nat) (ys:List Int) (n:Nat),n<NS.rr (VN l) ys k->isL l (chT l k ys n) ys=true
 | 0,ys,n,h=>by rw [k3t h];show isL l [] []=true;rw [isL]
 | k+1,[],n,h=>(kyw h).elim
 | k+1,y::tl,n,h=>by obtain ⟨pre,i,post,n',h1,a,c,b⟩:=k1y l h;have ih:=kafa l k _ n' a;obtain ⟨c1,c2⟩:=kaa2 l _ _ _ ih;have hm:=ko2 (show i∈plL l y l.rules.length by rw [h1];simp);rw [b,isL,isT,qap,c1,c2,qj (show (0:Int)<=(i:Int) by omega),qj (show (i:Int)<(l.rules.length:Int) by omega),hm.2];simp
theorem kaca {L pre post:List Nat} {i:Nat} (h:L=pre++i::post) (hs:L.Pairwise (·<·)):(L.filter fun j:Nat=>decide ((j:Int)<(i:Int)))=pre:=by
 subst h;rw [List.pairwise_append] at hs;obtain ⟨_,b,c⟩:=hs;rw [List.pairwise_cons] at b;have e1:pre.filter (fun j:Nat=>decide ((j:Int)<(i:Int)))=pre:=List.filter_eq_self.2 fun j a=>qj (by have:=c j a i (qu ..);omega);have e2:post.filter (fun j:Nat=>decide ((j:Int)<(i:Int)))=[]:=List.filter_eq_nil_iff.2 fun j a=>by have:=b.1 j a;simp;omega
 rw [List.filter_append,List.filter_cons,e1,e2,qi (by simp),List.append_nil]
theorem k9b (l:La):∀ (xs:List Tm) (ys:List Int) (i:Nat) (hi:i<xs.length),isL l xs ys=true->∃ a,ys[i]?=some a/\isT l xs[i] a=true
 | x::xs,a::ys,0,_,h=>by rw [isL,qp] at h;exact ⟨a,rfl,h.1⟩
 | x::xs,a::ys,i+1,hi,h=>by rw [isL,qp] at h;obtain ⟨b,h1,c⟩:=k9b l xs ys i (by simpa using hi) h.2;exact ⟨b,by simpa using h1,by simpa using c⟩
 | x::xs,[],i,_,h=>by rw [isL] at h;cases h
theorem kamz {l:La} {t:Tm} {s:Int} (h:isT l t s=true):∃ i:Nat,t.rule=(i:Int)/\i<l.rules.length/\kc4 l i=s/\isL l t.args (kal l i)=true:=by obtain ⟨r,xs⟩:=t;rw [isT] at h;simp only [qp,qbx,beq_iff_eq] at h;obtain ⟨⟨h1,c,a⟩,b⟩:=h;obtain ⟨i,rfl⟩:=qax h1;rw [qap] at a b;exact ⟨i,rfl,by omega,a,b⟩
theorem kae2 (l:La) (y:Int) (r:Nat):∀ n,r<=n->(plL l y n).filter (fun j:Nat=>decide ((j:Int)<(r:Int)))=plL l y r
 | 0,h=>by
  have:r=0:=by omega
  subst this;rfl
 | n+1,h=>by
  by_cases hr:r=n+1;subst hr;refine List.filter_eq_self.2 fun j a=>qj ?_;have:=(ko2 a).1;omega
  ·rw [k0i,List.filter_append,kae2 l y r n (by omega)];split;rw [List.filter_cons,qi (by simp;omega),List.filter_nil,List.append_nil]
   ·rw [List.filter_nil,List.append_nil]
theorem kajv {l:La} (E:kfj l) {size:Nat} (H:size<=24) {y:Int} {tl:List Int} (t:inR l tl) (u:tl.length<=24) (k:Nat) {n i n':Nat} {pre post:List Nat} (hk:k<size) (h1:plL l y l.rules.length=pre++i::post) (P:n'<NS.rr (VN l) (kal l i++tl) k) (Q:n=(pre.map fun i=>NS.rr (VN l) (kal l i++tl) k).sum+n') (I:n<=1152921504606846976) (n0:Int) (op0 rs:List Int) (J:rs.length<=1000):
  kab (kc5 l (tabN (tabQ l size) l.symbols.length (size+1)) (n0,op0,((k+1:Nat):Int),rs)) fuel ((n:Int),y::tl,0)=some ((n':Int),kal l i++tl,rs++[(i:Int)]):=by
 have K:=E.rules;have f:idx (y::tl) 0=some y:=rfl;have g:=ko2 (show i∈plL l y l.rules.length by rw [h1];simp);have ew:w64 (((k+1:Nat):Int) - 1)=(k:Int):=by rw [kc3];omega
 have o:pre=plL l y i:=by have h:=kaca h1 (kacd l y l.rules.length);rw [kae2 l y i _ (by omega)] at h;exact h.symm
 have F:(pre.map fun i=>NS.rr (VN l) (kal l i++tl) k).sum=NS.sum (fun i=>if kc4 l i=y then NS.rr (VN l) (kal l i++tl) k else 0) i:=by rw [o];exact kyf l y _ i
 have one:∀ j,j<l.rules.length->∃ z,l.rules[j]?=some z/\z.symbol=kc4 l j/\z.args=kal l j/\(app 8 [] z.args=some z.args/\cutL (y::tl) 1 (((y::tl).length:Nat):Int)=some tl/\app 8 z.args tl=some (kal l j++tl))/\kef (tabN (tabQ l size) l.symbols.length (size+1)) (kal l j++tl) (k:Int)=some (en (NS.rr (VN l) (kal l j++tl) k)):=fun j G=>by
  obtain ⟨z,L,w,e,r⟩:=klz l G;have gz:=E.good z r;have N:=gz.few;have x:inR l (kal l j++tl):=fun b m=>by
   rcases qau.1 m with m | m;rw [<- e] at m;exact gz.args b m
   ·exact t b m
  have O:(kal l j++tl).length<=100:=by rw [qah,<- e];omega
  have c:=kaah (tabQ l size) l.symbols.length (size+1) k (fun b=>by rw [kun l size b 0];rfl) (kal l j++tl) x;have A:NS.rr (tabQ l size) (kal l j++tl) k=NS.rr (VN l) (kal l j++tl) k:=NS.rr_congr _ _ fun b _ q R=>kun l size b q;rw [A] at c;exact ⟨z,L,w,e,⟨by rw [kfe (by simp;omega)];rfl,kld y tl,by rw [<- e];exact kfe (by omega)⟩,c⟩
 obtain ⟨v,v1,v2⟩:=krr (step:=kc5 l (tabN (tabQ l size) l.symbols.length (size+1)) (n0,op0,((k+1:Nat):Int),rs)) i (by omega)
  (fun j st=>∃ a:Nat,st=((a:Int),y::tl,(j:Int))/\a+NS.sum (fun i=>if kc4 l i=y then NS.rr (VN l) (kal l i++tl) k else 0) j=n) (fun v=>v=((n':Int),kal l i++tl,rs++[(i:Int)])) (fun j st G hp=>by
   left;obtain ⟨a,rfl,ha⟩:=hp;obtain ⟨z,o1,o2,o3,o4,o5⟩:=one j (by omega);have B:=kzv (fun i=>if kc4 l i=y then NS.rr (VN l) (kal l i++tl) k else 0) (show j+1<=i by omega);have d:NS.sum (fun i=>if kc4 l i=y then NS.rr (VN l) (kal l i++tl) k else 0) (j+1)=NS.sum (fun i=>if kc4 l i=y then NS.rr (VN l) (kal l i++tl) k else 0) j+(if kc4 l j=y then NS.rr (VN l) (kal l j++tl) k else 0):=rfl;have ej:=kee (show j<l.rules.length by omega) (by omega);by_cases hs:kc4 l j=y;rw [qo hs] at d;have C:en (NS.rr (VN l) (kal l j++tl) k)=((NS.rr (VN l) (kal l j++tl) k:Nat):Int):=(by unfold en;omega);refine ⟨(((a - NS.rr (VN l) (kal l j++tl) k:Nat):Int),y::tl,((j+1:Nat):Int)),?_,_,rfl,by omega⟩;unfold kc5;simp only;rw [kfq (show j<l.rules.length by omega),qe,kag,o1,qa,f,qa,show (z.symbol != y)=false by rw [o2,hs];exact bne_self_eq_false y,qd,o4.1,qa,o4.2.1,qa,o4.2.2,qa,ew,o5,qa,C,qf (show ¬ (a:Int)<((NS.rr (VN l) (kal l j++tl) k:Nat):Int) by omega),qd,kc3,ej];simp only [qa,qaf];congr 3;omega
   ·rw [qi hs] at d;refine ⟨((a:Int),y::tl,((j+1:Nat):Int)),?_,a,rfl,by omega⟩;unfold kc5;simp only;rw [kfq (show j<l.rules.length by omega),qe,kag,o1,qa,f,qa,show (z.symbol != y)=true by rw [qba,o2];exact hs,qe,ej];rfl) (fun st hp=>by
   obtain ⟨a,rfl,ha⟩:=hp;obtain ⟨z,o1,o2,o3,o4,o5⟩:=one i g.1;have D:a=n':=(by omega);subst D;refine ⟨((a:Int),kal l i++tl,rs++[(i:Int)]),?_,rfl⟩;have s:app 8 rs [(i:Int)]=some (rs++[(i:Int)]):=kfe (by rw [qaz];omega);unfold kc5;simp only;rw [kfq g.1,qe,kag,o1,qa,f,qa,show (z.symbol != y)=false by rw [o2,g.2];exact bne_self_eq_false y,qd,o4.1,qa,o4.2.1,qa,o4.2.2,qa,ew,o5,qa,qj (show (a:Int)<en (NS.rr (VN l) (kal l i++tl) k) by unfold en;omega),qe,s];rfl) ((n:Int),y::tl,0) ⟨n,rfl,rfl⟩
 rw [v1,v2]
theorem kakt {l:La} (r:kfj l) {size:Nat} (j:size<=24) {s:Int} (s0:0<=s) (s1:s<(l.symbols.length:Int)) {n:Nat} (hn:n<NS.rr (VN l) [s] size) (u:n<=1152921504606846976):
  kab (keb l (tabN (tabQ l size) l.symbols.length (size+1))) fuel ((n:Int),[s],(size:Int),[])=some (Tm.preL Tm.rule (chT l size [s] n)):=by
 have f:inR l [s]:=fun y hy=>by
  rcases qac.1 hy with rfl | hy;exact ⟨s0,s1⟩
  ·cases hy
 obtain ⟨v,v1,v2⟩:=krr (step:=keb l (tabN (tabQ l size) l.symbols.length (size+1))) size (by omega)
  (fun q st=>∃ a:Nat,st.1=(a:Int)/\st.2.2.1=((size - q:Nat):Int)/\inR l st.2.1/\a<NS.rr (VN l) st.2.1 (size - q)/\a<=n/\st.2.2.2.length=q/\st.2.2.2++Tm.preL Tm.rule (chT l (size - q) st.2.1 a)=Tm.preL Tm.rule (chT l size [s] n)) (fun v=>v=Tm.preL Tm.rule (chT l size [s] n)) (fun q st x hp=>by
   left;obtain ⟨cur,op,left,rs⟩:=st;obtain ⟨a,p1,p2,p3,p4,p5,p6,p7⟩:=hp;simp only at p1 p2 p3 p4 p6 p7;subst p1 p2;obtain ⟨k,hk⟩:∃ k,size - q=k+1:=⟨size - q - 1,by omega⟩;have c:size - (q+1)=k:=(by omega);rw [hk] at p4 p7;cases op with
   | nil=>exact (kyw p4).elim
   | cons y tl=>
    have g:inR l tl:=fun z t=>p3 z (qh _ t);have d:=kaj1 p4;rw [qy] at d;obtain ⟨pre,i,post,n',a1,a2,a3,a4⟩:=k1y l p4;have m:=ko2 (show i∈plL l y l.rules.length by rw [a1];simp);obtain ⟨z,t,w,o,h⟩:=klz l m.1;have gz:=r.good z h;have p:inR l (kal l i++tl):=fun b e=>by
     rcases qau.1 e with e | e;rw [<- o] at e;exact gz.args b e
     ·exact g b e
    have h1:=kajv r j g (by omega) k (by omega) a1 a2 a3 (by omega) (a:Int) (y::tl) rs (by omega);rw [a4,k1r] at p7;refine ⟨((n':Int),kal l i++tl,(k:Int),rs++[(i:Int)]),?_,n',rfl,by rw [c],p,by rw [c];exact a2,by omega,by show (rs++[(i:Int)]).length=q+1;rw [qah,qaz,p6],by rw [c];show (rs++[(i:Int)])++_=_;rw [qbh];exact p7⟩;have ew:w64 (((k+1:Nat):Int) - 1)=(k:Int):=(by rw [kc3];omega);unfold keb;simp only;rw [hk,qj (show (0:Int)<(((y::tl).length:Nat):Int) by rw [qy];omega),qe,h1,qa,ew]) (fun st hp=>by
   obtain ⟨cur,op,left,rs⟩:=st;obtain ⟨a,p1,p2,p3,p4,p5,p6,p7⟩:=hp;simp only at p1 p2 p3 p4 p6 p7;rw [qbs] at p4 p7;have:=k3t p4;subst this;refine ⟨rs,?_,?_⟩;unfold keb;simp only;rfl
   ·have h0:Tm.preL Tm.rule (chT l 0 [] a)=[]:=rfl;rw [h0,List.append_nil] at p7;exact p7) ((n:Int),[s],(size:Int),[]) ⟨n,rfl,by rw [Nat.sub_zero],f,by rw [Nat.sub_zero];exact hn,qx _,rfl,by rw [Nat.sub_zero];rfl⟩
 rw [v1,v2]
theorem kac9 (t:Tm):Tm.mk t.rule t.args=t:=by cases t;rfl
theorem kaaj {l:La} (r:kfj l):∀ (f:Nat) (t:Tm) (s:Int) (more:List Int),t.size<=f->t.size<=1000->isT l t s=true->kbn f (Saf.mk l (t.rules++more))=some (more,t.rule,t.args)
 | 0,t,s,more,h,_,_=>by have:=Tm.size_pos t;omega
 | f+1,t,s,more,h,n,hi=>by
  have u:=kl0 t;have w:=Tm.sizeL_len t.args;obtain ⟨i,e0,e1,e2,e3⟩:=kamz hi;obtain ⟨y,hy,x,c,e⟩:=klz l e1;have gy:=r.good y e;have b:=k91 l _ _ e3;have hr:t.rules++more=t.rule::(Tm.preL Tm.rule t.args++more):=by show t.pre Tm.rule++more=_;rw [k2n];rfl
  show kcu (kbn f) (Saf.mk l (t.rules++more))=_;unfold kcu;simp only;rw [hr,kld];have o:idx (t.rule::(Tm.preL Tm.rule t.args++more)) 0=some t.rule:=rfl;rw [o];simp only [qa];rw [e0,kag,hy];simp only [qa];by_cases hk:y.kind=3
  ·rw [show (y.kind == 3)=true by rw [beq_iff_eq];exact hk];simp only [qe];obtain ⟨v,v1,v2⟩:=krr (step:=kcs (Saf.mk l ((i:Int)::(Tm.preL Tm.rule t.args++more))) (kbn f) y) t.args.length (by omega)
    (fun q st=>st=((q:Int),Tm.preL Tm.rule (t.args.drop q)++more,t.args.take q)) (fun v=>v=(more,t.args)) (fun q st m hp=>by
     left;subst hp;obtain ⟨a,g1,g2⟩:=k9b l t.args _ q m e3;have d:t.args.drop q=t.args[q]::t.args.drop (q+1):=qan m;have z:=kdd (t:=t) (q9 m);have hm:=kaaj r f t.args[q] a (Tm.preL Tm.rule (t.args.drop (q+1))++more) (by omega) (by omega) g2;have g:app 32 (t.args.take q) [t.args[q]]=some (t.args.take (q+1)):=(by rw [kfe (by rw [qaw,qaz];omega),List.take_succ_eq_append_getElem m]);refine ⟨(((q+1:Nat):Int),Tm.preL Tm.rule (t.args.drop (q+1))++more,t.args.take (q+1)),?_,rfl⟩;unfold kcs;simp only;rw [qj (show (q:Int)<((y.args.length:Nat):Int) by rw [c];omega),qe,d];have p:Tm.preL Tm.rule (t.args[q]::t.args.drop (q+1))++more=t.args[q].rules++(Tm.preL Tm.rule (t.args.drop (q+1))++more):=(by show (t.args[q].pre Tm.rule++Tm.preL Tm.rule (t.args.drop (q+1)))++more=_;rw [qbh];rfl);rw [p,hm];simp only [qa];rw [kac9,g];simp only [qa];rw [kee (show q<1000 by omega) (by omega)]) (fun st hp=>by
     subst hp;refine ⟨(more,t.args),?_,rfl⟩;unfold kcs;simp only;rw [qf (show ¬ ((t.args.length:Nat):Int)<((y.args.length:Nat):Int) by rw [c];omega),qd,List.drop_length,List.take_length];rfl) (0,Tm.preL Tm.rule t.args++more,[]) rfl
   subst v2;rw [v1];rfl
  ·rw [show (y.kind == 3)=false by rw [qar];exact hk];have j:=gy.noargs hk;rw [c] at j;rw [j] at b;have k:t.args=[]:=qa5 b;rw [k];rfl
theorem kaf8 {l:La} (j:kfj l) {c s k n:Int} (hc:kan l=some c):kg1 l s k n=some (k59 l c s k n):=by
 unfold kg1 k59;rw [k4w j hc,qa];by_cases i:errC l c s k=0
 ·obtain ⟨_,h1,u,x,y⟩:=kpl i;obtain ⟨q,rfl⟩:=qax (show 0<=k by omega);rw [i,qi (by simp),qi (by simp),qap];by_cases ha:(ansC (VN l s q)).2=0
  ·rw [ha,bne_self_eq_false,qi (by simp),qd];have hx:¬ (1152921504606846976:Int)<en (VN l s q):=(by intro hx;unfold ansC at ha;rw [qo hx] at ha;cases ha);have hv:(ansC (VN l s q)).1=en (VN l s q):=(by unfold ansC;rw [qi hx]);have v:=kagp hx;rw [hv];by_cases hn:n<0;rw [qj hn,qo (.inl hn)];rfl
   ·by_cases b:en (VN l s q)<=n;rw [qf hn,qj b,qo (.inr b)];rfl
    ·rw [qf hn,qf b,qi (by intro h;exact h.elim hn b)];obtain ⟨p,rfl⟩:=qax (show 0<=n by omega);have d:p<NS.rr (VN l) [s] q:=(by rw [k9u];omega);have a:=k9s l q [s] p d;have e:=kagw l q [s] p d;have f:=kafa l q [s] p d;have m:=kakt j (show q<=24 by omega) h1 u d (by omega);simp only [qd,qa];rw [k0s j,qa,m,qa,qap];obtain ⟨t,ht⟩:∃ t,chT l q [s] p=[t]:=by
      cases r:chT l q [s] p with
      | nil=>rw [r] at a;cases a
      | cons t ts=>
       cases ts with
       | nil=>exact ⟨t,rfl⟩
       | cons t2 ts=>rw [r] at a;cases a
     rw [ht] at e f ⊢;have w:t.size=q:=(by have:Tm.sizeL [t]=t.size+0:=rfl;omega);have o:isT l t s=true:=(by rw [isL,qp] at f;exact f.1);have g:=kaaj j fuel t s [] (qbd (ka7 (by omega))) (by omega) o;have hp:Tm.preL Tm.rule [t]=t.rules++[]:=rfl;rw [hp,g,qa];simp only;rw [kac9];rfl
  ·rw [show ((ansC (VN l s q)).2 != 0)=true by rw [qba];exact ha,qo ha];rfl
 ·rw [qo i,qo i];simp only;rw [show (errC l c s k != 0)=true by rw [qba];exact i];rfl
def kack (hs:List Sab) (c:List Int) (h:Int):Tm:=match hs[(h - 1).toNat]?,c[(h - 1).toNat]? with
 | some x,some n=>x.yc[n.toNat]?.getD (Tm.mk 0 [])
 | _,_=>Tm.mk 0 []
mutual
def kof (hs:List Sab) (c:List Int):Dk->Tm
 | .mk r h l=>if 0<h then kack hs c h else Tm.mk r (kxp hs c l)
def kxp (hs:List Sab) (c:List Int):List Dk->List Tm
 | []=>[]
 | x::l=>kof hs c x::kxp hs c l
end
theorem k49 (hs:List Sab) (c:List Int):∀ l:List Dk,kxp hs c l=l.map (kof hs c)
 | []=>by simp [kxp]
 | x::l=>by simp [kxp,k49 hs c l]
theorem kz9 (hs:List Sab) (c:List Int) (x:Dk):kof hs c x=if 0<x.hole then kack hs c x.hole else Tm.mk x.rule (x.args.map (kof hs c)):=by cases x;simp only [kof,k49,Dk.hole,Dk.rule,Dk.args];rfl
inductive BodyZ (l:La) (hs:List Sab):Int->Dk->Prop
 | hole {s:Int} {x:Dk} {k:Nat} {h:Sab} (hx:x.hole=(k:Int)+1) (h0:x.rule=0) (h1:x.args=[]) (hk:hs[k]?=some h) (ht:0<=s->h.yg=s):BodyZ l hs s x
 | node {s:Int} {x:Dk} {k:Nat} {r:Ru} (hx:x.hole=0) (hr:x.rule=(k:Int)) (hk:l.rules[k]?=some r) (ht:0<=s->r.symbol=s) (hl:x.args.length=r.args.length) (ha:∀ (i:Nat) (a:Dk) (b:Int),x.args[i]?=some a->r.args[i]?=some b->BodyZ l hs b a):BodyZ l hs s x
theorem BodyZ.toP {l:La} {hs:List Sab} {s:Int} {x:Dk} (h:BodyZ l hs s x):kym l hs s x:=by
 induction h with
 | hole hx _ _ hk ht=>exact .hole hx hk ht
 | node hx hr hk ht hl _ ih=>exact .node hx hr hk ht hl ih
structure k1c (l:La) (t:Tm) (x:Dk):Prop where
 fill:∀ hs c,kof hs c x=t
 body:∀ (hs:List Sab) (s:Int),Fits l s t->BodyZ l hs s x
 nodes:x.nodes<=t.size
theorem k5h:∀ (xs:List Dk) (ts:List Tm),xs.length=ts.length->(∀ (i:Nat) (x:Dk) (t:Tm),xs[i]?=some x->ts[i]?=some t->x.nodes<=t.size)->Dk.nodesL xs<=Tm.sizeL ts
 | [],ts,_,_=>qaj _
 | x::xs,[],h,_=>by simp at h
 | x::xs,t::ts,h,hi=>by have h1:=k5h xs ts (by simpa using h) fun i y u hy a=>hi (i+1) y u (by simpa using hy) (by simpa using a);have b:=hi 0 x t rfl rfl;rw [Dk.nodesL,Tm.sizeL];omega
theorem k68 {r:Int} {xs:List Dk} {t:Tm} (h:xs.length=t.args.length) (hi:∀ (i:Nat) (x:Dk) (u:Tm),xs[i]?=some x->t.args[i]?=some u->x.nodes<=u.size):(Dk.mk r 0 xs).nodes<=t.size:=by
 have h1:=k5h xs t.args h hi;have a:=Dk.nodes_eq (Dk.mk r 0 xs);have c:t.size=Tm.sizeL t.args+1:=by cases t;simp [Tm.size,Tm.args];try omega
 have b:(Dk.mk r 0 xs).args=xs:=rfl;rw [b] at a;omega
theorem k41 {l:La} (q:kfj l):∀ (n:Nat) (t:Tm),t.size<=n->t.size<=1000->∃ x,kas n t [] false=some x/\k1c l t x
 | 0,t,h,_=>by have:=t.size_pos;omega
 | n+1,t,h,y=>by
  have v:=args_len t;have ih:∀ a∈t.args,∃ x,kas n a [] false=some x/\k1c l a x:=fun a ha=>by have:=kdd ha;exact k41 q n a (by omega) (by omega)
  have f:∀ a∈t.args,kas n a [] false=some ((kas n a [] false).getD (Dk.mk 0 0 []))/\k1c l a ((kas n a [] false).getD (Dk.mk 0 0 [])):=fun a ha=>by obtain ⟨x,h1,g⟩:=ih a ha;rw [h1];exact ⟨rfl,g⟩
  have hl:=kvd (kcy t [] false (kas n)) t.args (fun a=>(kas n a [] false).getD (Dk.mk 0 0 [])) [] (fun i x hx=>by have hi:=kho hx;have hm:=qn hx;have w:=List.length_take_le i t.args;simp only [kcy,kg5 hi,qe,kag,hx,qa,qd];rw [(f x hm).1];simp only [qa,qbj];rw [kfe (by simp only [qah,qaa,qbn,qaz];omega)];simp only [qa];rw [kaj _]) (by simp only [kcy,kf1,qd]);refine ⟨Dk.mk t.rule 0 (t.args.map fun a=>(kas n a [] false).getD (Dk.mk 0 0 [])),?_,fun hs c=>?_,fun hs s d=>?_,k68 (qaa ..) fun i x u hx e=>by rw [qq,e,qa6] at hx;obtain rfl:=qw hx;exact (f u (qn e)).2.nodes⟩;show kd5 (kas n) t [] false=_;unfold kd5;simp only [qd,qa];rw [show ((0:Int),([]:List Dk))=(0,[]) from rfl,hl,qa,List.nil_append];rw [kz9,qi (by simp [Dk.hole])];have:(Dk.mk t.rule 0 (t.args.map fun a=>(kas n a [] false).getD (Dk.mk 0 0 []))).args.map (kof hs c)=t.args:=(by show (t.args.map _).map _=_;rw [List.map_map];exact (List.map_congr_left fun a ha=>(f a ha).2.fill hs c).trans (List.map_id _));rw [this];cases t;rfl
  ·cases d with
   | mk hk hr j m ha=>
    rename_i k r;have o:=q.good r (qn hr);have p:kkx r=r.args.length:=by
     unfold kkx;cases hk:r.kind != 3 with
     | true=>rw [o.noargs (qba.1 hk)];rfl
     | false=>rfl
    refine .node (k:=k) rfl hk hr (fun _=>j) (by show (t.args.map _).length=_;rw [qaa,m,p]) fun i a b h1 g=>?_;have h1:(t.args.map fun a=>(kas n a [] false).getD (Dk.mk 0 0 []))[i]?=some a:=h1;rw [qq,qt] at h1;obtain ⟨u,e,rfl⟩:=h1;exact (f u (qn e)).2.body hs b (ha i u b e g)
inductive AtP:Tm->List Int->Tm->Prop
 | here {t:Tm}:AtP t [] t
 | arg {t a u:Tm} {p:List Int} {i:Nat} (h:t.args[i]?=some a) (ha:AtP a p u):AtP t ((i:Int)::p) u
structure OpenP (l:La) (t u:Tm) (x:Dk):Prop where
 fill:∀ hs c,kof hs c x=t↔kack hs c 1=u
 body:∀ (hs:List Sab) (h:Sab) (s:Int) (k:Nat) (r:Ru),hs[0]?=some h->u.rule=(k:Int)->l.rules[k]?=some r->h.yg=r.symbol->Fits l s t->BodyZ l hs s x
 nodes:x.nodes<=t.size
theorem k38 {l:La} (S:kfj l):∀ (n:Nat) (t:Tm) (p:List Int) (u:Tm),t.size<=n->t.size<=1000->AtP t p u->∃ x,kas n t p true=some x/\OpenP l t u x
 | 0,t,_,_,h,_,_=>by have:=t.size_pos;omega
 | n+1,t,p,u,h,hz,T=>by
  have ad:=args_len t;cases T with
  | here=>
   refine ⟨Dk.mk 0 1 [],rfl,fun hs c=>?_,fun hs h s k r U hk hr E f=>?_,t.size_pos⟩;rw [kz9,qo (by simp [Dk.hole])];exact Iff.rfl
   ·cases f with
    | mk K g F L M=>
     rename_i k' r';obtain rfl:k=k':=(by omega);obtain rfl:r=r':=(by rw [hr] at g;exact qw g);exact .hole (k:=0) (by rfl) rfl rfl U fun _=>by rw [E,F]
  | arg hi ha=>
   rename_i a p i;have V:=qn hi;have N:=kho hi;have ae:=kdd V;obtain ⟨xo,X,H⟩:=k38 S n a p u (by omega) (by omega) ha;have hf:∀ b∈t.args,kas n b [] false=some ((kas n b [] false).getD (Dk.mk 0 0 []))/\k1c l b ((kas n b [] false).getD (Dk.mk 0 0 [])):=fun b d=>(by have:=kdd d;obtain ⟨x,h1,Y⟩:=k41 S n b (by omega) (by omega);rw [h1];exact ⟨rfl,Y⟩);obtain ⟨sh,O⟩:∃ sh:Tm->Dk,sh=fun b=>(kas n b [] false).getD (Dk.mk 0 0 []):=⟨_,rfl⟩;obtain ⟨G,R⟩:∃ G:Nat->Dk,G=fun q=>if q=i then xo else sh (t.args.getD q (Tm.mk 0 [])):=⟨_,rfl⟩;have C:∀ q b,t.args[q]?=some b->t.args.getD q (Tm.mk 0 [])=b:=fun q b d=>(by rw [List.getD_eq_getElem?_getD,d];rfl);have hl:kab (kcy t ((i:Int)::p) true (kas n)) fuel (0,[])=some ((List.range t.args.length).map G):=by
    refine kbs _ t.args.length (fun j=>((j:Int),(List.range j).map G)) _ (fun j P=>?_) ?_
    ·obtain ⟨b,d⟩:∃ b,t.args[j]?=some b:=⟨_,qb P⟩;have Z:=qn d;have aa:(List.range (j+1)).map G=(List.range j).map G++[G j]:=(by rw [List.range_succ,qb0];rfl);rw [aa];simp only [kcy,kg5 P,qe,kag,d,qa,show idx ((i:Int)::p) 0=some (i:Int) from rfl];by_cases o:j=i;subst o;obtain rfl:a=b:=(by rw [hi] at d;exact qw d);rw [beq_self_eq_true];simp only [qe];rw [kld];simp only [qa];rw [X];simp only [qa];rw [kfe (by simp;omega)];simp only [qa];rw [kaj _,show G j=xo by rw [R];simp]
     ·rw [show ((j:Int) == (i:Int))=false by simp;omega];simp only [qd];rw [(hf b Z).1];simp only [qa,qbj];rw [kfe (by simp;omega)];simp only [qa];rw [kaj _,show G j=(kas n b [] false).getD (Dk.mk 0 0 []) by rw [R];simp only [qi o];rw [C j b d,O]]
    ·simp only [kcy,kf1,qd]
   have I:∀ q,q<t.args.length->((List.range t.args.length).map G)[q]?=some (G q):=fun q D=>(by simp [D]);have A:G i=xo:=(by rw [R];simp);have J:∀ q b,q≠i->t.args[q]?=some b->k1c l b (G q):=fun q b D d=>(by rw [R];simp only [qi D];rw [C q b d,O];exact (hf b (qn d)).2);refine ⟨Dk.mk t.rule 0 ((List.range t.args.length).map G),?_,fun hs c=>?_,fun hs h s k r U hk hr E f=>?_,k68 (by simp) fun q y b hy d=>by
    have D:=kho d;rw [I q D] at hy;obtain rfl:=qw hy;by_cases v:q=i;subst v;obtain rfl:a=b:=(by rw [hi] at d;exact qw d);rw [A];exact H.nodes
    ·exact (J q b v d).nodes⟩
   show kd5 (kas n) t ((i:Int)::p) true=_;unfold kd5;simp only [qe,qa];rw [show ((((i:Int)::p).length:Int) == 0)=false by simp;omega,qd,hl,qa]
   ·rw [kz9,qi (by simp [Dk.hole]),<- H.fill hs c];have w:t=Tm.mk t.rule t.args:=(by cases t;rfl);constructor;intro e;have e2:((List.range t.args.length).map G).map (kof hs c)=t.args:=(by rw [w] at e;injection e);have:=congrArg (fun m:List Tm=>m[i]?) e2;simp only [qq,hi] at this;rw [show (List.range t.args.length)[i]?=some i by simp [N]] at this;simp only [qa6,A] at this;exact qw this
    ·intro e;have e2:((List.range t.args.length).map G).map (kof hs c)=t.args:=by
      apply qbg;intro q;by_cases D:q<t.args.length
      ·obtain ⟨b,d⟩:∃ b,t.args[q]?=some b:=⟨_,qb D⟩;rw [qq,I q D,d,qa6];congr 1;by_cases v:q=i;subst v;rw [A,e];rw [hi] at d;exact qw d
       ·exact (J q b v d).fill hs c
      ·rw [qaq (by simp;omega),qaq (by omega)]
     show Tm.mk t.rule (((List.range t.args.length).map G).map (kof hs c))=t;rw [e2];exact w.symm
   ·cases f with
    | mk K g F L M=>
     rename_i k' r';have ab:=S.good r' (qn g);have ac:kkx r'=r'.args.length:=by
      unfold kkx;cases hk:r'.kind != 3 with
      | true=>rw [ab.noargs (qba.1 hk)];rfl
      | false=>rfl
     refine .node (k:=k') rfl K g (fun _=>F) (by show ((List.range t.args.length).map G).length=_;rw [qaa,List.length_range,L,ac]) fun j y b h1 Y=>?_;have h1:((List.range t.args.length).map G)[j]?=some y:=h1;have P:j<t.args.length:=(by have:=kho h1;simpa using this);rw [I j P] at h1;obtain rfl:=qw h1;obtain ⟨z,B⟩:∃ z,t.args[j]?=some z:=⟨_,qb P⟩;have Q:=M j z b B Y;by_cases o:j=i;subst o;obtain rfl:z=a:=(by rw [hi] at B;exact (qw B).symm);rw [A];exact H.body hs h b k r U hk hr E Q
     ·exact (J j z o B).body hs b Q
theorem kaar:∀ (n:Nat) (t:Tm),t.size<=n->t.size<=1000->kd3 n t=some t
 | 0,t,h,_=>by have:=t.size_pos;omega
 | n+1,t,h,d=>by show kfp (kd3 n) t=_;unfold kfp;have a:=args_len t;have hl:=kvd (kfd t (kd3 n)) t.args id [] (fun i x hx=>by have hi:=kho hx;have b:=kdd (qn hx);have c:=List.length_take_le i t.args;simp only [kfd,kg5 hi,qe,kag,hx,qa];rw [kaar n x (by omega) (by omega),qa,kfe (by simp only [qah,qaa,qbn,qaz];omega),qa,kaj _];rfl) (by simp only [kfd,kf1,qd]);rw [show ((0:Int),([]:List Tm))=(0,[]) from rfl,hl,qa,List.map_id,List.nil_append];cases t;rfl
theorem kad5:∀ (n:Nat) (t:Tm),t.size<=n->t.size<=1000->kkj n t=some t
 | 0,t,h,_=>by have:=t.size_pos;omega
 | n+1,t,h,d=>by show klp (kkj n) t=_;unfold klp;have a:=args_len t;have hl:=kvd (kkq t (kkj n)) t.args id [] (fun i x hx=>by have hi:=kho hx;have b:=kdd (qn hx);have c:=List.length_take_le i t.args;simp only [kkq,kg5 hi,qe,kag,hx,qa];rw [kad5 n x (by omega) (by omega),qa,kfe (by simp only [qah,qaa,qbn,qaz];omega),qa,kaj _];rfl) (by simp only [kkq,kf1,qd]);rw [show ((0:Int),([]:List Tm))=(0,[]) from rfl,hl,qa,List.map_id,List.nil_append];cases t;rfl
theorem kaeo {l:La} (hl:ks5 l) (hc:kan l=some 0) (s:Int) {t:Tm} (a:t.size<=1000):∃ c,ki9 l s t=some c/\(c=0->OkT l s t):=by obtain ⟨c,h1,b,_⟩:=k2q l s t hl a;obtain ⟨v,k1,k2⟩:=kaen hc s t a;rw [b] at k1;obtain rfl:=qw k1;exact ⟨c,h1,k2.1⟩
theorem k09 {d:Saa} (l:d.yb.length<=1000) (a:∀ h∈d.yb,h.yc.length<=1000) (f:∀ h∈d.yb,∀ t∈h.yc,t.size<=24):∀ (n:Nat) (x:Dk),x.nodes<=n->x.nodes<=1000->Ev (kb0 n d x) fun _=>True
 | 0,x,h,_=>by have:=x.nodes_pos;omega
 | n+1,x,h,hx=>by
  show Ev (kbz (kb0 n) d x) _;unfold kbz;have o:=Dk.args_len x;refine k8q (kq7 (fun _=>⟨_,rfl,trivial⟩) fun _=>⟨_,rfl,trivial⟩) fun v hv=>kq7 (fun g=>?_) fun g=>?_
  ·subst g;have p:0<x.hole/\x.hole<=(d.yb.length:Int):=by
    cases hd:decide (0<x.hole) with
    | false=>rw [hd] at hv;cases hv
    | true=>
     rw [hd] at hv;exact ⟨qbt hd,qbt (qw hv)⟩
   obtain ⟨k,q⟩:∃ k:Nat,x.hole=(k:Int)+1:=⟨(x.hole - 1).toNat,by omega⟩;have hk:k<d.yb.length:=(by omega);have c:=q9 hk;rw [show w64 (x.hole - 1)=(k:Int) by rw [kc3];omega,kag,qb hk,qa];refine k8q (kx1 (Q:=fun _=>True) d.yb[k].yc.length (fun i s=>s.2=(i:Int)) (by have:=a _ c;omega) rfl (fun i s hi e=>?_) fun s e=>?_) fun _ _=>⟨_,rfl,trivial⟩;obtain ⟨m,j⟩:=s;obtain rfl:j=(i:Int):=e;have r:=f _ c _ (q9 hi);have:=a _ c;simp only [kdu,kg5 hi,qe,kag,qb hi,qa];rw [kxk fuel _ (qbd (ka7 (by omega))) (by omega),qa];exact ⟨_,rfl,kaj _⟩
   ·obtain ⟨m,j⟩:=s;obtain rfl:j=_:=e;exact k6v m (by simp only [kdu,kf1,qd]) trivial
  ·refine k8q (kx1 (Q:=fun _=>True) x.args.length (fun i s=>s.2=(i:Int)) (by omega) rfl (fun i s hi e=>?_) fun s e=>?_) fun _ _=>⟨_,rfl,trivial⟩;obtain ⟨m,j⟩:=s;obtain rfl:j=(i:Int):=e;have u:=Dk.args_nodes (q9 hi);simp only [kdr,kg5 hi,qe,kag,qb hi,qa];obtain ⟨v,h1,_⟩:=k09 l a f n x.args[i] (by omega) (by omega);rw [h1,qa];exact ⟨_,rfl,kaj _⟩
   ·obtain ⟨m,j⟩:=s;obtain rfl:j=_:=e;exact k6v m (by simp only [kdr,kf1,qd]) trivial
theorem kabg (l:La) (d:Saa) (b:d.yb.length<=1000) (a:∀ h∈d.yb,h.yc.length<=1000) (c:∀ h∈d.yb,∀ t∈h.yc,t.size<=24) (x:Dk) (hx:x.nodes<=1000) (s:Int) (e:kym l d.yb s x):∃ v,ke1 fuel d x=some v:=by obtain ⟨v,h1,_⟩:=k09 b a c fuel x (qbd (ka7 (by omega))) hx;exact ⟨v,by rw [k45 b e,h1]⟩
theorem AtP.fits {l:La} {t u:Tm} {p:List Int} (h:AtP t p u) (d:kfj l):∀ {s:Int},Fits l s t->∃ s',Fits l s' u:=by
 induction h with
 | here=>exact fun {s} c=>⟨s,c⟩
 | @arg t a u p i hi _ ih=>
  intro s c;cases c with
  | mk hk hr hs hl ha=>
   rename_i k r;have e:=d.good r (qn hr);have f:kkx r<=r.args.length:=k67 r;have g:=kho hi;obtain ⟨b,j⟩:∃ b,r.args[i]?=some b:=⟨_,qb (show i<r.args.length by omega)⟩;exact ih (ha _ _ b hi j)
theorem k00 {α:Type} (f:Nat->Nat) (g:Nat->Nat->α) (h0:Option (Nat×Nat)->α) (a:∀ i n,h0 (some (i,n))=g i n):∀ is:List Nat,(List.range ((is.map f).sum)).map (fun n=>h0 (ksm f is n))=is.flatMap fun i=>(List.range (f i)).map (g i)
 | []=>rfl
 | i::is=>by
  rw [qa0,List.sum_cons,List.range_add,qb0,List.flatMap_cons];congr 1;refine List.map_congr_left fun n hn=>?_;rw [ksm,qo (qbk.1 hn),a]
  ·rw [List.map_map,<- k00 f g h0 a is];refine List.map_congr_left fun n hn=>?_;simp only [Function.comp];rw [ksm,qi (by omega),Nat.add_sub_cancel_left]
theorem kaat (l:La):∀ (k:Nat) (ys:List Int),enL l k ys=(List.range (NS.rr (VN l) ys k)).map (chT l k ys)
 | 0,[]=>rfl
 | 0,y::tl=>by rw [NS.rr_small (V:=VN l) (fun a=>rfl) (y::tl) 0 (by rw [qy];omega)];rfl
 | k+1,[]=>by rw [show NS.rr (VN l) [] (k+1)=0 by rw [SR.rr,qi (by omega)];rfl];rfl
 | k+1,y::tl=>by rw [kaav];have h:=k00 (fun i=>NS.rr (VN l) (kal l i++tl) k) (fun i n=>kpb i (kal l i).length (chT l k (kal l i++tl) n)) (chS l (chT l k) tl) (fun i n=>rfl) (plL l y l.rules.length);refine Eq.trans ?_ h.symm;show (plL l y l.rules.length).flatMap _=_;refine kq8 _ fun i _=>?_;rw [kaat l k,List.map_map];rfl
theorem k99 (l:La) (s:Int) (k:Nat):enT l s k=(List.range (VN l s k)).map fun n=>(chT l k [s] n).headD (Tm.mk 0 []):=by unfold enT;rw [kaat,k9u,List.map_map];rfl
theorem kqs (l:La) (s:Int) (k:Nat):(enT l s k).length=VN l s k:=by rw [k99,qaa,List.length_range]
theorem kvx (l:La) (s:Int):∀ n,(upT l s n).length=totC l s n
 | 0=>rfl
 | n+1=>by rw [kzz,kwr,qah,kvx l s n,kqs]
theorem en_le {n:Nat} (h:n<=4096):en n=(n:Int):=by unfold en;omega
theorem kvi {n:Nat} (h:n<=4096):ansC n=((n:Int),0):=by unfold ansC;rw [en_le h,qi (by omega)]
theorem kyp {l:La} {s:Int} (s0:0<=s) (s1:s<(l.symbols.length:Int)) {k:Nat} (k1:1<=k) (k24:k<=24):errC l 0 s (k:Int)=0:=by unfold errC badQ;rw [qi (by simp),qf (by omega),qf (by omega),qf (by omega),qf (by omega)];rfl
theorem kamf {l:La} (a:kfj l) (hc:kan l=some 0) {s:Int} (s0:0<=s) (s1:s<(l.symbols.length:Int)) {k:Nat} (k1:1<=k) (k24:k<=24) (hv:VN l s k<=4096):kh3 l s (k:Int)=some (enT l s k):=by
 have b:=kyp s0 s1 k1 k24;have ha:=kvi hv;unfold kh3;rw [k4w a hc,qa,b,qi (by simp),qap,ha];have c:=kqs l s k;have hl:kab (kgf l s (k:Int) ((VN l s k:Int),0)) fuel (0,[])=some (enT l s k):=by
  refine kbs _ (VN l s k) (fun i=>((i:Int),(enT l s k).take i)) _ (fun i hi=>?_) ?_;have hx:(enT l s k)[i]?=some ((chT l k [s] i).headD (Tm.mk 0 [])):=(by rw [k99,qq,List.getElem?_range hi];rfl);have ht:k59 l 0 s (k:Int) (i:Int)=((chT l k [s] i).headD (Tm.mk 0 []),0):=(by unfold k59;rw [b,qi (by simp),qap,ha,qi (by simp),qi (by simp only;omega),qap];rfl);have d:=List.length_take_le i (enT l s k);simp only [kgf,kg5 hi,qe];rw [kaf8 a hc,qa,ht];simp only;rw [kfe (by simp only [qaz];omega),qa,kaj _,List.take_add_one,hx];rfl
  ·simp only [kgf,kf1,qd];rw [List.take_of_length_le (by omega)]
 rw [hl,qa]
theorem kagk {l:La} (a:kfj l) (hc:kan l=some 0) (s:Int) (s0:0<=s) (s1:s<(l.symbols.length:Int)) (m:Nat) (m1:1<=m) (m24:m<=24) (ht:totC l s m<=4096):kgy l s (m:Int)=some (upT l s m,0):=by
 unfold kgy;rw [k4o a hc,qa,kyp s0 s1 m1 m24,qi (by simp),qap,kvi ht];simp only;rw [show ((0:Int) != 0)=false from rfl,qd,qf (by omega),qd];have hl:kab (kfr l s (m:Int)) fuel (1,[])=some (upT l s m):=by
  refine kbs _ m (fun i=>(((i+1:Nat):Int),upT l s i)) _ (fun i hi=>?_) ?_;have a1:=k92 l s (show i+1<=m by omega);have a2:=kwr l s i;have a3:=kvx l s i;have a4:=kqs l s (i+1);simp only [kfr];rw [qj (by omega),qe,kamf a hc s0 s1 (by omega) (by omega) (by omega),qa,kfe (by omega),qa,kaj _,<- kzz]
  ·simp only [kfr];rw [qf (by omega),qd]
 rw [hl,qa]
theorem kafd {l:La} (a:kfj l) (hc:kbw l=some 0) {s:Nat} (s1:s<l.symbols.length) {m:Nat} (m1:1<=m) (m24:m<=24) (ht:totC l (s:Int) m<=4096):kg8 l (s:Int) (m:Int)=some (upT l (s:Int) m,0):=by
 unfold kg8;rw [k06 a hc,qa,kyp (by omega) (by omega) m1 m24,qi (by simp),qap,kvi ht];simp only;rw [show ((0:Int) != 0)=false from rfl,qd,qf (by omega),qd];have hl:kab (kh4 l (s:Int) (m:Int)) fuel (1,[])=some (upT l (s:Int) m):=by
  refine kbs _ m (fun i=>(((i+1:Nat):Int),upT l (s:Int) i)) _ (fun i hi=>?_) ?_;have a1:=k92 l (s:Int) (show i+1<=m by omega);have a2:=kwr l (s:Int) i;have a3:=kvx l (s:Int) i;have a4:=kqs l (s:Int) (i+1);simp only [kh4];rw [qj (by omega),qe,kaff a hc s1 (by omega) (by omega) (by omega),qa,kfe (by simp only;omega),qa,kaj _,<- kzz]
  ·simp only [kh4];rw [qf (by omega),qd]
 rw [hl,qa]
theorem kahw {l:La} (a:kfj l) (hc:kbw l=some 0) {s m:Int} (h:m<1\/24<m):kg8 l s m=some ([],1):=by
 have b:errC l 0 s m=1:=by
  unfold errC badQ;rw [qi (by simp)];rcases h with h | h;rw [qj h];simp
  ·rw [qj h];simp
 unfold kg8;rw [k06 a hc,qa,b];rfl
def atT:Tm->List Int->Option Tm
 | t,[]=>some t
 | t,i::p=>if i<0\/(t.args.length:Int)<=i then none else match t.args[i.toNat]? with
  | some a=>atT a p
  | none=>none
def atR:Option Tm->Tm×Int
 | some u=>(u,0)
 | none=>(Tm.mk 0 [],7)
theorem k7p:∀ (p:List Int) (t u:Tm),atT t p=some u->u.size<=t.size
 | [],t,u,h=>by cases h;exact qx _
 | i::p,t,u,h=>by
  unfold atT at h;split at h;cases h
  ·cases ha:t.args[i.toNat]? with
   | none=>rw [ha] at h;cases h
   | some a=>
    rw [ha] at h;have h1:=k7p p a u h;have b:=kdd (qn ha);omega
theorem kai2:∀ (p:List Int) (t u:Tm),atT t p=some u->AtP t p u
 | [],t,u,h=>by cases h;exact .here
 | i::p,t,u,h=>by
  unfold atT at h;split at h;cases h
  ·rename_i hi;cases ha:t.args[i.toNat]? with
   | none=>rw [ha] at h;cases h
   | some a=>
    rw [ha] at h;have:=AtP.arg ha (kai2 p a u h)
    rwa [show ((i.toNat:Nat):Int)=i by omega] at this
theorem kab8 (t:Tm) (i:Int):((bif i<0 then some true else some (decide ((t.args.length:Int)<=i))):Option Bool)=some (decide (i<0\/(t.args.length:Int)<=i)):=by
 by_cases h:i<0;rw [qj h,qj (Or.inl h)];rfl
 ·rw [qf h,qd];by_cases a:(t.args.length:Int)<=i;rw [qj a,qj (Or.inr a)]
  ·rw [qf a,qf (fun b=>b.elim h a)]
theorem k73 (t:Tm) {i:Int} (h:¬ (i<0\/(t.args.length:Int)<=i)):∃ a,t.args[i.toNat]?=some a/\idx t.args i=some a:=by
 have hi:i.toNat<t.args.length:=by omega
 refine ⟨t.args[i.toNat],qb hi,?_⟩;have:=kag t.args i.toNat;rw [show ((i.toNat:Nat):Int)=i by omega] at this;rw [this,qb hi]
theorem k9c:∀ (n:Nat) (t:Tm) (p:List Int),p.length<n->t.size<=1000->kgs n t p=some (atR (atT t p))
 | 0,_,_,h,_=>by omega
 | n+1,t,p,h,c=>by
  show kg2 (kgs n) t p=_;unfold kg2;cases p with
  | nil=>rw [show ((([]:List Int).length:Int) == 0)=true from rfl,qe,kaar fuel t (qbd (ka7 (by omega))) c,qa];rfl
  | cons i p=>
   simp only [qy] at h;rw [show (((i::p).length:Int) == 0)=false by simp;omega,qd];simp only [show idx (i::p) 0=some i from rfl,qa];rw [kab8,qa];unfold atT;by_cases b:i<0\/(t.args.length:Int)<=i;rw [qj b,qe,qo b];rfl
   ·obtain ⟨a,h1,d⟩:=k73 t b;have e:=kdd (qn h1);rw [qf b,qd,qi b,d,qa,kld,qa,k9c n a p (by omega) (by omega),qa,h1]
theorem kaaa (p:List Int) (hp:p.length<=1000):∀ (q:List Int) (k j:Nat) (t:Tm),p.drop j=q->q.length<k->kab (kly p) k ((j:Int),t.rule,t.args)=some (match atT t q with | some u => .inl (u.rule,u.args) | none => .inr (Tm.mk 0 [],7))
 | [],k,j,t,hd,hk=>by
  obtain ⟨k,rfl⟩:∃ m,k=m+1:=⟨k - 1,by simp at hk;omega⟩;have d:p.length<=j:=by have:=congrArg List.length hd;simp at this;omega
  refine kxl ?_;simp only [kly];rw [qf (by omega),qd];rfl
 | i::q,k,j,t,hd,hk=>by
  obtain ⟨k,rfl⟩:∃ m,k=m+1:=⟨k - 1,by simp at hk;omega⟩;have d:j<p.length:=by have:=congrArg List.length hd;simp at this;omega
  have hi:p[j]?=some i:=by rw [<- List.head?_drop,hd];rfl
  have c:p.drop (j+1)=q:=by rw [<- List.drop_drop,hd];rfl
  by_cases b:i<0\/(t.args.length:Int)<=i;refine kxl ?_;simp only [kly];rw [qj (by omega),qe,kag,hi,qa,kab8,qj b,qa,qe];unfold atT;rw [qo b]
  ·obtain ⟨a,h1,e⟩:=k73 t b;have ih:=kaaa p hp q k (j+1) a c (by simp at hk;omega);rw [k6z (s':=(((j+1:Nat):Int),a.rule,a.args)) (by simp only [kly];rw [qj (by omega),qe,kag,hi,qa,kab8,qf b,qa,qd,e,qa,kaj _]),ih];rw [show atT t (i::q)=atT a q by rw [atT,qi b,h1]]
theorem kahg (t:Tm) (p:List Int) (a:t.size<=1000) (hp:p.length<=1000):kug t p=some (atR (atT t p)):=by
 unfold kug;rw [show ((0:Int),t.rule,t.args)=(((0:Nat):Int),t.rule,t.args) from rfl,kaaa p hp p fuel 0 t rfl (ka7 (by omega)),qa];cases h:atT t p with
 | none=>rfl
 | some u=>
  have:=k7p p t u h;simp only [qaf];rw [show Tm.mk u.rule u.args=u by cases u;rfl,kad5 fuel u (qbd (ka7 (by omega))) (by omega),qa];rfl
def opH (r:Tm->List Int->Dk) (a:Tm):List Int->Dk
 | []=>Dk.mk 0 1 []
 | j::tl=>r a (j::tl)
def opG (r:Tm->List Int->Dk) (t:Tm):List Int->Nat->Dk
 | [],q=>r (t.args.getD q (Tm.mk 0 [])) []
 | i::tl,q=>if (q:Int)=i then opH r (t.args.getD q (Tm.mk 0 [])) tl else r (t.args.getD q (Tm.mk 0 [])) []
def opD:Nat->Tm->List Int->Dk
 | 0,_,_=>Dk.mk 0 0 []
 | n+1,t,p=>Dk.mk t.rule 0 ((List.range t.args.length).map (opG (opD n) t p))
theorem k0t {step:Int×List Dk->Option (Int×List Dk ⊕ List Dk)} (n:Nat) (G:Nat->Dk) (hs:∀ j,j<n->step ((j:Int),(List.range j).map G)=some (.inl (((j+1:Nat):Int),(List.range j).map G++[G j]))) (a:step ((n:Int),(List.range n).map G)=some (.inr ((List.range n).map G))) (hn:n<=1000:=by omega):kab step fuel (0,[])=some ((List.range n).map G):=
 kbs _ n (fun j=>((j:Int),(List.range j).map G)) _ (fun j b=>by rw [hs j b,List.range_succ,qb0];rfl) a
theorem ksy:∀ (n:Nat) (t:Tm) (p:List Int),t.size<=n->t.size<=1000->p.length<=1000->keq n t p=some (opD n t p)/\(p≠[]->kas n t p true=some (opD n t p))/\kas n t [] false=some (opD n t [])
 | 0,t,_,h,_,_=>by have:=t.size_pos;omega
 | n+1,t,p,h,u,hp=>by
  have o:=args_len t;have d:∀ j,j<t.args.length->∃ a,t.args[j]?=some a/\t.args.getD j (Tm.mk 0 [])=a/\a.size<t.size:=fun j c=>by refine ⟨t.args[j],qb c,?_,kdd (q9 c)⟩;rw [List.getD_eq_getElem?_getD,qb c];rfl
  have f:∀ (G:Nat->Dk) (j:Nat) (x:Dk),j<t.args.length->app 40 ((List.range j).map G) [x]=some ((List.range j).map G++[x]):=fun G j x c=>kfe (by simp;omega);refine ⟨?_,fun k=>?_,?_⟩
  ·show kfg (keq n) t p=_;unfold kfg;rw [k0t t.args.length (opG (opD n) t p) (fun j c=>?_) (by simp only [kgo,kf1,qd]),qa];rfl
   ·obtain ⟨a,ha,hd,g⟩:=d j c;have ih:=fun q r=>(ksy n a q (by omega) (by omega) r).1;simp only [kgo,kg5 c,qe,f _ _ _ c];cases p with
    | nil=>
     simp only [show decide ((1:Int)<(([]:List Int).length:Int))=false from rfl,show ((([]:List Int).length:Int) == 1)=false from rfl,qd,qa,kag,ha];rw [ih [] (by simp)];simp only [qa,opG,hd];rw [kaj _]
    | cons i tl=>
     have l:opG (opD n) t (i::tl) j=if (j:Int)=i then opH (opD n) a tl else opD n a []:=(by rw [opG,hd]);rw [l];cases tl with
     | nil=>
      simp only [show decide ((1:Int)<(([i]:List Int).length:Int))=false from rfl,show ((([i]:List Int).length:Int) == 1)=true from rfl,qd,qe,qa,show idx [i] 0=some i from rfl];by_cases b:(j:Int)=i;rw [show (i == (j:Int))=true by simp [b],qe,qo b,kaj _];rfl
      ·rw [show (i == (j:Int))=false by simp;exact fun e=>b e.symm,qd,qi b,kag,ha,qa,ih [] (by simp),kaj _];simp only [qa]
     | cons i2 tl=>
      rw [show decide ((1:Int)<((i::i2::tl).length:Int))=true by simp;omega,show (((i::i2::tl).length:Int) == 1)=false by simp;omega];simp only [qd,qe,qa,show idx (i::i2::tl) 0=some i from rfl];simp only [qy] at hp;by_cases b:(j:Int)=i;rw [show (i == (j:Int))=true by simp [b],qe,qo b,kag,ha,qa,kld,qa,ih (i2::tl) (by simp;omega),kaj _];rfl
      ·rw [show (i == (j:Int))=false by simp;exact fun e=>b e.symm,qd,qi b,kag,ha,qa,ih [] (by simp),kaj _];simp only [qa]
  ·show kd5 (kas n) t p true=_;unfold kd5;obtain ⟨i,tl,rfl⟩:∃ i tl,p=i::tl:=by
    cases p with
    | nil=>exact absurd rfl k
    | cons i tl=>exact ⟨i,tl,rfl⟩
   rw [qe,qa,show (((i::tl).length:Int) == 0)=false by simp;omega,qd];rw [k0t t.args.length (opG (opD n) t (i::tl)) (fun j c=>?_) (by simp only [kcy,kf1,qd]),qa];rfl
   ·obtain ⟨a,ha,hd,g⟩:=d j c;simp only [qy] at hp;obtain ⟨m,rfl⟩:∃ m,n=m+1:=⟨n - 1,by have:=a.size_pos;omega⟩;have ih:=ksy (m+1) a tl (by omega) (by omega) (by omega);have l:opG (opD (m+1)) t (i::tl) j=if (j:Int)=i then opH (opD (m+1)) a tl else opD (m+1) a []:=(by rw [opG,hd]);rw [l];simp only [kcy,kg5 c,qe,kag,ha,qa,show idx (i::tl) 0=some i from rfl,f _ _ _ c];by_cases b:(j:Int)=i
    ·rw [show ((j:Int) == i)=true by simp [b],qe,qo b,kld,qa];have s:kas (m+1) a tl true=some (opH (opD (m+1)) a tl):=by
      cases tl with
      | nil=>rfl
      | cons i2 tl=>exact ih.2.1 (by simp)
     rw [s,kaj _];simp only [qa]
    ·rw [show ((j:Int) == i)=false by simp;exact b,qd,qi b,ih.2.2,kaj _];simp only [qa]
  ·show kd5 (kas n) t [] false=_;unfold kd5;simp only [qd,qa];rw [k0t t.args.length (opG (opD n) t []) (fun j c=>?_) (by simp only [kcy,kf1,qd]),qa];rfl
   ·obtain ⟨a,ha,hd,g⟩:=d j c;have ih:=ksy n a [] (by omega) (by omega) (by simp);simp only [kcy,kg5 c,qe,kag,ha,qa,qd,f _ _ _ c,opG,hd];rw [ih.2.2,kaj _];simp only [qa]
structure koe (d:Saa):Prop where
 holes:d.yb.length<=1
 nodes:d.yd.nodes<=30
 few:∀ h∈d.yb,h.yc.length<=64
 small:∀ h∈d.yb,∀ t∈h.yc,t.size<=24
theorem k8v:koe (Saa.mk (Dk.mk 0 0 []) []):=⟨by simp,by simp [Dk.nodes,Dk.nodesL],fun h a=>by simp at a,fun h a=>by simp at a⟩
theorem k4x:∀ (n:Nat) (x:Dk),x.nodes<=n->x.nodes<=1000->kcw n x x=some true
 | 0,x,h,_=>by have:=Dk.nodes_eq x;omega
 | n+1,x,h,d=>by
  have a:=Dk.nodes_eq x;have b:x.args.length<=1000:=by
   have:∀ xs:List Dk,xs.length<=Dk.nodesL xs:=fun xs=>by
    induction xs with
    | nil=>exact qaj _
    | cons y ys ih=>rw [Dk.nodesL,qy];have:=Dk.nodes_eq y;omega
   have:=this x.args;omega
  show keo (kcw n) x x=_;unfold keo;simp only [bne_self_eq_false,qd,qa];have hl:kab (kd9 x x (kcw n)) fuel 0=some (.inl ()):=by refine kbs _ x.args.length (fun i=>(i:Int)) _ (fun i hi=>?_) (by simp only [kd9,kf1,qd]);have g1:x.args[i]?=some x.args[i]:=qb hi;have c:=Dk.args_nodes (q9 hi);simp only [kd9,kg5 hi,qe,kag,g1,qa];rw [k4x n _ (by omega) (by omega),qa,kaj _];rfl
  rw [hl,qa];rfl
theorem kabt (ts:List Tm) (hl:ts.length<=1000) (a:∀ t∈ts,t.size<=1000):kgz ts ts=some true:=by
 unfold kgz;rw [bne_self_eq_false,qd];have hl:kab (kfu ts ts) fuel 0=some (.inl ()):=by refine kbs _ ts.length (fun i=>(i:Int)) _ (fun i hi=>?_) (by simp only [kfu,kf1,qd]);have g1:ts[i]?=some ts[i]:=qb hi;have hm:=a _ (q9 hi);simp only [kfu,kg5 hi,qe,kag,g1,qa];rw [kakn _ _ hm hm,qa,cmpT_eq0.2 rfl,kaj _];rfl
 rw [hl,qa];rfl
theorem kab3 {d:Saa} (h:koe d):kg4 d d=some true:=by
 have hn:=h.nodes;have a:=h.holes;unfold kg4;rw [bne_self_eq_false,qd,k4x fuel d.yd (qbd (ka7 (by omega))) (by omega),qa,qa,qbo,qd];have hl:kab (kfo d d) fuel 0=some (.inl ()):=by refine kbs _ d.yb.length (fun i=>(i:Int)) _ (fun i hi=>?_) (by simp only [kfo,kf1,qd]);have g1:d.yb[i]?=some d.yb[i]:=qb hi;have hm:=q9 hi;simp only [kfo,kg5 hi,qe,kag,g1,qa,bne_self_eq_false,qd];rw [kabt _ (by have:=h.few _ hm;omega) (fun t ht=>by have:=h.small _ hm t ht;omega),qa,qa,kaj _];rfl
 rw [hl,qa];rfl
theorem k2v {α:Type} {c:Bool} {x y x' y':Option α} (P:α->Prop) (h1:c=true->∃ v,x=some v/\x'=some v/\P v) (h0:c=false->∃ v,y=some v/\y'=some v/\P v):∃ v,(bif c then x else y)=some v/\(bif c then x' else y')=some v/\P v:=by
 cases c with
 | true=>exact h1 rfl
 | false=>exact h0 rfl
theorem bad_m (m:Int):((bif m<1 then some true else some (decide (24<m))):Option Bool)=some (decide (m<1\/24<m)):=by
 by_cases h:m<1;rw [qj h,qj (Or.inl h)];rfl
 ·rw [qf h,qd];by_cases a:24<m;rw [qj a,qj (Or.inr a)]
  ·rw [qf a,qf (fun b=>b.elim h a)]
theorem kalx (x:Dk):Dk.mk x.rule x.hole x.args=x:=by cases x;rfl
theorem kadq {l:La} (hl:ks5 l) {t:Tm} (V:t.size<=30) {p:List Int} (hp:p.length<=40) (m:Int) (K:kan l=some 0->1<=m->m<=24->∀ s:Nat,s<l.symbols.length->totC l (s:Int) m.toNat<=100):
  ∃ r,km0 l t p m=some r/\kg0 l t p m=some r/\koe r.1:=by
 have no:∀ c:Int,koe ((Saa.mk (Dk.mk 0 0 []) [],c):Saa×Int).1:=fun c=>k8v;obtain ⟨c,c1,c2,c3⟩:=k6j l hl;unfold km0 kg0;rw [c1,c2,qa,qa];refine k2v (fun r:Saa×Int=>koe r.1) (fun h=>⟨_,rfl,rfl,no _⟩) fun h=>?_;obtain rfl:c=0:=qa3.1 h;have o:=c3 rfl;by_cases L:0<=t.rule/\t.rule<(l.rules.length:Int)
 ·obtain ⟨h0,h1⟩:=L;obtain ⟨k0,M⟩:=qax h0;have y:k0<l.rules.length:=by omega
  obtain ⟨r0,N⟩:∃ r,l.rules[k0]?=some r:=⟨_,qb y⟩;rw [qf (show ¬ t.rule<0 by omega),qd,qa,qa,qf (show ¬ ((l.rules.length:Int)<=t.rule) by omega),qd,qd,M,kag,N,qa,qa];obtain ⟨c,k1,k2,_⟩:=k2q l r0.symbol t hl (show t.size<=1000 by omega);obtain ⟨c',k3,k4⟩:=kaeo hl c2 r0.symbol (show t.size<=1000 by omega);obtain rfl:c=c':=by rw [k1] at k3;exact qw k3
  rw [k1,k2,qa,qa];refine k2v (fun r:Saa×Int=>koe r.1) (fun h=>⟨_,rfl,rfl,no _⟩) fun h=>?_;have z:=k4 (qa3.1 h);rw [kahg t p (by omega) (by omega),k9c fuel t p (ka7 (by omega)) (by omega),qa,qa];cases A:atT t p with
  | none=>exact ⟨_,rfl,rfl,no 7⟩
  | some u=>
   have B:=kai2 p t u A;obtain ⟨su,O⟩:=B.fits o z.fits;rw [show (atR (some u)).2=0 from rfl,show (atR (some u)).1=u from rfl,show ((0:Int) != 0)=false from rfl,qd,qd];have C:=O;cases C with
   | mk hk hr hs R Q=>
    rename_i k r;rw [hk,kag,hr,qa,bad_m,qa];have D:=o.good r (qn hr);obtain ⟨sy,j⟩:=qax D.sym0;have E:sy<l.symbols.length:=(by have:=D.sym1;omega);by_cases hm:m<1\/24<m;rw [qj hm,qe,kahw o c1 hm,qa];exact ⟨_,rfl,rfl,no 1⟩
    ·rw [qf hm,qd];obtain ⟨q,rfl⟩:=qax (show 0<=m by omega);have ht:=K c2 (by omega) (by omega) sy E;rw [qap] at ht;rw [j,kafd o c1 E (by omega) (by omega) (by omega),qa];rw [qa,j,kagk o c2 (sy:Int) (by omega) (by omega) q (by omega) (by omega) (by omega),qa];simp only [show ((0:Int) != 0)=false from rfl,show ((0:Int) == 0)=true from rfl,qd,qe,qa];refine k2v (fun r:Saa×Int=>koe r.1) (fun _=>⟨_,rfl,rfl,no _⟩) fun F=>k2v (fun r:Saa×Int=>koe r.1) (fun _=>⟨_,rfl,rfl,no _⟩) fun G=>?_;have F:=qar.1 F;have G:=qbl G;obtain ⟨x,x1,x2⟩:=k38 o fuel t p u (qbd (ka7 (by omega))) (by omega) B;have H:=ksy fuel t p (qbd (ka7 (by omega))) (by omega) (by omega);have hx:(bif ((p.length:Int) == 0) then (some (0,1,([]:List Dk))) else (some ((opD fuel t p).rule,(opD fuel t p).hole,(opD fuel t p).args)):Option (Int×Int×List Dk))=some (x.rule,x.hole,x.args):=by
      cases p with
      | nil=>
       have:some (Dk.mk 0 1 [])=some x:=(by rw [<- x1];rfl);obtain rfl:=qw this;rfl
      | cons i tl=>
       rw [H.2.1 (by simp)] at x1;obtain rfl:=qw x1;rw [show (((i::tl).length:Int) == 0)=false by simp;omega,qd]
     rw [x1,qa,H.1,qa,hx,qa];simp only [kalx];have I:BodyZ l [Sab.mk (sy:Int) (upT l (sy:Int) q)] (-1) x:=by
      have S:=x2.body [Sab.mk (sy:Int) (upT l (sy:Int) q)] _ r0.symbol k r rfl hk hr j.symm z.fits;cases S with
      | hole a b c d e=>exact .hole a b c d fun h=>by omega
      | node a b c d e f=>exact .node a b c (fun h=>by omega) e f
     have g:∀ w∈upT l (sy:Int) q,w.size<=24:=fun w T=>(by have:=(upT_mem.1 T).1;omega);obtain ⟨v,hv⟩:=kabg l (Saa.mk x [Sab.mk (sy:Int) (upT l (sy:Int) q)]) (by simp) (fun h n=>by
      obtain rfl:=qa2.1 n;show (upT l (sy:Int) q).length<=1000;omega) (fun h n t ht=>by
      obtain rfl:=qa2.1 n;exact g t ht) x (by have:=x2.nodes;omega) (-1) I.toP
     have J:=hv;rw [k45 (by simp) I.toP fuel] at J;rw [hv,J,qa];refine k2v (fun r:Saa×Int=>koe r.1) (fun _=>⟨_,rfl,rfl,no _⟩) fun U=>⟨_,rfl,rfl,⟨by simp,by have:=x2.nodes;show x.nodes<=30;omega,fun h n=>?_,fun h n t ht=>?_⟩⟩;obtain rfl:=qa2.1 n;show (upT l (sy:Int) q).length<=64;omega
     ·obtain rfl:=qa2.1 n;exact g t ht
 ·have:(bif t.rule<0 then some true else some (decide ((l.rules.length:Int)<=t.rule)):Option Bool)=some true:=by
   by_cases h0:t.rule<0;rw [qj h0];rfl
   ·rw [qf h0,qj (by omega)];rfl
  rw [this,qa,qe];exact ⟨_,rfl,rfl,no 1⟩
theorem k2h (l:La) (t:Tm) (x:kec) (hl:ks5 l):kfw l t x=some true:=by
 refine Ev.eq ?_;unfold kfw;have aw:ke7=some true:=rfl;have g:Ev (Option.bind (kf4 l) fun v1=>(bif (!v1) then (some true) else (Option.bind (kb3 t 30) fun v2=>bif (!v2) then (some true) else (some (decide (40<(List.length x.yn:Int)))))):Option Bool) fun v=>v=false->l.symbols.length<=8/\t.size<=30/\x.yn.length<=40:=by
  have w:Ev (kf4 l) fun b=>b=true->l.symbols.length<=8:=by
   unfold kf4;cases decide ((List.length l.rules:Int)<=20) with
   | true=>exact ⟨_,rfl,fun h=>by have:=qbt h;omega⟩
   | false=>exact ⟨_,rfl,fun h=>by cases h⟩
  obtain ⟨b,d,e⟩:=w;rw [d,qa];refine kq7 (fun _=>⟨_,rfl,fun h=>by cases h⟩) fun f=>?_;rw [show kb3 t 30=some (decide (t.size<=30)) from kww t 30 (by omega),qa];refine kq7 (fun _=>⟨_,rfl,fun h=>by cases h⟩) fun n=>⟨_,rfl,fun h=>?_⟩;have n:decide (t.size<=30)=true:=by simpa using n
  have h:=qbl h;exact ⟨e (by simpa using f),qbt n,by omega⟩
 obtain ⟨b,g1,g2⟩:=g;rw [g1,qa,aw];refine kq7 (fun _=>⟨_,rfl,rfl⟩) fun d=>?_;obtain ⟨B,y,hp⟩:=g2 d;obtain ⟨c,c1,c2,c3⟩:=k6j l hl;obtain ⟨m,em⟩:∃ m,m=x.yj:=⟨_,rfl⟩;obtain ⟨v,v1,v2⟩:=krr (step:=kcd l x) l.symbols.length (by omega) (fun i s=>s=(i:Int)/\((c=0/\1<=m/\m<=24)->∀ j:Nat,j<i->totC l (j:Int) m.toNat<=100))
  (fun v=>v = .inr true\/(v = .inl ()/\((c=0/\1<=m/\m<=24)->∀ j:Nat,j<l.symbols.length->totC l (j:Int) m.toNat<=100))) (fun i s hi hs=>by
   obtain ⟨rfl,hs⟩:=hs;by_cases hc:c=0/\1<=m/\m<=24
   ·obtain ⟨rfl,m1,m2⟩:=hc;have z:=c3 rfl;obtain ⟨q,o⟩:=qax (show 0<=m by omega);simp only [kcd,kg5 hi,qe,c2,qa,<- em,show ((0:Int) == 0)=true from rfl,qj m1,qj m2];have ht:=k4o z c2 (s:=(i:Int)) (k:=m);rw [o,kyp (by omega) (by omega) (by omega) (by omega),qi (by simp),qap] at ht;rw [o,ht,qa];have aw:ke7=some true:=rfl;by_cases d:(1152921504606846976:Int)<en (totC l (i:Int) q);rw [show ansC (totC l (i:Int) q)=(0,11) by unfold ansC;rw [qo d]];exact .inr ⟨.inr true,by simp only [show ((11:Int) != 0)=true from rfl,qe,qa,aw], .inl rfl⟩
    ·rw [show ansC (totC l (i:Int) q)=(en (totC l (i:Int) q),0) by unfold ansC;rw [qi d]];simp only [show ((0:Int) != 0)=false from rfl,qd,qa];by_cases a:(100:Int)<en (totC l (i:Int) q);exact .inr ⟨.inr true,by rw [qj a,qe,aw,qa], .inl rfl⟩
     ·refine .inl ⟨((i+1:Nat):Int),by rw [qf a,qd,kaj _],rfl,fun h j A=>?_⟩;by_cases p:j=i;subst p;rw [qap];unfold en at a;omega
      ·have u:=hs ⟨rfl,m1,m2⟩ j (by omega);rw [o] at u;exact u
   ·refine .inr ⟨.inl (),?_, .inr ⟨rfl,fun h=>absurd h hc⟩⟩;simp only [kcd,kg5 hi,qe,c2,qa,<- em];by_cases h0:c=0
    ·rw [show (c == 0)=true by simp [h0],qe];by_cases m1:1<=m;rw [qj m1,qe,qf (fun h=>hc ⟨h0,m1,h⟩),qa,qd]
     ·rw [qf m1,qd,qa,qd]
    ·rw [show (c == 0)=false by simp [h0],qd,qa,qd]) (fun s hs=>by
   obtain ⟨rfl,hs⟩:=hs;exact ⟨.inl (),by simp only [kcd,kf1,qd,qa], .inr ⟨rfl,hs⟩⟩) 0 ⟨rfl,fun _ j A=>by omega⟩
 rw [v1,qa];rcases v2 with rfl | ⟨rfl,v2⟩;exact ⟨_,rfl,rfl⟩
 ·simp only [qaf];obtain ⟨r,r1,r2,r3⟩:=kadq hl y hp x.yj (fun h m1 m2 s hs=>by rw [c2] at h;rw [<- em] at m1 m2 ⊢;exact v2 ⟨qw h,m1,m2⟩ s hs);rw [r1,r2,qa,qa,kab3 r3,qa,beq_self_eq_true,qe,qe];exact ⟨_,rfl,rfl⟩
end Go.Proofs.YtjpkdegjcilndaaGreatDoor
