import Derived.Test.YtgebfaidgikieaaGreatDoorVd
import Derived.Test.YtgebfaidgikieaaGreatDoorOpr
import Derived.Test.YtgebfaidgikieaaGreatDoorOpr
import Derived.Test.YtgebfaidgikieaaGreatDoorZE
import Derived.Test.YtgebfaidgikieaaGreatDoorVE
set_option linter.all false
namespace Go.Proofs.YtgebfaidgikieaaGreatDoor
open Go Go.RowKit
def badP (c:Int) (z:Bool):Option Bool:=(Option.bind ((bif (decide (97<=(ior .u8 c 32))) then (some (decide ((ior .u8 c 32)<=122))) else (some (false))):Option (Bool)) fun (v6:Bool)=>((bif (!v6) then (bif z then (some (true)) else (bif (c != 45) then (bif (decide (c<48)) then (some (true)) else (some (decide (57<c)))) else (some (false)))) else (some (false))):Option (Bool)))
def badR (c:Int) (z:Bool):Option Bool:=(Option.bind ((bif (decide (97<=c)) then (bif (decide (c<=122)) then (some (true)) else (bif (decide (65<=c)) then (some (decide (c<=90))) else (some (false)))) else (bif (decide (65<=c)) then (some (decide (c<=90))) else (some (false)))):Option (Bool)) fun (v9:Bool)=>((bif (!v9) then (bif z then (some (true)) else (bif (c != 45) then (bif (decide (c<48)) then (some (true)) else (some (decide (57<c)))) else (some (false)))) else (some (false))):Option (Bool)))
set_option maxRecDepth 100000 in
theorem kaii:(List.range 256).all (fun k=>[true,false].all fun z=>(badP (k:Int) z == badR (k:Int) z) && (badP (k:Int) z).isSome)=true:=by kernel_rfl
theorem kaex (c:UInt8) (z:Bool):∃ b,badP (c.toNat:Int) z=some b/\badR (c.toNat:Int) z=some b:=by
 have h:=qp.1 kaii c.toNat (List.mem_range.2 (UInt8.toNat_lt c));have a:=qp.1 h z (by cases z <;> simp);simp only [qo,beq_iff_eq] at a;obtain ⟨e,d⟩:=a;cases hp:badP (c.toNat:Int) z with
 | none=>rw [hp] at d;cases d
 | some b=>exact ⟨b,rfl,by rw [<- e,hp]⟩
theorem kvc (s:BA) (hs:s.size<=9223372036854775807):∃ b,ki4 s=some b/\kfk s=some b:=by
 have h:=kbo s;obtain ⟨r,r',h1,j,rfl,a⟩:=kiq (step:=kfs s) (step':=kde s) s.size (by omega) (fun i=>(i:Int)) (fun i=>(i:Int)) (fun r r'=>r=r'/\(r = .inl ()\/r = .inr false)) (fun i hi=>by
  have c:i<s.data.toList.length:=by rw [<- kbo];exact hi
  have e1:byt s (i:Int)=some (s.data.toList[i].toNat:Int):=by rw [krr,qb c];rfl
  have b1:decide ((i:Int)<(s.size:Int))=true:=qh (by omega);obtain ⟨b,p1,p2⟩:=kaex s.data.toList[i] ((i:Int) == 0);unfold badP at p1;unfold badR at p2;have q1:kfs s (i:Int)=bif b then some (.inr (.inr false)) else some (.inl (w64 ((i:Int)+1))):=by simp only [kfs,b1,qe,e1,qa];rw [<- Option.bind_assoc,p1,qa]
  have q2:kde s (i:Int)=bif b then some (.inr (.inr false)) else some (.inl (w64 ((i:Int)+1))):=by simp only [kde,b1,qe,e1,qa];rw [<- Option.bind_assoc,p2,qa]
  rw [q1,q2,ka1 i];cases b with
  | true=>exact .inr ⟨_,_,rfl,rfl,rfl, .inr rfl⟩
  | false=>exact .inl ⟨rfl,rfl⟩) (by
  have b1:decide ((s.size:Int)<(s.size:Int))=false:=qf (by omega);simp only [kfs,kde,b1,qd];exact ⟨_,_,rfl,rfl,rfl, .inl rfl⟩)
 have d:kab (kfs s) fuel 0=some r:=by simpa using h1
 have e:kab (kde s) fuel 0=some r:=by simpa using j
 unfold ki4 kfk;rw [d,e];simp only [qa];by_cases f:(s.size:Int)<1;rw [qh f,qf (show ¬ (1:Int)<=(s.size:Int) by omega)];rcases a with rfl | rfl <;> exact ⟨false,rfl,rfl⟩
 ·rw [qf f,qh (show (1:Int)<=(s.size:Int) by omega)];by_cases g:(24:Int)<(s.size:Int);rw [qh g,qf (show ¬ (s.size:Int)<=24 by omega)];rcases a with rfl | rfl <;> exact ⟨false,rfl,rfl⟩
  ·rw [qf g,qh (show (s.size:Int)<=24 by omega)];rcases a with rfl | rfl;exact ⟨true,rfl,rfl⟩
   ·exact ⟨false,rfl,rfl⟩
def tyB (t:Int):Bool:=decide (1<=t) && decide (t<=8)
theorem k0i (t:Int):ki3 t=some (tyB t):=by unfold ki3 tyB;cases decide (1<=t) <;> rfl
theorem k3f (t:Int):kf8 t=some (tyB t):=k0i t
theorem ky6 (l:La) (h:l.inputs.length<=9223372036854775807):∃ r,kab (kgz l) fuel 0=some r/\kab (kd5 l) fuel 0=some r/\∀ e,r = .inr e->e≠0:=by
 obtain ⟨r,r',h1,a,rfl,b⟩:=kiq (step:=kgz l) (step':=kd5 l) l.inputs.length (by omega) (fun i=>(i:Int)) (fun i=>(i:Int)) (fun r r'=>r=r'/\∀ e,r = .inr e->e≠0) (fun i hi=>by
  have e1:l.inputs[i]?=some l.inputs[i]:=qb hi;have b1:decide ((i:Int)<(l.inputs.length:Int))=true:=qh (by omega);simp only [kgz,kd5,b1,qe,kag,e1,qa,k0i,k3f,ka1 i];cases tyB l.inputs[i] with
  | true=>exact .inl ⟨rfl,rfl⟩
  | false=>exact .inr ⟨_,_,rfl,rfl,rfl,fun e h=>by cases h;decide⟩) (by
  have b1:decide ((l.inputs.length:Int)<(l.inputs.length:Int))=false:=qf (by omega);simp only [kgz,kd5,b1,qd];exact ⟨_,_,rfl,rfl,rfl,fun e h=>by cases h⟩)
 exact ⟨r,by simpa using h1,by simpa using a,b⟩
theorem kpt {α:Type} (s:BA):∀ (m:List (BA×α)) (i:Nat),kgl s m i=(kgl s m 0).map fun p=>(p.1+i,p.2)
 | [],i=>rfl
 | (k,v)::l,i=>by
  simp only [kgl];cases s.toList == k.toList with
  | true=>simp
  | false=>
   simp only [qd];rw [kpt s l (i+1),kpt s l (0+1),Option.map_map];congr 1;funext p;simp only [Function.comp,qq,and_true];omega
theorem kp7 {α:Type} (k s:BA) (v z:α) (l:List (BA×α)):mget ((k,v)::l) s z=bif s.toList == k.toList then v else mget l s z:=by
 unfold mget;simp only [kgl];cases s.toList == k.toList with
 | true=>rfl
 | false=>
  simp only [qd];rw [kpt];cases kgl s l 0 <;> rfl
theorem kabl {α:Type} (k s:BA) (v y:α) (l:List (BA×α)):mput ((k,v)::l) s y=bif s.toList == k.toList then (s,y)::l else (k,v)::mput l s y:=by
 unfold mput;simp only [kgl];cases s.toList == k.toList with
 | true=>rfl
 | false=>
  simp only [qd];rw [kpt];cases kgl s l 0 <;> rfl
theorem kaag {a b:BA} (c:BA) (h:(a.toList == b.toList)=true):(c.toList == a.toList)=(c.toList == b.toList):=by rw [beq_iff_eq] at h;rw [h]
theorem k31 {α:Type} (k s:BA) (y z:α):∀ m:List (BA×α),mget (mput m k y) s z=bif s.toList == k.toList then y else mget m s z
 | []=>by show mget [(k,y)] s z=_;rw [kp7]
 | (k',v)::l=>by
  rw [kabl];cases h:k.toList == k'.toList with
  | true=>
   simp only [qe];rw [kp7,kp7,kaag s h];cases s.toList == k'.toList <;> rfl
  | false=>
   simp only [qd];rw [kp7,kp7,k31 k s y z l];cases h1:s.toList == k'.toList with
   | false=>rfl
   | true=>
    cases a:s.toList == k.toList with
    | false=>rfl
    | true=>
     rw [beq_iff_eq] at h1 a;rw [<- h1,<- a] at h;simp at h
def mOf (xs:List Sy):List (BA×Bool):=xs.foldl (fun m x=>mput m x.name true) []
theorem kad9 (xs:List Sy) (x:Sy):mOf (xs++[x])=mput (mOf xs) x.name true:=by unfold mOf;rw [List.foldl_append];rfl
theorem k3k (s:BA):∀ (xs:List Sy) (m:List (BA×Bool)),mget (xs.foldl (fun m x=>mput m x.name true) m) s false=(mget m s false || xs.any fun x=>s.toList == x.name.toList)
 | [],m=>by simp
 | x::xs,m=>by rw [List.foldl_cons,k3k s xs,k31,List.any_cons];cases s.toList == x.name.toList <;> simp
theorem kafu (s:BA) (xs:List Sy):mget (mOf xs) s false=xs.any fun x=>s.toList == x.name.toList:=by unfold mOf;rw [k3k];rfl
theorem kais (l:La) (i:Nat) (hi:i<l.symbols.length) (hl:l.symbols.length<=9223372036854775807):kab (kd1 l (i:Int)) fuel 0=some (if ((l.symbols.take i).any fun x=>l.symbols[i].name.toList == x.name.toList)=true then .inr 6 else .inl ()):=by
 have b:(l.symbols.take i).length=i:=by rw [qap];omega
 have:=ki5 (kd1 l (i:Int)) i (fun j=>(j:Int)) (fun j=>if (((l.symbols.take i).drop j).any fun x=>l.symbols[i].name.toList == x.name.toList)=true then .inr 6 else .inl ()) (fun j c=>by
  have e0:l.symbols[i]?=some l.symbols[i]:=qb hi;have a:j<l.symbols.length:=by omega
  have e1:l.symbols[j]?=some l.symbols[j]:=qb a;have b1:decide ((j:Int)<(i:Int))=true:=qh (by omega);have hd:(l.symbols.take i).drop j=l.symbols[j]::(l.symbols.take i).drop (j+1):=by rw [qac (by omega)];congr 1;exact List.getElem_take
  have hc:(l.symbols[j].name.toList == l.symbols[i].name.toList)=(l.symbols[i].name.toList == l.symbols[j].name.toList):=by rw [Bool.eq_iff_iff,beq_iff_eq,beq_iff_eq];exact eq_comm
  simp only [kd1,b1,qe,kag,e0,e1,qa,hd,List.any_cons,ka1 j,hc];cases d:l.symbols[i].name.toList == l.symbols[j].name.toList with
  | true=>exact .inr rfl
  | false=>exact .inl ⟨rfl,rfl⟩) (by
  have b1:decide ((i:Int)<(i:Int))=false:=qf (by omega);have hd:(l.symbols.take i).drop i=[]:=qax (by omega);simp only [kd1,b1,qd,hd,List.any_nil];rfl)
 simpa using this
theorem kw8 (l:La) (h:l.symbols.length<=9223372036854775807) (hs:∀ x∈l.symbols,x.name.size<=9223372036854775807):∃ r,kab (kg4 l) fuel (0,[])=some r/\kab (kd6 l) fuel 0=some r/\∀ e,r = .inr e->e≠0:=by
 obtain ⟨r,r',h1,c,rfl,d⟩:=kiq (step:=kg4 l) (step':=kd6 l) l.symbols.length (by omega) (fun i=>((i:Int),mOf (l.symbols.take i))) (fun i=>(i:Int)) (fun r r'=>r=r'/\∀ e,r = .inr e->e≠0) (fun i hi=>by
  have e1:l.symbols[i]?=some l.symbols[i]:=qb hi;have b1:decide ((i:Int)<(l.symbols.length:Int))=true:=qh (by omega);obtain ⟨b,n1,n2⟩:=kvc l.symbols[i].name (hs _ (qv hi));have hd:=kais l i hi h;have hm:=kafu l.symbols[i].name (l.symbols.take i);have a:mput (mOf (l.symbols.take i)) l.symbols[i].name true=mOf (l.symbols.take (i+1)):=by rw [List.take_add_one,e1,<- kad9];rfl
  simp only [kg4,kd6,b1,qe,kag,e1,qa,n1,n2,hd,hm,k0i,k3f,ka1 i,a];cases b with
  | false=>exact .inr ⟨_,_,rfl,rfl,rfl,fun e h=>by cases h;decide⟩
  | true=>
   simp only [qbo,qd];cases f:(l.symbols.take i).any fun x=>l.symbols[i].name.toList == x.name.toList with
   | true=>exact .inr ⟨_,_,rfl,rfl,rfl,fun e h=>by cases h;decide⟩
   | false=>
    cases tyB l.symbols[i].type with
    | true=>exact .inl ⟨rfl,rfl⟩
    | false=>exact .inr ⟨_,_,rfl,rfl,rfl,fun e h=>by cases h;decide⟩) (by
  have b1:decide ((l.symbols.length:Int)<(l.symbols.length:Int))=false:=qf (by omega);simp only [kg4,kd6,b1,qd];exact ⟨_,_,rfl,rfl,rfl,fun e h=>by cases h⟩)
 exact ⟨r,by simpa [mOf] using h1,by simpa using c,d⟩
set_option maxRecDepth 100000
def opL:List Sae:=operator_catalog.getD []
theorem kaa4:operator_catalog.isSome=true:=by kernel_rfl
theorem kak2:operator_catalog=some opL:=by
 have h:=kaa4;unfold opL
 revert h
 generalize operator_catalog=x;intro h;cases x with
 | none=>cases h
 | some x=>rfl
def refFs:List BA:=synthesisref09_families.getD []
theorem kafe:synthesisref09_families=some refFs:=rfl
def catL (f:BA):List Sad:=(kcp f).getD []
theorem kafh:refFs.all (fun f=>(kcp f).isSome)=true:=by kernel_rfl
theorem kain {f:BA} (a:f∈refFs):kcp f=some (catL f):=by
 have h:=qp.1 kafh f a;unfold catL
 revert h
 generalize kcp f=x;intro h;cases x with
 | none=>cases h
 | some x=>rfl
def opNames:List BA:=opL.map fun e=>e.yj.yg
theorem kaav:(refFs.flatMap fun f=>(catL f).map fun x=>x.f_0)=opNames:=by kernel_rfl
def eqOp:Option (Sac×Bool)->Option (Sac×Bool)->Bool
 | some (a,b),some (c,d)=>(a.yg.toList == c.yg.toList) && (a.yd == c.yd) && (a.yi == c.yi) && (b == d)
 | _,_=>false
theorem kai4 {x y:Option (Sac×Bool)} (h:eqOp x y=true):∃ r,x=some r/\y=some r:=by
 unfold eqOp at h;split at h
 ·rename_i a b c d;simp only [qo,beq_iff_eq] at h;obtain ⟨⟨⟨h1,e⟩,f⟩,rfl⟩:=h;obtain ⟨n,l,t⟩:=a;obtain ⟨n',l',t'⟩:=c;simp only at h1 e f;have h1:n=n':=by have:(n.toList == n'.toList)=true:=(by simpa using h1);rw [kkh,MapKept.bytes_beq] at this;exact this
  subst h1 e f;exact ⟨_,rfl,rfl⟩
 ·cases h
theorem kadk:opNames.all (fun n=>eqOp (kia n) (kb8 n))=true:=by kernel_rfl
def kabr:Sac:=Sac.mk ⟨#[]⟩ [] 0
theorem k8k:opL.length<1000:=qay (by kernel_rfl)
theorem k3a:refFs.length<1000:=qay (by kernel_rfl)
theorem k6m:refFs.all (fun f=>decide ((catL f).length<1000))=true:=by kernel_rfl
theorem k7h {f:BA} (a:f∈refFs):(catL f).length<1000:=qay (qp.1 k6m f a)
theorem kwx (s:BA) (c:¬ s∈opNames):kia s=some (kabr,false)/\kb8 s=some (kabr,false):=by
 refine ⟨?_,?_⟩
 ·have hl:=kuv (kg1 s opL) opL.length (by have:=k8k;omega) (fun i=>(i:Int)) (.inl ()) (fun i hi=>by
   have e1:opL[i]?=some opL[i]:=qb hi;have b1:decide ((i:Int)<(opL.length:Int))=true:=qh (by omega);have a:(opL[i].yj.yg.toList == s.toList)=false:=by
    cases d:opL[i].yj.yg.toList == s.toList with
    | false=>rfl
    | true=>
     rw [kkh,MapKept.bytes_beq] at d;exact absurd (qaz.2 ⟨opL[i],qv hi,d⟩) c
   simp only [kg1,b1,qe,kag,e1,qa,a,qd,ka1 i (h:=(by have:=k8k;omega))]) (by
   have b1:decide ((opL.length:Int)<(opL.length:Int))=false:=qf (by omega);simp only [kg1,b1,qd])
  have b:kab (kg1 s opL) fuel 0=some (.inl ()):=by simpa using hl
  simp only [kia,knc,kak2,qa,b,qaa];rfl
 ·have hl:=kuv (kdt s refFs) refFs.length (by have:=k3a;omega) (fun i=>(i:Int)) (.inl ()) (fun i hi=>by
   have e1:refFs[i]?=some refFs[i]:=qb hi;have f:refFs[i]∈refFs:=qv hi;have b1:decide ((i:Int)<(refFs.length:Int))=true:=qh (by omega);have g:=kuv (kdq s refFs[i] (catL refFs[i])) (catL refFs[i]).length (by have:=k7h f;omega) (fun i=>(i:Int)) (.inl ()) (fun j h=>by
    have e2:(catL refFs[i])[j]?=some (catL refFs[i])[j]:=qb h;have b2:decide ((j:Int)<((catL refFs[i]).length:Int))=true:=qh (by omega);have a:((catL refFs[i])[j].f_0.toList == s.toList)=false:=by
     cases d:(catL refFs[i])[j].f_0.toList == s.toList with
     | false=>rfl
     | true=>
      rw [kkh,MapKept.bytes_beq] at d;refine absurd ?_ c;rw [<- kaav];exact qa6.2 ⟨refFs[i],f,qaz.2 ⟨_,qv h,d⟩⟩
    simp only [kdq,b2,qe,kag,e2,qa,a,qd,ka1 j (h:=(by have:=k7h f;omega))]) (by
    have b2:decide (((catL refFs[i]).length:Int)<((catL refFs[i]).length:Int))=false:=qf (by omega);simp only [kdq,b2,qd])
   have e:kab (kdq s refFs[i] (catL refFs[i])) fuel 0=some (.inl ()):=(by simpa using g);simp only [kdt,b1,qe,kag,e1,qa,kain f,e,qaa,ka1 i (h:=(by have:=k3a;omega))]) (by
   have b1:decide ((refFs.length:Int)<(refFs.length:Int))=false:=qf (by omega);simp only [kdt,b1,qd])
  have b:kab (kdt s refFs) fuel 0=some (.inl ()):=by simpa using hl
  simp only [kb8,kh5,kafe,qa,b,qaa,beq_self_eq_true,qe];rfl
theorem kabs (s:BA):∃ r,kia s=some r/\kb8 s=some r:=by
 by_cases a:s∈opNames;exact kai4 (qp.1 kadk s a)
 ·exact ⟨_,kwx s a⟩
theorem kt8 {α:Type} (xs:List α) {i:Int} (h0:0<=i) (h1:i<(xs.length:Int)):∃ x,idx xs i=some x/\x∈xs:=by
 have h:i.toNat<xs.length:=by omega
 refine ⟨xs[i.toNat],?_,qv h⟩;unfold idx;rw [qs h0,qb h]
theorem kac6 (x y:List Int):kgv x y=kcj x y:=rfl
theorem kab1 (x y:List Int) (hx:x.length<=9223372036854775807):∃ c,kcj x y=some c:=by
 unfold kcj;by_cases hl:(x.length:Int)=(y.length:Int)
 ·obtain ⟨r,h1,_⟩:=knv (kcd x y) (kcd x y) x.length (fun i=>(i:Int)) (fun i hi=>by
   have e1:x[i]?=some x[i]:=qb hi;have a:i<y.length:=(by omega);have e2:y[i]?=some y[i]:=qb a;have b1:decide ((i:Int)<(x.length:Int))=true:=qh (by omega);simp only [kcd,b1,qe,kag,e1,e2,qa,ka1 i];cases x[i] != y[i] with
   | true=>exact .inr ⟨_,rfl,rfl⟩
   | false=>exact .inl ⟨rfl,rfl⟩) (.inl ()) (by
   have b1:decide ((x.length:Int)<(x.length:Int))=false:=qf (by omega);simp only [kcd,b1,qd]) (by
   have b1:decide ((x.length:Int)<(x.length:Int))=false:=qf (by omega);simp only [kcd,b1,qd])
  have d:kab (kcd x y) fuel 0=some r:=by simpa using h1
  rw [d,show ((x.length:Int) != (y.length:Int))=false by rw [qae];omega];cases r with
  | inl u=>exact ⟨true,rfl⟩
  | inr b=>exact ⟨b,rfl⟩
 ·rw [show ((x.length:Int) != (y.length:Int))=true by rw [qbc];omega];exact ⟨false,rfl⟩
theorem kzs (x:List Int):kcj x []=some ((x.length:Int) == 0):=by
 cases x with
 | nil=>kernel_rfl
 | cons a x=>
  unfold kcj;have h1:((((a::x).length:Nat):Int) != (([]:List Int).length:Int))=true:=by rw [qbc,qad,qat];omega
  have b:((((a::x).length:Nat):Int) == 0)=false:=by rw [qam,qad];omega
  rw [h1,b];rfl
def fineR (r:Ru):Prop:=r.args.length<=9223372036854775807/\okV r.const/\kua r.const
theorem k4m {a b:Ru} (ha:fineR a) (d:fineR b):∃ c,kd9 a b=some c/\kfe a b=some c:=by obtain ⟨c,hc⟩:=kab1 a.args b.args ha.1;unfold kd9 kfe;simp only [kac6,hc,qa,kt6 ha.2.1 d.2.1,k6c ha.2.1 d.2.1];cases a.symbol == b.symbol <;> cases a.kind == b.kind <;> cases a.input == b.input <;> cases a.op.toList == b.op.toList <;> cases c <;> exact ⟨_,rfl,rfl⟩
theorem kakv (v:Va):Va.mk v.type v.num v.text v.items=v:=by cases v;rfl
def kgg:Va:=Va.mk 0 0 ⟨#[]⟩ []
theorem k0f:okV kgg:=by refine ⟨?_,?_,trivial⟩ <;> simp [kgg,depV,kth]
theorem kadq (l:La) (r:Ru) (o:Sac×Bool) (hr:r.args.length<=9223372036854775807) (hl:r.args.length=o.1.yd.length):∃ c,kab (kh7 l r o) fuel 0=some c/\kab (ka4 l r o) fuel 0=some c:=by
 obtain ⟨c,h1,b⟩:=knv (kh7 l r o) (ka4 l r o) r.args.length (fun i=>(i:Int)) (fun i hi=>by
  have e1:r.args[i]?=some r.args[i]:=qb hi;have a:i<o.1.yd.length:=by omega
  have e2:o.1.yd[i]?=some o.1.yd[i]:=qb a;have b1:decide ((i:Int)<(r.args.length:Int))=true:=qh (by omega);simp only [kh7,ka4,kik,b1,qe,kag,e1,e2,qa,ka1 i];by_cases h0:0<=r.args[i]
  ·by_cases h1:r.args[i]<(l.symbols.length:Int)
   ·obtain ⟨x,hx,_⟩:=kt8 _ h0 h1;rw [qh h0,qh h1,qf (show ¬ r.args[i]<0 by omega),qf (show ¬ (l.symbols.length:Int)<=r.args[i] by omega)];simp only [qe,qd,qa,qbo,hx];cases x.type != o.1.yd[i] with
    | true=>exact .inr ⟨_,rfl,rfl⟩
    | false=>exact .inl ⟨rfl,rfl⟩
   ·rw [qh h0,qf h1,qf (show ¬ r.args[i]<0 by omega),qh (show (l.symbols.length:Int)<=r.args[i] by omega)];exact .inr ⟨_,rfl,rfl⟩
  ·rw [qf h0,qh (show r.args[i]<0 by omega)];exact .inr ⟨_,rfl,rfl⟩) (.inl ()) (by
  have b1:decide ((r.args.length:Int)<(r.args.length:Int))=false:=qf (by omega);simp only [kh7,b1,qd]) (by
  have b1:decide ((r.args.length:Int)<(r.args.length:Int))=false:=qf (by omega);simp only [ka4,b1,qd])
 exact ⟨c,by simpa using h1,by simpa using b⟩
theorem kaby (a b:Int):(a != b)=(b != a):=by rw [Bool.eq_iff_iff,qbc,qbc];exact ⟨fun h e=>h e.symm,fun h e=>h e.symm⟩
theorem kafa (l:La) (r:Ru) (ha:r.args.length<=9223372036854775807) (b:kcg r.const (Va.mk 0 0 ⟨#[]⟩ [])=some (eqV r.const kgg)) (hp:kf7 r.const (Va.mk 0 0 ⟨#[]⟩ [])=some (eqV r.const kgg)) (hc:∃ c,kah fuel r.const=some c/\kar fuel r.const=some c):∃ c,kj4 l r=some c/\kbw l r=some c:=by
 have a:kf7 (Va.mk r.const.type r.const.num r.const.text r.const.items) (Va.mk 0 0 ⟨#[]⟩ [])=some (eqV r.const kgg):=by rw [kakv];exact hp
 have d:kf7 (Va.mk 0 0 ⟨#[]⟩ []) (Va.mk 0 0 ⟨#[]⟩ [])=some true:=by have:=kt6 k0f k0f;rw [kad7] at this;exact this
 unfold kj4 kbw kik;by_cases h0:0<=r.symbol
 rotate_left
 rw [qf h0,qh (show r.symbol<0 by omega)];exact ⟨1,rfl,rfl⟩;by_cases h1:r.symbol<(l.symbols.length:Int)
 rotate_left
 rw [qh h0,qf h1,qf (show ¬ r.symbol<0 by omega),qh (show (l.symbols.length:Int)<=r.symbol by omega)];exact ⟨1,rfl,rfl⟩;obtain ⟨x,hx,_⟩:=kt8 _ h0 h1;rw [qh h0,qh h1,qf (show ¬ r.symbol<0 by omega),qf (show ¬ (l.symbols.length:Int)<=r.symbol by omega)];simp only [qe,qd,qa,qbo];by_cases k1:r.kind<1;rw [qh k1];exact ⟨4,rfl,rfl⟩;by_cases k3:3<r.kind;rw [qf k1,qh k3];exact ⟨4,rfl,rfl⟩;rw [qf k1,qf k3];simp only [qd,qa,hx];have hk:r.kind=1\/r.kind=2\/r.kind=3:=by omega
 rcases hk with hk | hk | hk
 ·have c1:(r.kind == 1)=true:=by rw [hk];rfl
  simp only [c1,qe,qa,kd9,keo,beq_self_eq_true,kzs,a,b];have fin:∃ c,(Option.bind ((bif (decide (r.input<0)) then (some (true)) else (some (decide ((List.length l.inputs:Int)<=r.input)))):Option (Bool)) fun (v9:Bool)=>(bif v9 then (some 1) else (Option.bind (idx l.inputs r.input) fun v10=>(Option.bind (kf9 (v10) (x.type)) fun v11=>(some v11)))))=some c /\
    (Option.bind ((bif (decide (r.input<0)) then (some (true)) else (some (decide ((List.length l.inputs:Int)<=r.input)))):Option (Bool)) fun (v8:Bool)=>(bif v8 then (some 1) else (Option.bind (idx l.inputs r.input) fun v9=>(bif (v9 != x.type) then (some 3) else (some 0)))))=some (c:Int):=by
   by_cases i0:r.input<0;rw [qh i0];exact ⟨1,rfl,rfl⟩;by_cases i1:(l.inputs.length:Int)<=r.input;rw [qf i0,qh i1];exact ⟨1,rfl,rfl⟩;obtain ⟨y,hy,_⟩:=kt8 (i:=r.input) l.inputs (by omega) (by omega);rw [qf i0,qf i1];simp only [qd,qa,hy,kf9];cases y != x.type <;> exact ⟨_,rfl,rfl⟩
  obtain ⟨c,f1,f2⟩:=fin;cases r.op.toList == (⟨#[]⟩:BA).toList <;> cases (r.args.length:Int) == 0 <;> cases eqV r.const kgg <;> first | exact ⟨4,rfl,rfl⟩ | exact ⟨c,f1,f2⟩
 ·have c1:(r.kind == 1)=false:=by rw [hk];rfl
  have c2:(r.kind == 2)=true:=by rw [hk];rfl
  simp only [c1,c2,qe,qd,qa,kd9,keo,beq_self_eq_true,kzs,d,b];obtain ⟨c,f1,f2⟩:=hc;simp only [f1,f2,qa,kf9];cases r.input == 0 <;> cases r.op.toList == (⟨#[]⟩:BA).toList <;> cases (r.args.length:Int) == 0 <;> first | exact ⟨4,rfl,rfl⟩ | skip
  cases c != 0 with
  | true=>exact ⟨c,rfl,rfl⟩
  | false=>cases r.const.type != x.type <;> exact ⟨_,rfl,rfl⟩
 ·have c1:(r.kind == 1)=false:=by rw [hk];rfl
  have c2:(r.kind == 2)=false:=by rw [hk];rfl
  have c3:(r.kind == 3)=true:=by rw [hk];rfl
  have en:kcj [] []=some true:=kzs [];simp only [c1,c2,c3,qe,qd,qa,kd9,keo,beq_self_eq_true,en,a,b];obtain ⟨o,f1,f2⟩:=kabs r.op;simp only [kcx,f1,f2,qa,kf9];cases r.input == 0 <;> cases eqV r.const kgg <;> first | exact ⟨4,rfl,rfl⟩ | skip
  simp only [qbo,Bool.not_false,qe,qd,qa];cases o.2 with
  | false=>exact ⟨5,rfl,rfl⟩
  | true=>
   simp only [qbo,qd];by_cases hl:r.args.length=o.1.yd.length
   ·rw [show ((r.args.length:Int) != (o.1.yd.length:Int))=false by rw [qae];omega];obtain ⟨c,g1,g2⟩:=kadq l r o ha hl;simp only [qd,g1,g2,qa,hx];cases c with
    | inl u=>
     simp only [qaa,qa];rw [kaby];cases x.type != o.1.yi <;> exact ⟨_,rfl,rfl⟩
    | inr e=>exact ⟨e,rfl,rfl⟩
   ·rw [show ((r.args.length:Int) != (o.1.yd.length:Int))=true by rw [qbc];omega];exact ⟨2,rfl,rfl⟩
theorem kpi {σ β:Type} {step:σ->Option (σ ⊕ β)} (n:Nat) (S:Nat->σ) (b0:β) (hs:∀ i,i<n->step (S i)=some (.inl (S (i+1)))\/∃ b,step (S i)=some (.inr b)/\b≠b0):
  ∀ (k i:Nat),kab step k (S i)=some b0->∀ j,i<=j->j<n->step (S j)=some (.inl (S (j+1)))
 | 0,i,h=>by cases h
 | k+1,i,h=>fun j a c=>by
  rw [kab] at h;rcases hs i (by omega) with h1 | ⟨b,h1,d⟩
  ·rw [h1] at h;by_cases e:i=j;subst e;exact h1
   ·exact kpi n S b0 hs k (i+1) h j (by omega) c
  ·rw [h1] at h;injection h with h;exact absurd h d
theorem kzm {α:Type} (xs:List α) (i:Nat) (hi:i<=xs.length):cutL xs 0 (i:Int)=some (xs.take i):=by unfold cutL;rw [qs (by omega)];simp
theorem kafn (l:La) (i:Nat) (hi:i<l.rules.length) (hl:l.rules.length<=9223372036854775807) (hr:∀ j (g:j<l.rules.length),j<=i->fineR l.rules[j]):∃ b,kbu (l.rules.take i) l.rules[i]=some b/\kab (kc3 l (i:Int)) fuel 0=some (if b=true then .inr 6 else .inl ()):=by
 have a:(l.rules.take i).length=i:=by rw [qap];omega
 obtain ⟨r,r',h1,h,k⟩:=kiq (step:=kba (l.rules.take i) l.rules[i]) (step':=kc3 l (i:Int)) i (by omega) (fun j=>(j:Int)) (fun j=>(j:Int))
  (fun r r'=>(r = .inl ()/\r' = .inl ())\/∃ j:Nat,r = .inr (j:Int)/\r' = .inr 6) (fun j g=>by
  have e0:l.rules[i]?=some l.rules[i]:=qb hi;have d:j<l.rules.length:=by omega
  have e1:l.rules[j]?=some l.rules[j]:=qb d;have e2:(l.rules.take i)[j]?=some l.rules[j]:=by rw [List.getElem?_take_of_lt g,e1]
  have b1:decide ((j:Int)<(i:Int))=true:=qh (by omega);have b2:decide ((j:Int)<((l.rules.take i).length:Int))=true:=by rw [a];exact b1
  obtain ⟨c,c1,c2⟩:=k4m (hr j d (by omega)) (hr i hi (qw _));simp only [kba,kc3,kjt,b1,b2,qe,kag,e0,e1,e2,qa,c1,c2,ka1 j];cases c with
  | true=>exact .inr ⟨_,_,rfl,rfl, .inr ⟨j,rfl,rfl⟩⟩
  | false=>exact .inl ⟨rfl,rfl⟩) (by
  have b1:decide ((i:Int)<(i:Int))=false:=qf (by omega);have b2:decide ((i:Int)<((l.rules.take i).length:Int))=false:=by rw [a];exact b1
  simp only [kba,kc3,b1,b2,qd];exact ⟨_,_,rfl,rfl, .inl ⟨rfl,rfl⟩⟩)
 have e:kab (kba (l.rules.take i) l.rules[i]) fuel 0=some r:=by simpa using h1
 have f:kab (kc3 l (i:Int)) fuel 0=some r':=by simpa using h
 unfold kbu kdb;rw [e,f];rcases k with ⟨rfl,rfl⟩ | ⟨j,rfl,rfl⟩;exact ⟨false,rfl,rfl⟩
 ·refine ⟨true,?_,rfl⟩;simp only [qa,qan];exact qbg some (qh (by omega))
theorem kafw (n:Nat) (x z:Va) (d:z.items=[]):kct (n+1) x z=some (cmpV x z):=by
 show kgb (kct n) x z=_;rw [kvk];unfold kgb;by_cases h1:x.type<z.type;rw [qh h1,qs h1];rfl;rw [qf h1,ql h1,qd];by_cases a:z.type<x.type;rw [qh a,qs a];rfl;rw [qf a,ql a,qd];by_cases b:x.num<z.num;rw [qh b,qs b];rfl;rw [qf b,ql b,qd];by_cases c:z.num<x.num;rw [qh c,qs c];rfl;rw [qf c,ql c,qd,k4a];show (bif kf6 x.text z.text then _ else bif kf6 z.text x.text then _ else _)=_;cases f:kf6 x.text z.text with
 | true=>rfl
 | false=>
  cases g:kf6 z.text x.text with
  | true=>rfl
  | false=>
   simp only [qd,Bool.false_eq_true,if_false];cases hi:x.items with
   | nil=>
    have:kab (kb1 x z (kct n)) fuel 0=some (.inl ()):=(by rw [knx,kab];simp [kb1,hi]);rw [this,d];simp [khc]
   | cons y l=>
    have:kab (kb1 x z (kct n)) fuel 0=some (.inr 1):=(by rw [knx,kab];have e:idx (y::l) 0=some y:=kag (y::l) 0;simp [kb1,hi,e,d]);rw [this,d];simp [khc]
theorem kafo (n:Nat) (x:Va):kct (n+1) x kgg=some (cmpV x kgg):=kafw n x kgg rfl
theorem k9z (n:Nat) (l:List Va):kch (n+1) l []=some (if l.length=0 then 0 else 1):=by
 show kb6 (kav n) (kch n) l []=_;have:kab (ka0 l [] (kav n)) fuel 0=some (.inl ()):=by rw [knx,kab];cases l <;> simp [ka0]
 unfold kb6;rw [this];cases l with
 | nil=>simp
 | cons y l=>
  have h1:((((y::l).length:Nat):Int) == (([]:List Va).length:Int))=false:=by rw [qam,qad,qat];omega
  have a:decide ((((y::l).length:Nat):Int)<(([]:List Va).length:Int))=false:=qf (by rw [qad,qat];omega);simp only [qa,qaa,h1,a,qd,knu];rfl
theorem kad5 (n:Nat) (x z:Va) (d:z.items=[]):kav (n+2) x z=some (cmpV x z):=by
 show kcv (kav (n+1)) (kch (n+1)) x z=_;rw [kvk];unfold kcv;have e:khc x.items []=if x.items.length=0 then 0 else 1:=by cases x.items <;> rfl
 have a:=k9z n x.items;rw [d,e,a];by_cases t0:x.type=z.type
 ·rw [show (x.type != z.type)=false by rw [qae];exact t0,qd,ql (show ¬ x.type<z.type by omega),ql (show ¬ z.type<x.type by omega)];by_cases n0:x.num=z.num
  ·rw [show (x.num != z.num)=false by rw [qae];exact n0,qd,ql (show ¬ x.num<z.num by omega),ql (show ¬ z.num<x.num by omega)];by_cases b:x.text=z.text;rw [b,show (z.text.toList == z.text.toList)=true from beq_self_eq_true _];simp only [qbo,qd,qa,k1r,Bool.false_eq_true,if_false]
   ·have c:(x.text.toList == z.text.toList)=false:=(by rw [qam];exact fun h=>b (kne h));rw [c];simp only [Bool.not_false,qe,knu,qa];show some (if kf6 x.text z.text=true then (-1:Int) else 1)=_;cases f:kf6 x.text z.text with
    | true=>rfl
    | false=>
     cases g:kf6 z.text x.text with
     | true=>rfl
     | false=>exact absurd (k7o f g) b
  ·rw [show (x.num != z.num)=true by rw [qbc];exact n0,qe,knu];by_cases hl:x.num<z.num;rw [qh hl,qs hl];rfl
   ·rw [qf hl,ql hl,qs (show z.num<x.num by omega)];rfl
 ·rw [show (x.type != z.type)=true by rw [qbc];exact t0,qe,knu];by_cases hl:x.type<z.type;rw [qh hl,qs hl];rfl
  ·rw [qf hl,ql hl,qs (show z.type<x.type by omega)];rfl
theorem kae1 (n:Nat) (x:Va):kav (n+2) x kgg=some (cmpV x kgg):=kad5 n x kgg rfl
theorem kaba (x:Va):kf7 x (Va.mk 0 0 ⟨#[]⟩ [])=some (eqV x kgg):=by unfold kf7;have:=kafo 18446744073709551615 x;rw [<- knx] at this;show Option.bind (kct fuel x kgg) _=_;rw [this];simp only [qa,eqV];by_cases h:cmpV x kgg=0 <;> simp [h]
theorem kv4 (x:Va):kcg x (Va.mk 0 0 ⟨#[]⟩ [])=some (eqV x kgg):=by unfold kcg;have:=kae1 18446744073709551614 x;show Option.bind (kav fuel x kgg) _=_;rw [show fuel=18446744073709551614+2 from rfl,this];simp only [qa,eqV];by_cases h:cmpV x kgg=0 <;> simp [h]
def rkT (t:Int):Nat:=if t=7 then 3 else if t=5\/t=6 then 2 else 1
def inV (x:Va):Prop:=kna 9223372036854775807 x/\kua x
theorem k3s {x:Va} (h:inV x):x.items.length<=9223372036854775807/\x.text.size<=9223372036854775807/\∀ y∈x.items,inV y:=by obtain ⟨l1,l2⟩:=kon h.1;obtain ⟨s1,s2⟩:=k78 h.2;exact ⟨l1,s1,fun y hy=>⟨l2 y hy,s2 y hy⟩⟩
theorem k5s {k:Nat}:∀ {l:List Va},(∀ y∈l,depV y<=k)->kth l<=k
 | [],_=>qaj _
 | y::l,h=>by simp only [kth];exact Nat.max_le.2 ⟨h y (qx ..),k5s fun z a=>h z (qk _ a)⟩
theorem k2n {x:Va} {k:Nat} (h:∀ y∈x.items,depV y<=k):depV x<=k+1:=by
 cases x with
 | mk t n s l=>simp only [depV];exact Nat.succ_le_succ (k5s h)
theorem kr3 {x:Va} (h:((x.items.length:Int) == 0)=true):depV x<=1:=by
 refine k2n fun y hy=>?_;have:x.items.length=0:=by have:=eq_of_beq h;omega
 rw [qar this] at hy;cases hy
theorem k2e:∀ n:Nat,(∀ x:Va,2*rkT x.type<=n->inV x->∃ c,kah n x=some c/\kar n x=some c/\(c=0->depV x<=rkT x.type)) /\
  (∀ (l:List Va) (t:Int),(t=2\/t=3)->3<=n->l.length<=9223372036854775807->(∀ x∈l,inV x)->∃ c,kel n l t=some c/\kd7 n l t=some c/\(c=0->∀ x∈l,depV x<=1)) /\
  (∀ l:List Va,5<=n->l.length<=9223372036854775807->(∀ x∈l,inV x)->∃ c,khh n l=some c/\kfi n l=some c/\(c=0->∀ x∈l,depV x<=2))
 | 0=>⟨fun x h=>by unfold rkT at h;split at h <;> (try split at h) <;> omega,fun l t _ h=>by omega,fun l h=>by omega⟩
 | n+1=>by
  obtain ⟨ih1,ih2,ih3⟩:=k2e n;refine ⟨fun x hd hx=>?_,fun l t ht hd hl wl=>?_,fun l hd hl wl=>?_⟩
  ·show ∃ c,kbi (kah n) (kel n) (khh n) x=some c/\kat (kar n) (kd7 n) (kfi n) x=some c/\_;obtain ⟨lx,sx,wx⟩:=k3s hx;have hS:=fun a b=>kod x.text a b sx;have p:=fun a b=>k6x x.text a b sx;by_cases h0:x.type<1;exact ⟨3,by simp [kbi,h0],by simp [kat,h0],fun h=>absurd h (by decide)⟩;by_cases s:8<x.type;exact ⟨3,by simp [kbi,h0,s],by simp [kat,h0,s],fun h=>absurd h (by decide)⟩;have ht:x.type=1\/x.type=2\/x.type=3\/x.type=4\/x.type=5\/x.type=6\/x.type=7\/x.type=8:=(by omega);have v:∀ t,(t=2\/t=3)->rkT x.type=2->∃ c,kel n x.items t=some c/\kd7 n x.items t=some c/\(c=0->depV x<=2):=fun t h1 w=>(by obtain ⟨c,e1,e2,e3⟩:=ih2 x.items t h1 (by omega) lx wx;exact ⟨c,e1,e2,fun h=>k2n (e3 h)⟩);have y:rkT x.type=3->∃ c,khh n x.items=some c/\kfi n x.items=some c/\(c=0->depV x<=3):=fun w=>(by obtain ⟨c,e1,e2,e3⟩:=ih3 x.items (by omega) lx wx;exact ⟨c,e1,e2,fun h=>k2n (e3 h)⟩);have hp:=kaiv x.items;cases e:(x.text.toList == (⟨#[]⟩:BA).toList) <;> cases hm:(x.num == 0) <;> cases hl:((x.items.length:Int) == 0) <;> rw [hl] at hp <;>
    rcases ht with ht | ht | ht | ht | ht | ht | ht | ht <;>
    first
     | (refine ⟨4,?_,?_,fun h=>absurd h (by decide)⟩;rotate_left;(simp only [kat,ht,e,hm,hp,bne];simp);(simp only [kbi,kdp,ht,e,hm,hl];simp))
     | (obtain ⟨c,e1,e2⟩:=khe x.num 0 1;refine ⟨c,?_,?_,fun _=>by rw [ht];exact kr3 hl⟩;rotate_left;(simp only [kat,ht,e,hm,hp,bne];simp [e2]);(simp only [kbi,kdp,ht,e,hm,hl];simp [e1]))
     | (obtain ⟨c,e1,e2⟩:=khe x.num (-1000000) 1000000;refine ⟨c,?_,?_,fun _=>by rw [ht];exact kr3 hl⟩;rotate_left;(simp only [kat,ht,e,hm,hp,bne];simp [e2]);(simp only [kbi,kdp,ht,e,hm,hl];simp [e1]))
     | (obtain ⟨c,e1,e2⟩:=khe x.num 0 255;refine ⟨c,?_,?_,fun _=>by rw [ht];exact kr3 hl⟩;rotate_left;(simp only [kat,ht,e,hm,hp,bne];simp [e2]);(simp only [kbi,kdp,ht,e,hm,hl];simp [e1]))
     | (obtain ⟨c,e1⟩:=hS 0 64;refine ⟨c,?_,?_,fun _=>by rw [ht];exact kr3 hl⟩;rotate_left;(simp only [kat,ht,e,hm,hp,bne];simp [p,e1]);(simp only [kbi,kdp,ht,e,hm,hl];simp [e1]))
     | (obtain ⟨c,e1⟩:=hS 1 40;refine ⟨c,?_,?_,fun _=>by rw [ht];exact kr3 hl⟩;rotate_left;(simp only [kat,ht,e,hm,hp,bne];simp [p,e1]);(simp only [kbi,kdp,ht,e,hm,hl];simp [e1]))
     | (obtain ⟨c,e1,e2,e3⟩:=v 2 (.inl rfl) (by rw [ht];rfl);refine ⟨c,?_,?_,fun h=>by rw [ht];exact e3 h⟩;rotate_left;(simp only [kat,ht,e,hm,hp,bne];simp [e2]);(simp only [kbi,kdp,ht,e,hm,hl];simp [e1]))
     | (obtain ⟨c,e1,e2,e3⟩:=v 3 (.inr rfl) (by rw [ht];rfl);refine ⟨c,?_,?_,fun h=>by rw [ht];exact e3 h⟩;rotate_left;(simp only [kat,ht,e,hm,hp,bne];simp [e2]);(simp only [kbi,kdp,ht,e,hm,hl];simp [e1]))
     | (obtain ⟨c,e1,e2,e3⟩:=y (by rw [ht];rfl);refine ⟨c,?_,?_,fun h=>by rw [ht];exact e3 h⟩;rotate_left;(simp only [kat,ht,e,hm,hp,bne];simp [e2]);(simp only [kbi,kdp,ht,e,hm,hl];simp [e1]))
  ·show ∃ c,keg (kah n) (kel n) (khh n) l t=some c/\kdi (kar n) (kd7 n) (kfi n) l t=some c/\_;by_cases d:(16:Int)<(l.length:Int);exact ⟨2,by simp only [keg,qh d,qe],by simp only [kdi,qh d,qe],fun h=>absurd h (by decide)⟩
   ·have m:rkT t=1:=(by rcases ht with rfl | rfl <;> rfl);have hst:∀ (i:Nat) (hi:i<l.length),(kal l t (kah n) (i:Int)=some (.inl ((i+1:Nat):Int))/\ka6 l t (kar n) (i:Int)=some (.inl ((i+1:Nat):Int))/\depV l[i]<=1) \/
      ∃ c,c≠0/\kal l t (kah n) (i:Int)=some (.inr (.inr c))/\ka6 l t (kar n) (i:Int)=some (.inr (.inr c)):=fun i hi=>by
     have e1:l[i]?=some l[i]:=qb hi;have b1:decide ((i:Int)<(l.length:Int))=true:=qh (by omega);have o:=ka1 i;cases ht:(l[i].type != t) with
     | true=>exact .inr ⟨3,by decide,by simp only [kal,b1,kag,e1,ht,qe,qa],by simp only [ka6,b1,kag,e1,ht,qe,qa]⟩
     | false=>
      have g:l[i].type=t:=(by rwa [qae] at ht);obtain ⟨c,k1,k2,k3⟩:=ih1 l[i] (by rw [g,m];omega) (wl _ (qv hi));rw [g,m] at k3;cases hc:(c != 0) with
      | true=>exact .inr ⟨c,by simpa using hc,by simp only [kal,b1,kag,e1,ht,k1,hc,qe,qd,qa],by simp only [ka6,b1,kag,e1,ht,k2,hc,qe,qd,qa]⟩
      | false=>exact .inl ⟨by simp only [kal,b1,kag,e1,ht,k1,hc,o,qe,qd,qa],by simp only [ka6,b1,kag,e1,ht,k2,hc,o,qe,qd,qa],k3 (by rwa [qae] at hc)⟩
    obtain ⟨r,e1,e2⟩:=knv (kal l t (kah n)) (ka6 l t (kar n)) l.length (fun i=>(i:Int)) (fun i hi=>by
     rcases hst i hi with ⟨a1,a2,_⟩ | ⟨c,_,a1,a2⟩;exact .inl ⟨a1,a2⟩
     ·exact .inr ⟨_,a1,a2⟩) (.inl ()) (by simp [kal]) (by simp [ka6])
    have e1':kab (kal l t (kah n)) fuel 0=some r:=(by simpa using e1);have e2':kab (ka6 l t (kar n)) fuel 0=some r:=(by simpa using e2);have j:∀ c:Int,r = .inr c->c≠0:=fun c hr=>by
     obtain ⟨r2,r3,f1,f2,f3⟩:=kiq (step:=kal l t (kah n)) (step':=kal l t (kah n)) l.length (by omega) (fun i=>(i:Int)) (fun i=>(i:Int)) (fun r r'=>∀ c,r = .inr c->c≠0) (fun i hi=>by
      rcases hst i hi with ⟨a1,a2,_⟩ | ⟨c,h0,a1,a2⟩;exact .inl ⟨a1,a1⟩
      ·exact .inr ⟨_,_,a1,a1,fun c' h=>by cases h;exact h0⟩) ⟨.inl (), .inl (),by simp [kal],by simp [kal],fun c h=>by cases h⟩
     have f1':kab (kal l t (kah n)) fuel 0=some r2:=(by simpa using f1);rw [e1'] at f1';cases f1';exact f3 c hr
    refine ⟨Sum.elim (fun _=>0) id r,?_,?_,fun h0=>?_⟩;simp only [keg,qf d,qd,e1',qa];cases r <;> rfl;simp only [kdi,qf d,qd,e2',qa];cases r <;> rfl
    ·cases r with
     | inr c=>exact absurd h0 (j c rfl)
     | inl u=>
      intro x hx;obtain ⟨i,hi,rfl⟩:=qaf.1 hx;have f:=kpi (step:=kal l t (kah n)) l.length (fun i=>(i:Int)) (.inl u) (fun i hi=>by
       rcases hst i hi with ⟨a1,a2,_⟩ | ⟨c,_,a1,a2⟩;exact .inl a1
       ·exact .inr ⟨_,a1,fun h=>by cases h⟩) fuel 0 e1' i (qaj _) hi
      rcases hst i hi with ⟨_,_,h⟩ | ⟨c,_,a1,_⟩;exact h
      ·rw [a1] at f;cases f
  ·show ∃ c,kgk (kah n) (kel n) (khh n) l=some c/\ket (kar n) (kd7 n) (kfi n) l=some c/\_;by_cases d:(8:Int)<(l.length:Int);exact ⟨2,by simp only [kgk,qh d,qe],by simp only [ket,qh d,qe],fun h=>absurd h (by decide)⟩
   ·have hst:∀ (i:Nat) (hi:i<l.length),(kaq l (kah n) (i:Int)=some (.inl ((i+1:Nat):Int))/\kbh l (kar n) (i:Int)=some (.inl ((i+1:Nat):Int))/\depV l[i]<=2) \/
      ∃ c,c≠0/\kaq l (kah n) (i:Int)=some (.inr (.inr c))/\kbh l (kar n) (i:Int)=some (.inr (.inr c)):=fun i hi=>by
     have e1:l[i]?=some l[i]:=qb hi;have e0:idx l 0=some (l[0]'(by omega)):=(by rw [show (0:Int)=((0:Nat):Int) from rfl,kag,qb]);have b1:decide ((i:Int)<(l.length:Int))=true:=qh (by omega);have o:=ka1 i;cases ht:(l[i].type != 6) with
     | true=>exact .inr ⟨3,by decide,by simp only [kaq,b1,kag,e1,ht,qe,qa],by simp only [kbh,b1,kag,e1,ht,qe,qa]⟩
     | false=>
      have g:l[i].type=6:=(by rwa [qae] at ht);obtain ⟨c,k1,k2,k3⟩:=ih1 l[i] (by rw [g];show 2*2<=n;omega) (wl _ (qv hi));rw [g] at k3;obtain ⟨q,k⟩:∃ q,(bif decide ((l[i].items.length:Int)<1) then some true else bif decide (8<(l[i].items.length:Int)) then some true else (some ((l[i].items.length:Int) != ((l[0]'(by omega)).items.length:Int)):Option Bool))=some q:=(by cases decide ((l[i].items.length:Int)<1) <;> cases decide (8<(l[i].items.length:Int)) <;> exact ⟨_,rfl⟩);cases q with
      | true=>exact .inr ⟨2,by decide,by simp only [kaq,b1,kag,e1,e0,ht,k,qe,qd,qa],by simp only [kbh,b1,kag,e1,e0,ht,k,qe,qd,qa]⟩
      | false=>
       cases hc:(c != 0) with
       | true=>exact .inr ⟨c,by simpa using hc,by simp only [kaq,b1,kag,e1,e0,ht,k,k1,hc,qe,qd,qa],by simp only [kbh,b1,kag,e1,e0,ht,k,k2,hc,qe,qd,qa]⟩
       | false=>exact .inl ⟨by simp only [kaq,b1,kag,e1,e0,ht,k,k1,hc,o,qe,qd,qa],by simp only [kbh,b1,kag,e1,e0,ht,k,k2,hc,o,qe,qd,qa],k3 (by rwa [qae] at hc)⟩
    obtain ⟨r,e1,e2⟩:=knv (kaq l (kah n)) (kbh l (kar n)) l.length (fun i=>(i:Int)) (fun i hi=>by
     rcases hst i hi with ⟨a1,a2,_⟩ | ⟨c,_,a1,a2⟩;exact .inl ⟨a1,a2⟩
     ·exact .inr ⟨_,a1,a2⟩) (.inl ()) (by simp [kaq]) (by simp [kbh])
    have e1':kab (kaq l (kah n)) fuel 0=some r:=(by simpa using e1);have e2':kab (kbh l (kar n)) fuel 0=some r:=(by simpa using e2);have j:∀ c:Int,r = .inr c->c≠0:=fun c hr=>by
     obtain ⟨r2,r3,f1,f2,f3⟩:=kiq (step:=kaq l (kah n)) (step':=kaq l (kah n)) l.length (by omega) (fun i=>(i:Int)) (fun i=>(i:Int)) (fun r r'=>∀ c,r = .inr c->c≠0) (fun i hi=>by
      rcases hst i hi with ⟨a1,a2,_⟩ | ⟨c,h0,a1,a2⟩;exact .inl ⟨a1,a1⟩
      ·exact .inr ⟨_,_,a1,a1,fun c' h=>by cases h;exact h0⟩) ⟨.inl (), .inl (),by simp [kaq],by simp [kaq],fun c h=>by cases h⟩
     have f1':kab (kaq l (kah n)) fuel 0=some r2:=(by simpa using f1);rw [e1'] at f1';cases f1';exact f3 c hr
    refine ⟨Sum.elim (fun _=>0) id r,?_,?_,fun h0=>?_⟩;simp only [kgk,qf d,qd,e1',qa];cases r <;> rfl;simp only [ket,qf d,qd,e2',qa];cases r <;> rfl
    ·cases r with
     | inr c=>exact absurd h0 (j c rfl)
     | inl u=>
      intro x hx;obtain ⟨i,hi,rfl⟩:=qaf.1 hx;have f:=kpi (step:=kaq l (kah n)) l.length (fun i=>(i:Int)) (.inl u) (fun i hi=>by
       rcases hst i hi with ⟨a1,a2,_⟩ | ⟨c,_,a1,a2⟩;exact .inl a1
       ·exact .inr ⟨_,a1,fun h=>by cases h⟩) fuel 0 e1' i (qaj _) hi
      rcases hst i hi with ⟨_,_,h⟩ | ⟨c,_,a1,_⟩;exact h
      ·rw [a1] at f;cases f
theorem k7k (t:Int):rkT t<=3:=by unfold rkT;split <;> (try split) <;> omega
theorem kyf {x:Va} (hx:inV x):∃ c,kah fuel x=some c/\kar fuel x=some c/\(c=0->okV x):=by have a:2*rkT x.type<=fuel:=qa1 (Nat.mul_le_mul_left 2 (k7k x.type)) (by decide);obtain ⟨c,h1,b,d⟩:=(k2e fuel).1 x a hx;exact ⟨c,h1,b,fun h=>⟨by have:=d h;have:=k7k x.type;omega,hx.1⟩⟩
def kyp (r:Ru):Prop:=r.args.length<=9223372036854775807/\inV r.const
theorem k6i {x:Va} (h:eqV x kgg=true):x=kgg:=kaho x kgg (by simpa [eqV] using h)
theorem kaki (l:La) (r:Ru) (hr:kyp r):∃ c,kj4 l r=some c/\kbw l r=some c:=by obtain ⟨c,h1,a,_⟩:=kyf hr.2;exact kafa l r hr.1 (kv4 _) (kaba _) ⟨c,h1,a⟩
structure GoodR (l:La) (r:Ru):Prop where
 sym0:0<=r.symbol
 sym1:r.symbol<(l.symbols.length:Int)
 kind:r.kind=1\/r.kind=2\/r.kind=3
 noargs:r.kind≠3->r.args=[]
 args:∀ a∈r.args,0<=a/\a<(l.symbols.length:Int)
 few:r.args.length<=5
 fine:okV r.const
theorem kdu {α:Type} {b:Bool} {x y:Option α} {r:α} (h:(bif b then x else y)=some r):(b=true/\x=some r)\/(b=false/\y=some r):=by
 cases b;exact .inr ⟨rfl,h⟩
 ·exact .inl ⟨rfl,h⟩
theorem kdh {α β:Type} {E:Option α} {K:α->Option β} {r:β} (h:Option.bind E K=some r):∃ v,E=some v/\K v=some r:=qg.1 h
theorem k6z:opNames.all (fun n=>(kb8 n).all fun o=>decide (o.1.yd.length<=5))=true:=by kernel_rfl
theorem kad3 {s:BA} {o:Sac×Bool} (h:kb8 s=some o) (b:o.2=true):o.1.yd.length<=5:=by
 by_cases a:s∈opNames;have:=qp.1 k6z s a;rw [h] at this;simpa using this
 ·rw [(kwx s a).2] at h;cases h;cases b
theorem kabh {l:La} {r:Ru} (ha:r.args.length<=9223372036854775807) (h:kcx l r=some 0):r.args.length<=5/\∀ a∈r.args,0<=a/\a<(l.symbols.length:Int):=by
 unfold kcx at h;obtain ⟨o,h1,h⟩:=kdh h;rcases kdu h with ⟨_,h⟩ | ⟨g,h⟩;cases h;rcases kdu h with ⟨_,h⟩ | ⟨j,h⟩;cases h;have f:r.args.length=o.1.yd.length:=by have:=qae.1 j;omega
 have p:=kad3 h1 (by simpa using g);obtain ⟨v,k,h⟩:=kdh h;refine ⟨by omega,fun a d=>?_⟩;have hst:∀ i,i<r.args.length->ka4 l r o (i:Int)=some (.inl ((i+1:Nat):Int))/\(∀ x,r.args[i]?=some x->0<=x/\x<(l.symbols.length:Int))\/∃ c,c≠0/\ka4 l r o (i:Int)=some (.inr (.inr c)):=fun i hi=>by
  have e1:r.args[i]?=some r.args[i]:=qb hi;have e:i<o.1.yd.length:=by omega
  have e2:o.1.yd[i]?=some o.1.yd[i]:=qb e;have b1:decide ((i:Int)<(r.args.length:Int))=true:=qh (by omega);simp only [ka4,b1,qe,kag,e1,e2,qa,ka1 i];by_cases h0:0<=r.args[i]
  ·by_cases h1:r.args[i]<(l.symbols.length:Int)
   ·obtain ⟨x,hx,_⟩:=kt8 _ h0 h1;rw [qf (show ¬ r.args[i]<0 by omega),qf (show ¬ (l.symbols.length:Int)<=r.args[i] by omega)];simp only [qd,qa,hx];cases x.type != o.1.yd[i] with
    | true=>exact .inr ⟨3,by decide,rfl⟩
    | false=>exact .inl ⟨rfl,fun y hy=>by cases hy;exact ⟨h0,h1⟩⟩
   ·rw [qf (show ¬ r.args[i]<0 by omega),qh (show (l.symbols.length:Int)<=r.args[i] by omega)];exact .inr ⟨1,by decide,rfl⟩
  ·rw [qh (show r.args[i]<0 by omega)];exact .inr ⟨1,by decide,rfl⟩
 obtain ⟨i,hi,rfl⟩:=qaf.1 d;have hv:∀ c:Int,c≠0->(.inr c:Unit ⊕ Int)≠v:=fun c hc m=>by subst m;cases h;exact hc rfl
 have b:=kpi (step:=ka4 l r o) r.args.length (fun i=>(i:Int)) v (fun i hi=>by
  rcases hst i hi with ⟨a1,_⟩ | ⟨c,hc,a1⟩;exact .inl a1
  ·exact .inr ⟨_,a1,hv c hc⟩) fuel 0 k i (qaj _) hi
 rcases hst i hi with ⟨_,a2⟩ | ⟨c,_,a1⟩;exact a2 _ (qb hi)
 ·rw [a1] at b;cases b
theorem len0 {α:Type} {xs:List α} (h:((xs.length:Int) == 0)=true):xs=[]:=qar (by have:=eq_of_beq h;omega)
theorem k4i {l:La} {r:Ru} (hr:kyp r) (h:kbw l r=some 0):GoodR l r:=by
 unfold kbw at h;obtain ⟨b1,h1,h⟩:=kdh h;rcases kdu h with ⟨_,h⟩ | ⟨k,h⟩;cases h;subst k;have hs:0<=r.symbol/\r.symbol<(l.symbols.length:Int):=by
  rcases kdu h1 with ⟨_,h1⟩ | ⟨q,h1⟩;cases h1
  ·have q:=qav q;have q2:=qav (qt h1);omega
 obtain ⟨b2,f,h⟩:=kdh h;rcases kdu h with ⟨_,h⟩ | ⟨m,h⟩;cases h;subst m;rcases kdu f with ⟨_,f⟩ | ⟨q1,f⟩;cases f;rcases kdu f with ⟨_,f⟩ | ⟨q2,f⟩;cases f;have q1:=qav q1;have q2:=qav q2;obtain ⟨z,g,n⟩:=kdh f;have o:z=true:=by
  cases z with
  | true=>rfl
  | false=>cases n
 subst o;obtain ⟨x,p,h⟩:=kdh h;unfold keo at g;rw [kv4,qa] at g;have hk:r.kind=1\/r.kind=2\/r.kind=3:=by omega
 have okz:eqV r.const kgg=true->okV r.const:=fun h=>by rw [k6i h];exact k0f
 rcases hk with hk | hk | hk
 ·have c1:(r.kind == 1)=true:=by rw [hk];rfl
  rw [c1,qe] at g;obtain ⟨b,d,i⟩:=kdh g;cases i;rcases kdu d with ⟨e1,d⟩ | ⟨_,d⟩
  ·rcases kdu d with ⟨e2,d⟩ | ⟨_,d⟩;have ha:=len0 (qt d);exact ⟨hs.1,hs.2, .inl hk,fun _=>ha,by rw [ha];intro a h;(cases h),by rw [ha];exact qaj _,okz e1⟩
   ·cases d
  ·cases d
 ·have c1:(r.kind == 1)=false:=by rw [hk];rfl
  have c2:(r.kind == 2)=true:=by rw [hk];rfl
  rw [c1,qd,c2,qe] at g;rw [c1,qd,c2,qe] at h;obtain ⟨b,d,i⟩:=kdh g;cases i;obtain ⟨c,g1,g2⟩:=kdh h;have hc:c=0:=by
   rcases kdu g2 with ⟨e,g2⟩ | ⟨e,g2⟩;cases g2;rfl
   ·exact qae.1 e
  obtain ⟨c',f1,f2,f3⟩:=kyf hr.2;have j:c'=0:=by rw [f2] at g1;cases g1;exact hc
  rcases kdu d with ⟨e1,d⟩ | ⟨_,d⟩
  ·rcases kdu d with ⟨e2,d⟩ | ⟨_,d⟩;have ha:=len0 (qt d);exact ⟨hs.1,hs.2, .inr (.inl hk),fun _=>ha,by rw [ha];intro a h;(cases h),by rw [ha];exact qaj _,f3 j⟩
   ·cases d
  ·cases d
 ·have c1:(r.kind == 1)=false:=by rw [hk];rfl
  have c2:(r.kind == 2)=false:=by rw [hk];rfl
  rw [c1,qd,c2,qd] at g;rw [c1,qd,c2,qd] at h;obtain ⟨b,d,i⟩:=kdh g;cases i;obtain ⟨c,g1,g2⟩:=kdh h;cases g2;obtain ⟨a1,a2⟩:=kabh hr.1 g1;rcases kdu d with ⟨e1,d⟩ | ⟨_,d⟩;exact ⟨hs.1,hs.2, .inr (.inr hk),fun h=>absurd hk h,a2,a1,okz (qt d)⟩
  ·cases d
theorem GoodR.fineR {l:La} {r:Ru} (h:GoodR l r) (hr:kyp r):fineR r:=⟨by have:=h.few;omega,h.fine,hr.2.2⟩
structure kot (l:La):Prop where
 name:l.name.size<=9223372036854775807
 inputs:l.inputs.length<=9223372036854775807
 symbols:l.symbols.length<=9223372036854775807
 rules:l.rules.length<=9223372036854775807
 names:∀ x∈l.symbols,x.name.size<=9223372036854775807
 wide:∀ r∈l.rules,kyp r
structure k1x (l:La):Prop where
 inputs:l.inputs.length<=4
 sym1:1<=l.symbols.length
 sym16:l.symbols.length<=16
 rules:l.rules.length<=96
 good:∀ r∈l.rules,GoodR l r
theorem k87 (l:La) (h:kot l):∃ r,kab (kb0 l) fuel 0=some r/\kab (kap l) fuel 0=some r/\(r = .inl ()->∀ x∈l.rules,GoodR l x)/\(∀ e,r = .inr e->e≠0):=by
 have hl:=h.rules;have v:∀ n,n<=l.rules.length->(∃ i,i<n/\∃ e,e≠0/\(∀ j,j<i->kb0 l (j:Int)=some (.inl ((j+1:Nat):Int))/\kap l (j:Int)=some (.inl ((j+1:Nat):Int)))/\kb0 l (i:Int)=some (.inr (.inr e))/\kap l (i:Int)=some (.inr (.inr e))) \/
   ((∀ j,j<n->kb0 l (j:Int)=some (.inl ((j+1:Nat):Int))/\kap l (j:Int)=some (.inl ((j+1:Nat):Int)))/\∀ j (a:j<l.rules.length),j<n->GoodR l l.rules[j]):=by
  intro n
  induction n with
  | zero=>intro _;exact .inr ⟨fun j a=>by omega,fun j _ a=>by omega⟩
  | succ n ih=>
   intro hn;rcases ih (by omega) with ⟨i,hi,e,o,hx⟩ | ⟨g1,g2⟩;exact .inl ⟨i,by omega,e,o,hx⟩
   ·have hi:n<l.rules.length:=(by omega);have e1:l.rules[n]?=some l.rules[n]:=qb hi;have b1:decide ((n:Int)<(l.rules.length:Int))=true:=qh (by omega);have p:=h.wide _ (qv hi);obtain ⟨c,c1,c2⟩:=kaki l l.rules[n] p;by_cases hc:c=0
    ·subst hc;have u:=k4i p c2;have m:∀ j (a:j<l.rules.length),j<=n->fineR l.rules[j]:=fun j a g=>by
      have q:=h.wide _ (qv a);by_cases d:j=n;subst d;exact u.fineR p
      ·exact (g2 j a (by omega)).fineR q
     obtain ⟨b,d1,d2⟩:=kafn l n hi hl m;cases b with
     | true=>
      refine .inl ⟨n,by omega,6,by decide,g1,?_,?_⟩;simp only [kb0,b1,qe,kag,e1,qa,c1,kzm l.rules n (by omega),d1];rfl
      ·simp only [kap,b1,qe,kag,e1,qa,c2,d2];rfl
     | false=>
      refine .inr ⟨fun j a=>?_,fun j a g=>?_⟩
      ·by_cases g:j=n
       ·subst g;constructor;simp only [kb0,b1,qe,kag,e1,qa,c1,kzm l.rules j (by omega),d1,ka1 j];rfl
        ·simp only [kap,b1,qe,kag,e1,qa,c2,d2,ka1 j];rfl
       ·exact g1 j (by omega)
      ·by_cases d:j=n;subst d;exact u
       ·exact g2 j a (by omega)
    ·refine .inl ⟨n,by omega,c,hc,g1,?_,?_⟩;simp only [kb0,b1,qe,kag,e1,qa,c1,show (c != 0)=true by simpa using hc]
     ·simp only [kap,b1,qe,kag,e1,qa,c2,show (c != 0)=true by simpa using hc]
 have f:kb0 l (l.rules.length:Int)=some (.inr (.inl ()))/\kap l (l.rules.length:Int)=some (.inr (.inl ())):=by have b1:decide ((l.rules.length:Int)<(l.rules.length:Int))=false:=qf (by omega);simp only [kb0,kap,b1,qd,and_self]
 rcases v l.rules.length (qw _) with ⟨i,hi,e,o,a,a1,a2⟩ | ⟨g1,g2⟩;obtain ⟨r,r',h1,s,rfl,t⟩:=kiq (step:=kb0 l) (step':=kap l) i (by omega) (fun i=>(i:Int)) (fun i=>(i:Int)) (fun r r'=>r=r'/\r = .inr e) (fun j k => .inl (a j k)) ⟨_,_,a1,a2,rfl,rfl⟩;subst t;exact ⟨_,by simpa using h1,by simpa using s,(fun h=>by cases h),fun e' h=>by cases h;exact o⟩
 ·obtain ⟨r,r',h1,s,rfl,t⟩:=kiq (step:=kb0 l) (step':=kap l) l.rules.length (by omega) (fun i=>(i:Int)) (fun i=>(i:Int)) (fun r r'=>r=r'/\r = .inl ()) (fun j k => .inl (g1 j k)) ⟨_,_,f.1,f.2,rfl,rfl⟩;subst t;refine ⟨_,by simpa using h1,by simpa using s,fun _ x hx=>?_,fun e' h=>by cases h⟩;obtain ⟨i,hi,rfl⟩:=qaf.1 hx;exact g2 i hi hi
theorem kabk (l:La) (h:kot l):∃ c,kei l=some c/\kbr l=some c/\(c=0->k1x l):=by
 obtain ⟨b,n1,n2⟩:=kvc l.name h.name;obtain ⟨r1,i1,i2,i3⟩:=ky6 l h.inputs;obtain ⟨r2,s1,s2,s3⟩:=kw8 l h.symbols h.names;obtain ⟨r3,t1,t2,t3,t4⟩:=k87 l h;have a:∀ c:Int,c≠0->(c=0->k1x l):=fun c hc h=>absurd h hc;unfold kei kbr;rw [n1,n2];simp only [qa];cases b with
 | false=>exact ⟨5,rfl,rfl,a 5 (by decide)⟩
 | true=>
  simp only [qbo,qd];cases f:decide (4<(l.inputs.length:Int)) with
  | true=>exact ⟨2,rfl,rfl,a 2 (by decide)⟩
  | false=>
   have f:=qav f;simp only [qd,i1,i2,qa];cases r1 with
   | inr e=>exact ⟨e,rfl,rfl,a e (i3 e rfl)⟩
   | inl u=>
    simp only [qaa];have hc:(bif decide ((l.symbols.length:Int)<1) then some true else some (decide (16<(l.symbols.length:Int))):Option Bool)=some (decide ((l.symbols.length:Int)<1) || decide (16<(l.symbols.length:Int))):=(by cases decide ((l.symbols.length:Int)<1) <;> rfl);rw [hc,qa,qa];cases d:decide ((l.symbols.length:Int)<1) || decide (16<(l.symbols.length:Int)) with
    | true=>exact ⟨2,rfl,rfl,a 2 (by decide)⟩
    | false=>
     rw [Bool.or_eq_false_iff] at d;have hs1:=qav d.1;have i:=qav d.2;simp only [qd,s1,s2,qa];cases r2 with
     | inr e=>exact ⟨e,rfl,rfl,a e (s3 e rfl)⟩
     | inl u=>
      simp only [qaa];cases g:decide (96<(l.rules.length:Int)) with
      | true=>exact ⟨2,rfl,rfl,a 2 (by decide)⟩
      | false=>
       have g:=qav g;simp only [qd,t1,t2,qa];cases r3 with
       | inr e=>exact ⟨e,rfl,rfl,a e (t4 e rfl)⟩
       | inl u=>exact ⟨0,rfl,rfl,fun _=>⟨by omega,by omega,by omega,by omega,t3 rfl⟩⟩
def runL {σ α β:Type} (f:σ->α->Option (σ ⊕ β)):List α->σ->Option (σ ⊕ β)
 | [],s=>some (.inl s)
 | x::l,s=>Option.bind (f s x) (Sum.elim (fun s'=>runL f l s') (fun b=>some (.inr b)))
theorem kaef {σ α β τ γ:Type} (step:τ->Option (τ ⊕ γ)) (xs:List α) (f:σ->α->Option (σ ⊕ β)) (mk:σ->Int->τ) (out:σ ⊕ β->γ) (c:xs.length<=9223372036854775807) (h:∀ (i:Nat) (x:α) (s:σ),xs[i]?=some x->step (mk s (i:Int))=(f s x).map (Sum.elim (fun s' => .inl (mk s' ((i+1:Nat):Int))) (fun b => .inr (out (.inr b))))) (d:∀ s,step (mk s (xs.length:Int))=some (.inr (out (.inl s)))) (s:σ):kab step fuel (mk s 0)=(runL f xs s).map out:=by
 have key:∀ (k i:Nat) (s:σ),i<=xs.length->xs.length - i<k->kab step k (mk s (i:Int))=(runL f (xs.drop i) s).map out:=by
  intro k
  induction k with
  | zero=>intro i s _ h;omega
  | succ k ih=>
   intro i s hi hk;rw [kab];by_cases hn:i=xs.length;subst hn;rw [d,qax (qw _)];rfl
   ·have a:i<xs.length:=(by omega);rw [h i xs[i] s (qb a),qac a,runL];cases f s xs[i] with
    | none=>rfl
    | some r=>
     cases r with
     | inl s'=>
      simp only [qa9,qaa,qa];exact ih (i+1) s' (by omega) (by omega)
     | inr b=>rfl
 have:=key fuel 0 s (qaj _) (ka9 (by omega));simpa using this
theorem kdy {n i:Nat} (h:i<n):decide ((i:Int)<(n:Int))=true:=qh (by omega)
theorem kj8 (n:Nat):decide ((n:Int)<(n:Int))=false:=qf (by omega)
theorem khp {n m:Nat} (h:n<m) (hm:m<=9223372036854775807):w64 ((n:Int)+1)=((n+1:Nat):Int):=ka1 _
theorem khq {α:Type} {xs:List α} {i:Nat} {x:α} (h:xs[i]?=some x):i<xs.length:=(qj.1 h).1
theorem kkj {α σ τ:Type} {step:τ->Option (τ ⊕ σ)} (xs:List α) (r:σ->α->Option σ) (mk:Int->σ->τ) (a:xs.length<=9223372036854775807)
  (hs:∀ (i:Nat) (x:α) (s:σ),xs[i]?=some x->step (mk (i:Int) s)=(r s x).map fun v => .inl (mk ((i+1:Nat):Int) v)) (c:∀ s,step (mk (xs.length:Int) s)=some (.inr s)) (s:σ):kab step fuel (mk 0 s)=xs.foldlM r s:=by
 have h:=kaef step xs (fun s x=>(r s x).map (.inl:σ->σ ⊕ Empty)) (fun s i=>mk i s) (Sum.elim id (fun b:Empty=>nomatch b)) a (fun i x s hx=>by rw [hs i x s hx];cases r s x <;> rfl) (fun s=>c s) s;rw [h];clear h hs c
 induction xs generalizing s with
 | nil=>rfl
 | cons x xs ih=>
  rw [runL,List.foldlM_cons];cases hr:r s x with
  | none=>rfl
  | some v=>
   simp only [qa9,qa,qaa];exact ih (by simp only [qad] at a;omega) v
def Ev {α:Type} (x:Option α) (P:α->Prop):Prop:=∃ v,x=some v/\P v
theorem Ev.eq {α:Type} {x:Option α} {v:α} (h:Ev x (·=v)):x=some v:=by obtain ⟨u,h1,rfl⟩:=h;exact h1
theorem Ev.mono {α:Type} {x:Option α} {P Q:α->Prop} (h:Ev x P) (hp:∀ v,P v->Q v):Ev x Q:=by obtain ⟨v,h1,a⟩:=h;exact ⟨v,h1,hp v a⟩
theorem knm {α β:Type} {x:Option α} {k:α->Option β} {P:β->Prop} (h:Ev x fun v=>Ev (k v) P):Ev (Option.bind x k) P:=by obtain ⟨v,rfl,u,h1,a⟩:=h;exact ⟨u,h1,a⟩
theorem kdk {α:Type} {c:Bool} {x y:Option α} {P:α->Prop} (h1:c=true->Ev x P) (h0:c=false->Ev y P):Ev (bif c then x else y) P:=by
 cases c;exact h0 rfl
 ·exact h1 rfl
theorem ksh {α β γ:Type} {s:α ⊕ β} {f:α->Option γ} {g:β->Option γ} {P:γ->Prop} (h1:∀ a,s = .inl a->Ev (f a) P) (c:∀ b,s = .inr b->Ev (g b) P):Ev (Sum.elim f g s) P:=by
 cases s with
 | inl a=>exact h1 a rfl
 | inr b=>exact c b rfl
theorem kpa {σ β:Type} {step:σ->Option (σ ⊕ β)} {s0:σ} {Q:β->Prop} (n:Nat) (I:Nat->σ->Prop) (hn:n<18446744073709551616) (h0:I 0 s0)
  (hs:∀ i s,i<n->I i s->Ev (step s) (Sum.elim (I (i+1)) Q)) (d:∀ s,I n s->Ev (step s) fun r=>∃ b,r = .inr b/\Q b):Ev (kab step fuel s0) Q:=by
 have key:∀ (k m N:Nat) (s:σ),m+k=n->k<N->I m s->Ev (kab step N s) Q:=by
  intro k
  induction k with
  | zero=>
   intro m N s hm e c;obtain ⟨N,rfl⟩:∃ j,N=j+1:=⟨N - 1,by omega⟩;obtain rfl:m=n:=(by omega);obtain ⟨r,h1,b,rfl,a⟩:=d s c;exact ⟨b,by rw [kab,h1],a⟩
  | succ k ih=>
   intro m N s hm e c;obtain ⟨N,rfl⟩:∃ j,N=j+1:=⟨N - 1,by omega⟩;obtain ⟨r,h1,a⟩:=hs m s (by omega) c;cases r with
   | inl s'=>
    obtain ⟨b,f,g⟩:=ih (m+1) N s' (by omega) (by omega) a;exact ⟨b,by rw [kab,h1];exact f,g⟩
   | inr b=>exact ⟨b,by rw [kab,h1],a⟩
 exact key n 0 fuel s0 (by omega) (ka9 hn) h0
theorem kaem {σ β:Type} (step:σ->Option (σ ⊕ β)) {s0:σ} (Q:β->Prop) (I:σ->Prop) (μ:σ->Nat) (hn:μ s0<18446744073709551616) (h0:I s0) (hs:∀ s,I s->Ev (step s) (Sum.elim (fun s'=>I s'/\μ s'<μ s) Q)):Ev (kab step fuel s0) Q:=by
 have key:∀ (N:Nat) (s:σ),μ s<N->I s->Ev (kab step N s) Q:=by
  intro N
  induction N with
  | zero=>intro s h;omega
  | succ N ih=>
   intro s h c;obtain ⟨r,h1,a⟩:=hs s c;cases r with
   | inl s'=>
    obtain ⟨b,d,e⟩:=ih s' (by have:=a.2;omega) a.1;exact ⟨b,by rw [kab,h1];exact d,e⟩
   | inr b=>exact ⟨b,by rw [kab,h1],a⟩
 exact key fuel s0 (ka9 hn) h0
theorem ev_go {σ β:Type} {x:Option (σ ⊕ β)} (s:σ) {P:σ->Prop} {Q:β->Prop} (h:x=some (.inl s)) (hp:P s):Ev x (Sum.elim P Q):=⟨_,h,hp⟩
theorem kt3 {σ β:Type} {x:Option (σ ⊕ β)} (b:β) {Q:β->Prop} (h:x=some (.inr b)) (a:Q b):Ev x fun r=>∃ b,r = .inr b/\Q b:=⟨_,h,b,rfl,a⟩
theorem kf1 {i n:Nat} (h:i<n):decide ((i:Int)<(n:Int))=true:=qh (by omega)
theorem kfj (n:Nat):decide ((n:Int)<(n:Int))=false:=qf (by omega)
theorem klt {α β:Type} {x:Option α} {k:α->Option β} {P:β->Prop} (h:Ev x fun _=>True) (a:∀ v,x=some v->Ev (k v) P):Ev (Option.bind x k) P:=by obtain ⟨v,e,_⟩:=h;rw [e];exact a v e
theorem kkw {β:Type} {step:Int->Option (Int ⊕ (Unit ⊕ β))} {P:Nat->Prop} {B:β->Prop} (n:Nat) (hn:n<=9223372036854775807) (hs:∀ i:Nat,i<n->(∀ k,k<i->P k)->Ev (step (i:Int)) (Sum.elim (fun s=>s=w64 ((i:Int)+1)/\P i) (Sum.elim (fun _=>False) B))) (d:step (n:Int)=some (.inr (.inl ()))):Ev (kab step fuel 0) (Sum.elim (fun _=>∀ i,i<n->P i) B):=
 kpa n (fun i s=>s=(i:Int)/\∀ k,k<i->P k) (by omega) ⟨rfl,fun k h=>by omega⟩ (fun i s hi a=>by
  obtain ⟨rfl,a⟩:=a;refine Ev.mono (hs i hi a) fun r h=>?_;cases r with
  | inl s=>exact ⟨(show s=w64 ((i:Int)+1) from h.1).trans (ka1 _),fun k hk=>by
    by_cases c:k=i;subst c;exact h.2
    ·exact a k (by omega)⟩
  | inr b=>
   cases b with
   | inl u=>exact h.elim
   | inr b=>exact h) fun s a=>by
  obtain ⟨rfl,a⟩:=a;exact ⟨_,d, .inl (),rfl,a⟩
namespace TV
theorem k1m {l:List Tm} {i:Nat} (h:i<l.length):Tm.sizeL (l.take (i+1))=Tm.sizeL (l.take i)+l[i].size:=by rw [List.take_succ_eq_append_getElem h,Tm.sizeL_snoc]
theorem kqu (l:List Tm) (i:Nat):i<=l.length->i<=Tm.sizeL (l.take i)/\Tm.sizeL (l.take i)<=Tm.sizeL l:=by
 intro hi
 induction i with
 | zero=>exact ⟨qaj _,by simp [Tm.sizeL]⟩
 | succ i ih=>
  have h1:=ih (by omega);have c:=k1m (l:=l) (i:=i) (by omega);have d:=Tm.size_pos l[i];refine ⟨by omega,?_⟩;have:Tm.sizeL l=Tm.sizeL (l.take (i+1))+Tm.sizeL (l.drop (i+1)):=by
   have gen:∀ a b:List Tm,Tm.sizeL (a++b)=Tm.sizeL a+Tm.sizeL b:=fun a b=>by
    induction a with
    | nil=>simp [Tm.sizeL]
    | cons x a ih=>simp only [List.cons_append,Tm.sizeL,ih];omega
   rw [<- gen,List.take_append_drop]
  omega
theorem kgj (t:Tm):Tm.sizeL t.args+1=t.size:=by cases t;rfl
theorem koc (l:List Tm):l.length<=Tm.sizeL l:=by have:=(kqu l l.length (qw _)).1;rw [List.take_length] at this;exact this
theorem ksm (g:Tm->Int) (t:Tm):t.pre g=g t::Tm.preL g t.args:=by cases t;rfl
theorem kgo {t x:Tm} (h:x∈t.args):x.size<t.size:=by have:=Tm.sizeL_mem h;have:=kgj t;omega
theorem args_len (t:Tm):t.args.length<t.size:=by have:=koc t.args;have:=kgj t;omega
theorem knk (g:Tm->Int) (r:List Int->Tm->Option (List Int)):∀ (xs:List Tm) (acc:List Int),acc.length+Tm.sizeL xs<=1000000->(∀ x∈xs,∀ acc:List Int,acc.length+x.size<=1000000->r acc x=some (acc++x.pre g))->xs.foldlM r acc=some (acc++Tm.preL g xs)
 | [],acc,_,_=>by simp [Tm.preL]
 | x::xs,acc,hl,h=>by have hs:Tm.sizeL (x::xs)=x.size+Tm.sizeL xs:=rfl;rw [List.foldlM_cons,h x (qx ..) acc (by omega)];have:=knk g r xs (acc++x.pre g) (by rw [qy,Tm.pre_length];omega) fun y hy=>h y (qk _ hy);show List.foldlM r (acc++x.pre g) xs=_;rw [this,qaq];rfl
theorem app1 {acc:List Int} {v:Int} (h:acc.length<=1000000):app 8 acc [v]=some (acc++[v]):=k51 (by rw [qa5];omega)
theorem k7y:∀ (n:Nat) (t:Tm) (acc:List Int),t.size<=n->acc.length+t.size<=1000000->kdc n acc t=some (acc++t.rules)
 | 0,t,acc,h,_=>by have:=Tm.size_pos t;omega
 | n+1,t,acc,h,hl=>by show kie (kdc n) acc t=_;have b:=args_len t;have c:=kgj t;unfold kie kil;rw [qa,app1 (by omega),qa];rw [kkj (step:=kht t (kdc n)) t.args (kdc n) (fun i s=>(i,s)) (by omega) (fun i x s hx=>by have hi:=khq hx;simp only [kht,kdy hi,qe,kag,hx,qa,khp hi (show t.args.length<=9223372036854775807 by omega)];cases kdc n s x <;> rfl) (fun s=>by simp only [kht,kj8,qd])];rw [knk Tm.rule _ t.args _ (by rw [qy,qa5];omega) fun x hx acc a=>k7y n x acc (by have:=kgo hx;omega) a];show some _=some _;rw [qaq];show _=some (acc++t.pre Tm.rule);rw [ksm];rfl
theorem k01 (t:Tm) (h:t.size<=1000):kl1 t=some t.rules:=by have b:=args_len t;have c:=kgj t;unfold kl1 kil;rw [qa,app1 (by simp),qa];rw [kkj (step:=kkr t) t.args (kdc fuel) (fun i s=>(i,s)) (by omega) (fun i x s hx=>by have hi:=khq hx;simp only [kkr,kdy hi,qe,kag,hx,qa,khp hi (show t.args.length<=9223372036854775807 by omega)];cases kdc fuel s x <;> rfl) (fun s=>by simp only [kkr,kj8,qd])];rw [knk Tm.rule _ t.args _ (by rw [List.nil_append,qa5];omega) fun x hx acc a=>k7y fuel x acc (qa4 (ka9 (by omega))) a];show some _=some (t.pre Tm.rule);rw [ksm];rfl
theorem kzp:∀ (n:Nat) (t:Tm) (acc:List Int),t.size<=n->acc.length+t.size<=1000000->kby n acc t=some (acc++t.arities)
 | 0,t,acc,h,_=>by have:=Tm.size_pos t;omega
 | n+1,t,acc,h,hl=>by show kid (kby n) acc t=_;have b:=args_len t;have c:=kgj t;unfold kid ke3;rw [qa,app1 (by omega),qa];rw [kkj (step:=khm t (kby n)) t.args (kby n) (fun i s=>(i,s)) (by omega) (fun i x s hx=>by have hi:=khq hx;simp only [khm,kdy hi,qe,kag,hx,qa,khp hi (show t.args.length<=9223372036854775807 by omega)];cases kby n s x <;> rfl) (fun s=>by simp only [khm,kj8,qd])];rw [knk Tm.nargs _ t.args _ (by rw [qy,qa5];omega) fun x hx acc a=>kzp n x acc (by have:=kgo hx;omega) a];show some _=some _;rw [qaq];show _=some (acc++t.pre Tm.nargs);rw [ksm];rfl
theorem k63 (t:Tm) (h:t.size<=1000):ki8 t=some t.arities:=by have b:=args_len t;have c:=kgj t;unfold ki8 ke3;rw [qa,app1 (by simp),qa];rw [kkj (step:=khu t) t.args (kby fuel) (fun i s=>(i,s)) (by omega) (fun i x s hx=>by have hi:=khq hx;simp only [khu,kdy hi,qe,kag,hx,qa,khp hi (show t.args.length<=9223372036854775807 by omega)];cases kby fuel s x <;> rfl) (fun s=>by simp only [khu,kj8,qd])];rw [knk Tm.nargs _ t.args _ (by rw [List.nil_append,qa5];omega) fun x hx acc a=>kzp fuel x acc (qa4 (ka9 (by omega))) a];show some _=some (t.pre Tm.nargs);rw [ksm];rfl
theorem k4l (t:Tm) (h:t.size<=1000):kab (kh0 t) fuel (0,([]:List Int)++[(t.args.length:Int)])=some t.arities:=by have b:=args_len t;have c:=kgj t;rw [kkj (step:=kh0 t) t.args (kby fuel) (fun i s=>(i,s)) (by omega) (fun i x s hx=>by have hi:=khq hx;simp only [kh0,kdy hi,qe,kag,hx,qa,khp hi (show t.args.length<=9223372036854775807 by omega)];cases kby fuel s x <;> rfl) (fun s=>by simp only [kh0,kj8,qd])];rw [knk Tm.nargs _ t.args _ (by rw [List.nil_append,qa5];omega) fun x hx acc a=>kzp fuel x acc (qa4 (ka9 (by omega))) a];show some _=some (t.pre Tm.nargs);rw [ksm];rfl
theorem kw6 (r:Tm->Option Int):∀ (xs:List Tm) (s:Nat),s+Tm.sizeL xs<=1000000->(∀ x∈xs,r x=some (x.size:Int))->xs.foldlM (fun (s:Int) x=>Option.bind (r x) fun v=>some (w64 (s+v))) (s:Int)=some ((s+Tm.sizeL xs:Nat):Int)
 | [],s,_,_=>by simp [Tm.sizeL]
 | x::xs,s,hl,h=>by have hs:Tm.sizeL (x::xs)=x.size+Tm.sizeL xs:=rfl;rw [List.foldlM_cons,h x (qx ..),qa,kje];have:=kw6 r xs (s+x.size) (by omega) fun y hy=>h y (qk _ hy);show List.foldlM _ ((s:Int)+(x.size:Int)) xs=_;rw [show (s:Int)+(x.size:Int)=((s+x.size:Nat):Int) by omega,this,hs];congr 2;omega
theorem kwy:∀ (n:Nat) (t:Tm),t.size<=n->t.size<=1000->khn n t=some (t.size:Int)
 | 0,t,h,_=>by have:=Tm.size_pos t;omega
 | n+1,t,h,hl=>by show kmo (khn n) t=_;have a:=args_len t;have b:=kgj t;unfold kmo;rw [kkj (step:=klr t (khn n)) t.args (fun s x=>Option.bind (khn n x) fun v=>some (w64 (s+v))) (fun i s=>(s,i)) (by omega) (fun i x s hx=>by have hi:=khq hx;simp only [klr,kdy hi,qe,kag,hx,qa,khp hi (show t.args.length<=9223372036854775807 by omega)];cases khn n x <;> rfl) (fun s=>by simp only [klr,kj8,qd])];have:=kw6 (khn n) t.args 1 (by omega) fun x hx=>kwy n x (by have:=kgo hx;omega) (by have:=kgo hx;omega);rw [show (1:Int)=((1:Nat):Int) from rfl,this,qa];congr 2;omega
def lexC:List Int->List Int->Int
 | x::xs,y::ys=>if x<y then -1 else if y<x then 1 else lexC xs ys
 | _,_=>0
def lexO:List Int->List Int->Unit ⊕ Int
 | x::xs,y::ys=>if x<y then .inr (-1) else if y<x then .inr 1 else lexO xs ys
 | _,_ => .inl ()
theorem k25:∀ xs ys:List Int,Sum.elim (fun _=>0) id (lexO xs ys)=lexC xs ys
 | [],_=>rfl
 | _::_,[]=>rfl
 | x::xs,y::ys=>by
  simp only [lexO,lexC];split;rfl
  ·split;rfl
   ·exact k25 xs ys
theorem k7d (x y:List Int) (hl:x.length=y.length) (hx:x.length<=1000000):kjv x y=some (lexC x y):=by
 unfold kjv;have h:=ki5 (kh4 x y) x.length (fun i=>(i:Int)) (fun i=>lexO (x.drop i) (y.drop i)) (fun i hi=>by
  have hy:i<y.length:=by omega
  simp only [kh4,kdy hi,qe,kag,qb hi,qb hy,qa,khp hi (show x.length<=9223372036854775807 by omega),qac hi,qac hy,lexO];by_cases h1:x[i]<y[i];rw [qh h1,qs h1];exact .inr rfl
  ·rw [qf h1,ql h1];by_cases a:y[i]<x[i];rw [qh a,qs a];exact .inr rfl
   ·rw [qf a,ql a];exact .inl ⟨rfl,rfl⟩) (by
  simp only [kh4,kj8,qd,List.drop_length,lexO])
 have b:kab (kh4 x y) fuel 0=some (lexO x y):=by simpa using h
 rw [b,qa,<- k25];cases lexO x y <;> rfl
def cmpT (a b:Tm):Int:=if a.size<b.size then -1 else if b.size<a.size then 1 else if lexC a.rules b.rules≠0 then lexC a.rules b.rules else lexC a.arities b.arities
theorem kafr (a b:Tm) (ha:a.size<=1000) (d:b.size<=1000):klf a b=some (cmpT a b):=by
 unfold klf cmpT;rw [kwy fuel a (qa4 (ka9 (by omega))) ha,kwy fuel b (qa4 (ka9 (by omega))) d];simp only [qa];by_cases h1:a.size<b.size;rw [qs h1,qh (show (a.size:Int)<(b.size:Int) by omega),qe];rw [ql h1,qf (show ¬ (a.size:Int)<(b.size:Int) by omega),qd];by_cases e:b.size<a.size;rw [qs e,qh (show (b.size:Int)<(a.size:Int) by omega),qe];rw [ql e,qf (show ¬ (b.size:Int)<(a.size:Int) by omega),qd];rw [k01 a ha,k01 b d];simp only [qa];rw [k7d a.rules b.rules (by rw [Tm.rules_length,Tm.rules_length];omega) (by rw [Tm.rules_length];omega),qa];by_cases c:lexC a.rules b.rules=0;rw [ql (by simpa using c),c,show ((0:Int) != 0)=false from rfl,qd,k63 a ha,qa,show ke3 b=some () from rfl,qa,app1 (qaj _),qa,k4l b d,qa,k7d a.arities b.arities (by rw [Tm.arities_length,Tm.arities_length];omega) (by rw [Tm.arities_length];omega)];rw [qa]
 ·rw [qs c,show (lexC a.rules b.rules != 0)=true by rw [qbc];exact c,qe]
mutual
theorem k8q:∀ (s t:Tm) (xs ys us vs:List Int),s.pre Tm.rule++xs=t.pre Tm.rule++ys->s.pre Tm.nargs++us=t.pre Tm.nargs++vs->s=t/\xs=ys/\us=vs
 | .mk r l, .mk r' l',xs,ys,us,vs,h1,a=>by
  simp only [Tm.pre,List.cons_append,List.cons.injEq] at h1 a;have hr:r=r':=h1.1;have hl:l.length=l'.length:=by have:=a.1;simp only [Tm.nargs,Tm.args] at this;omega
  obtain ⟨e1,e2,e3⟩:=k6l l l' hl xs ys us vs h1.2 a.2;exact ⟨by rw [hr,e1],e2,e3⟩
theorem k6l:∀ (l l':List Tm),l.length=l'.length->∀ (xs ys us vs:List Int),Tm.preL Tm.rule l++xs=Tm.preL Tm.rule l'++ys->Tm.preL Tm.nargs l++us=Tm.preL Tm.nargs l'++vs->l=l'/\xs=ys/\us=vs
 | [],[],_,xs,ys,us,vs,h1,a=>⟨rfl,by simpa [Tm.preL] using h1,by simpa [Tm.preL] using a⟩
 | [],_::_,h,_,_,_,_,_,_=>by simp at h
 | _::_,[],h,_,_,_,_,_,_=>by simp at h
 | t::l,t'::l',h,xs,ys,us,vs,h1,a=>by simp only [Tm.preL,qaq] at h1 a;obtain ⟨e1,e2,e3⟩:=k8q t t' _ _ _ _ h1 a;obtain ⟨e4,e5,e6⟩:=k6l l l' (by simpa using h) xs ys us vs e2 e3;exact ⟨by rw [e1,e4],e5,e6⟩
end
theorem k2u:∀ xs ys:List Int,xs.length=ys.length->lexC xs ys=0->xs=ys
 | [],[],_,_=>rfl
 | [],_::_,h,_=>by simp at h
 | _::_,[],h,_=>by simp at h
 | x::xs,y::ys,h,h1=>by
  simp only [lexC] at h1;split at h1;omega
  ·split at h1;omega
   ·rw [k2u xs ys (by simpa using h) h1,show x=y by omega]
theorem k36:∀ xs:List Int,lexC xs xs=0
 | []=>rfl
 | x::xs=>by simp only [lexC,Int.lt_irrefl,if_false];exact k36 xs
theorem cmpT_eq0 {s t:Tm}:cmpT s t=0↔s=t:=by
 constructor
 ·intro h;unfold cmpT at h;split at h;omega
  ·split at h;omega
   ·have hs:s.size=t.size:=(by omega);split at h;rename_i h0;exact absurd h h0
    ·rename_i h0;have e1:=k2u s.rules t.rules (by rw [Tm.rules_length,Tm.rules_length];exact hs) (by simpa using h0);have e2:=k2u s.arities t.arities (by rw [Tm.arities_length,Tm.arities_length];exact hs) h;exact (k8q s t [] [] [] [] (by simpa [Tm.rules] using e1) (by simpa [Tm.arities] using e2)).1
 ·rintro rfl;unfold cmpT;simp [k36]
end TV
end Go.Proofs.YtgebfaidgikieaaGreatDoor
