import Derived.Test.YtjpkdegjcilndaaGreatDoorVd
import Derived.Test.YtjpkdegjcilndaaGreatDoorSk
import Derived.Test.YtjpkdegjcilndaaGreatDoorTT
import Derived.Test.YtjpkdegjcilndaaGreatDoorZE
set_option linter.all false
namespace Go.Proofs.YtjpkdegjcilndaaGreatDoor
open Go Go.RowKit
def badP (c:Int) (z:Bool):Option Bool:=(Option.bind ((bif (decide (97<=(ior .u8 c 32))) then (some (decide ((ior .u8 c 32)<=122))) else (some (false))):Option (Bool)) fun (v6:Bool)=>((bif (!v6) then (bif z then (some (true)) else (bif (c != 45) then (bif (decide (c<48)) then (some (true)) else (some (decide (57<c)))) else (some (false)))) else (some (false))):Option (Bool)))
def badR (c:Int) (z:Bool):Option Bool:=(Option.bind ((bif (decide (97<=c)) then (bif (decide (c<=122)) then (some (true)) else (bif (decide (65<=c)) then (some (decide (c<=90))) else (some (false)))) else (bif (decide (65<=c)) then (some (decide (c<=90))) else (some (false)))):Option (Bool)) fun (v9:Bool)=>((bif (!v9) then (bif z then (some (true)) else (bif (c != 45) then (bif (decide (c<48)) then (some (true)) else (some (decide (57<c)))) else (some (false)))) else (some (false))):Option (Bool)))
set_option maxRecDepth 100000 in
theorem kaky:(List.range 256).all (fun k=>[true,false].all fun z=>(badP (k:Int) z == badR (k:Int) z) && (badP (k:Int) z).isSome)=true:=by kernel_rfl
theorem kagx (c:UInt8) (z:Bool):∃ b,badP (c.toNat:Int) z=some b/\badR (c.toNat:Int) z=some b:=by
 have h:=qr.1 kaky c.toNat (qbk.2 (UInt8.toNat_lt c));have a:=qr.1 h z (by cases z <;> simp);simp only [qp,beq_iff_eq] at a;obtain ⟨e,d⟩:=a;cases hp:badP (c.toNat:Int) z with
 | none=>rw [hp] at d;cases d
 | some b=>exact ⟨b,rfl,by rw [<- e,hp]⟩
theorem k1s (s:BA) (hs:s.size<=9223372036854775807):∃ b,ki4 s=some b/\kfl s=some b:=by
 have h:=knn s;obtain ⟨r,r',h1,j,rfl,a⟩:=kkl (step:=kfy s) (step':=kc6 s) s.size (by omega) (fun i=>(i:Int)) (fun i=>(i:Int)) (fun r r'=>r=r'/\(r = .inl ()\/r = .inr false)) (fun i hi=>by
  have c:i<s.data.toList.length:=by rw [<- knn];exact hi
  have e1:byt s (i:Int)=some (s.data.toList[i].toNat:Int):=by rw [kzr,qb c];rfl
  have b1:decide ((i:Int)<(s.size:Int))=true:=qj (by omega);obtain ⟨b,p1,p2⟩:=kagx s.data.toList[i] ((i:Int) == 0);unfold badP at p1;unfold badR at p2;have q1:kfy s (i:Int)=bif b then some (.inr (.inr false)) else some (.inl (w64 ((i:Int)+1))):=by simp only [kfy,b1,qe,e1,qa];rw [<- Option.bind_assoc,p1,qa]
  have q2:kc6 s (i:Int)=bif b then some (.inr (.inr false)) else some (.inl (w64 ((i:Int)+1))):=by simp only [kc6,b1,qe,e1,qa];rw [<- Option.bind_assoc,p2,qa]
  rw [q1,q2,kaj i];cases b with
  | true=>exact .inr ⟨_,_,rfl,rfl,rfl, .inr rfl⟩
  | false=>exact .inl ⟨rfl,rfl⟩) (by
  have b1:decide ((s.size:Int)<(s.size:Int))=false:=qf (by omega);simp only [kfy,kc6,b1,qd];exact ⟨_,_,rfl,rfl,rfl, .inl rfl⟩)
 have d:kab (kfy s) fuel 0=some r:=by simpa using h1
 have e:kab (kc6 s) fuel 0=some r:=by simpa using j
 unfold ki4 kfl;rw [d,e];simp only [qa];by_cases f:(s.size:Int)<1;rw [qj f,qf (show ¬ (1:Int)<=(s.size:Int) by omega)];rcases a with rfl | rfl <;> exact ⟨false,rfl,rfl⟩
 ·rw [qf f,qj (show (1:Int)<=(s.size:Int) by omega)];by_cases g:(24:Int)<(s.size:Int);rw [qj g,qf (show ¬ (s.size:Int)<=24 by omega)];rcases a with rfl | rfl <;> exact ⟨false,rfl,rfl⟩
  ·rw [qf g,qj (show (s.size:Int)<=24 by omega)];rcases a with rfl | rfl;exact ⟨true,rfl,rfl⟩
   ·exact ⟨false,rfl,rfl⟩
def tyB (t:Int):Bool:=decide (1<=t) && decide (t<=8)
theorem k0r (t:Int):ki2 t=some (tyB t):=by unfold ki2 tyB;cases decide (1<=t) <;> rfl
theorem k4b (t:Int):kgb t=some (tyB t):=k0r t
theorem k8w (l:La) (h:l.inputs.length<=9223372036854775807):∃ r,kab (kg6 l) fuel 0=some r/\kab (kdv l) fuel 0=some r/\∀ e,r = .inr e->e≠0:=by
 obtain ⟨r,r',h1,a,rfl,b⟩:=kkl (step:=kg6 l) (step':=kdv l) l.inputs.length (by omega) (fun i=>(i:Int)) (fun i=>(i:Int)) (fun r r'=>r=r'/\∀ e,r = .inr e->e≠0) (fun i hi=>by
  have e1:l.inputs[i]?=some l.inputs[i]:=qb hi;have b1:decide ((i:Int)<(l.inputs.length:Int))=true:=qj (by omega);simp only [kg6,kdv,b1,qe,kag,e1,qa,k0r,k4b,kaj i];cases tyB l.inputs[i] with
  | true=>exact .inl ⟨rfl,rfl⟩
  | false=>exact .inr ⟨_,_,rfl,rfl,rfl,fun e h=>by cases h;decide⟩) (by
  have b1:decide ((l.inputs.length:Int)<(l.inputs.length:Int))=false:=qf (by omega);simp only [kg6,kdv,b1,qd];exact ⟨_,_,rfl,rfl,rfl,fun e h=>by cases h⟩)
 exact ⟨r,by simpa using h1,by simpa using a,b⟩
theorem kpe {α:Type} (s:BA):∀ (m:List (BA×α)) (i:Nat),kf8 s m i=(kf8 s m 0).map fun p=>(p.1+i,p.2)
 | [],i=>rfl
 | (k,v)::l,i=>by
  simp only [kf8];cases s.toList == k.toList with
  | true=>simp
  | false=>
   simp only [qd];rw [kpe s l (i+1),kpe s l (0+1),Option.map_map];congr 1;funext p;simp only [Function.comp,qv,and_true];omega
theorem kpv {α:Type} (k s:BA) (v z:α) (l:List (BA×α)):mget ((k,v)::l) s z=bif s.toList == k.toList then v else mget l s z:=by
 unfold mget;simp only [kf8];cases s.toList == k.toList with
 | true=>rfl
 | false=>
  simp only [qd];rw [kpe];cases kf8 s l 0 <;> rfl
theorem kac5 {α:Type} (k s:BA) (v y:α) (l:List (BA×α)):mput ((k,v)::l) s y=bif s.toList == k.toList then (s,y)::l else (k,v)::mput l s y:=by
 unfold mput;simp only [kf8];cases s.toList == k.toList with
 | true=>rfl
 | false=>
  simp only [qd];rw [kpe];cases kf8 s l 0 <;> rfl
theorem kabw {a b:BA} (c:BA) (h:(a.toList == b.toList)=true):(c.toList == a.toList)=(c.toList == b.toList):=by rw [beq_iff_eq] at h;rw [h]
theorem kp4 {α:Type} (k s:BA) (y z:α):∀ m:List (BA×α),mget (mput m k y) s z=bif s.toList == k.toList then y else mget m s z
 | []=>by show mget [(k,y)] s z=_;rw [kpv]
 | (k',v)::l=>by
  rw [kac5];cases h:k.toList == k'.toList with
  | true=>
   simp only [qe];rw [kpv,kpv,kabw s h];cases s.toList == k'.toList <;> rfl
  | false=>
   simp only [qd];rw [kpv,kpv,kp4 k s y z l];cases h1:s.toList == k'.toList with
   | false=>rfl
   | true=>
    cases a:s.toList == k.toList with
    | false=>rfl
    | true=>
     rw [beq_iff_eq] at h1 a;rw [<- h1,<- a] at h;simp at h
def mOf (xs:List Sy):List (BA×Bool):=xs.foldl (fun m x=>mput m x.name true) []
theorem kaf4 (xs:List Sy) (x:Sy):mOf (xs++[x])=mput (mOf xs) x.name true:=by unfold mOf;rw [List.foldl_append];rfl
theorem k4f (s:BA):∀ (xs:List Sy) (m:List (BA×Bool)),mget (xs.foldl (fun m x=>mput m x.name true) m) s false=(mget m s false || xs.any fun x=>s.toList == x.name.toList)
 | [],m=>by simp
 | x::xs,m=>by rw [List.foldl_cons,k4f s xs,kp4,List.any_cons];cases s.toList == x.name.toList <;> simp
theorem kah1 (s:BA) (xs:List Sy):mget (mOf xs) s false=xs.any fun x=>s.toList == x.name.toList:=by unfold mOf;rw [k4f];rfl
theorem kak8 (l:La) (i:Nat) (hi:i<l.symbols.length) (hl:l.symbols.length<=9223372036854775807):kab (kdp l (i:Int)) fuel 0=some (if ((l.symbols.take i).any fun x=>l.symbols[i].name.toList == x.name.toList)=true then .inr 6 else .inl ()):=by
 have b:(l.symbols.take i).length=i:=by rw [qaw];omega
 have:=kkf (kdp l (i:Int)) i (fun j=>(j:Int)) (fun j=>if (((l.symbols.take i).drop j).any fun x=>l.symbols[i].name.toList == x.name.toList)=true then .inr 6 else .inl ()) (fun j c=>by
  have e0:l.symbols[i]?=some l.symbols[i]:=qb hi;have a:j<l.symbols.length:=by omega
  have e1:l.symbols[j]?=some l.symbols[j]:=qb a;have b1:decide ((j:Int)<(i:Int))=true:=qj (by omega);have hd:(l.symbols.take i).drop j=l.symbols[j]::(l.symbols.take i).drop (j+1):=by rw [qan (by omega)];congr 1;exact List.getElem_take
  have hc:(l.symbols[j].name.toList == l.symbols[i].name.toList)=(l.symbols[i].name.toList == l.symbols[j].name.toList):=by rw [Bool.eq_iff_iff,beq_iff_eq,beq_iff_eq];exact eq_comm
  simp only [kdp,b1,qe,kag,e0,e1,qa,hd,List.any_cons,kaj j,hc];cases d:l.symbols[i].name.toList == l.symbols[j].name.toList with
  | true=>exact .inr rfl
  | false=>exact .inl ⟨rfl,rfl⟩) (by
  have b1:decide ((i:Int)<(i:Int))=false:=qf (by omega);have hd:(l.symbols.take i).drop i=[]:=qbe (by omega);simp only [kdp,b1,qd,hd,List.any_nil];rfl)
 simpa using this
theorem k7f (l:La) (h:l.symbols.length<=9223372036854775807) (hs:∀ x∈l.symbols,x.name.size<=9223372036854775807):∃ r,kab (khc l) fuel (0,[])=some r/\kab (kdx l) fuel 0=some r/\∀ e,r = .inr e->e≠0:=by
 obtain ⟨r,r',h1,c,rfl,d⟩:=kkl (step:=khc l) (step':=kdx l) l.symbols.length (by omega) (fun i=>((i:Int),mOf (l.symbols.take i))) (fun i=>(i:Int)) (fun r r'=>r=r'/\∀ e,r = .inr e->e≠0) (fun i hi=>by
  have e1:l.symbols[i]?=some l.symbols[i]:=qb hi;have b1:decide ((i:Int)<(l.symbols.length:Int))=true:=qj (by omega);obtain ⟨b,n1,n2⟩:=k1s l.symbols[i].name (hs _ (q9 hi));have hd:=kak8 l i hi h;have hm:=kah1 l.symbols[i].name (l.symbols.take i);have a:mput (mOf (l.symbols.take i)) l.symbols[i].name true=mOf (l.symbols.take (i+1)):=by rw [List.take_add_one,e1,<- kaf4];rfl
  simp only [khc,kdx,b1,qe,kag,e1,qa,n1,n2,hd,hm,k0r,k4b,kaj i,a];cases b with
  | false=>exact .inr ⟨_,_,rfl,rfl,rfl,fun e h=>by cases h;decide⟩
  | true=>
   simp only [qbo,qd];cases f:(l.symbols.take i).any fun x=>l.symbols[i].name.toList == x.name.toList with
   | true=>exact .inr ⟨_,_,rfl,rfl,rfl,fun e h=>by cases h;decide⟩
   | false=>
    cases tyB l.symbols[i].type with
    | true=>exact .inl ⟨rfl,rfl⟩
    | false=>exact .inr ⟨_,_,rfl,rfl,rfl,fun e h=>by cases h;decide⟩) (by
  have b1:decide ((l.symbols.length:Int)<(l.symbols.length:Int))=false:=qf (by omega);simp only [khc,kdx,b1,qd];exact ⟨_,_,rfl,rfl,rfl,fun e h=>by cases h⟩)
 exact ⟨r,by simpa [mOf] using h1,by simpa using c,d⟩
set_option maxRecDepth 100000
def opL:List Sae:=operator_catalog.getD []
theorem kacj:operator_catalog.isSome=true:=by kernel_rfl
theorem kank:operator_catalog=some opL:=by
 have h:=kacj;unfold opL
 revert h
 generalize operator_catalog=x;intro h;cases x with
 | none=>cases h
 | some x=>rfl
def refFs:List BA:=synthesisref09_families.getD []
theorem kahk:synthesisref09_families=some refFs:=rfl
def catL (f:BA):List Sad:=(kcm f).getD []
theorem kaho:refFs.all (fun f=>(kcm f).isSome)=true:=by kernel_rfl
theorem kak3 {f:BA} (a:f∈refFs):kcm f=some (catL f):=by
 have h:=qr.1 kaho f a;unfold catL
 revert h
 generalize kcm f=x;intro h;cases x with
 | none=>cases h
 | some x=>rfl
def opNames:List BA:=opL.map fun e=>e.yk.yf
theorem kab9:(refFs.flatMap fun f=>(catL f).map fun x=>x.f_0)=opNames:=by kernel_rfl
def eqOp:Option (Sac×Bool)->Option (Sac×Bool)->Bool
 | some (a,b),some (c,d)=>(a.yf.toList == c.yf.toList) && (a.ye == c.ye) && (a.yi == c.yi) && (b == d)
 | _,_=>false
theorem kalo {x y:Option (Sac×Bool)} (h:eqOp x y=true):∃ r,x=some r/\y=some r:=by
 unfold eqOp at h;split at h
 ·rename_i a b c d;simp only [qp,beq_iff_eq] at h;obtain ⟨⟨⟨h1,e⟩,f⟩,rfl⟩:=h;obtain ⟨n,l,t⟩:=a;obtain ⟨n',l',t'⟩:=c;simp only at h1 e f;have h1:n=n':=by have:(n.toList == n'.toList)=true:=(by simpa using h1);rw [kja,MapKept.bytes_beq] at this;exact this
  subst h1 e f;exact ⟨_,rfl,rfl⟩
 ·cases h
theorem kafg:opNames.all (fun n=>eqOp (kh2 n) (kct n))=true:=by kernel_rfl
def kadd:Sac:=Sac.mk ⟨#[]⟩ [] 0
theorem k9l:opL.length<1000:=qbt (by kernel_rfl)
theorem k35:refFs.length<1000:=qbt (by kernel_rfl)
theorem k7i:refFs.all (fun f=>decide ((catL f).length<1000))=true:=by kernel_rfl
theorem k8a {f:BA} (a:f∈refFs):(catL f).length<1000:=qbt (qr.1 k7i f a)
theorem k4h (s:BA) (c:¬ s∈opNames):kh2 s=some (kadd,false)/\kct s=some (kadd,false):=by
 refine ⟨?_,?_⟩
 ·have hl:=kbs (kg9 s opL) opL.length (fun i=>(i:Int)) (.inl ()) (fun i hi=>by
   have e1:opL[i]?=some opL[i]:=qb hi;have b1:decide ((i:Int)<(opL.length:Int))=true:=qj (by omega);have a:(opL[i].yk.yf.toList == s.toList)=false:=by
    cases d:opL[i].yk.yf.toList == s.toList with
    | false=>rfl
    | true=>
     rw [kja,MapKept.bytes_beq] at d;exact absurd (qas.2 ⟨opL[i],q9 hi,d⟩) c
   simp only [kg9,b1,qe,kag,e1,qa,a,qd,kaj i (h:=(by have:=k9l;omega))]) (by
   have b1:decide ((opL.length:Int)<(opL.length:Int))=false:=qf (by omega);simp only [kg9,b1,qd]) (hn:=(by have:=k9l;omega))
  have b:kab (kg9 s opL) fuel 0=some (.inl ()):=by simpa using hl
  simp only [kh2,km8,kank,qa,b,qaf];rfl
 ·have hl:=kbs (kdl s refFs) refFs.length (fun i=>(i:Int)) (.inl ()) (fun i hi=>by
   have e1:refFs[i]?=some refFs[i]:=qb hi;have f:refFs[i]∈refFs:=q9 hi;have b1:decide ((i:Int)<(refFs.length:Int))=true:=qj (by omega);have g:=kbs (kdh s refFs[i] (catL refFs[i])) (catL refFs[i]).length (fun i=>(i:Int)) (.inl ()) (fun j h=>by
    have e2:(catL refFs[i])[j]?=some (catL refFs[i])[j]:=qb h;have b2:decide ((j:Int)<((catL refFs[i]).length:Int))=true:=qj (by omega);have a:((catL refFs[i])[j].f_0.toList == s.toList)=false:=by
     cases d:(catL refFs[i])[j].f_0.toList == s.toList with
     | false=>rfl
     | true=>
      rw [kja,MapKept.bytes_beq] at d;refine absurd ?_ c;rw [<- kab9];exact qa1.2 ⟨refFs[i],f,qas.2 ⟨_,q9 h,d⟩⟩
    simp only [kdh,b2,qe,kag,e2,qa,a,qd,kaj j (h:=(by have:=k8a f;omega))]) (by
    have b2:decide (((catL refFs[i]).length:Int)<((catL refFs[i]).length:Int))=false:=qf (by omega);simp only [kdh,b2,qd]) (hn:=(by have:=k8a f;omega))
   have e:kab (kdh s refFs[i] (catL refFs[i])) fuel 0=some (.inl ()):=(by simpa using g);simp only [kdl,b1,qe,kag,e1,qa,kak3 f,e,qaf,kaj i (h:=(by have:=k35;omega))]) (by
   have b1:decide ((refFs.length:Int)<(refFs.length:Int))=false:=qf (by omega);simp only [kdl,b1,qd]) (hn:=(by have:=k35;omega))
  have b:kab (kdl s refFs) fuel 0=some (.inl ()):=by simpa using hl
  simp only [kct,khw,kahk,qa,b,qaf,beq_self_eq_true,qe];rfl
theorem kadf (s:BA):∃ r,kh2 s=some r/\kct s=some r:=by
 by_cases a:s∈opNames;exact kalo (qr.1 kafg s a)
 ·exact ⟨_,k4h s a⟩
theorem kt5 {α:Type} (xs:List α) {i:Int} (h0:0<=i) (h1:i<(xs.length:Int)):∃ x,idx xs i=some x/\x∈xs:=by
 have h:i.toNat<xs.length:=by omega
 refine ⟨xs[i.toNat],?_,q9 h⟩;unfold idx;rw [qo h0,qb h]
theorem kae1 (x y:List Int):kgw x y=kch x y:=rfl
theorem kadp (x y:List Int) (hx:x.length<=9223372036854775807):∃ c,kch x y=some c:=by
 unfold kch;by_cases hl:(x.length:Int)=(y.length:Int)
 ·obtain ⟨r,h1,_⟩:=kp8 (kb9 x y) (kb9 x y) x.length (fun i=>(i:Int)) (fun i hi=>by
   have e1:x[i]?=some x[i]:=qb hi;have a:i<y.length:=(by omega);have e2:y[i]?=some y[i]:=qb a;have b1:decide ((i:Int)<(x.length:Int))=true:=qj (by omega);simp only [kb9,b1,qe,kag,e1,e2,qa,kaj i];cases x[i] != y[i] with
   | true=>exact .inr ⟨_,rfl,rfl⟩
   | false=>exact .inl ⟨rfl,rfl⟩) (.inl ()) (by
   have b1:decide ((x.length:Int)<(x.length:Int))=false:=qf (by omega);simp only [kb9,b1,qd]) (by
   have b1:decide ((x.length:Int)<(x.length:Int))=false:=qf (by omega);simp only [kb9,b1,qd])
  have d:kab (kb9 x y) fuel 0=some r:=by simpa using h1
  rw [d,show ((x.length:Int) != (y.length:Int))=false by rw [qa3];omega];cases r with
  | inl u=>exact ⟨true,rfl⟩
  | inr b=>exact ⟨b,rfl⟩
 ·rw [show ((x.length:Int) != (y.length:Int))=true by rw [qba];omega];exact ⟨false,rfl⟩
theorem kzw (x:List Int):kch x []=some ((x.length:Int) == 0):=by
 cases x with
 | nil=>kernel_rfl
 | cons a x=>
  unfold kch;have h1:((((a::x).length:Nat):Int) != (([]:List Int).length:Int))=true:=by rw [qba,qy,qbn];omega
  have b:((((a::x).length:Nat):Int) == 0)=false:=by rw [qar,qy];omega
  rw [h1,b];rfl
def fineR (r:Ru):Prop:=r.args.length<=9223372036854775807/\okV r.const/\kt7 r.const
theorem k5l {a b:Ru} (ha:fineR a) (d:fineR b):∃ c,kd0 a b=some c/\kff a b=some c:=by obtain ⟨c,hc⟩:=kadp a.args b.args ha.1;unfold kd0 kff;simp only [kae1,hc,qa,kt3 ha.2.1 d.2.1,k69 ha.2.1 d.2.1];cases a.symbol == b.symbol <;> cases a.kind == b.kind <;> cases a.input == b.input <;> cases a.op.toList == b.op.toList <;> cases c <;> exact ⟨_,rfl,rfl⟩
theorem kanf (v:Va):Va.mk v.type v.num v.text v.items=v:=by cases v;rfl
def kf6:Va:=Va.mk 0 0 ⟨#[]⟩ []
theorem k0m:okV kf6:=by refine ⟨?_,?_,trivial⟩ <;> simp [kf6,depV,ks4]
theorem kafk (l:La) (r:Ru) (o:Sac×Bool) (hr:r.args.length<=9223372036854775807) (hl:r.args.length=o.1.ye.length):∃ c,kab (khy l r o) fuel 0=some c/\kab (kaz l r o) fuel 0=some c:=by
 obtain ⟨c,h1,b⟩:=kp8 (khy l r o) (kaz l r o) r.args.length (fun i=>(i:Int)) (fun i hi=>by
  have e1:r.args[i]?=some r.args[i]:=qb hi;have a:i<o.1.ye.length:=by omega
  have e2:o.1.ye[i]?=some o.1.ye[i]:=qb a;have b1:decide ((i:Int)<(r.args.length:Int))=true:=qj (by omega);simp only [khy,kaz,kid,b1,qe,kag,e1,e2,qa,kaj i];by_cases h0:0<=r.args[i]
  ·by_cases h1:r.args[i]<(l.symbols.length:Int)
   ·obtain ⟨x,hx,_⟩:=kt5 _ h0 h1;rw [qj h0,qj h1,qf (show ¬ r.args[i]<0 by omega),qf (show ¬ (l.symbols.length:Int)<=r.args[i] by omega)];simp only [qe,qd,qa,qbo,hx];cases x.type != o.1.ye[i] with
    | true=>exact .inr ⟨_,rfl,rfl⟩
    | false=>exact .inl ⟨rfl,rfl⟩
   ·rw [qj h0,qf h1,qf (show ¬ r.args[i]<0 by omega),qj (show (l.symbols.length:Int)<=r.args[i] by omega)];exact .inr ⟨_,rfl,rfl⟩
  ·rw [qf h0,qj (show r.args[i]<0 by omega)];exact .inr ⟨_,rfl,rfl⟩) (.inl ()) (by
  have b1:decide ((r.args.length:Int)<(r.args.length:Int))=false:=qf (by omega);simp only [khy,b1,qd]) (by
  have b1:decide ((r.args.length:Int)<(r.args.length:Int))=false:=qf (by omega);simp only [kaz,b1,qd])
 exact ⟨c,by simpa using h1,by simpa using b⟩
theorem kadk (a b:Int):(a != b)=(b != a):=by rw [Bool.eq_iff_iff,qba,qba];exact ⟨fun h e=>h e.symm,fun h e=>h e.symm⟩
theorem kahe (l:La) (r:Ru) (ha:r.args.length<=9223372036854775807) (b:kce r.const (Va.mk 0 0 ⟨#[]⟩ [])=some (eqV r.const kf6)) (hp:kga r.const (Va.mk 0 0 ⟨#[]⟩ [])=some (eqV r.const kf6)) (hc:∃ c,ka1 fuel r.const=some c/\kao fuel r.const=some c):∃ c,kj8 l r=some c/\kdc l r=some c:=by
 have a:kga (Va.mk r.const.type r.const.num r.const.text r.const.items) (Va.mk 0 0 ⟨#[]⟩ [])=some (eqV r.const kf6):=by rw [kanf];exact hp
 have d:kga (Va.mk 0 0 ⟨#[]⟩ []) (Va.mk 0 0 ⟨#[]⟩ [])=some true:=by have:=kt3 k0m k0m;rw [kaf2] at this;exact this
 unfold kj8 kdc kid;by_cases h0:0<=r.symbol
 rotate_left
 rw [qf h0,qj (show r.symbol<0 by omega)];exact ⟨1,rfl,rfl⟩;by_cases h1:r.symbol<(l.symbols.length:Int)
 rotate_left
 rw [qj h0,qf h1,qf (show ¬ r.symbol<0 by omega),qj (show (l.symbols.length:Int)<=r.symbol by omega)];exact ⟨1,rfl,rfl⟩;obtain ⟨x,hx,_⟩:=kt5 _ h0 h1;rw [qj h0,qj h1,qf (show ¬ r.symbol<0 by omega),qf (show ¬ (l.symbols.length:Int)<=r.symbol by omega)];simp only [qe,qd,qa,qbo];by_cases k1:r.kind<1;rw [qj k1];exact ⟨4,rfl,rfl⟩;by_cases k3:3<r.kind;rw [qf k1,qj k3];exact ⟨4,rfl,rfl⟩;rw [qf k1,qf k3];simp only [qd,qa,hx];have hk:r.kind=1\/r.kind=2\/r.kind=3:=by omega
 rcases hk with hk | hk | hk
 ·have c1:(r.kind == 1)=true:=by rw [hk];rfl
  simp only [c1,qe,qa,kd0,keg,beq_self_eq_true,kzw,a,b];have fin:∃ c,(Option.bind ((bif (decide (r.input<0)) then (some (true)) else (some (decide ((List.length l.inputs:Int)<=r.input)))):Option (Bool)) fun (v9:Bool)=>(bif v9 then (some 1) else (Option.bind (idx l.inputs r.input) fun v10=>(Option.bind (kgc (v10) (x.type)) fun v11=>(some v11)))))=some c /\
    (Option.bind ((bif (decide (r.input<0)) then (some (true)) else (some (decide ((List.length l.inputs:Int)<=r.input)))):Option (Bool)) fun (v8:Bool)=>(bif v8 then (some 1) else (Option.bind (idx l.inputs r.input) fun v9=>(bif (v9 != x.type) then (some 3) else (some 0)))))=some (c:Int):=by
   by_cases i0:r.input<0;rw [qj i0];exact ⟨1,rfl,rfl⟩;by_cases i1:(l.inputs.length:Int)<=r.input;rw [qf i0,qj i1];exact ⟨1,rfl,rfl⟩;obtain ⟨y,hy,_⟩:=kt5 (i:=r.input) l.inputs (by omega) (by omega);rw [qf i0,qf i1];simp only [qd,qa,hy,kgc];cases y != x.type <;> exact ⟨_,rfl,rfl⟩
  obtain ⟨c,f1,f2⟩:=fin;cases r.op.toList == (⟨#[]⟩:BA).toList <;> cases (r.args.length:Int) == 0 <;> cases eqV r.const kf6 <;> first | exact ⟨4,rfl,rfl⟩ | exact ⟨c,f1,f2⟩
 ·have c1:(r.kind == 1)=false:=by rw [hk];rfl
  have c2:(r.kind == 2)=true:=by rw [hk];rfl
  simp only [c1,c2,qe,qd,qa,kd0,keg,beq_self_eq_true,kzw,d,b];obtain ⟨c,f1,f2⟩:=hc;simp only [f1,f2,qa,kgc];cases r.input == 0 <;> cases r.op.toList == (⟨#[]⟩:BA).toList <;> cases (r.args.length:Int) == 0 <;> first | exact ⟨4,rfl,rfl⟩ | skip
  cases c != 0 with
  | true=>exact ⟨c,rfl,rfl⟩
  | false=>cases r.const.type != x.type <;> exact ⟨_,rfl,rfl⟩
 ·have c1:(r.kind == 1)=false:=by rw [hk];rfl
  have c2:(r.kind == 2)=false:=by rw [hk];rfl
  have c3:(r.kind == 3)=true:=by rw [hk];rfl
  have en:kch [] []=some true:=kzw [];simp only [c1,c2,c3,qe,qd,qa,kd0,keg,beq_self_eq_true,en,a,b];obtain ⟨o,f1,f2⟩:=kadf r.op;simp only [kdj,f1,f2,qa,kgc];cases r.input == 0 <;> cases eqV r.const kf6 <;> first | exact ⟨4,rfl,rfl⟩ | skip
  simp only [qbo,Bool.not_false,qe,qd,qa];cases o.2 with
  | false=>exact ⟨5,rfl,rfl⟩
  | true=>
   simp only [qbo,qd];by_cases hl:r.args.length=o.1.ye.length
   ·rw [show ((r.args.length:Int) != (o.1.ye.length:Int))=false by rw [qa3];omega];obtain ⟨c,g1,g2⟩:=kafk l r o ha hl;simp only [qd,g1,g2,qa,hx];cases c with
    | inl u=>
     simp only [qaf,qa];rw [kadk];cases x.type != o.1.yi <;> exact ⟨_,rfl,rfl⟩
    | inr e=>exact ⟨e,rfl,rfl⟩
   ·rw [show ((r.args.length:Int) != (o.1.ye.length:Int))=true by rw [qba];omega];exact ⟨2,rfl,rfl⟩
theorem kvk {σ β:Type} {step:σ->Option (σ ⊕ β)} (n:Nat) (S:Nat->σ) (b0:β) (hs:∀ i,i<n->step (S i)=some (.inl (S (i+1)))\/∃ b,step (S i)=some (.inr b)/\b≠b0):
  ∀ (k i:Nat),kab step k (S i)=some b0->∀ j,i<=j->j<n->step (S j)=some (.inl (S (j+1)))
 | 0,i,h=>by cases h
 | k+1,i,h=>fun j a c=>by
  rw [kab] at h;rcases hs i (by omega) with h1 | ⟨b,h1,d⟩
  ·rw [h1] at h;by_cases e:i=j;subst e;exact h1
   ·exact kvk n S b0 hs k (i+1) h j (by omega) c
  ·rw [h1] at h;injection h with h;exact absurd h d
theorem k6a {α:Type} (xs:List α) (i:Nat) (hi:i<=xs.length:=by omega):cutL xs 0 (i:Int)=some (xs.take i):=by unfold cutL;rw [qo (by omega)];simp
theorem kahu (l:La) (i:Nat) (hi:i<l.rules.length) (hl:l.rules.length<=9223372036854775807) (hr:∀ j (g:j<l.rules.length),j<=i->fineR l.rules[j]):∃ b,kbm (l.rules.take i) l.rules[i]=some b/\kab (kcv l (i:Int)) fuel 0=some (if b=true then .inr 6 else .inl ()):=by
 have a:(l.rules.take i).length=i:=by rw [qaw];omega
 obtain ⟨r,r',h1,h,k⟩:=kkl (step:=ka5 (l.rules.take i) l.rules[i]) (step':=kcv l (i:Int)) i (by omega) (fun j=>(j:Int)) (fun j=>(j:Int))
  (fun r r'=>(r = .inl ()/\r' = .inl ())\/∃ j:Nat,r = .inr (j:Int)/\r' = .inr 6) (fun j g=>by
  have e0:l.rules[i]?=some l.rules[i]:=qb hi;have d:j<l.rules.length:=by omega
  have e1:l.rules[j]?=some l.rules[j]:=qb d;have e2:(l.rules.take i)[j]?=some l.rules[j]:=by rw [List.getElem?_take_of_lt g,e1]
  have b1:decide ((j:Int)<(i:Int))=true:=qj (by omega);have b2:decide ((j:Int)<((l.rules.take i).length:Int))=true:=by rw [a];exact b1
  obtain ⟨c,c1,c2⟩:=k5l (hr j d (by omega)) (hr i hi (qx _));simp only [ka5,kcv,kjy,b1,b2,qe,kag,e0,e1,e2,qa,c1,c2,kaj j];cases c with
  | true=>exact .inr ⟨_,_,rfl,rfl, .inr ⟨j,rfl,rfl⟩⟩
  | false=>exact .inl ⟨rfl,rfl⟩) (by
  have b1:decide ((i:Int)<(i:Int))=false:=qf (by omega);have b2:decide ((i:Int)<((l.rules.take i).length:Int))=false:=by rw [a];exact b1
  simp only [ka5,kcv,b1,b2,qd];exact ⟨_,_,rfl,rfl, .inl ⟨rfl,rfl⟩⟩)
 have e:kab (ka5 (l.rules.take i) l.rules[i]) fuel 0=some r:=by simpa using h1
 have f:kab (kcv l (i:Int)) fuel 0=some r':=by simpa using h
 unfold kbm kc2;rw [e,f];rcases k with ⟨rfl,rfl⟩ | ⟨j,rfl,rfl⟩;exact ⟨false,rfl,rfl⟩
 ·refine ⟨true,?_,rfl⟩;simp only [qa,qay];exact congrArg some (qj (by omega))
theorem kah3 (n:Nat) (x z:Va) (d:z.items=[]):kcp (n+1) x z=some (cmpV x z):=by
 show kge (kcp n) x z=_;rw [kvo];unfold kge;by_cases h1:x.type<z.type;rw [qj h1,qo h1];rfl;rw [qf h1,qi h1,qd];by_cases a:z.type<x.type;rw [qj a,qo a];rfl;rw [qf a,qi a,qd];by_cases b:x.num<z.num;rw [qj b,qo b];rfl;rw [qf b,qi b,qd];by_cases c:z.num<x.num;rw [qj c,qo c];rfl;rw [qf c,qi c,qd,k48];show (bif kf9 x.text z.text then _ else bif kf9 z.text x.text then _ else _)=_;cases f:kf9 x.text z.text with
 | true=>rfl
 | false=>
  cases g:kf9 z.text x.text with
  | true=>rfl
  | false=>
   simp only [qd,Bool.false_eq_true,if_false];cases hi:x.items with
   | nil=>
    have:kab (kbv x z (kcp n)) fuel 0=some (.inl ()):=(by rw [ks3,kab];simp [kbv,hi]);rw [this,d];simp [khi]
   | cons y l=>
    have:kab (kbv x z (kcp n)) fuel 0=some (.inr 1):=(by rw [ks3,kab];have e:idx (y::l) 0=some y:=kag (y::l) 0;simp [kbv,hi,e,d]);rw [this,d];simp [khi]
theorem kahv (n:Nat) (x:Va):kcp (n+1) x kf6=some (cmpV x kf6):=kah3 n x kf6 rfl
theorem kaa8 (n:Nat) (l:List Va):kcf (n+1) l []=some (if l.length=0 then 0 else 1):=by
 show kb2 (kaq n) (kcf n) l []=_;have:kab (kav l [] (kaq n)) fuel 0=some (.inl ()):=by rw [ks3,kab];cases l <;> simp [kav]
 unfold kb2;rw [this];cases l with
 | nil=>simp
 | cons y l=>
  have h1:((((y::l).length:Nat):Int) == (([]:List Va).length:Int))=false:=by rw [qar,qy,qbn];omega
  have a:decide ((((y::l).length:Nat):Int)<(([]:List Va).length:Int))=false:=qf (by rw [qy,qbn];omega);simp only [qa,qaf,h1,a,qd,knk];rfl
theorem kaf0 (n:Nat) (x z:Va) (d:z.items=[]):kaq (n+2) x z=some (cmpV x z):=by
 show kcr (kaq (n+1)) (kcf (n+1)) x z=_;rw [kvo];unfold kcr;have e:khi x.items []=if x.items.length=0 then 0 else 1:=by cases x.items <;> rfl
 have a:=kaa8 n x.items;rw [d,e,a];by_cases t0:x.type=z.type
 ·rw [show (x.type != z.type)=false by rw [qa3];exact t0,qd,qi (show ¬ x.type<z.type by omega),qi (show ¬ z.type<x.type by omega)];by_cases n0:x.num=z.num
  ·rw [show (x.num != z.num)=false by rw [qa3];exact n0,qd,qi (show ¬ x.num<z.num by omega),qi (show ¬ z.num<x.num by omega)];by_cases b:x.text=z.text;rw [b,show (z.text.toList == z.text.toList)=true from beq_self_eq_true _];simp only [qbo,qd,qa,k18,Bool.false_eq_true,if_false]
   ·have c:(x.text.toList == z.text.toList)=false:=(by rw [qar];exact fun h=>b (kwf h));rw [c];simp only [Bool.not_false,qe,knk,qa];show some (if kf9 x.text z.text=true then (-1:Int) else 1)=_;cases f:kf9 x.text z.text with
    | true=>rfl
    | false=>
     cases g:kf9 z.text x.text with
     | true=>rfl
     | false=>exact absurd (k8h f g) b
  ·rw [show (x.num != z.num)=true by rw [qba];exact n0,qe,knk];by_cases hl:x.num<z.num;rw [qj hl,qo hl];rfl
   ·rw [qf hl,qi hl,qo (show z.num<x.num by omega)];rfl
 ·rw [show (x.type != z.type)=true by rw [qba];exact t0,qe,knk];by_cases hl:x.type<z.type;rw [qj hl,qo hl];rfl
  ·rw [qf hl,qi hl,qo (show z.type<x.type by omega)];rfl
theorem kag4 (n:Nat) (x:Va):kaq (n+2) x kf6=some (cmpV x kf6):=kaf0 n x kf6 rfl
theorem kacp (x:Va):kga x (Va.mk 0 0 ⟨#[]⟩ [])=some (eqV x kf6):=by unfold kga;have:=kahv 18446744073709551615 x;rw [<- ks3] at this;show Option.bind (kcp fuel x kf6) _=_;rw [this];simp only [qa,eqV];by_cases h:cmpV x kf6=0 <;> simp [h]
theorem kwd (x:Va):kce x (Va.mk 0 0 ⟨#[]⟩ [])=some (eqV x kf6):=by unfold kce;have:=kag4 18446744073709551614 x;show Option.bind (kaq fuel x kf6) _=_;rw [show fuel=18446744073709551614+2 from rfl,this];simp only [qa,eqV];by_cases h:cmpV x kf6=0 <;> simp [h]
def rkT (t:Int):Nat:=if t=7 then 3 else if t=5\/t=6 then 2 else 1
def inV (x:Va):Prop:=km6 9223372036854775807 x/\kt7 x
theorem kadr {x:Va} (h:inV x):x.items.length<=9223372036854775807/\x.text.size<=9223372036854775807/\∀ y∈x.items,inV y:=by obtain ⟨l1,l2⟩:=kn9 h.1;obtain ⟨s1,s2⟩:=k83 h.2;exact ⟨l1,s1,fun y hy=>⟨l2 y hy,s2 y hy⟩⟩
theorem k6n {k:Nat}:∀ {l:List Va},(∀ y∈l,depV y<=k)->ks4 l<=k
 | [],_=>qaj _
 | y::l,h=>by simp only [ks4];exact Nat.max_le.2 ⟨h y (qu ..),k6n fun z a=>h z (qh _ a)⟩
theorem k3a {x:Va} {k:Nat} (h:∀ y∈x.items,depV y<=k):depV x<=k+1:=by
 cases x with
 | mk t n s l=>simp only [depV];exact Nat.succ_le_succ (k6n h)
theorem krq {x:Va} (h:((x.items.length:Int) == 0)=true):depV x<=1:=by
 refine k3a fun y hy=>?_;have:x.items.length=0:=by have:=eq_of_beq h;omega
 rw [qa5 this] at hy;cases hy
theorem k9g:∀ n:Nat,(∀ x:Va,2*rkT x.type<=n->inV x->∃ c,ka1 n x=some c/\kao n x=some c/\(c=0->depV x<=rkT x.type)) /\
  (∀ (l:List Va) (t:Int),(t=2\/t=3)->3<=n->l.length<=9223372036854775807->(∀ x∈l,inV x)->∃ c,kie n l t=some c/\kdy n l t=some c/\(c=0->∀ x∈l,depV x<=1)) /\
  (∀ l:List Va,5<=n->l.length<=9223372036854775807->(∀ x∈l,inV x)->∃ c,kl1 n l=some c/\kfk n l=some c/\(c=0->∀ x∈l,depV x<=2))
 | 0=>⟨fun x h=>by unfold rkT at h;split at h <;> (try split at h) <;> omega,fun l t _ h=>by omega,fun l h=>by omega⟩
 | n+1=>by
  obtain ⟨ih1,ih2,ih3⟩:=k9g n;refine ⟨fun x hd hx=>?_,fun l t ht hd hl wl=>?_,fun l hd hl wl=>?_⟩
  ·show ∃ c,kb7 (ka1 n) (kie n) (kl1 n) x=some c/\kap (kao n) (kdy n) (kfk n) x=some c/\_;obtain ⟨lx,sx,wx⟩:=kadr hx;have hS:=fun a b=>kabl x.text a b sx;have p:=fun a b=>k7t x.text a b sx;by_cases h0:x.type<1;exact ⟨3,by simp [kb7,h0],by simp [kap,h0],fun h=>absurd h (by decide)⟩;by_cases s:8<x.type;exact ⟨3,by simp [kb7,h0,s],by simp [kap,h0,s],fun h=>absurd h (by decide)⟩;have ht:x.type=1\/x.type=2\/x.type=3\/x.type=4\/x.type=5\/x.type=6\/x.type=7\/x.type=8:=(by omega);have v:∀ t,(t=2\/t=3)->rkT x.type=2->∃ c,kie n x.items t=some c/\kdy n x.items t=some c/\(c=0->depV x<=2):=fun t h1 w=>(by obtain ⟨c,e1,e2,e3⟩:=ih2 x.items t h1 (by omega) lx wx;exact ⟨c,e1,e2,fun h=>k3a (e3 h)⟩);have y:rkT x.type=3->∃ c,kl1 n x.items=some c/\kfk n x.items=some c/\(c=0->depV x<=3):=fun w=>(by obtain ⟨c,e1,e2,e3⟩:=ih3 x.items (by omega) lx wx;exact ⟨c,e1,e2,fun h=>k3a (e3 h)⟩);have hp:=kalc x.items;cases e:(x.text.toList == (⟨#[]⟩:BA).toList) <;> cases hm:(x.num == 0) <;> cases hl:((x.items.length:Int) == 0) <;> rw [hl] at hp <;>
    rcases ht with ht | ht | ht | ht | ht | ht | ht | ht <;>
    first
     | (refine ⟨4,?_,?_,fun h=>absurd h (by decide)⟩;rotate_left;(simp only [kap,ht,e,hm,hp,bne];simp);(simp only [kb7,kd7,ht,e,hm,hl];simp))
     | (obtain ⟨c,e1,e2⟩:=ktl x.num 0 1;refine ⟨c,?_,?_,fun _=>by rw [ht];exact krq hl⟩;rotate_left;(simp only [kap,ht,e,hm,hp,bne];simp [e2]);(simp only [kb7,kd7,ht,e,hm,hl];simp [e1]))
     | (obtain ⟨c,e1,e2⟩:=ktl x.num (-1000000) 1000000;refine ⟨c,?_,?_,fun _=>by rw [ht];exact krq hl⟩;rotate_left;(simp only [kap,ht,e,hm,hp,bne];simp [e2]);(simp only [kb7,kd7,ht,e,hm,hl];simp [e1]))
     | (obtain ⟨c,e1,e2⟩:=ktl x.num 0 255;refine ⟨c,?_,?_,fun _=>by rw [ht];exact krq hl⟩;rotate_left;(simp only [kap,ht,e,hm,hp,bne];simp [e2]);(simp only [kb7,kd7,ht,e,hm,hl];simp [e1]))
     | (obtain ⟨c,e1⟩:=hS 0 64;refine ⟨c,?_,?_,fun _=>by rw [ht];exact krq hl⟩;rotate_left;(simp only [kap,ht,e,hm,hp,bne];simp [p,e1]);(simp only [kb7,kd7,ht,e,hm,hl];simp [e1]))
     | (obtain ⟨c,e1⟩:=hS 1 40;refine ⟨c,?_,?_,fun _=>by rw [ht];exact krq hl⟩;rotate_left;(simp only [kap,ht,e,hm,hp,bne];simp [p,e1]);(simp only [kb7,kd7,ht,e,hm,hl];simp [e1]))
     | (obtain ⟨c,e1,e2,e3⟩:=v 2 (.inl rfl) (by rw [ht];rfl);refine ⟨c,?_,?_,fun h=>by rw [ht];exact e3 h⟩;rotate_left;(simp only [kap,ht,e,hm,hp,bne];simp [e2]);(simp only [kb7,kd7,ht,e,hm,hl];simp [e1]))
     | (obtain ⟨c,e1,e2,e3⟩:=v 3 (.inr rfl) (by rw [ht];rfl);refine ⟨c,?_,?_,fun h=>by rw [ht];exact e3 h⟩;rotate_left;(simp only [kap,ht,e,hm,hp,bne];simp [e2]);(simp only [kb7,kd7,ht,e,hm,hl];simp [e1]))
     | (obtain ⟨c,e1,e2,e3⟩:=y (by rw [ht];rfl);refine ⟨c,?_,?_,fun h=>by rw [ht];exact e3 h⟩;rotate_left;(simp only [kap,ht,e,hm,hp,bne];simp [e2]);(simp only [kb7,kd7,ht,e,hm,hl];simp [e1]))
  ·show ∃ c,khe (ka1 n) (kie n) (kl1 n) l t=some c/\kc8 (kao n) (kdy n) (kfk n) l t=some c/\_;by_cases d:(16:Int)<(l.length:Int);exact ⟨2,by simp only [khe,qj d,qe],by simp only [kc8,qj d,qe],fun h=>absurd h (by decide)⟩
   ·have m:rkT t=1:=(by rcases ht with rfl | rfl <;> rfl);have hst:∀ (i:Nat) (hi:i<l.length),(ka0 l t (ka1 n) (i:Int)=some (.inl ((i+1:Nat):Int))/\ka2 l t (kao n) (i:Int)=some (.inl ((i+1:Nat):Int))/\depV l[i]<=1) \/
      ∃ c,c≠0/\ka0 l t (ka1 n) (i:Int)=some (.inr (.inr c))/\ka2 l t (kao n) (i:Int)=some (.inr (.inr c)):=fun i hi=>by
     have e1:l[i]?=some l[i]:=qb hi;have b1:decide ((i:Int)<(l.length:Int))=true:=qj (by omega);have o:=kaj i;cases ht:(l[i].type != t) with
     | true=>exact .inr ⟨3,by decide,by simp only [ka0,b1,kag,e1,ht,qe,qa],by simp only [ka2,b1,kag,e1,ht,qe,qa]⟩
     | false=>
      have g:l[i].type=t:=(by rwa [qa3] at ht);obtain ⟨c,k1,k2,k3⟩:=ih1 l[i] (by rw [g,m];omega) (wl _ (q9 hi));rw [g,m] at k3;cases hc:(c != 0) with
      | true=>exact .inr ⟨c,by simpa using hc,by simp only [ka0,b1,kag,e1,ht,k1,hc,qe,qd,qa],by simp only [ka2,b1,kag,e1,ht,k2,hc,qe,qd,qa]⟩
      | false=>exact .inl ⟨by simp only [ka0,b1,kag,e1,ht,k1,hc,o,qe,qd,qa],by simp only [ka2,b1,kag,e1,ht,k2,hc,o,qe,qd,qa],k3 (by rwa [qa3] at hc)⟩
    obtain ⟨r,e1,e2⟩:=kp8 (ka0 l t (ka1 n)) (ka2 l t (kao n)) l.length (fun i=>(i:Int)) (fun i hi=>by
     rcases hst i hi with ⟨a1,a2,_⟩ | ⟨c,_,a1,a2⟩;exact .inl ⟨a1,a2⟩
     ·exact .inr ⟨_,a1,a2⟩) (.inl ()) (by simp [ka0]) (by simp [ka2])
    have e1':kab (ka0 l t (ka1 n)) fuel 0=some r:=(by simpa using e1);have e2':kab (ka2 l t (kao n)) fuel 0=some r:=(by simpa using e2);have j:∀ c:Int,r = .inr c->c≠0:=fun c hr=>by
     obtain ⟨r2,r3,f1,f2,f3⟩:=kkl (step:=ka0 l t (ka1 n)) (step':=ka0 l t (ka1 n)) l.length (by omega) (fun i=>(i:Int)) (fun i=>(i:Int)) (fun r r'=>∀ c,r = .inr c->c≠0) (fun i hi=>by
      rcases hst i hi with ⟨a1,a2,_⟩ | ⟨c,h0,a1,a2⟩;exact .inl ⟨a1,a1⟩
      ·exact .inr ⟨_,_,a1,a1,fun c' h=>by cases h;exact h0⟩) ⟨.inl (), .inl (),by simp [ka0],by simp [ka0],fun c h=>by cases h⟩
     have f1':kab (ka0 l t (ka1 n)) fuel 0=some r2:=(by simpa using f1);rw [e1'] at f1';cases f1';exact f3 c hr
    refine ⟨Sum.elim (fun _=>0) id r,?_,?_,fun h0=>?_⟩;simp only [khe,qf d,qd,e1',qa];cases r <;> rfl;simp only [kc8,qf d,qd,e2',qa];cases r <;> rfl
    ·cases r with
     | inr c=>exact absurd h0 (j c rfl)
     | inl u=>
      intro x hx;obtain ⟨i,hi,rfl⟩:=qai.1 hx;have f:=kvk (step:=ka0 l t (ka1 n)) l.length (fun i=>(i:Int)) (.inl u) (fun i hi=>by
       rcases hst i hi with ⟨a1,a2,_⟩ | ⟨c,_,a1,a2⟩;exact .inl a1
       ·exact .inr ⟨_,a1,fun h=>by cases h⟩) fuel 0 e1' i (qaj _) hi
      rcases hst i hi with ⟨_,_,h⟩ | ⟨c,_,a1,_⟩;exact h
      ·rw [a1] at f;cases f
  ·show ∃ c,kkb (ka1 n) (kie n) (kl1 n) l=some c/\kep (kao n) (kdy n) (kfk n) l=some c/\_;by_cases d:(8:Int)<(l.length:Int);exact ⟨2,by simp only [kkb,qj d,qe],by simp only [kep,qj d,qe],fun h=>absurd h (by decide)⟩
   ·have hst:∀ (i:Nat) (hi:i<l.length),(kbl l (ka1 n) (i:Int)=some (.inl ((i+1:Nat):Int))/\kbb l (kao n) (i:Int)=some (.inl ((i+1:Nat):Int))/\depV l[i]<=2) \/
      ∃ c,c≠0/\kbl l (ka1 n) (i:Int)=some (.inr (.inr c))/\kbb l (kao n) (i:Int)=some (.inr (.inr c)):=fun i hi=>by
     have e1:l[i]?=some l[i]:=qb hi;have e0:idx l 0=some (l[0]'(by omega)):=(by rw [show (0:Int)=((0:Nat):Int) from rfl,kag,qb]);have b1:decide ((i:Int)<(l.length:Int))=true:=qj (by omega);have o:=kaj i;cases ht:(l[i].type != 6) with
     | true=>exact .inr ⟨3,by decide,by simp only [kbl,b1,kag,e1,ht,qe,qa],by simp only [kbb,b1,kag,e1,ht,qe,qa]⟩
     | false=>
      have g:l[i].type=6:=(by rwa [qa3] at ht);obtain ⟨c,k1,k2,k3⟩:=ih1 l[i] (by rw [g];show 2*2<=n;omega) (wl _ (q9 hi));rw [g] at k3;obtain ⟨q,k⟩:∃ q,(bif decide ((l[i].items.length:Int)<1) then some true else bif decide (8<(l[i].items.length:Int)) then some true else (some ((l[i].items.length:Int) != ((l[0]'(by omega)).items.length:Int)):Option Bool))=some q:=(by cases decide ((l[i].items.length:Int)<1) <;> cases decide (8<(l[i].items.length:Int)) <;> exact ⟨_,rfl⟩);cases q with
      | true=>exact .inr ⟨2,by decide,by simp only [kbl,b1,kag,e1,e0,ht,k,qe,qd,qa],by simp only [kbb,b1,kag,e1,e0,ht,k,qe,qd,qa]⟩
      | false=>
       cases hc:(c != 0) with
       | true=>exact .inr ⟨c,by simpa using hc,by simp only [kbl,b1,kag,e1,e0,ht,k,k1,hc,qe,qd,qa],by simp only [kbb,b1,kag,e1,e0,ht,k,k2,hc,qe,qd,qa]⟩
       | false=>exact .inl ⟨by simp only [kbl,b1,kag,e1,e0,ht,k,k1,hc,o,qe,qd,qa],by simp only [kbb,b1,kag,e1,e0,ht,k,k2,hc,o,qe,qd,qa],k3 (by rwa [qa3] at hc)⟩
    obtain ⟨r,e1,e2⟩:=kp8 (kbl l (ka1 n)) (kbb l (kao n)) l.length (fun i=>(i:Int)) (fun i hi=>by
     rcases hst i hi with ⟨a1,a2,_⟩ | ⟨c,_,a1,a2⟩;exact .inl ⟨a1,a2⟩
     ·exact .inr ⟨_,a1,a2⟩) (.inl ()) (by simp [kbl]) (by simp [kbb])
    have e1':kab (kbl l (ka1 n)) fuel 0=some r:=(by simpa using e1);have e2':kab (kbb l (kao n)) fuel 0=some r:=(by simpa using e2);have j:∀ c:Int,r = .inr c->c≠0:=fun c hr=>by
     obtain ⟨r2,r3,f1,f2,f3⟩:=kkl (step:=kbl l (ka1 n)) (step':=kbl l (ka1 n)) l.length (by omega) (fun i=>(i:Int)) (fun i=>(i:Int)) (fun r r'=>∀ c,r = .inr c->c≠0) (fun i hi=>by
      rcases hst i hi with ⟨a1,a2,_⟩ | ⟨c,h0,a1,a2⟩;exact .inl ⟨a1,a1⟩
      ·exact .inr ⟨_,_,a1,a1,fun c' h=>by cases h;exact h0⟩) ⟨.inl (), .inl (),by simp [kbl],by simp [kbl],fun c h=>by cases h⟩
     have f1':kab (kbl l (ka1 n)) fuel 0=some r2:=(by simpa using f1);rw [e1'] at f1';cases f1';exact f3 c hr
    refine ⟨Sum.elim (fun _=>0) id r,?_,?_,fun h0=>?_⟩;simp only [kkb,qf d,qd,e1',qa];cases r <;> rfl;simp only [kep,qf d,qd,e2',qa];cases r <;> rfl
    ·cases r with
     | inr c=>exact absurd h0 (j c rfl)
     | inl u=>
      intro x hx;obtain ⟨i,hi,rfl⟩:=qai.1 hx;have f:=kvk (step:=kbl l (ka1 n)) l.length (fun i=>(i:Int)) (.inl u) (fun i hi=>by
       rcases hst i hi with ⟨a1,a2,_⟩ | ⟨c,_,a1,a2⟩;exact .inl a1
       ·exact .inr ⟨_,a1,fun h=>by cases h⟩) fuel 0 e1' i (qaj _) hi
      rcases hst i hi with ⟨_,_,h⟩ | ⟨c,_,a1,_⟩;exact h
      ·rw [a1] at f;cases f
theorem kae0 (t:Int):rkT t<=3:=by unfold rkT;split <;> (try split) <;> omega
theorem k93 {x:Va} (hx:inV x):∃ c,ka1 fuel x=some c/\kao fuel x=some c/\(c=0->okV x):=by have a:2*rkT x.type<=fuel:=qav (Nat.mul_le_mul_left 2 (kae0 x.type)) (by decide);obtain ⟨c,h1,b,d⟩:=(k9g fuel).1 x a hx;exact ⟨c,h1,b,fun h=>⟨by have:=d h;have:=kae0 x.type;omega,hx.1⟩⟩
def k2a (r:Ru):Prop:=r.args.length<=9223372036854775807/\inV r.const
theorem k7e {x:Va} (h:eqV x kf6=true):x=kf6:=kajw x kf6 (by simpa [eqV] using h)
theorem kam1 (l:La) (r:Ru) (hr:k2a r):∃ c,kj8 l r=some c/\kdc l r=some c:=by obtain ⟨c,h1,a,_⟩:=k93 hr.2;exact kahe l r hr.1 (kwd _) (kacp _) ⟨c,h1,a⟩
structure GoodR (l:La) (r:Ru):Prop where
 sym0:0<=r.symbol
 sym1:r.symbol<(l.symbols.length:Int)
 kind:r.kind=1\/r.kind=2\/r.kind=3
 noargs:r.kind≠3->r.args=[]
 args:∀ a∈r.args,0<=a/\a<(l.symbols.length:Int)
 few:r.args.length<=5
 fine:okV r.const
theorem kke {α:Type} {b:Bool} {x y:Option α} {r:α} (h:(bif b then x else y)=some r):(b=true/\x=some r)\/(b=false/\y=some r):=by
 cases b;exact .inr ⟨rfl,h⟩
 ·exact .inl ⟨rfl,h⟩
theorem kj2 {α β:Type} {E:Option α} {K:α->Option β} {r:β} (h:Option.bind E K=some r):∃ v,E=some v/\K v=some r:=ql.1 h
theorem k7w:opNames.all (fun n=>(kct n).all fun o=>decide (o.1.ye.length<=5))=true:=by kernel_rfl
theorem kafx {s:BA} {o:Sac×Bool} (h:kct s=some o) (b:o.2=true):o.1.ye.length<=5:=by
 by_cases a:s∈opNames;have:=qr.1 k7w s a;rw [h] at this;simpa using this
 ·rw [(k4h s a).2] at h;cases h;cases b
theorem kac0 {l:La} {r:Ru} (ha:r.args.length<=9223372036854775807) (h:kdj l r=some 0):r.args.length<=5/\∀ a∈r.args,0<=a/\a<(l.symbols.length:Int):=by
 unfold kdj at h;obtain ⟨o,h1,h⟩:=kj2 h;rcases kke h with ⟨_,h⟩ | ⟨g,h⟩;cases h;rcases kke h with ⟨_,h⟩ | ⟨j,h⟩;cases h;have f:r.args.length=o.1.ye.length:=by have:=qa3.1 j;omega
 have p:=kafx h1 (by simpa using g);obtain ⟨v,k,h⟩:=kj2 h;refine ⟨by omega,fun a d=>?_⟩;have hst:∀ i,i<r.args.length->kaz l r o (i:Int)=some (.inl ((i+1:Nat):Int))/\(∀ x,r.args[i]?=some x->0<=x/\x<(l.symbols.length:Int))\/∃ c,c≠0/\kaz l r o (i:Int)=some (.inr (.inr c)):=fun i hi=>by
  have e1:r.args[i]?=some r.args[i]:=qb hi;have e:i<o.1.ye.length:=by omega
  have e2:o.1.ye[i]?=some o.1.ye[i]:=qb e;have b1:decide ((i:Int)<(r.args.length:Int))=true:=qj (by omega);simp only [kaz,b1,qe,kag,e1,e2,qa,kaj i];by_cases h0:0<=r.args[i]
  ·by_cases h1:r.args[i]<(l.symbols.length:Int)
   ·obtain ⟨x,hx,_⟩:=kt5 _ h0 h1;rw [qf (show ¬ r.args[i]<0 by omega),qf (show ¬ (l.symbols.length:Int)<=r.args[i] by omega)];simp only [qd,qa,hx];cases x.type != o.1.ye[i] with
    | true=>exact .inr ⟨3,by decide,rfl⟩
    | false=>exact .inl ⟨rfl,fun y hy=>by cases hy;exact ⟨h0,h1⟩⟩
   ·rw [qf (show ¬ r.args[i]<0 by omega),qj (show (l.symbols.length:Int)<=r.args[i] by omega)];exact .inr ⟨1,by decide,rfl⟩
  ·rw [qj (show r.args[i]<0 by omega)];exact .inr ⟨1,by decide,rfl⟩
 obtain ⟨i,hi,rfl⟩:=qai.1 d;have hv:∀ c:Int,c≠0->(.inr c:Unit ⊕ Int)≠v:=fun c hc m=>by subst m;cases h;exact hc rfl
 have b:=kvk (step:=kaz l r o) r.args.length (fun i=>(i:Int)) v (fun i hi=>by
  rcases hst i hi with ⟨a1,_⟩ | ⟨c,hc,a1⟩;exact .inl a1
  ·exact .inr ⟨_,a1,hv c hc⟩) fuel 0 k i (qaj _) hi
 rcases hst i hi with ⟨_,a2⟩ | ⟨c,_,a1⟩;exact a2 _ (qb hi)
 ·rw [a1] at b;cases b
theorem len0 {α:Type} {xs:List α} (h:((xs.length:Int) == 0)=true):xs=[]:=qa5 (by have:=eq_of_beq h;omega)
theorem kafi {l:La} {r:Ru} (hr:k2a r) (h:kdc l r=some 0):GoodR l r:=by
 unfold kdc at h;obtain ⟨b1,h1,h⟩:=kj2 h;rcases kke h with ⟨_,h⟩ | ⟨k,h⟩;cases h;subst k;have hs:0<=r.symbol/\r.symbol<(l.symbols.length:Int):=by
  rcases kke h1 with ⟨_,h1⟩ | ⟨q,h1⟩;cases h1
  ·have q:=qbl q;have q2:=qbl (qw h1);omega
 obtain ⟨b2,f,h⟩:=kj2 h;rcases kke h with ⟨_,h⟩ | ⟨m,h⟩;cases h;subst m;rcases kke f with ⟨_,f⟩ | ⟨q1,f⟩;cases f;rcases kke f with ⟨_,f⟩ | ⟨q2,f⟩;cases f;have q1:=qbl q1;have q2:=qbl q2;obtain ⟨z,g,n⟩:=kj2 f;have o:z=true:=by
  cases z with
  | true=>rfl
  | false=>cases n
 subst o;obtain ⟨x,p,h⟩:=kj2 h;unfold keg at g;rw [kwd,qa] at g;have hk:r.kind=1\/r.kind=2\/r.kind=3:=by omega
 have okz:eqV r.const kf6=true->okV r.const:=fun h=>by rw [k7e h];exact k0m
 rcases hk with hk | hk | hk
 ·have c1:(r.kind == 1)=true:=by rw [hk];rfl
  rw [c1,qe] at g;obtain ⟨b,d,i⟩:=kj2 g;cases i;rcases kke d with ⟨e1,d⟩ | ⟨_,d⟩
  ·rcases kke d with ⟨e2,d⟩ | ⟨_,d⟩;have ha:=len0 (qw d);exact ⟨hs.1,hs.2, .inl hk,fun _=>ha,by rw [ha];intro a h;(cases h),by rw [ha];exact qaj _,okz e1⟩
   ·cases d
  ·cases d
 ·have c1:(r.kind == 1)=false:=by rw [hk];rfl
  have c2:(r.kind == 2)=true:=by rw [hk];rfl
  rw [c1,qd,c2,qe] at g;rw [c1,qd,c2,qe] at h;obtain ⟨b,d,i⟩:=kj2 g;cases i;obtain ⟨c,g1,g2⟩:=kj2 h;have hc:c=0:=by
   rcases kke g2 with ⟨e,g2⟩ | ⟨e,g2⟩;cases g2;rfl
   ·exact qa3.1 e
  obtain ⟨c',f1,f2,f3⟩:=k93 hr.2;have j:c'=0:=by rw [f2] at g1;cases g1;exact hc
  rcases kke d with ⟨e1,d⟩ | ⟨_,d⟩
  ·rcases kke d with ⟨e2,d⟩ | ⟨_,d⟩;have ha:=len0 (qw d);exact ⟨hs.1,hs.2, .inr (.inl hk),fun _=>ha,by rw [ha];intro a h;(cases h),by rw [ha];exact qaj _,f3 j⟩
   ·cases d
  ·cases d
 ·have c1:(r.kind == 1)=false:=by rw [hk];rfl
  have c2:(r.kind == 2)=false:=by rw [hk];rfl
  rw [c1,qd,c2,qd] at g;rw [c1,qd,c2,qd] at h;obtain ⟨b,d,i⟩:=kj2 g;cases i;obtain ⟨c,g1,g2⟩:=kj2 h;cases g2;obtain ⟨a1,a2⟩:=kac0 hr.1 g1;rcases kke d with ⟨e1,d⟩ | ⟨_,d⟩;exact ⟨hs.1,hs.2, .inr (.inr hk),fun h=>absurd hk h,a2,a1,okz (qw d)⟩
  ·cases d
theorem GoodR.fineR {l:La} {r:Ru} (h:GoodR l r) (hr:k2a r):fineR r:=⟨by have:=h.few;omega,h.fine,hr.2.2⟩
structure ks5 (l:La):Prop where
 name:l.name.size<=9223372036854775807
 inputs:l.inputs.length<=9223372036854775807
 symbols:l.symbols.length<=9223372036854775807
 rules:l.rules.length<=9223372036854775807
 names:∀ x∈l.symbols,x.name.size<=9223372036854775807
 wide:∀ r∈l.rules,k2a r
structure kfj (l:La):Prop where
 inputs:l.inputs.length<=4
 sym1:1<=l.symbols.length
 sym16:l.symbols.length<=16
 rules:l.rules.length<=96
 good:∀ r∈l.rules,GoodR l r
theorem kake (l:La) (h:ks5 l):∃ r,kab (kbu l) fuel 0=some r/\kab (kar l) fuel 0=some r/\(r = .inl ()->∀ x∈l.rules,GoodR l x)/\(∀ e,r = .inr e->e≠0):=by
 have hl:=h.rules;have v:∀ n,n<=l.rules.length->(∃ i,i<n/\∃ e,e≠0/\(∀ j,j<i->kbu l (j:Int)=some (.inl ((j+1:Nat):Int))/\kar l (j:Int)=some (.inl ((j+1:Nat):Int)))/\kbu l (i:Int)=some (.inr (.inr e))/\kar l (i:Int)=some (.inr (.inr e))) \/
   ((∀ j,j<n->kbu l (j:Int)=some (.inl ((j+1:Nat):Int))/\kar l (j:Int)=some (.inl ((j+1:Nat):Int)))/\∀ j (a:j<l.rules.length),j<n->GoodR l l.rules[j]):=by
  intro n
  induction n with
  | zero=>intro _;exact .inr ⟨fun j a=>by omega,fun j _ a=>by omega⟩
  | succ n ih=>
   intro hn;rcases ih (by omega) with ⟨i,hi,e,o,hx⟩ | ⟨g1,g2⟩;exact .inl ⟨i,by omega,e,o,hx⟩
   ·have hi:n<l.rules.length:=(by omega);have e1:l.rules[n]?=some l.rules[n]:=qb hi;have b1:decide ((n:Int)<(l.rules.length:Int))=true:=qj (by omega);have p:=h.wide _ (q9 hi);obtain ⟨c,c1,c2⟩:=kam1 l l.rules[n] p;by_cases hc:c=0
    ·subst hc;have u:=kafi p c2;have m:∀ j (a:j<l.rules.length),j<=n->fineR l.rules[j]:=fun j a g=>by
      have q:=h.wide _ (q9 a);by_cases d:j=n;subst d;exact u.fineR p
      ·exact (g2 j a (by omega)).fineR q
     obtain ⟨b,d1,d2⟩:=kahu l n hi hl m;cases b with
     | true=>
      refine .inl ⟨n,by omega,6,by decide,g1,?_,?_⟩;simp only [kbu,b1,qe,kag,e1,qa,c1,k6a l.rules n,d1];rfl
      ·simp only [kar,b1,qe,kag,e1,qa,c2,d2];rfl
     | false=>
      refine .inr ⟨fun j a=>?_,fun j a g=>?_⟩
      ·by_cases g:j=n
       ·subst g;constructor;simp only [kbu,b1,qe,kag,e1,qa,c1,k6a l.rules j,d1,kaj j];rfl
        ·simp only [kar,b1,qe,kag,e1,qa,c2,d2,kaj j];rfl
       ·exact g1 j (by omega)
      ·by_cases d:j=n;subst d;exact u
       ·exact g2 j a (by omega)
    ·refine .inl ⟨n,by omega,c,hc,g1,?_,?_⟩;simp only [kbu,b1,qe,kag,e1,qa,c1,show (c != 0)=true by simpa using hc]
     ·simp only [kar,b1,qe,kag,e1,qa,c2,show (c != 0)=true by simpa using hc]
 have f:kbu l (l.rules.length:Int)=some (.inr (.inl ()))/\kar l (l.rules.length:Int)=some (.inr (.inl ())):=by have b1:decide ((l.rules.length:Int)<(l.rules.length:Int))=false:=qf (by omega);simp only [kbu,kar,b1,qd,and_self]
 rcases v l.rules.length (qx _) with ⟨i,hi,e,o,a,a1,a2⟩ | ⟨g1,g2⟩;obtain ⟨r,r',h1,s,rfl,t⟩:=kkl (step:=kbu l) (step':=kar l) i (by omega) (fun i=>(i:Int)) (fun i=>(i:Int)) (fun r r'=>r=r'/\r = .inr e) (fun j k => .inl (a j k)) ⟨_,_,a1,a2,rfl,rfl⟩;subst t;exact ⟨_,by simpa using h1,by simpa using s,(fun h=>by cases h),fun e' h=>by cases h;exact o⟩
 ·obtain ⟨r,r',h1,s,rfl,t⟩:=kkl (step:=kbu l) (step':=kar l) l.rules.length (by omega) (fun i=>(i:Int)) (fun i=>(i:Int)) (fun r r'=>r=r'/\r = .inl ()) (fun j k => .inl (g1 j k)) ⟨_,_,f.1,f.2,rfl,rfl⟩;subst t;refine ⟨_,by simpa using h1,by simpa using s,fun _ x hx=>?_,fun e' h=>by cases h⟩;obtain ⟨i,hi,rfl⟩:=qai.1 hx;exact g2 i hi hi
theorem k6j (l:La) (h:ks5 l):∃ c,kbw l=some c/\kan l=some c/\(c=0->kfj l):=by
 obtain ⟨b,n1,n2⟩:=k1s l.name h.name;obtain ⟨r1,i1,i2,i3⟩:=k8w l h.inputs;obtain ⟨r2,s1,s2,s3⟩:=k7f l h.symbols h.names;obtain ⟨r3,t1,t2,t3,t4⟩:=kake l h;have a:∀ c:Int,c≠0->(c=0->kfj l):=fun c hc h=>absurd h hc;unfold kbw kan;rw [n1,n2];simp only [qa];cases b with
 | false=>exact ⟨5,rfl,rfl,a 5 (by decide)⟩
 | true=>
  simp only [qbo,qd];cases f:decide (4<(l.inputs.length:Int)) with
  | true=>exact ⟨2,rfl,rfl,a 2 (by decide)⟩
  | false=>
   have f:=qbl f;simp only [qd,i1,i2,qa];cases r1 with
   | inr e=>exact ⟨e,rfl,rfl,a e (i3 e rfl)⟩
   | inl u=>
    simp only [qaf];have hc:(bif decide ((l.symbols.length:Int)<1) then some true else some (decide (16<(l.symbols.length:Int))):Option Bool)=some (decide ((l.symbols.length:Int)<1) || decide (16<(l.symbols.length:Int))):=(by cases decide ((l.symbols.length:Int)<1) <;> rfl);rw [hc,qa,qa];cases d:decide ((l.symbols.length:Int)<1) || decide (16<(l.symbols.length:Int)) with
    | true=>exact ⟨2,rfl,rfl,a 2 (by decide)⟩
    | false=>
     rw [Bool.or_eq_false_iff] at d;have hs1:=qbl d.1;have i:=qbl d.2;simp only [qd,s1,s2,qa];cases r2 with
     | inr e=>exact ⟨e,rfl,rfl,a e (s3 e rfl)⟩
     | inl u=>
      simp only [qaf];cases g:decide (96<(l.rules.length:Int)) with
      | true=>exact ⟨2,rfl,rfl,a 2 (by decide)⟩
      | false=>
       have g:=qbl g;simp only [qd,t1,t2,qa];cases r3 with
       | inr e=>exact ⟨e,rfl,rfl,a e (t4 e rfl)⟩
       | inl u=>exact ⟨0,rfl,rfl,fun _=>⟨by omega,by omega,by omega,by omega,t3 rfl⟩⟩
open Go Go.RowKit TV
def ke8 (m s:Nat):Int:=if s<=m then (m:Int) - (s:Int) else -1
theorem kwx:∀ (n:Nat) (t:Tm) (m:Nat),m<=10000->m<n->kde n t (m:Int)=some (ke8 m t.size)/\khk n t (m:Int)=some (ke8 m t.size)
 | 0,t,m,_,h=>by omega
 | n+1,t,m,hm,hn=>by
  show kf2 (kde n) t (m:Int)=_/\kkt (khk n) t (m:Int)=_;obtain ⟨r0,l⟩:=t;have g:(Tm.mk r0 l).size=Tm.sizeL l+1:=rfl;have a:w64 ((m:Int) - 1)=ke8 m (1+Tm.sizeL (l.take 0)):=by rw [kc3];simp only [List.take_zero,Tm.sizeL,ke8];split <;> omega
  obtain ⟨r,r',h1,p,q,o⟩:=kkl (step:=kg7 (Tm.mk r0 l) (khk n)) (step':=kc7 (Tm.mk r0 l) (kde n)) (min l.length m) (by omega)
   (fun i=>(ke8 m (1+Tm.sizeL (l.take i)),(i:Int))) (fun i=>(ke8 m (1+Tm.sizeL (l.take i)),(i:Int))) (fun r r'=>Sum.elim id id r=ke8 m (Tm.sizeL l+1)/\r'=ke8 m (Tm.sizeL l+1)) (fun i hi=>by
   have c:i<l.length:=(by omega);have e1:(Tm.mk r0 l).args[i]?=some l[i]:=qb c;have b1:decide ((i:Int)<((Tm.mk r0 l).args.length:Int))=true:=qj (by show (i:Int)<(l.length:Int);omega);have e:=kqk l i (by omega);simp only [kg7,kc7,b1,qe,qa,kag,e1];by_cases hp:1+Tm.sizeL (l.take i)<=m
   ·have hv:ke8 m (1+Tm.sizeL (l.take i))=((m - (1+Tm.sizeL (l.take i)):Nat):Int):=(by unfold ke8;rw [qo hp];omega);obtain ⟨q1,q2⟩:=kwx n l[i] (m - (1+Tm.sizeL (l.take i))) (by omega) (by omega);have d:ke8 (m - (1+Tm.sizeL (l.take i))) l[i].size=ke8 m (1+Tm.sizeL (l.take (i+1))):=(by rw [k13 c];unfold ke8;split <;> split <;> omega);rw [hv,qj (show (0:Int)<=((m - (1+Tm.sizeL (l.take i)):Nat):Int) by omega),qf (show ¬ ((m - (1+Tm.sizeL (l.take i)):Nat):Int)<0 by omega)];simp only [qe,qd,q1,q2,qa,d,kaj i]
    first | exact .inl ⟨rfl,rfl⟩ | exact .inl ⟨trivial,trivial⟩
   ·have hv:ke8 m (1+Tm.sizeL (l.take i)) = -1:=(by unfold ke8;rw [qi hp]);have f:ke8 m (Tm.sizeL l+1) = -1:=(by unfold ke8;rw [qi (by omega)]);rw [hv,f];exact .inr ⟨_,_,rfl,rfl,rfl,rfl⟩) (by
   have e:=kqk l (min l.length m) (by omega);by_cases s:l.length<=m;have b:min l.length m=l.length:=(by omega);have b1:decide ((l.length:Int)<((Tm.mk r0 l).args.length:Int))=false:=qf (by show ¬ (l.length:Int)<(l.length:Int);omega);have f:ke8 m (1+Tm.sizeL l)=ke8 m (Tm.sizeL l+1):=(by rw [Nat.add_comm]);simp only [b,kg7,kc7,b1,qd,qa,List.take_length,f];exact ⟨_,_,rfl,rfl,rfl,rfl⟩
   ·have b:min l.length m=m:=(by omega);rw [b] at e;have b1:decide ((m:Int)<((Tm.mk r0 l).args.length:Int))=true:=qj (by show (m:Int)<(l.length:Int);omega);have c:m<l.length:=(by omega);have e1:(Tm.mk r0 l).args[m]?=some l[m]:=qb c;have hv:ke8 m (1+Tm.sizeL (l.take m)) = -1:=(by unfold ke8;rw [qi (by omega)]);have f:ke8 m (Tm.sizeL l+1) = -1:=(by unfold ke8;rw [qi (by omega)]);simp only [b,kg7,kc7,b1,qe,qa,kag,e1,hv,f];exact ⟨_,_,rfl,rfl,rfl,rfl⟩)
  have j:kab (kg7 (Tm.mk r0 l) (khk n)) fuel (w64 ((m:Int) - 1),0)=some r:=by rw [a];simpa using h1
  have k:kab (kc7 (Tm.mk r0 l) (kde n)) fuel (w64 ((m:Int) - 1),0)=some r':=by rw [a];simpa using p
  unfold kf2 kkt;rw [j,k,g,<- o];refine ⟨rfl,?_⟩;rw [o,<- q];cases r <;> rfl
theorem k80 {l:List Tm} {i:Nat} (h:i<l.length):Tm.depthL (l.take (i+1))=max (Tm.depthL (l.take i)) l[i].depth:=by rw [List.take_succ_eq_append_getElem h,Tm.depthL_snoc]
theorem depth_le_size (t:Tm):t.depth<=t.size:=by
 refine Tm.ind (P:=fun t=>t.depth<=t.size) (fun r l ih=>?_) t;show Tm.depthL l+1<=Tm.sizeL l+1;have:∀ l:List Tm,(∀ t∈l,t.depth<=t.size)->Tm.depthL l<=Tm.sizeL l:=fun l=>by
  induction l with
  | nil=>exact fun _=>qx _
  | cons x l ih=>
   intro h;have h1:=h x (qu ..);have a:=ih fun t ht=>h t (qh _ ht);show max x.depth (Tm.depthL l)<=x.size+Tm.sizeL l;omega
 have:=this l ih;omega
theorem k75:∀ (n:Nat) (t:Tm),t.size<=1000->t.size<=n->ka4 n t=some (t.depth:Int)
 | 0,t,_,h=>by have:=Tm.size_pos t;omega
 | n+1,t,ht,hn=>by
  show kck (ka4 n) t=_;obtain ⟨r0,l⟩:=t;have e:(Tm.mk r0 l).size=Tm.sizeL l+1:=rfl;have d:=kn0 l;have hl:=kbs (kca (Tm.mk r0 l) (ka4 n)) l.length (fun i=>((Tm.depthL (l.take i):Int),(i:Int))) (Tm.depthL l:Int) (fun i hi=>by
   have e1:(Tm.mk r0 l).args[i]?=some l[i]:=qb hi;have b1:decide ((i:Int)<((Tm.mk r0 l).args.length:Int))=true:=qj (by show (i:Int)<(l.length:Int);omega);have hs:=Tm.sizeL_mem (q9 hi);have q:=k75 n l[i] (by omega) (by omega);have a:imax (Tm.depthL (l.take i):Int) (l[i].depth:Int)=(Tm.depthL (l.take (i+1)):Int):=(by rw [k80 hi];unfold imax;split <;> omega);simp only [kca,b1,qe,kag,e1,qa,q,a,kaj i]) (by
   have b1:decide ((l.length:Int)<((Tm.mk r0 l).args.length:Int))=false:=qf (by show ¬ (l.length:Int)<(l.length:Int);omega);simp only [kca,b1,qd,List.take_length])
  have b:kab (kca (Tm.mk r0 l) (ka4 n)) fuel (0,0)=some (Tm.depthL l:Int):=by simpa [Tm.depthL] using hl
  unfold kck;rw [b,qa];have hd:=depth_le_size (Tm.mk r0 l);have c:(Tm.mk r0 l).depth=Tm.depthL l+1:=rfl;rw [kaj _,c]
theorem kzm:∀ (n:Nat) (t:Tm) (k:Nat),k<=1000->t.size<=1000->t.size<=n->kgh n t (k:Int)=some (decide (t.depth<=k))
 | 0,t,k,_,_,h=>by have:=Tm.size_pos t;omega
 | n+1,t,k,hk,ht,hn=>by
  show kj4 (kgh n) t (k:Int)=_;obtain ⟨r0,l⟩:=t;have e:(Tm.mk r0 l).size=Tm.sizeL l+1:=rfl;have f:(Tm.mk r0 l).depth=Tm.depthL l+1:=rfl;have d:=kn0 l;unfold kj4;by_cases h0:k=0;subst h0;rw [qf (show ¬ (Tm.mk r0 l).depth<=0 by omega)];rfl
  ·have c0:((k:Int) == 0)=false:=(by rw [qar];omega);rw [c0];have hl:=kkf (khz (Tm.mk r0 l) (k:Int) (kgh n)) l.length (fun i=>(i:Int)) (fun i=>if (l.drop i).all (fun t=>decide (t.depth<=k - 1))=true then .inl () else .inr false) (fun i hi=>by
    have e1:(Tm.mk r0 l).args[i]?=some l[i]:=qb hi;have b1:decide ((i:Int)<((Tm.mk r0 l).args.length:Int))=true:=qj (by show (i:Int)<(l.length:Int);omega);have hs:=Tm.sizeL_mem (q9 hi);have a:w64 ((k:Int) - 1)=((k - 1:Nat):Int):=(by rw [kc3];omega);have q:=kzm n l[i] (k - 1) (by omega) (by omega) (by omega);have hd:l.drop i=l[i]::l.drop (i+1):=qan hi;simp only [khz,b1,qe,kag,e1,qa,a,q,hd,List.all_cons,kaj i];cases decide (l[i].depth<=k - 1) with
    | true=>exact .inl ⟨rfl,by simp⟩
    | false=>exact .inr rfl) (by
    have b1:decide ((l.length:Int)<((Tm.mk r0 l).args.length:Int))=false:=qf (by show ¬ (l.length:Int)<(l.length:Int);omega);simp only [khz,b1,qd,List.drop_length,List.all_nil,if_true])
   have c:kab (khz (Tm.mk r0 l) (k:Int) (kgh n)) fuel 0=some (if l.all (fun t=>decide (t.depth<=k - 1))=true then .inl () else .inr false):=(by simpa using hl);have b:l.all (fun t=>decide (t.depth<=k - 1))=decide ((Tm.mk r0 l).depth<=k):=by
    have gen:∀ l:List Tm,l.all (fun t=>decide (t.depth<=k - 1))=decide (Tm.depthL l<=k - 1):=fun l=>by
     induction l with
     | nil=>simp [Tm.depthL]
     | cons x l ih=>
      rw [List.all_cons,ih,<- Bool.decide_and];exact decide_eq_decide.2 (by show _↔max x.depth (Tm.depthL l)<=k - 1;omega)
    rw [gen];exact decide_eq_decide.2 (by omega)
   simp only [qd];rw [c,b,qa];cases decide ((Tm.mk r0 l).depth<=k) <;> rfl
theorem kwp:∀ (n:Nat) (l:La) (s:Int) (t:Tm),t.size<=1000->t.size<=n->(∀ x∈l.rules,x.kind≠3->x.args.length=0)->∃ c,kgl n l s t=some c/\kb5 n l s t=some c
 | 0,l,s,t,_,h,_=>by have:=Tm.size_pos t;omega
 | n+1,l,s,t,ht,hn,hr=>by
  show ∃ c,kjz (kgl n) l s t=some c/\kdm (kb5 n) l s t=some c;obtain ⟨r0,ts⟩:=t;have m:(Tm.mk r0 ts).size=Tm.sizeL ts+1:=rfl;have k:=kn0 ts;unfold kjz kdm;have b:(Tm.mk r0 ts).rule=r0:=rfl;have a:(Tm.mk r0 ts).args=ts:=rfl;simp only [b,a];by_cases h0:r0<0;rw [qj h0];exact ⟨1,rfl,rfl⟩;by_cases h1:(l.rules.length:Int)<=r0;rw [qf h0,qj h1];exact ⟨1,rfl,rfl⟩;rw [qf h0,qf h1];obtain ⟨x,hx,d⟩:=kt5 (i:=r0) l.rules (by omega) (by omega);simp only [qd,qa,hx];cases x.symbol != s with
  | true=>exact ⟨3,rfl,rfl⟩
  | false=>
   have e:kd2 x=some (x.args.length:Int):=by
    unfold kd2;by_cases hk:x.kind=3;rw [show (x.kind != 3)=false by rw [qa3];exact hk];rfl
    ·rw [show (x.kind != 3)=true by rw [qba];exact hk,hr x d hk];rfl
   simp only [qd,e,qa];by_cases hl:(ts.length:Int)=(x.args.length:Int)
   ·rw [show ((ts.length:Int) != (x.args.length:Int))=false by rw [qa3];exact hl];obtain ⟨r,h1,o⟩:=kp8 (kht l (Tm.mk r0 ts) (kgl n) x) (kcl l (Tm.mk r0 ts) (kb5 n) x) ts.length (fun i=>(i:Int)) (fun i hi=>by
     have e1:ts[i]?=some ts[i]:=qb hi;have f:i<x.args.length:=(by omega);have e2:x.args[i]?=some x.args[i]:=qb f;have b1:decide ((i:Int)<(ts.length:Int))=true:=qj (by omega);have hs:=Tm.sizeL_mem (q9 hi);obtain ⟨c,c1,c2⟩:=kwp n l x.args[i] ts[i] (by omega) (by omega) hr;simp only [kht,kcl,a,b1,qe,kag,e1,e2,qa,c1,c2,kaj i];cases c != 0 with
     | true=>exact .inr ⟨_,rfl,rfl⟩
     | false=>exact .inl ⟨rfl,rfl⟩) (.inl ()) (by
     have b1:decide ((ts.length:Int)<(ts.length:Int))=false:=qf (by omega);simp only [kht,a,b1,qd]) (by
     have b1:decide ((ts.length:Int)<(ts.length:Int))=false:=qf (by omega);simp only [kcl,a,b1,qd])
    have g:kab (kht l (Tm.mk r0 ts) (kgl n) x) fuel 0=some r:=(by simpa using h1);have j:kab (kcl l (Tm.mk r0 ts) (kb5 n) x) fuel 0=some r:=(by simpa using o);simp only [qd,g,j,qa];cases r <;> exact ⟨_,rfl,rfl⟩
   ·rw [show ((ts.length:Int) != (x.args.length:Int))=true by rw [qba];exact hl];exact ⟨4,rfl,rfl⟩
theorem kww (t:Tm) (m:Nat) (hm:m<=10000):kb3 t (m:Int)=some (decide (t.size<=m)):=by unfold kb3;rw [(kwx fuel t m hm (ka7 (by omega))).1,qa];refine congrArg some (decide_eq_decide.2 ?_);unfold ke8;split <;> omega
theorem k2q (l:La) (s:Int) (t:Tm) (hl:ks5 l) (ht:t.size<=1000):∃ c,ki9 l s t=some c/\kdz l s t=some c/\(c=0->kfj l/\kgl fuel l s t=some 0):=by
 obtain ⟨c,c1,c2,c3⟩:=k6j l hl;unfold ki9 kdz;rw [c1,c2];simp only [qa];by_cases hc:c=0
 ·subst hc;have e:((0:Int) != 0)=false:=rfl;rw [e];simp only [qd];by_cases s0:s<0;rw [qj s0];exact ⟨1,rfl,rfl,fun h=>absurd h (by decide)⟩;by_cases s1:(l.symbols.length:Int)<=s;rw [qf s0,qj s1];exact ⟨1,rfl,rfl,fun h=>absurd h (by decide)⟩;have f:khk fuel t 4096=some (ke8 4096 t.size):=(kwx fuel t 4096 (by omega) (ka7 (by omega))).2;have g:kb3 t 4096=some (decide (t.size<=4096)):=kww t 4096 (by omega);have hs:kgh fuel t 32=some (decide (t.depth<=32)):=kzm fuel t 32 (by omega) (by omega) (qbd (ka7 (by omega)));have hd:=k75 fuel t (by omega) (qbd (ka7 (by omega)));have a:decide (ke8 4096 t.size<0)=false:=qf (by unfold ke8;split <;> omega);rw [qf s0,qf s1];simp only [qd,qa,f,g,hs,hd,a,qj (show t.size<=4096 by omega),qbo];have b:(!(decide (t.depth<=32)))=decide ((32:Int)<(t.depth:Int)):=by rw [<- decide_not];exact decide_eq_decide.2 (by omega)
  rw [b];cases decide ((32:Int)<(t.depth:Int)) with
  | true=>exact ⟨2,rfl,rfl,fun h=>absurd h (by decide)⟩
  | false=>
   obtain ⟨d,d1,d2⟩:=kwp fuel l s t (by omega) (qbd (ka7 (by omega))) (fun x hx hk=>by rw [((c3 rfl).good x hx).noargs hk];rfl);simp only [qd,d1,d2,qa];exact ⟨d,rfl,rfl,fun h=>⟨c3 rfl,by rw [h]⟩⟩
 ·rw [show (c != 0)=true by rw [qba];exact hc];exact ⟨c,rfl,rfl,fun h=>absurd h hc⟩
def mk (s:List Bool) (i:Nat):Bool:=s.getD i false
def hd:List UInt8->Int
 | []=>0
 | c::_=>(c.toNat:Int)
theorem kxt (g:Tm->Int) (r:Tm->Option (List Int)):∀ (xs:List Tm) (acc:List Int),acc.length+Tm.sizeL xs<=1000000->(∀ x∈xs,r x=some (x.pre g))->xs.foldlM (fun s x=>Option.bind (r x) fun v=>app 8 s v) acc=some (acc++Tm.preL g xs)
 | [],acc,_,_=>by simp [Tm.preL]
 | x::xs,acc,hl,h=>by have hs:Tm.sizeL (x::xs)=x.size+Tm.sizeL xs:=rfl;rw [qbw,h x (qu ..),qa,kfe (by rw [Tm.pre_length];omega)];have:=kxt g r xs (acc++x.pre g) (by rw [qah,Tm.pre_length];omega) fun y hy=>h y (qh _ hy);show List.foldlM _ (acc++x.pre g) xs=_;rw [this,qbh];rfl
theorem kw2:∀ (n:Nat) (t:Tm),t.size<=n->t.size<=1000->kby n t=some t.rules
 | 0,t,h,_=>by have:=Tm.size_pos t;omega
 | n+1,t,h,hl=>by
  show kft (kby n) t=_;have a:=args_len t;have b:=kl0 t;unfold kft;rw [kr3 (step:=kfh t (kby n)) t.args (fun s x=>Option.bind (kby n x) fun v=>app 8 s v) (fun i s=>(i,s)) (by omega) (fun i x s hx=>by
   have hi:=kho hx;simp only [kfh,kfq hi,qe,kag,hx,qa,kee hi (show t.args.length<=9223372036854775807 by omega)];cases kby n x with
   | none=>rfl
   | some v=>simp only [qa];cases app 8 s v <;> rfl) (fun s=>by simp only [kfh,kfm,qd])]
  rw [kxt Tm.rule _ t.args _ (by rw [qaz];omega) fun x hx=>kw2 n x (by have:=kdd hx;omega) (by have:=kdd hx;omega)];show some _=some (t.pre Tm.rule);rw [k2n];rfl
theorem ktq:∀ (n:Nat) (t:Tm),t.size<=n->t.size<=1000->kbi n t=some t.arities
 | 0,t,h,_=>by have:=Tm.size_pos t;omega
 | n+1,t,h,hl=>by
  show keu (kbi n) t=_;have a:=args_len t;have b:=kl0 t;unfold keu;rw [kr3 (step:=kem t (kbi n)) t.args (fun s x=>Option.bind (kbi n x) fun v=>app 8 s v) (fun i s=>(i,s)) (by omega) (fun i x s hx=>by
   have hi:=kho hx;simp only [kem,kfq hi,qe,kag,hx,qa,kee hi (show t.args.length<=9223372036854775807 by omega)];cases kbi n x with
   | none=>rfl
   | some v=>simp only [qa];cases app 8 s v <;> rfl) (fun s=>by simp only [kem,kfm,qd])]
  rw [kxt Tm.nargs _ t.args _ (by rw [qaz];omega) fun x hx=>ktq n x (by have:=kdd hx;omega) (by have:=kdd hx;omega)];show some _=some (t.pre Tm.nargs);rw [k2n];rfl
theorem kzt:∀ (n:Nat) (t:Tm),t.size<=n->t.size<=1000->kbq n t=some (t.size:Int)
 | 0,t,h,_=>by have:=Tm.size_pos t;omega
 | n+1,t,h,hl=>by show kf0 (kbq n) t=_;have a:=args_len t;have b:=kl0 t;unfold kf0;rw [kr3 (step:=kfs t (kbq n)) t.args (fun s x=>Option.bind (kbq n x) fun v=>some (w64 (s+v))) (fun i s=>(s,i)) (by omega) (fun i x s hx=>by have hi:=kho hx;simp only [kfs,kfq hi,qe,kag,hx,qa,kee hi (show t.args.length<=9223372036854775807 by omega)];cases kbq n x <;> rfl) (fun s=>by simp only [kfs,kfm,qd])];have:=k4p (kbq n) t.args 1 (by omega) fun x hx=>kzt n x (by have:=kdd hx;omega) (by have:=kdd hx;omega);rw [show (1:Int)=((1:Nat):Int) from rfl,this,qa];congr 2;omega
theorem k9h (x y:List Int) (hl:x.length=y.length) (hx:x.length<=1000000):kcz x y=some (lexC x y):=by
 unfold kcz;have h:=kkf (kcc x y) x.length (fun i=>(i:Int)) (fun i=>lexO (x.drop i) (y.drop i)) (fun i hi=>by
  have hy:i<y.length:=by omega
  simp only [kcc,kfq hi,kfq hy,qe,kag,qb hi,qb hy,qa,kee hi (show x.length<=9223372036854775807 by omega),qan hi,qan hy,lexO];by_cases h1:x[i]<y[i];rw [qj h1,qo h1];exact .inr rfl
  ·rw [qf h1,qi h1];by_cases a:y[i]<x[i];rw [qj a,qo a];exact .inr rfl
   ·rw [qf a,qi a];exact .inl ⟨rfl,rfl⟩) (by
  simp only [kcc,kfm,qd,List.drop_length,lexO,qa])
 have b:kab (kcc x y) fuel 0=some (lexO x y):=by simpa using h
 rw [b,qa,<- kaau];cases lexO x y with
 | inr c=>rfl
 | inl u=>
  simp only [qaf];unfold ke4;have e1:decide ((x.length:Int)<(y.length:Int))=false:=qf (by omega);have e2:decide ((y.length:Int)<(x.length:Int))=false:=qf (by omega);simp [e1,e2,hl]
theorem kakn (a b:Tm) (ha:a.size<=1000) (d:b.size<=1000):kfn a b=some (cmpT a b):=by
 unfold kfn cmpT;rw [kzt fuel a (qbd (ka7 (by omega))) ha,kzt fuel b (qbd (ka7 (by omega))) d];simp only [qa,ke4];by_cases h1:a.size<b.size;rw [qo h1,qj (show (a.size:Int)<(b.size:Int) by omega)];rfl;rw [qi h1,qf (show ¬ (a.size:Int)<(b.size:Int) by omega)];by_cases e:b.size<a.size;rw [qo e,qj (show (b.size:Int)<(a.size:Int) by omega)];rfl;rw [qi e,qf (show ¬ (b.size:Int)<(a.size:Int) by omega)];simp only [qd,qa,show ((0:Int) != 0)=false from rfl];rw [kw2 fuel a (qbd (ka7 (by omega))) ha,kw2 fuel b (qbd (ka7 (by omega))) d];simp only [qa];rw [k9h a.rules b.rules (by rw [Tm.rules_length,Tm.rules_length];omega) (by rw [Tm.rules_length];omega),qa];by_cases c:lexC a.rules b.rules=0;rw [qi (by simpa using c),c,show ((0:Int) != 0)=false from rfl,qd];rw [ktq fuel a (qbd (ka7 (by omega))) ha,ktq fuel b (qbd (ka7 (by omega))) d];simp only [qa];rw [k9h a.arities b.arities (by rw [Tm.arities_length,Tm.arities_length];omega) (by rw [Tm.arities_length];omega)];rfl
 ·rw [qo c,show (lexC a.rules b.rules != 0)=true by rw [qba];exact c];rfl
theorem k8q {α β:Type} {x:Option α} {k:α->Option β} {P:β->Prop} (h:Ev x fun _=>True) (a:∀ v,x=some v->Ev (k v) P):Ev (Option.bind x k) P:=by obtain ⟨v,e,_⟩:=h;rw [e];exact a v e
theorem kalb {β:Type} {step:Int->Option (Int ⊕ (Unit ⊕ β))} (P:Nat->Prop) (B:β->Prop) (n:Nat) (hn:n<=9223372036854775807) (hs:∀ i:Nat,i<n->(∀ k,k<i->P k)->Ev (step (i:Int)) (Sum.elim (fun s=>s=w64 ((i:Int)+1)/\P i) (Sum.elim (fun _=>False) B))) (d:step (n:Int)=some (.inr (.inl ()))):Ev (kab step fuel 0) (Sum.elim (fun _=>∀ i,i<n->P i) B):=
 kx1 n (fun i s=>s=(i:Int)/\∀ k,k<i->P k) (by omega) ⟨rfl,fun k h=>by omega⟩ (fun i s hi a=>by
  obtain ⟨rfl,a⟩:=a;refine Ev.mono (hs i hi a) fun r h=>?_;cases r with
  | inl s=>exact ⟨(show s=w64 ((i:Int)+1) from h.1).trans (kaj _),fun k hk=>by
    by_cases c:k=i;subst c;exact h.2
    ·exact a k (by omega)⟩
  | inr b=>
   cases b with
   | inl u=>exact h.elim
   | inr b=>exact h) fun s a=>by
  obtain ⟨rfl,a⟩:=a;exact ⟨_,d, .inl (),rfl,a⟩
namespace Dk
mutual
def nodes:Dk->Nat
 | .mk _ _ l=>nodesL l+1
def nodesL:List Dk->Nat
 | []=>0
 | x::l=>x.nodes+nodesL l
end
theorem nodes_pos (x:Dk):1<=x.nodes:=by cases x;simp only [nodes];omega
theorem nodes_eq (x:Dk):x.nodes=nodesL x.args+1:=by cases x;rfl
theorem kabx {l:List Dk} {x:Dk} (h:x∈l):x.nodes<=nodesL l:=by
 induction l with
 | nil=>cases h
 | cons y l ih=>
  simp only [nodesL];rcases qac.1 h with rfl | h;omega
  ·have:=ih h;omega
theorem kaba (l:List Dk):l.length<=nodesL l:=by
 induction l with
 | nil=>simp [nodesL]
 | cons x l ih=>simp only [qy,nodesL];have:=x.nodes_pos;omega
theorem args_nodes {x y:Dk} (h:y∈x.args):y.nodes<x.nodes:=by have:=kabx h;rw [nodes_eq x];omega
theorem args_len (x:Dk):x.args.length<x.nodes:=by have:=kaba x.args;rw [nodes_eq x];omega
end Dk
def kkx (r:Ru):Nat:=bif r.kind != 3 then 0 else r.args.length
theorem kagf (r:Ru):kd2 r=some (kkx r:Int):=by unfold kd2 kkx;cases r.kind != 3 <;> rfl
theorem k67 (r:Ru):kkx r<=r.args.length:=by unfold kkx;cases r.kind != 3 <;> simp
inductive Fits (l:La):Int->Tm->Prop
 | mk {s:Int} {t:Tm} {k:Nat} {r:Ru} (hk:t.rule=(k:Int)) (h:l.rules[k]?=some r) (hs:r.symbol=s) (hl:t.args.length=kkx r) (ha:∀ (i:Nat) (a:Tm) (b:Int),t.args[i]?=some a->r.args[i]?=some b->Fits l b a):Fits l s t
theorem k6q (l:La):∀ (n:Nat) (t:Tm) (s:Int),t.size<=n->t.size<=1000->Ev (kb5 n l s t) fun c=>c=0↔Fits l s t
 | 0,t,_,h,_=>by have:=t.size_pos;omega
 | n+1,t,s,h,E=>by
  show Ev (kdm (kb5 n) l s t) _;unfold kdm;have w:=args_len t;have no:∀ {c:Int},c≠0->¬ Fits l s t->(c=0↔Fits l s t):=fun h1 d=>⟨fun h=>absurd h h1,fun h=>absurd h d⟩;by_cases f:0<=t.rule/\t.rule<(l.rules.length:Int)
  ·obtain ⟨g,v⟩:=f;obtain ⟨k,j⟩:=qax g;have hk:k<l.rules.length:=(by omega);have e1:l.rules[k]?=some l.rules[k]:=qb hk;have inv:Fits l s t->l.rules[k].symbol=s/\t.args.length=kkx l.rules[k]/\∀ (i:Nat) (a:Tm) (b:Int),t.args[i]?=some a->l.rules[k].args[i]?=some b->Fits l b a:=fun h=>by
    cases h with
    | mk h1 d x y z=>
     rename_i k' r;obtain rfl:k'=k:=(by omega);rw [e1] at d;cases d;exact ⟨x,y,z⟩
   rw [j,qf (show ¬ ((k:Nat):Int)<0 by omega),qd,qf (show ¬ (l.rules.length:Int)<=((k:Nat):Int) by omega),qa,qd,kag,e1,qa];refine kq7 (fun hs=>⟨_,rfl,no (by decide) fun h=>qba.1 hs (inv h).1⟩) fun hs=>?_;have hs:=qa3.1 hs;rw [kagf,qa];refine kq7 (fun hl=>⟨_,rfl,no (by decide) fun h=>by have:=qba.1 hl;have:=(inv h).2.1;omega⟩) fun hl=>?_;have hl:t.args.length=kkx l.rules[k]:=(by have:=qa3.1 hl;omega);have A:=k67 l.rules[k];refine k9w (Ev.mono (kalb (fun i=>∀ a b,t.args[i]?=some a->l.rules[k].args[i]?=some b->Fits l b a) (fun e=>e≠0/\¬ Fits l s t) t.args.length (by omega) (fun i hi _=>?_) (by simp only [kcl,kf1,qd])) fun q m=>kam2 (fun _ e=>?_) fun e C=>?_);have o:i<l.rules[k].args.length:=(by omega);have e2:l.rules[k].args[i]?=some l.rules[k].args[i]:=qb o;have e3:t.args[i]?=some t.args[i]:=qb hi;simp only [kcl,kg5 hi,qe,kag,e2,e3,qa];have D:=kdd (q9 hi);obtain ⟨c,h1,d⟩:=k6q l n t.args[i] l.rules[k].args[i] (by omega) (by omega);rw [h1,qa];refine kq7 (fun hc=>⟨_,rfl,qba.1 hc,fun h=>qba.1 hc (d.2 ((inv h).2.2 i _ _ e3 e2))⟩) fun hc=>⟨_,rfl,rfl,fun a b ha p=>?_⟩;cases ha;cases p;exact d.1 (qa3.1 hc);subst e;exact ⟨_,rfl,fun _ => .mk j e1 hs hl fun i a b ha p=>m i (kho ha) a b ha p,fun _=>rfl⟩
   ·subst C;exact ⟨_,rfl,no m.1 m.2⟩
  ·have u:¬ Fits l s t:=fun h=>by
    cases h with
    | mk h1 d _ _ _=>have:=kho d;exact f ⟨by omega,by omega⟩
   have e:(bif decide (t.rule<0) then some true else some (decide ((l.rules.length:Int)<=t.rule)):Option Bool)=some true:=by
    by_cases h0:t.rule<0;rw [qj h0];rfl
    ·rw [qf h0,qj (show (l.rules.length:Int)<=t.rule by omega)];rfl
   rw [e,qa];exact ⟨_,rfl,no (by decide) u⟩
theorem kah2 (a b:Nat):imax (a:Int) (b:Int)=((max a b:Nat):Int):=by unfold imax;split <;> omega
theorem kae7 (t:Tm):t.depth=Tm.depthL t.args+1:=by cases t;rfl
theorem kxk:∀ (n:Nat) (t:Tm),t.size<=n->t.size<=1000->ka4 n t=some (t.depth:Int)
 | 0,t,h,_=>by have:=t.size_pos;omega
 | n+1,t,h,f=>by
  refine Ev.eq ?_;show Ev (kck (ka4 n) t) _;unfold kck;have c:=args_len t;have a:=t.depth_le_size;rw [kae7 t] at a ⊢;refine k9w (Ev.mono (kx1 (Q:=fun v=>v=(Tm.depthL t.args:Int)) t.args.length (fun i s=>s=((Tm.depthL (t.args.take i):Int),(i:Int))) (by omega) rfl (fun i s hi e=>?_) fun s e=>?_) fun v hv=>?_);subst e;have d:=kdd (q9 hi);simp only [kca,kg5 hi,qe,kag,qb hi,qa];rw [kxk n t.args[i] (by omega) (by omega),qa,kah2,kaj _,<- Tm.depthL_take_succ hi];exact ⟨_,rfl,rfl⟩;subst e;exact k6v (Tm.depthL t.args:Int) (by simp only [kca,kf1,qd];rw [List.take_length]) rfl
  ·subst hv;exact ⟨_,rfl,by rw [kc3];omega⟩
structure OkT (l:La) (s:Int) (t:Tm):Prop where
 sym0:0<=s
 sym1:s<(l.symbols.length:Int)
 depth:t.depth<=32
 fits:Fits l s t
theorem kaen {l:La} (hc:kan l=some 0) (s:Int) (t:Tm) (b:t.size<=1000):Ev (kdz l s t) fun c=>c=0↔OkT l s t:=by
 unfold kdz;rw [hc,qa,show ((0:Int) != 0)=false from rfl,qd];by_cases a:0<=s/\s<(l.symbols.length:Int);obtain ⟨h0,h1⟩:=a;rw [qf (show ¬ s<0 by omega),qd,qf (show ¬ (l.symbols.length:Int)<=s by omega),qa,qd];rw [show (4096:Int)=((4096:Nat):Int) from rfl,kww t 4096 (by decide),qa,qj (show t.size<=4096 by omega),qbo,qd,kxk fuel t (qbd (ka7 (by omega))) b,qa,qa];refine kq7 (fun hd=>⟨_,rfl,fun h=>absurd h (by decide),fun h=>absurd h.depth (by have:=qbt hd;omega)⟩) fun hd=>?_;obtain ⟨c,k1,k2⟩:=k6q l fuel t s (qbd (ka7 (by omega))) b;rw [k1];exact ⟨c,rfl,fun h=>⟨h0,h1,by have:=qbl hd;omega,k2.1 h⟩,fun h=>k2.2 h.fits⟩
 ·have e:(bif decide (s<0) then some true else some (decide ((l.symbols.length:Int)<=s)):Option Bool)=some true:=by
   by_cases h0:s<0;rw [qj h0];rfl
   ·rw [qf h0,qj (show (l.symbols.length:Int)<=s by omega)];rfl
  rw [e,qa];exact ⟨_,rfl,fun h=>absurd h (by decide),fun h=>absurd ⟨h.sym0,h.sym1⟩ a⟩
inductive kym (l:La) (hs:List Sab):Int->Dk->Prop
 | hole {s:Int} {x:Dk} {k:Nat} {h:Sab} (hx:x.hole=(k:Int)+1) (hk:hs[k]?=some h) (ht:0<=s->h.yg=s):kym l hs s x
 | node {s:Int} {x:Dk} {k:Nat} {r:Ru} (hx:x.hole=0) (hr:x.rule=(k:Int)) (hk:l.rules[k]?=some r) (ht:0<=s->r.symbol=s) (hl:x.args.length=r.args.length) (ha:∀ (i:Nat) (a:Dk) (b:Int),x.args[i]?=some a->r.args[i]?=some b->kym l hs b a):kym l hs s x
structure SR (R:Type) where
 add:R->R->R
 mul:R->R->R
 zero:R
 one:R
 add_assoc:∀ a b c,add (add a b) c=add a (add b c)
 add_comm:∀ a b,add a b=add b a
 zero_add:∀ a,add zero a=a
 mul_assoc:∀ a b c,mul (mul a b) c=mul a (mul b c)
 mul_comm:∀ a b,mul a b=mul b a
 mul_add:∀ a b c,mul a (add b c)=add (mul a b) (mul a c)
 mul_zero:∀ a,mul a zero=zero
 mul_one:∀ a,mul a one=a
namespace SR
variable {R:Type} (S:SR R)
theorem add_zero (a:R):S.add a S.zero=a:=by rw [S.add_comm,S.zero_add]
theorem zero_mul (a:R):S.mul S.zero a=S.zero:=by rw [S.mul_comm,S.mul_zero]
theorem one_mul (a:R):S.mul S.one a=a:=by rw [S.mul_comm,S.mul_one]
def sum (f:Nat->R):Nat->R
 | 0=>S.zero
 | n+1=>S.add (sum f n) (f n)
theorem sum_congr {f g:Nat->R}:∀ (n:Nat),(∀ i,i<n->f i=g i)->S.sum f n=S.sum g n
 | 0,_=>rfl
 | n+1,h=>by rw [sum,sum,sum_congr n fun i hi=>h i (by omega),h n (by omega)]
theorem sum_zero {f:Nat->R}:∀ (n:Nat),(∀ i,i<n->f i=S.zero)->S.sum f n=S.zero
 | 0,_=>rfl
 | n+1,h=>by rw [sum,sum_zero n fun i hi=>h i (by omega),h n (by omega),S.zero_add]
def rr (V:Int->Nat->R):List Int->Nat->R
 | [],n=>if n=0 then S.one else S.zero
 | a::ys,n=>S.sum (fun k=>S.mul (V a k) (rr V ys (n - k))) (n+1)
theorem rr_congr {V V':Int->Nat->R}:∀ (ys:List Int) (n:Nat),(∀ a∈ys,∀ k,k<=n->V a k=V' a k)->S.rr V ys n=S.rr V' ys n
 | [],n,_=>rfl
 | a::ys,n,h=>by rw [rr,rr];refine S.sum_congr _ fun k hk=>?_;rw [h a (qu ..) k (by omega),rr_congr ys (n - k) fun b c j d=>h b (qh _ c) j (by omega)]
theorem rr_small {V:Int->Nat->R} (h0:∀ a,V a 0=S.zero):∀ (ys:List Int) (n:Nat),n<ys.length->S.rr V ys n=S.zero
 | [],n,h=>by simp at h
 | a::ys,n,h=>by
  rw [qy] at h;rw [rr];refine S.sum_zero _ fun k hk=>?_;by_cases h1:k=0;rw [h1,h0,S.zero_mul]
  ·rw [rr_small h0 ys (n - k) (by omega),S.mul_zero]
theorem rr_one (V:Int->Nat->R) (a:Int) (n:Nat):S.rr V [a] n=S.mul (V a n) S.one:=by rw [rr,sum,S.sum_zero n fun i hi=>by rw [rr,qi (by omega),S.mul_zero],S.zero_add,qbs,rr,qo rfl]
theorem sum_shift (f:Nat->R):∀ n,S.sum f (n+1)=S.add (f 0) (S.sum (fun i=>f (i+1)) n)
 | 0=>by rw [sum,sum,sum,S.zero_add,S.add_zero]
 | n+1=>by rw [sum,sum_shift f n,sum,S.add_assoc]
theorem sum_trunc {f:Nat->R} {m:Nat}:∀ n,m<=n->(∀ i,m<=i->i<n->f i=S.zero)->S.sum f n=S.sum f m
 | 0,h,_=>by rw [show m=0 by omega]
 | n+1,h,a=>by
  by_cases hm:m=n+1;rw [hm]
  ·rw [sum,a n (by omega) (by omega),S.add_zero];exact sum_trunc n (by omega) fun i h1 b=>a i h1 (by omega)
def tab (N:Nat) (sy:Nat->Int) (ar:Nat->List Int) (wt:Nat->R):Nat->Int->Nat->R
 | 0=>fun _ _=>S.zero
 | n+1=>fun s k=>if k=n+1 then S.sum (fun i=>if sy i=s then S.mul (wt i) (S.rr (tab N sy ar wt n) (ar i) n) else S.zero) N else tab N sy ar wt n s k
def val (N:Nat) (sy:Nat->Int) (ar:Nat->List Int) (wt:Nat->R) (s:Int) (k:Nat):R:=S.tab N sy ar wt k s k
theorem tab_eq (N:Nat) (sy:Nat->Int) (ar:Nat->List Int) (wt:Nat->R) (s:Int):∀ (n k:Nat),S.tab N sy ar wt n s k=if k<=n then S.val N sy ar wt s k else S.zero
 | 0,k=>by
  unfold val;by_cases h:k=0;subst h;rw [qo (by omega)]
  ·rw [qi (by omega),tab]
 | n+1,k=>by
  by_cases h:k=n+1;subst h;rw [qo (by omega)];rfl
  ·show (if k=n+1 then _ else S.tab N sy ar wt n s k)=_;rw [qi h,tab_eq N sy ar wt s n k];by_cases a:k<=n;rw [qo a,qo (by omega)]
   ·rw [qi a,qi (by omega)]
theorem val_succ (N:Nat) (sy:Nat->Int) (ar:Nat->List Int) (wt:Nat->R) (s:Int) (n:Nat):S.val N sy ar wt s (n+1)=S.sum (fun i=>if sy i=s then S.mul (wt i) (S.rr (S.val N sy ar wt) (ar i) n) else S.zero) N:=by
 unfold val;show (if n+1=n+1 then _ else _)=_;rw [qo rfl];refine S.sum_congr _ fun i hi=>?_;split
 ·congr 1;exact S.rr_congr _ _ fun a _ k hk=>by rw [S.tab_eq,qo hk];rfl
 ·rfl
end SR
def kail:Ru:=Ru.mk 0 0 0 kf6 ⟨#[]⟩ []
def kc4 (l:La) (k:Nat):Int:=((l.rules[k]?).getD kail).symbol
def kal (l:La) (k:Nat):List Int:=((l.rules[k]?).getD kail).args
def plL (l:La) (s:Int) (n:Nat):List Nat:=(List.range n).filter fun k=>kc4 l k == s
theorem k0i (l:La) (s:Int) (n:Nat):plL l s (n+1)=plL l s n++(if (kc4 l n == s)=true then [n] else []):=by unfold plL;rw [List.range_succ,List.filter_append];congr 1;cases h:kc4 l n == s <;> simp [h]
theorem ko2 {l:La} {s:Int} {n k:Nat} (h:k∈plL l s n):k<n/\kc4 l k=s:=by unfold plL at h;rw [List.mem_filter,qbk] at h;exact ⟨h.1,by simpa using h.2⟩
theorem k3w (l:La) (s:Int) (n:Nat):(plL l s n).length<=n:=by
 unfold plL;have:=List.length_filter_le (fun k=>kc4 l k == s) (List.range n)
 rwa [List.length_range] at this
def natI (k:Nat):Int:=(k:Int)
theorem klz (l:La) {k:Nat} (h:k<l.rules.length):∃ y,l.rules[k]?=some y/\y.symbol=kc4 l k/\y.args=kal l k/\y∈l.rules:=
 ⟨l.rules[k],qb h,by unfold kc4;rw [qb h];rfl,by unfold kal;rw [qb h];rfl,q9 h⟩
theorem app8 {acc:List Int} {v:Int} (h:acc.length<=1000000):app 8 acc [v]=some (acc++[v]):=kfe (by rw [qaz];omega)
theorem kah8 (l:La) (s:Int) (h:l.rules.length<=1000000):kkm l s=some ((plL l s l.rules.length).map natI):=by
 unfold kkm;have:=kbs (ki3 l s) l.rules.length (fun i=>((i:Int),(plL l s i).map natI)) ((plL l s l.rules.length).map natI) (fun i hi=>by
  obtain ⟨y,hr,hs,_⟩:=klz l hi;have a:=k3w l s i;simp only [ki3,kfq hi,qe,kag,hr,hs,qa,kee hi (show l.rules.length<=9223372036854775807 by omega),app8 (show ((plL l s i).map natI).length<=1000000 by rw [qaa];omega)];rw [k0i];show Option.bind (bif kc4 l i == s then _ else _) _=_;cases kc4 l i == s with
  | true=>simp only [qe,qa,if_true,qb0,qa0,List.map_nil];rfl
  | false=>simp) (by simp only [ki3,kfm,qd])
 have b:kab (ki3 l s) fuel (0,[])=some ((plL l s l.rules.length).map natI):=by simpa [plL] using this
 rw [b,qa]
theorem kamy (l:La) (s:Int) (h:l.rules.length<=1000000):kkm l s=some ((plL l s l.rules.length).map natI):=kah8 l s h
def NS:SR Nat:=⟨(·+·),(·*·),0,1,Nat.add_assoc,Nat.add_comm,Nat.zero_add,Nat.mul_assoc,Nat.mul_comm,Nat.mul_add,Nat.mul_zero,qbi⟩
def en (n:Nat):Int:=((min n 1152921504606846977:Nat):Int)
theorem kaii (n:Nat):0<=en n/\en n<=1152921504606846977:=by unfold en;omega
theorem k90 (a b:Nat):imin (w64 (en a+en b)) 1152921504606846977=en (a+b):=by have h1:=kaii a;have c:=kaii b;rw [kc3];unfold imin en;split <;> omega
theorem k0n (a b:Nat):kh0 (en a) (en b)=some (en (a+b)):=by unfold kh0;rw [k90]
theorem kacz (m n:Nat) (hn:0<n) (hm:m<=9223372036854775807:=by omega):quo .i64 (m:Int) (n:Int)=some ((m / n:Nat):Int):=by
 unfold quo;rw [qi (by omega)];have h1:((m:Int).tdiv (n:Int))=((m / n:Nat):Int):=(Int.ofNat_tdiv m n).symm;have a:m / n<=m:=Nat.div_le_self m n;rw [h1];generalize m / n=q at *
 exact congrArg some (kc3)
theorem k1h {a b:Nat} (h:min a 1152921504606846977*min b 1152921504606846977<=1152921504606846977):w64 (en a*en b)=((min a 1152921504606846977*min b 1152921504606846977:Nat):Int):=by unfold en;rw [<- Int.natCast_mul];exact kc3
theorem k9d (a b:Nat):min (min a 1152921504606846977*min b 1152921504606846977) 1152921504606846977=min (a*b) 1152921504606846977:=by
 by_cases ha:a<=1152921504606846977
 ·by_cases c:b<=1152921504606846977;rw [Nat.min_eq_left ha,Nat.min_eq_left c]
  ·rw [Nat.min_eq_left ha,Nat.min_eq_right (show 1152921504606846977<=b by omega)];rcases Nat.eq_zero_or_pos a with h0 | h0;subst h0;simp
   ·have h1:1152921504606846977<=a*1152921504606846977:=Nat.le_mul_of_pos_left _ h0;have d:1152921504606846977<=a*b:=qav (by omega:1152921504606846977<=b) (Nat.le_mul_of_pos_left _ h0);omega
 ·rw [Nat.min_eq_right (by omega:1152921504606846977<=a)];rcases Nat.eq_zero_or_pos b with h0 | h0;subst h0;simp
  ·have e:1<=min b 1152921504606846977:=(by omega);have h1:1152921504606846977<=1152921504606846977*min b 1152921504606846977:=Nat.le_mul_of_pos_right _ e;have d:1152921504606846977<=a*b:=qav (by omega:1152921504606846977<=a) (Nat.le_mul_of_pos_right _ h0);omega
theorem kaft (a b:Nat):kka (en a) (en b)=some (en (a*b)):=by
 have hc:=k9d a b;unfold kka;by_cases h0:0<min a 1152921504606846977
 ·have e0:decide (0<en a)=true:=qj (by unfold en;omega);have f:quo .i64 1152921504606846976 (en a)=some ((1152921504606846976 / min a 1152921504606846977:Nat):Int):=kacz 1152921504606846976 _ h0;rw [e0,f];simp only [qe,qa];by_cases c:1152921504606846976 / min a 1152921504606846977<min b 1152921504606846977;have e1:decide (((1152921504606846976 / min a 1152921504606846977:Nat):Int)<en b)=true:=qj (by unfold en;omega);rw [e1,qe];have d:=(Nat.div_lt_iff_lt_mul h0).1 c;rw [Nat.mul_comm] at d;unfold en;congr 1;omega
  ·have e1:decide (((1152921504606846976 / min a 1152921504606846977:Nat):Int)<en b)=false:=qf (by unfold en;omega);rw [e1,qd];have d:¬ 1152921504606846976<min b 1152921504606846977*min a 1152921504606846977:=fun h=>c ((Nat.div_lt_iff_lt_mul h0).2 h);rw [Nat.mul_comm] at d;rw [k1h (by omega)];unfold en;congr 1;omega
 ·have e0:decide (0<en a)=false:=qf (by unfold en;omega);rw [e0];simp only [qd,qa];have e:min a 1152921504606846977=0:=by omega
  rw [k1h (by rw [e,Nat.zero_mul];omega)];unfold en;rw [<- hc,e,Nat.zero_mul];rfl
def keyB (ys:List Int) (k:Int):BA:=toBA (wu8 k::ys.map wu8)
theorem k31:∀ (xs:List Int) (r:BA),(xs.foldl (fun r n=>r.push (UInt8.ofNat n.toNat)) r).data.toList=r.data.toList++xs.map fun n=>UInt8.ofNat n.toNat
 | [],r=>by simp
 | x::xs,r=>by
  rw [List.foldl_cons,k31 xs];have:(r.push (UInt8.ofNat x.toNat)).data.toList=r.data.toList++[UInt8.ofNat x.toNat]:=by cases r;simp [ByteArray.push]
  rw [this,qbh];rfl
def Byt (n:Int):Prop:=0<=n/\n<256
theorem kalj {a b:Int} (ha:Byt a) (c:Byt b) (h:UInt8.ofNat a.toNat=UInt8.ofNat b.toNat):a=b:=by
 unfold Byt at ha c;have h1:(UInt8.ofNat a.toNat).toNat=(UInt8.ofNat b.toNat).toNat:=by rw [h]
 rw [UInt8.toNat_ofNat',UInt8.toNat_ofNat'] at h1;omega
theorem k5a:∀ {xs ys:List Int},(∀ x∈xs,Byt x)->(∀ y∈ys,Byt y)->(xs.map fun n=>UInt8.ofNat n.toNat)=(ys.map fun n=>UInt8.ofNat n.toNat)->xs=ys
 | [],[],_,_,_=>rfl
 | [],y::ys,_,_,h=>by simp at h
 | x::xs,[],_,_,h=>by simp at h
 | x::xs,y::ys,hx,hy,h=>by rw [qa0,qa0] at h;injection h with h1 b;rw [kalj (hx x (qu ..)) (hy y (qu ..)) h1,k5a (fun z a=>hx z (qh _ a)) (fun z a=>hy z (qh _ a)) b]
theorem k6i {n:Int} (h:Byt n):wu8 n=n:=by unfold Byt at h;unfold wu8 IntKind.wrap;simp [IntKind.signed,IntKind.bits];omega
theorem kagh {ys zs:List Int} {k j:Int} (hy:∀ y∈ys,Byt y) (d:∀ z∈zs,Byt z) (hk:Byt k) (f:Byt j) (h:keyB ys k=keyB zs j):ys=zs/\k=j:=by
 have e:∀ {l:List Int},(∀ x∈l,Byt x)->l.map wu8=l:=fun {l} hl=>by
  induction l with
  | nil=>rfl
  | cons a l ih=>rw [qa0,k6i (hl a (qu ..)),ih fun x hx=>hl x (qh _ hx)]
 unfold keyB at h;rw [e hy,e d,k6i hk,k6i f] at h;have c:=congrArg (fun b:BA=>b.data.toList) h;unfold toBA at c;simp only [k31] at c;have:=k5a (xs:=k::ys) (ys:=j::zs) (fun x hx=>by
  rcases qac.1 hx with rfl | hx;exact hk
  ·exact hy x hx) (fun x hx=>by
  rcases qac.1 hx with rfl | hx;exact f
  ·exact d x hx) (by simpa using c)
 injection this with g i;exact ⟨i,g⟩
theorem kanl (ys:List Int) (k:Int) (hl:ys.length<=1000000):klc ys k=some (keyB ys k):=by
 unfold klc;rw [kr3 (step:=kjf ys) ys (fun (s:List Int) x=>app 1 s [wu8 x]) (fun i s=>(i,s)) (by omega) (fun i x s hx=>by have hi:=kho hx;simp only [kjf,kfq hi,qe,kag,hx,qa,kee hi (show ys.length<=9223372036854775807 by omega)];cases app 1 s [wu8 x] <;> rfl) (fun s=>by simp only [kjf,kfm,qd])];have gen:∀ (ys:List Int) (s:List Int),s.length+ys.length<=2000000->ys.foldlM (fun (s:List Int) x=>app 1 s [wu8 x]) s=some (s++ys.map wu8):=fun ys=>by
  induction ys with
  | nil=>intro s _;simp
  | cons y ys ih=>
   intro s hs;rw [qy] at hs;have ha:app 1 s [wu8 y]=some (s++[wu8 y]):=kfe (by rw [qaz];omega);rw [qbw,ha];have:=ih (s++[wu8 y]) (by rw [qah,qaz];omega);show List.foldlM _ (s++[wu8 y]) ys=_;rw [this,qbh];rfl
 rw [gen ys [wu8 k] (by rw [qaz];omega)];rfl
def KI (V:Int->Nat->Nat) (m:List (BA×Int)):Prop:=∀ (ys:List Int) (k:Nat),(∀ y∈ys,Byt y)->k<256->(∀ z,mget m (keyB ys (k:Int)) z=en (NS.rr V ys k))\/∀ z,mget m (keyB ys (k:Int)) z=z
theorem KI.nil (V:Int->Nat->Nat):KI V []:=fun ys k _ _ => .inr fun z=>rfl
theorem kahj {m:List (BA×Int)} {s:BA} (h:mhas m s=true):mget m s 0=mget m s 1:=by
 unfold mhas at h;unfold mget;cases a:kf8 s m 0 with
 | none=>rw [a] at h;cases h
 | some p=>rfl
theorem KI.has {V:Int->Nat->Nat} {m:List (BA×Int)} (h:KI V m) {ys:List Int} {k:Nat} (hy:∀ y∈ys,Byt y) (hk:k<256) (a:mhas m (keyB ys (k:Int))=true):mget m (keyB ys (k:Int)) 0=en (NS.rr V ys k):=by
 rcases h ys k hy hk with h1 | h1;exact h1 0
 ·have:=kahj a;rw [h1,h1] at this;cases this
theorem KI.put {V:Int->Nat->Nat} {m:List (BA×Int)} (h:KI V m) {ys:List Int} {k:Nat} (hy:∀ y∈ys,Byt y) (hk:k<256):KI V (mput m (keyB ys (k:Int)) (en (NS.rr V ys k))):=fun zs j c d=>by
 by_cases a:(keyB zs (j:Int)).toList == (keyB ys (k:Int)).toList
 ·rw [kja] at a;have b:keyB zs (j:Int)=keyB ys (k:Int):=by
   have:=MapKept.bytes_beq (keyB zs (j:Int)) (keyB ys (k:Int))
   first
    | exact eq_of_beq a
    | simpa [this] using a
  obtain ⟨e1,e2⟩:=kagh c hy (by unfold Byt;omega) (by unfold Byt;omega) b;have e3:j=k:=by omega
  subst e1 e3;left;intro z;rw [kp4];simp
 ·rcases h zs j c d with h1 | h1;left;intro z;rw [kp4];simp [a,h1]
  ·right;intro z;rw [kp4];simp [a,h1]
theorem k3d {σ β:Type} {step:σ->Option (σ ⊕ β)} (n:Nat) (hn:n<18446744073709551616) (P:Nat->σ->Prop) (Q:β->Prop) (hs:∀ i s,i<n->P i s->∃ s',step s=some (.inl s')/\P (i+1) s') (d:∀ s,P n s->∃ b,step s=some (.inr b)/\Q b) (s:σ) (h0:P 0 s):∃ b,kab step fuel s=some b/\Q b:=by
 have key:∀ (k i:Nat) (s:σ),i<=n->n - i<k->P i s->∃ b,kab step k s=some b/\Q b:=by
  intro k
  induction k with
  | zero=>intro i s _ h;omega
  | succ k ih=>
   intro i s hi hk hp;by_cases h:i=n;subst h;obtain ⟨b,h1,a⟩:=d s hp;refine ⟨b,?_,a⟩;unfold kab;rw [h1]
   ·obtain ⟨s',h1,a⟩:=hs i s (by omega) hp;obtain ⟨b,c,e⟩:=ih (i+1) s' (by omega) (by omega) a;refine ⟨b,?_,e⟩;unfold kab;rw [h1];cases k with
    | zero=>cases c
    | succ k=>exact c
 exact key fuel 0 s (by omega) (ka7 (by omega)) h0
def VN (l:La):Int->Nat->Nat:=NS.val l.rules.length (kc4 l) (kal l) (fun _=>1)
def inR (l:La) (ys:List Int):Prop:=∀ y∈ys,0<=y/\y<(l.symbols.length:Int)
theorem inR.byt {l:La} (a:l.symbols.length<=16) {ys:List Int} (h:inR l ys):∀ y∈ys,Byt y:=fun y hy=>by have:=h y hy;unfold Byt;omega
theorem kag7 (a:Int) (ys:List Int):cutL (a::ys) 0 1=some [a]:=by unfold cutL;rw [qo ⟨by omega,by omega,by rw [qy];omega⟩];rfl
theorem kld {α:Type} (a:α) (ys:List α):cutL (a::ys) 1 (((a::ys).length:Nat):Int)=some ys:=by unfold cutL;rw [qo ⟨by omega,by rw [qy];omega,by omega⟩,qap,List.take_length];rfl
theorem kzy {l:La} (f:l.symbols.length<=16) {r14:La->List (BA×Int)->Int->Int->Option (Int×List (BA×Int))} {K:Nat} (hK:K<=24) (hr:∀ m s k,KI (VN l) m->0<=s->s<(l.symbols.length:Int)->1<=k->k<=K->∃ m',r14 l m s (k:Int)=some (en (VN l s k),m')/\KI (VN l) m'):
  ∀ (n:Nat) (ys:List Int) (k:Nat) (m:List (BA×Int)),ys.length<n->ys.length<=1000->inR l ys->k<=K->KI (VN l) m->∃ m',kbr r14 n l m ys (k:Int)=some (en (NS.rr (VN l) ys k),m')/\KI (VN l) m'
 | 0,ys,k,m,h,_,_,_,_=>by omega
 | n+1,[],k,m,_,_,_,hk,hm=>by
  refine ⟨m,?_,hm⟩;show kb1 r14 (kbr r14 n) l m [] (k:Int)=_;unfold kb1;rw [show ((([]:List Int).length:Int) == 0)=true from rfl];simp only [qe,qa];rw [SR.rr];by_cases h0:k=0;subst h0;rfl
  ·rw [show ((k:Int) == 0)=false by rw [qar];omega,qi h0];rfl
 | n+1,a::ys,k,m,h,d,hy,hk,hm=>by
  have p:=hy.byt f;have ha:=hy a (qu ..);have r:inR l ys:=fun y h=>hy y (qh _ h);show ∃ m',kb1 r14 (kbr r14 n) l m (a::ys) (k:Int)=_/\_;unfold kb1;have t:(((a::ys).length:Int) == 0)=false:=by rw [qar,qy];omega
  rw [qy] at h d;rw [t];simp only [qd];by_cases g:k<(a::ys).length;rw [qj (show (k:Int)<((a::ys).length:Int) by omega)];refine ⟨m,?_,hm⟩;rw [NS.rr_small (fun b=>rfl) (a::ys) k g];rfl
  ·rw [qf (show ¬ (k:Int)<((a::ys).length:Int) by omega)];simp only [qd,qa,kanl (a::ys) (k:Int) (by rw [qy];omega)];cases x:mhas m (keyB (a::ys) (k:Int)) with
   | true=>
    refine ⟨m,?_,hm⟩;rw [hm.has p (by omega) x];rfl
   | false=>
    simp only [qd];have fin:∀ (m2:List (BA×Int)),KI (VN l) m2->KI (VN l) (mput m2 (keyB (a::ys) (k:Int)) (en (NS.rr (VN l) (a::ys) k))):=fun m2 w=>w.put p (by omega);cases ys with
    | nil=>
     obtain ⟨m2,r1,r2⟩:=hr m a k hm ha.1 ha.2 (by rw [qy] at g;omega) hk;refine ⟨_,?_,fin m2 r2⟩;rw [show ((([a]:List Int).length:Int) == 1)=true from rfl];have h0:idx [a] 0=some a:=rfl;have hv:NS.rr (VN l) [a] k=VN l a k:=(NS.rr_one _ _ _).trans (NS.mul_one _);simp only [qe,h0,qa,r1,hv]
    | cons b zs=>
     have u:(((a::b::zs).length:Int) == 1)=false:=(by rw [qar,qy,qy];omega);rw [u];simp only [qd];rw [qy] at h d;have e:(a::b::zs).length=zs.length+2:=rfl;rw [e] at g;have ew:w64 (w64 ((k:Int) - (((a::b::zs).length:Nat):Int))+1)=((k - (zs.length+2)+1:Nat):Int):=(by rw [e,kc3 (n:=(k:Int) - ((zs.length+2:Nat):Int)),kc3];omega);obtain ⟨b2,q1,q2,q3⟩:=k3d (step:=kdi l (a::b::zs) (k:Int) (kbr r14 n)) (k - (zs.length+2)+1) (by omega)
      (fun i s=>s.1=en (NS.sum (fun j=>VN l a (j+1)*NS.rr (VN l) (b::zs) (k - (j+1))) i)/\s.2.1=(i:Int)/\KI (VN l) s.2.2)
      (fun v=>v.1=en (NS.sum (fun j=>VN l a (j+1)*NS.rr (VN l) (b::zs) (k - (j+1))) (k - (zs.length+2)+1))/\KI (VN l) v.2)
      (fun i s hi hp=>by
       obtain ⟨acc,j,m3⟩:=s;obtain ⟨p1,p2,p3⟩:=hp;simp only at p1 p2 p3;subst p1 p2;have e1:w64 ((i:Int)+1)=((i+1:Nat):Int):=kee hi (by omega);have e2:w64 (w64 ((k:Int) - (i:Int)) - 1)=((k - (i+1):Nat):Int):=(by rw [kc3 (n:=(k:Int) - (i:Int)),kc3];omega);obtain ⟨m4,s1,s2⟩:=kzy f hK hr n [a] (i+1) m3 (by rw [qaz];omega) (by rw [qaz];omega) (fun y o=>hy y (by rcases qac.1 o with rfl | o;exact qu ..; cases o)) (by omega) p3;obtain ⟨m5,s3,s4⟩:=kzy f hK hr n (b::zs) (k - (i+1)) m4 (by rw [qy];omega) (by rw [qy];omega) r (by omega) s2;have hv:NS.rr (VN l) [a] (i+1)=VN l a (i+1):=(NS.rr_one _ _ _).trans (NS.mul_one _);rw [hv] at s1;refine ⟨(en (NS.sum (fun j=>VN l a (j+1)*NS.rr (VN l) (b::zs) (k - (j+1))) (i+1)),((i+1:Nat):Int),m5),?_,rfl,rfl,s4⟩;simp only [kdi,ew,qj (show (i:Int)<((k - (zs.length+2)+1:Nat):Int) by omega),qe,kag7,qa,e1,s1,kld,e2,s3,kaft,k0n];rfl) (fun s hp=>by
       obtain ⟨acc,j,m3⟩:=s;obtain ⟨p1,p2,p3⟩:=hp;simp only at p1 p2 p3;subst p1 p2;refine ⟨(en (NS.sum (fun j=>VN l a (j+1)*NS.rr (VN l) (b::zs) (k - (j+1))) (k - (zs.length+2)+1)),m3),?_,rfl,p3⟩;simp only [kdi,ew,kfm,qd]) (0,0,m) ⟨rfl,rfl,hm⟩
     have q:NS.sum (fun j=>VN l a (j+1)*NS.rr (VN l) (b::zs) (k - (j+1))) (k - (zs.length+2)+1)=NS.rr (VN l) (a::b::zs) k:=(by have z:NS.sum (fun j=>VN l a (j+1)*NS.rr (VN l) (b::zs) (k - (j+1))) k=NS.sum (fun j=>VN l a (j+1)*NS.rr (VN l) (b::zs) (k - (j+1))) (k - (zs.length+2)+1):=NS.sum_trunc k (by omega) fun i h1 w=>(by show VN l a (i+1)*NS.rr (VN l) (b::zs) (k - (i+1))=0;rw [NS.rr_small (fun c=>rfl) (b::zs) (k - (i+1)) (by rw [qy];omega)];exact Nat.mul_zero _);rw [<- z,SR.rr];refine Eq.trans ?_ (NS.sum_shift _ k).symm;show _=VN l a 0*NS.rr (VN l) (b::zs) (k - 0)+NS.sum (fun j=>VN l a (j+1)*NS.rr (VN l) (b::zs) (k - (j+1))) k;rw [show VN l a 0=0 from rfl,Nat.zero_mul,Nat.zero_add]);rw [q] at q2;obtain ⟨acc,m6⟩:=b2;simp only at q2 q3;subst q2;refine ⟨_,?_,fin m6 q3⟩;rw [q1];rfl
theorem kyf (l:La) (s:Int) (f:Nat->Nat):∀ n,((plL l s n).map f).sum=NS.sum (fun i=>if kc4 l i=s then f i else 0) n
 | 0=>rfl
 | n+1=>by
  rw [k0i,qb0,List.sum_append,kyf l s f n,SR.sum];by_cases h:kc4 l n=s;rw [qo (by simpa using h),qo h];show _+[f n].sum=_+f n;simp
  ·rw [qi (by simpa using h),qi h];rfl
theorem kaef {l:La} {r:Ru} (hr:GoodR l r):kks r=some r.args:=by
 unfold kks;by_cases a:r.kind=3;rw [a];rfl
 ·rw [show (r.kind != 3)=true by rw [qba];exact a,hr.noargs a];rfl
theorem kzu {l:La} (c:kfj l):∀ (n k:Nat) (s:Int) (m:List (BA×Int)),k<=n->1<=k->k<=24->0<=s->s<(l.symbols.length:Int)->KI (VN l) m->∃ m',kbk n l m s (k:Int)=some (en (VN l s k),m')/\KI (VN l) m'
 | 0,k,s,m,h,h1,_,_,_,_=>by omega
 | n+1,k+1,s,m,h,h1,t,u,hs1,hm=>by
  have w:=c.rules;have d:=c.sym16;show ∃ m',kd8 (kbk n) l m s ((k+1:Nat):Int)=_/\_;unfold kd8;rw [kamy l s (by omega),qa];have ew:w64 (((k+1:Nat):Int) - 1)=(k:Int):=by rw [kc3];omega
  have x:=k3w l s l.rules.length;obtain ⟨b2,q1,q2,q3⟩:=k3d (step:=kdo l ((k+1:Nat):Int) (kbk n) ((plL l s l.rules.length).map natI)) (plL l s l.rules.length).length (by omega)
   (fun i st=>st.1=en (((plL l s l.rules.length).take i).map fun q=>NS.rr (VN l) (kal l q) k).sum/\st.2.1=(i:Int)/\KI (VN l) st.2.2)
   (fun v=>v.1=en ((plL l s l.rules.length).map fun q=>NS.rr (VN l) (kal l q) k).sum/\KI (VN l) v.2)
   (fun i st hi hp=>by
    obtain ⟨acc,j,m3⟩:=st;obtain ⟨p1,p2,p3⟩:=hp;simp only at p1 p2 p3;subst p1 p2;have z:(plL l s l.rules.length)[i]?=some (plL l s l.rules.length)[i]:=qb hi;have e:=ko2 (q9 hi);have f:((plL l s l.rules.length).map natI)[i]?=some ((((plL l s l.rules.length)[i]:Nat)):Int):=(by rw [qq,z];rfl);obtain ⟨y,hy,_,g,a⟩:=klz l e.1;have gy:=c.good y a;have r:=gy.few;obtain ⟨m4,s1,s2⟩:=kzy (r14:=kbk n) (K:=k) d (by omega) (fun m s k' hm h0 h1 o A=>kzu c n k' s m (by omega) o (by omega) h0 h1 hm) fuel y.args k m3 (ka7 (by omega)) (by omega) gy.args (qx _) p3;have p:(plL l s l.rules.length).take (i+1)=(plL l s l.rules.length).take i++[(plL l s l.rules.length)[i]]:=List.take_succ_eq_append_getElem hi;refine ⟨(en (((plL l s l.rules.length).take (i+1)).map fun q=>NS.rr (VN l) (kal l q) k).sum,((i+1:Nat):Int),m4),?_,rfl,rfl,s2⟩;simp only [kdo,qaa,kfq hi,qe,kag,f,qa,hy,kaef gy,ew,s1,kee hi (show (plL l s l.rules.length).length<=9223372036854775807 by omega),k0n,qa];rw [p,qb0,List.sum_append,g];show some _=some _;simp) (fun st hp=>by
    obtain ⟨acc,j,m3⟩:=st;obtain ⟨p1,p2,p3⟩:=hp;simp only at p1 p2 p3;subst p1 p2;refine ⟨(en ((plL l s l.rules.length).map fun q=>NS.rr (VN l) (kal l q) k).sum,m3),?_,rfl,p3⟩;simp only [kdo,qaa,kfm,qd,List.take_length]) (0,0,m) ⟨rfl,rfl,hm⟩
  have b:((plL l s l.rules.length).map fun q=>NS.rr (VN l) (kal l q) k).sum=VN l s (k+1):=by
   rw [kyf];unfold VN;rw [NS.val_succ];refine NS.sum_congr _ fun i hi=>?_;split;exact (Nat.one_mul _).symm
   ·rfl
  rw [b] at q2;obtain ⟨acc,m6⟩:=b2;simp only at q2 q3;subst q2;refine ⟨m6,?_,q3⟩;rw [q1];rfl
def ansC (n:Nat):Int×Int:=if (1152921504606846976:Int)<en n then (0,11) else (en n,0)
def badQ (l:La) (s k:Int):Bool:=decide (s<0) || (decide ((l.symbols.length:Int)<=s) || (decide (k<1) || decide (24<k)))
theorem kaai (l:La) (s k:Int):((bif decide (s<0) then some true else bif decide ((l.symbols.length:Int)<=s) then some true else bif decide (k<1) then some true else some (decide (24<k))):Option Bool)=some (badQ l s k):=by unfold badQ;cases decide (s<0) <;> cases decide ((l.symbols.length:Int)<=s) <;> cases decide (k<1) <;> cases decide (24<k) <;> rfl
theorem kabz {l:La} {s k:Int} (h:badQ l s k=false):0<=s/\s<(l.symbols.length:Int)/\1<=k/\k<=24:=by unfold badQ at h;simp at h;omega
def errC (l:La) (c s k:Int):Int:=if c≠0 then c else if badQ l s k=true then 1 else 0
theorem k9j {l:La} {c:Int} (hc:kbw l=some c) (s k:Int):kih l s k=some (errC l c s k):=by
 unfold kih errC;rw [hc,qa,kaai];by_cases h:c=0;rw [h,bne_self_eq_false,qi (by simp)];cases badQ l s k <;> rfl
 ·rw [show (c != 0)=true by rw [qba];exact h,qo h];rfl
theorem kpl {l:La} {c s k:Int} (h:errC l c s k=0):c=0/\0<=s/\s<(l.symbols.length:Int)/\1<=k/\k<=24:=by
 unfold errC at h;by_cases hc:c=0
 ·rw [qi (by simpa using hc)] at h;cases a:badQ l s k with
  | true=>rw [a] at h;cases h
  | false=>exact ⟨hc,kabz a⟩
 ·rw [qo hc] at h;exact absurd h hc
theorem kaev (x:Int):ke6 x=some (if 1152921504606846976<x then .inr () else .inl ()):=by
 unfold ke6;by_cases h:1152921504606846976<x;rw [qj h,qo h];rfl
 ·rw [qf h,qi h];rfl
theorem kaax (l:La):ki6 l=some ():=rfl
theorem kab0 {l:La} (b:kfj l) {c s k:Int} (hc:kbw l=some c):kif l s k=some (if errC l c s k≠0 then (0,errC l c s k) else ansC (VN l s k.toNat)):=by
 unfold kif;rw [k9j hc,qa];by_cases a:errC l c s k=0
 ·obtain ⟨_,h1,d,e,f⟩:=kpl a;obtain ⟨n,rfl⟩:=qax (show 0<=k by omega);obtain ⟨m,t1,_⟩:=kzu b fuel n s [] (qbd (ka7 (by omega))) (by omega) (by omega) h1 d (KI.nil _);rw [a,bne_self_eq_false,qi (by simp),qap];unfold kis kjc;rw [kaax,qa,t1,qa,kaev];unfold ansC;by_cases hx:1152921504606846976<en (VN l s n);rw [qo hx,qo hx];rfl
  ·rw [qi hx,qi hx];rfl
 ·rw [show (errC l c s k != 0)=true by rw [qba];exact a,qo a];rfl
theorem k6z {σ β:Type} {st:σ->Option (σ ⊕ β)} {s s':σ} {n:Nat} (h:st s=some (.inl s')):kab st (n+1) s=kab st n s':=by unfold kab;rw [h];cases n <;> rfl
theorem kxl {σ β:Type} {st:σ->Option (σ ⊕ β)} {s:σ} {b:β} {n:Nat} (h:st s=some (.inr b)):kab st (n+1) s=some b:=by unfold kab;rw [h]
theorem krr {σ β:Type} {step:σ->Option (σ ⊕ β)} (n:Nat) (hn:n<18446744073709551616) (P:Nat->σ->Prop) (Q:β->Prop) (hs:∀ i s,i<n->P i s->(∃ s',step s=some (.inl s')/\P (i+1) s')\/∃ b,step s=some (.inr b)/\Q b) (c:∀ s,P n s->∃ b,step s=some (.inr b)/\Q b) (s:σ) (h0:P 0 s):∃ b,kab step fuel s=some b/\Q b:=by
 have key:∀ (k i:Nat) (s:σ),i<=n->n - i<k->P i s->∃ b,kab step k s=some b/\Q b:=by
  intro k
  induction k with
  | zero=>intro i s _ h;omega
  | succ k ih=>
   intro i s hi hk hp;have out:(∃ b,step s=some (.inr b)/\Q b)->∃ b,kab step (k+1) s=some b/\Q b:=fun ⟨b,h1,a⟩=>⟨b,kxl h1,a⟩;by_cases h:i=n;subst h;exact out (c s hp)
   ·rcases hs i s (by omega) hp with ⟨s',h1,a⟩ | h1;obtain ⟨b,d,e⟩:=ih (i+1) s' (by omega) (by omega) a;exact ⟨b,(k6z h1).trans d,e⟩
    ·exact out h1
 exact key fuel 0 s (by omega) (ka7 (by omega)) h0
theorem kajx {a b:Nat} (h:a<=b):en a<=en b:=by unfold en;omega
theorem kzv (f:Nat->Nat) {i n:Nat} (h:i<=n):NS.sum f i<=NS.sum f n:=by
 induction n with
 | zero=>rw [show i=0 by omega];exact qx _
 | succ n ih=>
  by_cases hi:i=n+1;rw [hi];exact qx _
  ·exact qav (ih (by omega)) (Nat.le_add_right (NS.sum f n) (f n))
def totC (l:La) (s:Int) (n:Nat):Nat:=NS.sum (fun j=>VN l s (j+1)) n
theorem k06 {l:La} (e:kfj l) {c s k:Int} (hc:kbw l=some c):kj0 l s k=some (if errC l c s k≠0 then (0,errC l c s k) else ansC (totC l s k.toNat)):=by
 unfold kj0;rw [k9j hc,qa];by_cases b:errC l c s k=0
 ·obtain ⟨_,h1,f,g,h⟩:=kpl b;obtain ⟨n,rfl⟩:=qax (show 0<=k by omega);rw [b,bne_self_eq_false,qi (by simp),qap,qd,kaax,qa];unfold kjg ki7;obtain ⟨v7,q1,q2⟩:=krr (step:=kf3 (n:Int) l s) n (by omega)
   (fun i st=>st.1=en (totC l s i)/\st.2.1=(i:Int)/\KI (VN l) st.2.2/\¬ 1152921504606846976<en (totC l s i))
   (fun v=>(∃ m,v = .inl (en (totC l s n),m)/\¬ 1152921504606846976<en (totC l s n))\/∃ m,v = .inr m/\1152921504606846976<en (totC l s n))
   (fun i st hi hp=>by
    obtain ⟨acc,j,m3⟩:=st;obtain ⟨p1,p2,p3,p4⟩:=hp;simp only at p1 p2 p3;subst p1 p2;have e1:w64 ((i:Int)+1)=((i+1:Nat):Int):=kee hi (by omega);obtain ⟨m4,t1,t2⟩:=kzu e fuel (i+1) s m3 (qbd (ka7 (by omega))) (by omega) (by omega) h1 f p3;have a:totC l s (i+1)=totC l s i+VN l s (i+1):=rfl;have d:en (totC l s (i+1))<=en (totC l s n):=kajx (kzv _ (by omega));unfold kf3;simp only;rw [kfq hi,qe,e1,t1,qa];simp only;rw [k0n,qa,<- a,kaev,qa];by_cases hx:1152921504606846976<en (totC l s (i+1));right;refine ⟨.inr m4,?_, .inr ⟨m4,rfl,by omega⟩⟩;rw [qo hx];rfl
    ·left;refine ⟨(en (totC l s (i+1)),((i+1:Nat):Int),m4),?_,rfl,rfl,t2,hx⟩;rw [qi hx];rfl) (fun st hp=>by
    obtain ⟨acc,j,m3⟩:=st;obtain ⟨p1,p2,p3,p4⟩:=hp;simp only at p1 p2 p3;subst p1 p2;refine ⟨.inl (en (totC l s n),m3),?_, .inl ⟨m3,rfl,p4⟩⟩;unfold kf3;simp only;rw [kfm,qd]) (0,0,[]) ⟨rfl,rfl,KI.nil _,by show ¬ (1152921504606846976:Int)<en 0;unfold en;omega⟩
  rw [q1,qa];unfold ansC;rcases q2 with ⟨m,rfl,hx⟩ | ⟨m,rfl,hx⟩;rw [qi hx];rfl
  ·rw [qo hx];rfl
 ·rw [show (errC l c s k != 0)=true by rw [qba];exact b,qo b];rfl
namespace SR
variable {R:Type} (S:SR R)
theorem add_mul (a b c:R):S.mul (S.add a b) c=S.add (S.mul a c) (S.mul b c):=by rw [S.mul_comm,S.mul_add,S.mul_comm c,S.mul_comm c]
theorem mul_sum (c:R) (f:Nat->R):∀ n,S.mul c (S.sum f n)=S.sum (fun i=>S.mul c (f i)) n
 | 0=>S.mul_zero c
 | n+1=>by rw [sum,sum,S.mul_add,mul_sum c f n]
theorem sum_mul (c:R) (f:Nat->R):∀ n,S.mul (S.sum f n) c=S.sum (fun i=>S.mul (f i) c) n
 | 0=>S.zero_mul c
 | n+1=>by rw [sum,sum,S.add_mul,sum_mul c f n]
end SR
theorem kq8 {α β:Type} {f g:α->List β}:∀ (l:List α),(∀ x∈l,f x=g x)->l.flatMap f=l.flatMap g
 | [],_=>rfl
 | x::l,h=>by rw [List.flatMap_cons,List.flatMap_cons,h x (qu ..),kq8 l fun y hy=>h y (qh _ hy)]
def kf5 (V:Int->Nat->List Tm):List Int->Nat->List (List Tm)
 | [],n=>if n=0 then [[]] else []
 | a::ys,n=>(List.range (n+1)).flatMap fun k=>(V a k).flatMap fun t=>(kf5 V ys (n - k)).map (t::·)
def tabD (l:La):Nat->Int->Nat->List Tm
 | 0=>fun _ _=>[]
 | n+1=>fun s k=>if k=n+1 then (List.range l.rules.length).flatMap (fun i=>if kc4 l i=s then (kf5 (tabD l n) (kal l i) n).map (Tm.mk (i:Int)) else []) else tabD l n s k
def dl (l:La) (s:Int) (k:Nat):List Tm:=tabD l k s k
theorem k9i (l:La) (s:Int):∀ (n k:Nat),tabD l n s k=if k<=n then dl l s k else []
 | 0,k=>by
  by_cases h:k=0;subst h;rw [qo (by omega)];rfl
  ·rw [qi (by omega)];rfl
 | n+1,k=>by
  by_cases h:k=n+1;subst h;rw [qo (by omega)];rfl
  ·show (if k=n+1 then _ else tabD l n s k)=_;rw [qi h,k9i l s n k];by_cases a:k<=n;rw [qo a,qo (by omega)]
   ·rw [qi a,qi (by omega)]
theorem ktp {V V':Int->Nat->List Tm}:∀ (ys:List Int) (n:Nat),(∀ a k,k<=n->V a k=V' a k)->kf5 V ys n=kf5 V' ys n
 | [],n,_=>rfl
 | a::ys,n,h=>by rw [kf5,kf5];refine kq8 _ fun k hk=>?_;rw [qbk] at hk;rw [h a k (by omega),ktp ys (n - k) fun b j c=>h b j (by omega)]
theorem k9q (l:La) (s:Int):dl l s 0=[]:=rfl
theorem kakm (l:La) (s:Int) (n:Nat):dl l s (n+1)=(List.range l.rules.length).flatMap (fun i=>if kc4 l i=s then (kf5 (dl l) (kal l i) n).map (Tm.mk (i:Int)) else []):=by
 unfold dl;show (if n+1=n+1 then _ else _)=_;rw [qo rfl];refine kq8 _ fun i _=>?_;split;rw [ktp (kal l i) n fun a k hk=>by rw [k9i,qo hk]];rfl
 ·rfl
theorem mem_prodL {V:Int->Nat->List Tm} {a:Int} {ys:List Int} {n:Nat} {ts:List Tm}:ts∈kf5 V (a::ys) n↔∃ t us k,ts=t::us/\k<=n/\t∈V a k/\us∈kf5 V ys (n - k):=by
 rw [kf5];simp only [qa1,qbk,qas];constructor;rintro ⟨k,hk,t,ht,us,b,rfl⟩;exact ⟨t,us,k,rfl,by omega,ht,b⟩
 ·rintro ⟨t,us,k,rfl,hk,ht,b⟩;exact ⟨k,by omega,t,ht,us,b,rfl⟩
theorem mem_prodN {V:Int->Nat->List Tm} {n:Nat} {ts:List Tm}:ts∈kf5 V [] n↔ts=[]/\n=0:=by
 rw [kf5];split;rename_i h;simp [h]
 ·rename_i h;simp [h]
theorem mem_dl {l:La} {s:Int} {n:Nat} {t:Tm}:t∈dl l s n↔∃ (i:Nat) (ts:List Tm) (m:Nat),n=m+1/\i<l.rules.length/\kc4 l i=s/\t=Tm.mk (i:Int) ts/\ts∈kf5 (dl l) (kal l i) m:=by
 cases n with
 | zero=>rw [k9q];simp
 | succ m=>
  rw [kakm];simp only [qa1,qbk];constructor
  ·rintro ⟨i,hi,h⟩;split at h;rename_i hs;obtain ⟨ts,h1,rfl⟩:=qas.1 h;exact ⟨i,ts,m,rfl,hi,hs,rfl,h1⟩
   ·simp at h
  ·rintro ⟨i,ts,m',hm,hi,hs,rfl,h⟩;obtain rfl:m'=m:=(by omega);exact ⟨i,hi,by rw [qo hs];exact qas.2 ⟨ts,h,rfl⟩⟩
theorem koj {V:Int->Nat->List Tm}:∀ (ys:List Int) (n:Nat) (ts:List Tm),(∀ a k t,t∈V a k->t.size=k)->ts∈kf5 V ys n->Tm.sizeL ts=n/\ts.length=ys.length
 | [],n,ts,_,h=>by obtain ⟨rfl,rfl⟩:=mem_prodN.1 h;exact ⟨rfl,rfl⟩
 | a::ys,n,ts,b,h=>by obtain ⟨t,us,k,rfl,hk,ht,c⟩:=mem_prodL.1 h;obtain ⟨h1,d⟩:=koj ys (n - k) us b c;rw [Tm.sizeL,b a k t ht,h1,qy,qy,d];exact ⟨by omega,rfl⟩
theorem kt2 {l:La}:∀ (n:Nat) (s:Int) (t:Tm),t∈dl l s n->t.size=n:=by
 have key:∀ (N n:Nat),n<=N->∀ (s:Int) (t:Tm),t∈dl l s n->t.size=n:=by
  intro N
  induction N with
  | zero=>
   intro n hn s t h;obtain rfl:n=0:=(by omega);rw [k9q] at h;simp at h
  | succ N ih=>
   intro n hn s t h;obtain ⟨i,ts,m,rfl,hi,hs,rfl,hp⟩:=mem_dl.1 h;have b:ts∈kf5 (fun a k=>if k<=N then dl l a k else []) (kal l i) m:=(by rw [ktp (V':=dl l) (kal l i) m fun a k hk=>qo (by omega)];exact hp);have:=(koj _ m ts (fun a k t ht=>by
    split at ht;rename_i hk;exact ih k hk a t ht
    ·simp at ht) b).1
   rw [Tm.size,this]
 exact fun n=>key n n (qx _)
namespace SR
variable {R:Type} (S:SR R)
def lsum {α:Type} (f:α->R):List α->R
 | []=>S.zero
 | x::l=>S.add (f x) (lsum f l)
theorem lsum_append {α:Type} (f:α->R):∀ (xs ys:List α),S.lsum f (xs++ys)=S.add (S.lsum f xs) (S.lsum f ys)
 | [],ys=>(S.zero_add _).symm
 | x::xs,ys=>by rw [List.cons_append,lsum,lsum,lsum_append f xs ys,S.add_assoc]
theorem lsum_map {α β:Type} (f:β->R) (g:α->β):∀ xs:List α,S.lsum f (xs.map g)=S.lsum (fun x=>f (g x)) xs
 | []=>rfl
 | x::xs=>by rw [qa0,lsum,lsum,lsum_map f g xs]
theorem lsum_mul {α:Type} (c:R) (f:α->R):∀ xs:List α,S.lsum (fun x=>S.mul c (f x)) xs=S.mul c (S.lsum f xs)
 | []=>(S.mul_zero c).symm
 | x::xs=>by rw [lsum,lsum,lsum_mul c f xs,S.mul_add]
theorem lsum_mulr {α:Type} (c:R) (f:α->R):∀ xs:List α,S.lsum (fun x=>S.mul (f x) c) xs=S.mul (S.lsum f xs) c
 | []=>(S.zero_mul c).symm
 | x::xs=>by rw [lsum,lsum,lsum_mulr c f xs,S.add_mul]
theorem lsum_flat {α β:Type} (f:β->R) (g:α->List β):∀ xs:List α,S.lsum f (xs.flatMap g)=S.lsum (fun x=>S.lsum f (g x)) xs
 | []=>rfl
 | x::xs=>by rw [List.flatMap_cons,S.lsum_append,lsum,lsum_flat f g xs]
theorem lsum_congr {α:Type} {f g:α->R}:∀ (xs:List α),(∀ x∈xs,f x=g x)->S.lsum f xs=S.lsum g xs
 | [],_=>rfl
 | x::xs,h=>by rw [lsum,lsum,h x (qu ..),lsum_congr xs fun y hy=>h y (qh _ hy)]
theorem lsum_range (f:Nat->R):∀ n,S.lsum f (List.range n)=S.sum f n
 | 0=>rfl
 | n+1=>by rw [List.range_succ,S.lsum_append,lsum_range f n,lsum,lsum,S.add_zero,sum]
end SR
mutual
def wgT {R:Type} (S:SR R) (wt:Nat->R):Tm->R
 | .mk r ts=>S.mul (wt r.toNat) (wgL S wt ts)
def wgL {R:Type} (S:SR R) (wt:Nat->R):List Tm->R
 | []=>S.one
 | t::ts=>S.mul (wgT S wt t) (wgL S wt ts)
end
theorem k1g {R:Type} (S:SR R) (wt:Nat->R) {V:Int->Nat->List Tm} {U:Int->Nat->R}:∀ (ys:List Int) (n:Nat),(∀ a k,k<=n->S.lsum (wgT S wt) (V a k)=U a k)->S.lsum (wgL S wt) (kf5 V ys n)=S.rr U ys n
 | [],n,_=>by
  rw [kf5,SR.rr];split;rw [SR.lsum,SR.lsum,S.add_zero,wgL]
  ·rfl
 | a::ys,n,h=>by rw [kf5,SR.rr,S.lsum_flat,S.lsum_range];refine S.sum_congr _ fun k hk=>?_;rw [S.lsum_flat,<- k1g S wt ys (n - k) fun b j c=>h b j (by omega),<- h a k (by omega),<- S.lsum_mulr];refine S.lsum_congr _ fun t _=>?_;rw [S.lsum_map,<- S.lsum_mul];exact S.lsum_congr _ fun us _=>by rw [wgL]
theorem kwo {R:Type} (S:SR R) (wt:Nat->R) (l:La):∀ (n:Nat) (s:Int) (k:Nat),S.lsum (wgT S wt) (tabD l n s k)=S.tab l.rules.length (kc4 l) (kal l) wt n s k
 | 0,s,k=>rfl
 | n+1,s,k=>by
  show S.lsum (wgT S wt) (if k=n+1 then _ else tabD l n s k)=(if k=n+1 then _ else S.tab _ _ _ _ n s k);by_cases h:k=n+1
  ·rw [qo h,qo h,S.lsum_flat,S.lsum_range];refine S.sum_congr _ fun i hi=>?_;split
   ·rw [S.lsum_map,<- k1g S wt (kal l i) n fun a k _=>kwo S wt l n a k,<- S.lsum_mul];exact S.lsum_congr _ fun ts _=>by rw [wgT,qap]
   ·rfl
  ·rw [qi h,qi h];exact kwo S wt l n s k
theorem kaku {R:Type} (S:SR R) (wt:Nat->R) (l:La) (s:Int) (k:Nat):S.lsum (wgT S wt) (dl l s k)=S.val l.rules.length (kc4 l) (kal l) wt s k:=kwo S wt l k s k
theorem kaja (t:Tm):wgT NS (fun _=>1) t=1:=by
 induction t using Tm.ind with
 | h r l ih=>
  rw [wgT];have:wgL NS (fun _=>1) l=1:=by
   induction l with
   | nil=>rfl
   | cons x l ih2=>
    rw [wgL,ih x (qu ..),ih2 fun t ht=>ih t (qh _ ht)];rfl
  rw [this];rfl
theorem kam0 (l:La) (s:Int) (k:Nat):VN l s k=(dl l s k).length:=by
 have h:=kaku NS (fun _=>1) l s k;have key:∀ xs:List Tm,NS.lsum (wgT NS (fun _=>1)) xs=xs.length:=fun xs=>by
  induction xs with
  | nil=>rfl
  | cons x xs ih=>
   rw [SR.lsum,ih,kaja,qy];show 1+xs.length=_;omega
 rw [key] at h;exact h.symm
def NE (V:Int->Nat->List Tm) (xs:List Int) (n:Nat):Prop:=∃ ts,ts∈kf5 V xs n
theorem k3x {V:Int->Nat->List Tm} (a:Int):∀ (xs:List Int) (n:Nat),NE V (xs++[a]) n↔∃ i,i<=n/\NE V xs i/\∃ t,t∈V a (n - i)
 | [],n=>by
  constructor;rintro ⟨ts,h⟩;obtain ⟨t,us,k,rfl,hk,ht,b⟩:=mem_prodL.1 h;obtain ⟨rfl,h0⟩:=mem_prodN.1 b;obtain rfl:k=n:=(by omega);exact ⟨0,by omega,⟨[],mem_prodN.2 ⟨rfl,rfl⟩⟩,t,ht⟩
  ·rintro ⟨i,hi,⟨us,b⟩,t,ht⟩;obtain ⟨rfl,rfl⟩:=mem_prodN.1 b;exact ⟨[t],mem_prodL.2 ⟨t,[],n,rfl,qx _,ht,mem_prodN.2 ⟨rfl,by omega⟩⟩⟩
 | x::xs,n=>by
  constructor;rintro ⟨ts,h⟩;obtain ⟨t,us,k,rfl,hk,ht,b⟩:=mem_prodL.1 h;obtain ⟨i,hi,⟨vs,hv⟩,w,c⟩:=(k3x a xs (n - k)).1 ⟨us,b⟩;exact ⟨k+i,by omega,⟨t::vs,mem_prodL.2 ⟨t,vs,k,rfl,by omega,ht,by rw [show k+i - k=i by omega];exact hv⟩⟩,w,by rw [show n - (k+i)=n - k - i by omega];exact c⟩
  ·rintro ⟨i,hi,⟨us,b⟩,w,c⟩;obtain ⟨t,vs,k,rfl,hk,ht,hv⟩:=mem_prodL.1 b;obtain ⟨ts,d⟩:=(k3x a xs (n - k)).2 ⟨i - k,by omega,⟨vs,hv⟩,w,by rw [show n - k - (i - k)=n - i by omega];exact c⟩;exact ⟨t::ts,mem_prodL.2 ⟨t,ts,k,rfl,by omega,ht,d⟩⟩
def rbS (l:La) (xs:List Int) (n:Nat):Bool:=!(kf5 (dl l) xs n).isEmpty
def hasB (l:La) (s:Int) (n:Nat):Bool:=!(dl l s n).isEmpty
theorem isE {α:Type} {l:List α}:(!l.isEmpty)=true↔∃ x,x∈l:=by
 cases l with
 | nil=>simp
 | cons a l=>simp
theorem rbS_iff {l:La} {xs:List Int} {n:Nat}:rbS l xs n=true↔NE (dl l) xs n:=isE
theorem hasB_iff {l:La} {s:Int} {n:Nat}:hasB l s n=true↔∃ t,t∈dl l s n:=isE
theorem kud (l:La) (n:Nat):rbS l [] n=decide (n=0):=by rw [Bool.eq_iff_iff,rbS_iff,decide_eq_true_iff];exact ⟨fun ⟨ts,h⟩=>(mem_prodN.1 h).2,fun h=>⟨[],mem_prodN.2 ⟨rfl,h⟩⟩⟩
theorem kacx (l:La) (s:Int):hasB l s 0=false:=rfl
theorem kah5 (l:La) (xs:List Int) (a:Int) (n:Nat):rbS l (xs++[a]) n=true↔∃ i,i<n/\rbS l xs i=true/\hasB l a (n - i)=true:=by
 rw [rbS_iff,k3x];constructor
 ·rintro ⟨i,hi,h1,b⟩;have b:=hasB_iff.2 b;refine ⟨i,?_,rbS_iff.2 h1,b⟩;rcases qbb i n with h | h;exact h
  ·rw [show n - i=0 by omega,kacx] at b;cases b
 ·rintro ⟨i,hi,h1,b⟩;exact ⟨i,by omega,rbS_iff.1 h1,hasB_iff.1 b⟩
def rowB (n:Nat) (f:Nat->Bool):List Bool:=(List.range n).map f
theorem kkn {n:Nat} {f:Nat->Bool} {i:Nat} (h:i<n):(rowB n f)[i]?=some (f i):=by simp [rowB,h]
theorem kz1 {n:Nat} {f:Nat->Bool} {i:Nat} {b:Bool}:(rowB n f).set i b=rowB n fun j=>if j=i then b else f j:=by
 apply qbg;intro j;rw [List.getElem?_set];by_cases h:i=j
 ·subst h;by_cases hl:i<n;rw [kkn hl];simp [rowB,hl]
  ·simp [rowB,hl]
 ·rw [qi h];by_cases hl:j<n;rw [kkn hl,kkn hl,qi (Ne.symm h)]
  ·simp [rowB,hl]
theorem kji {n:Nat} {f g:Nat->Bool} (h:∀ i,i<n->f i=g i):rowB n f=rowB n g:=by unfold rowB;exact List.map_congr_left fun i hi=>h i (qbk.1 hi)
def HasT (l:La) (h:List (List Bool)) (n:Nat):Prop:=∀ s:Nat,s<l.symbols.length->∃ row,h[s]?=some row/\∀ k,1<=k->k<=n->row[k]?=some (hasB l (s:Int) k)
def upS (F:Nat->Bool) (l:La) (s:Int) (i m:Nat):Bool:=(List.range i).any fun j=>F j && (decide (j<m) && hasB l s (m - j))
theorem k7n (F:Nat->Bool) (l:La) (s:Int) (i m:Nat):upS F l s (i+1) m=(upS F l s i m || (F i && (decide (i<m) && hasB l s (m - i)))):=by unfold upS;rw [List.range_succ,List.any_append];simp
theorem kagn {l:La} {h:List (List Bool)} {n:Nat} (hn:n<=24) (k:HasT l h n) {s:Nat} (hs:s<l.symbols.length) (F:Nat->Bool) (z:List Bool) {i:Nat} (hi:i<=n):
  kab (kc9 ⟨l,h⟩ (n:Int) (s:Int) ((i:Int),z) (F i)) fuel (1,rowB (n+1) (upS F l (s:Int) i))=some (rowB (n+1) (upS F l (s:Int) (i+1))):=by
 cases d:F i with
 | false=>
  have e:rowB (n+1) (upS F l (s:Int) (i+1))=rowB (n+1) (upS F l (s:Int) i):=kji fun m _=>by rw [k7n,d];simp
  rw [e];refine kbs _ 0 (fun _=>(1,rowB (n+1) (upS F l (s:Int) i))) _ (fun j f=>absurd f (Nat.not_lt_zero _)) ?_;rfl
 | true=>
  obtain ⟨row,a,c⟩:=k s hs;have key:=kbs (kc9 ⟨l,h⟩ (n:Int) (s:Int) ((i:Int),z) true) (n - i) (fun j=>(((j+1:Nat):Int),rowB (n+1) fun m=>upS F l (s:Int) i m || (decide (i<m/\m<=i+j) && hasB l (s:Int) (m - i)))) (rowB (n+1) fun m=>upS F l (s:Int) i m || (decide (i<m/\m<=i+(n - i)) && hasB l (s:Int) (m - i))) (fun j f=>?_) ?_;have e0:rowB (n+1) (upS F l (s:Int) i)=rowB (n+1) fun m=>upS F l (s:Int) i m || (decide (i<m/\m<=i+0) && hasB l (s:Int) (m - i)):=kji fun m _=>(by rw [qf (by omega)];simp);have e1:rowB (n+1) (upS F l (s:Int) (i+1))=rowB (n+1) fun m=>upS F l (s:Int) i m || (decide (i<m/\m<=i+(n - i)) && hasB l (s:Int) (m - i)):=kji fun m hm=>(by rw [k7n,d,show decide (i<m/\m<=i+(n - i))=decide (i<m) from by rw [decide_eq_decide];omega];rfl);rw [e0,e1];exact key
  ·have e1:w64 ((i:Int)+((j+1:Nat):Int))=((i+j+1:Nat):Int):=(by rw [kc3];omega);have e2:w64 (((j+1:Nat):Int)+1)=((j+1+1:Nat):Int):=kaj _;unfold kc9;simp only [qe,qa];rw [e1,e2,qj (by omega),qe,kag,kkn (by omega),qa,kag,a];simp only [qa];rw [kag,c (j+1) (by omega) (by omega)];simp only [qa];rw [qap,kz1,kz1];have d0:decide (i<i+j+1/\i+j+1<=i+j)=false:=qf (by omega);rw [d0,Bool.false_and,Bool.or_false];have E:∀ b:Bool,b=(upS F l (s:Int) i (i+j+1) || hasB l (s:Int) (j+1))->(rowB (n+1) fun m=>if m=i+j+1 then b else upS F l (s:Int) i m || (decide (i<m/\m<=i+j) && hasB l (s:Int) (m - i)))=rowB (n+1) fun m=>upS F l (s:Int) i m || (decide (i<m/\m<=i+(j+1)) && hasB l (s:Int) (m - i)):=fun b o=>kji fun m _=>by
    by_cases hm:m=i+j+1;subst hm;rw [qo rfl,o,qj (by omega),Bool.true_and,show i+j+1 - i=j+1 by omega]
    ·rw [qi hm,show decide (i<m/\m<=i+(j+1))=decide (i<m/\m<=i+j) from by rw [decide_eq_decide];omega]
   cases g:upS F l (s:Int) i (i+j+1) with
   | true=>rw [qe,qa,E true (by rw [g];rfl)]
   | false=>rw [qd,qa,E _ (by rw [g];rfl)]
  ·have e1:w64 ((i:Int)+((n - i+1:Nat):Int))=((n+1:Nat):Int):=(by rw [kc3];omega);unfold kc9;simp only [qe,qa];rw [e1,qf (by omega),qd]
theorem kaj5 (F:Nat->Bool) (l:La) (s:Int) (k m:Nat):upS F l s k m=true↔∃ j,j<k/\F j=true/\j<m/\hasB l s (m - j)=true:=by unfold upS;simp [List.any_eq_true]
theorem k0e (n:Nat) (f:Nat->Bool):(rowB n f).length=n:=by simp [rowB]
theorem kaes {l:La} {h:List (List Bool)} {n:Nat} (hn:n<=24) (a:HasT l h n) {s:Nat} (hs:s<l.symbols.length) (F:Nat->Bool) (z:Int) {k:Nat} (hk:k<=n+1):
  kab (kel ⟨l,h⟩ (n:Int) (rowB k F,z) (s:Int)) fuel (0,List.replicate (n+1) false)=some (rowB (n+1) (upS F l (s:Int) k)):=by
 have e0:List.replicate (n+1) false=rowB (n+1) (upS F l (s:Int) 0):=by
  apply qbg;intro i;by_cases hi:i<n+1;rw [kkn hi];simp [hi,upS]
  ·simp [rowB,hi]
 rw [e0];refine kbs _ k (fun i=>((i:Int),rowB (n+1) (upS F l (s:Int) i))) _ (fun i hi=>?_) ?_;unfold kel;simp only;rw [k0e,kfq hi,qe,kag,kkn hi,qa,kagn hn a hs F _ (by omega),qa,kaj _]
 ·unfold kel;simp only;rw [k0e,kfm,qd]
theorem k0b {l:La} {h:List (List Bool)} {n:Nat} (hn:n<=24) (f:HasT l h n) {ss:List Int} (hs:inR l ss) (hl:ss.length<=1000000):kci ⟨l,h⟩ ss (n:Int)=some (rbS l ss n):=by
 have key:kab (kek ⟨l,h⟩ ss (n:Int)) fuel ([true],0)=some (rowB (if ss.length=0 then 1 else n+1) (rbS l ss)):=by
  have e0:([true]:List Bool)=rowB (if (0:Nat)=0 then 1 else n+1) (rbS l (ss.take 0)):=by simp [rowB,kud]
  rw [e0,show rbS l ss=rbS l (ss.take ss.length) by rw [List.take_length]];refine kbs _ ss.length (fun j=>(rowB (if j=0 then 1 else n+1) (rbS l (ss.take j)),(j:Int))) _ (fun j d=>?_) ?_
  ·obtain ⟨s,b⟩:∃ s,ss[j]?=some s:=⟨_,qb d⟩;obtain ⟨h0,h1⟩:=hs s (qn b);obtain ⟨m,rfl⟩:=qax h0;have ew:w64 ((n:Int)+1)=((n+1:Nat):Int):=kaj _;unfold kek;simp only;rw [kfq d,qe,kag,b,qa,ew,kxg _ _ _,qa,kaes hn f (by omega) _ _ (by split <;> omega),qa,kaj _,qi (Nat.succ_ne_zero j)];have e:rowB (n+1) (upS (rbS l (ss.take j)) l (m:Int) (if j=0 then 1 else n+1))=rowB (n+1) (rbS l (ss.take (j+1))):=kji fun i hi=>by
    have ht:ss.take (j+1)=ss.take j++[(m:Int)]:=(by rw [List.take_add_one,b];rfl);rw [ht,Bool.eq_iff_iff,kaj5,kah5];constructor;rintro ⟨k,_,a1,a2,a3⟩;exact ⟨k,a2,a1,a3⟩
    ·rintro ⟨k,a2,a1,a3⟩;refine ⟨k,?_,a1,a2,a3⟩;split;rename_i c;subst c;rw [List.take_zero,kud,decide_eq_true_iff] at a1;omega
     ·omega
   rw [e]
  ·unfold kek;simp only;rw [kfm,qd]
 unfold kci;rw [key,qa,k0e];cases ss with
 | nil=>
  rw [kud];by_cases h0:n=0;subst h0;rfl
  ·rw [show decide ((n:Int)<(((if ([]:List Int).length=0 then 1 else n+1):Nat):Int))=false from qf (by simp;omega),qd,qf h0];rfl
 | cons a ss=>
  rw [qi (by simp),qj (by omega),qe,kag,kkn (by omega)];rfl
theorem kaan {l:La} (b:kfj l) (h:List (List Bool)) {k:Nat} (hk:k<l.rules.length):kbo ⟨l,h⟩ (k:Int)=some (kal l k):=by
 obtain ⟨y,h1,_,a,c⟩:=klz l hk;unfold kbo;simp only;rw [kag,h1,qa];cases hc:y.kind == 3 with
 | true=>rw [qe,a]
 | false=>rw [qd,<- a,(b.good y c).noargs (by simpa using hc)]
def kyg (l:La) (j:Nat) (s:Int) (n:Nat):Bool:=(List.range j).any fun i=>decide (kc4 l i=s) && rbS l (kal l i) n
theorem kuw (l:La) (j:Nat) (s:Int) (n:Nat):kyg l (j+1) s n=(kyg l j s n || (decide (kc4 l j=s) && rbS l (kal l j) n)):=by unfold kyg;rw [List.range_succ,List.any_append];simp
theorem kabm (l:La) (s:Int) (n:Nat):hasB l s (n+1)=kyg l l.rules.length s n:=by
 rw [Bool.eq_iff_iff,hasB_iff];unfold kyg;rw [List.any_eq_true];constructor
 ·rintro ⟨t,ht⟩;obtain ⟨i,ts,m,e,hi,h1,rfl,b⟩:=mem_dl.1 ht;obtain rfl:n=m:=by omega
  exact ⟨i,qbk.2 hi,by rw [qj h1,Bool.true_and];exact rbS_iff.2 ⟨ts,b⟩⟩
 ·rintro ⟨i,hi,h⟩;rw [qp,decide_eq_true_iff] at h;obtain ⟨ts,a⟩:=rbS_iff.1 h.2;exact ⟨Tm.mk (i:Int) ts,mem_dl.2 ⟨i,ts,n,rfl,qbk.1 hi,h.1,rfl,a⟩⟩
def rowK (l:La) (K j:Nat) (s:Int) (k:Nat):Bool:=if k<K then hasB l s k else if k=K then kyg l j s (K - 1) else false
def tabK (l:La) (K j:Nat):List (List Bool):=(List.range l.symbols.length).map fun (s:Nat)=>rowB 25 (rowK l K j (s:Int))
theorem kow {l:La} {K j s:Nat} (h:s<l.symbols.length):(tabK l K j)[s]?=some (rowB 25 (rowK l K j (s:Int))):=by simp [tabK,h]
theorem k1t {l:La} {K j K' j':Nat} (h:∀ s k:Nat,s<l.symbols.length->k<25->rowK l K j (s:Int) k=rowK l K' j' (s:Int) k):tabK l K j=tabK l K' j':=by unfold tabK;exact List.map_congr_left fun s hs=>kji fun k hk=>h s k (qbk.1 hs) hk
theorem k74 (l:La) {K j n:Nat} (hn:n<K:=by omega) (hK:K<=25:=by omega):HasT l (tabK l K j) n:=fun s hs=>⟨_,kow hs,fun k h1 a=>by rw [kkn (by omega)];unfold rowK;rw [qo (by omega)]⟩
theorem kad1 (l:La) {K:Nat} (hK:1<=K):tabK l K l.rules.length=tabK l (K+1) 0:=k1t fun s k _ _=>by
 unfold rowK;by_cases h:k<K;rw [qo h,qo (by omega)]
 ·rw [qi h];by_cases a:k=K;subst a;obtain ⟨n,rfl⟩:∃ n,k=n+1:=⟨k - 1,by omega⟩;rw [qo rfl,qo (by omega),kabm];rfl
  ·rw [qi a,qi (by omega)];split;rfl
   ·rfl
theorem kabb {l:La} (d:kfj l) {K:Nat} (hK:1<=K) (m:K<=24):kab (kui l (K:Int)) fuel (0,tabK l K 0)=some (tabK l K l.rules.length):=by
 refine kbs _ l.rules.length (fun j=>((j:Int),tabK l K j)) _ (fun j e=>?_) ?_ (hn:=(by have:=d.rules;omega))
 ·obtain ⟨y,h1,n,g,o⟩:=klz l e;have hy:=d.good y o;obtain ⟨s,hs⟩:=qax hy.sym0;have hs1:s<l.symbols.length:=by have:=hy.sym1;omega
  have p:w64 ((K:Int) - 1)=((K - 1:Nat):Int):=by rw [kc3];omega
  have f:inR l (kal l j):=by rw [<- g];exact hy.args
  have b:(kal l j).length<=1000000:=by rw [<- g];have:=hy.few;omega
  unfold kui;simp only;rw [kfq e,qe,kag,h1,qa,kaan d _ e,qa,p,k0b (by omega) (k74 l) f b,qa,kaj _ (h:=(by have:=d.rules;omega))];have c:kc4 l j=(s:Int):=by rw [<- n,hs]
  cases h:rbS l (kal l j) (K - 1) with
  | false=>
   rw [qd,qa];congr 3;exact k1t fun s k _ _=>by unfold rowK;rw [kuw,h,Bool.and_false,Bool.or_false]
  | true=>
   rw [qe,hs,kag,kow hs1,qa,kag,kkn (by omega),qa,qa,qap,qap,kz1];congr 3;apply qbg;intro q;rw [List.getElem?_set];by_cases i:s=q
   ·subst i;rw [qo rfl,qo (by simp [tabK,hs1]),kow hs1];congr 1;refine kji fun k hk=>?_;unfold rowK;by_cases a:k=K;subst a;rw [qo rfl,qi (by omega),qo rfl,kuw,h,c];simp
    ·rw [qi a,qi a,qi a]
   ·rw [qi i];by_cases hl:q<l.symbols.length;rw [kow hl,kow hl];congr 1;refine kji fun k hk=>?_;unfold rowK;rw [kuw,c,qf (by omega),Bool.false_and,Bool.or_false]
    ·rw [qaq (by simp [tabK];omega),qaq (by simp [tabK];omega)]
 ·unfold kui;simp only;rw [kfm,qd]
def tabL (l:La):List (List Bool):=tabK l 25 0
theorem k7d (l:La) {n:Nat} (hn:n<=24):HasT l (tabL l) n:=k74 l
theorem kagi {l:La} (a:kfj l):kkc l=some ⟨l,tabL l⟩:=by
 have k1:kab (kt8 l) fuel (0,[])=some (List.replicate l.symbols.length openRow):=by
  refine kbs _ l.symbols.length (fun i=>((i:Int),List.replicate i openRow)) _ (fun i hi=>?_) ?_ (hn:=(by have:=a.sym16;omega));unfold kt8;simp only;have:=a.sym16;rw [kfq hi,qe,kfe (by simp;omega),qa,kaj _,<- List.replicate_succ']
  ·unfold kt8;simp only;rw [kfm,qd]
 have k2:List.replicate l.symbols.length openRow=tabK l 1 0:=by
  apply qbg;intro s;by_cases hs:s<l.symbols.length;rw [kow hs];simp only [List.getElem?_replicate,hs,if_true];congr 1
  ·rw [qaq (by simp;omega),qaq (by simp [tabK];omega)]
 have k3:kab (kyo l) fuel (1,tabK l 1 0)=some (tabL l):=by
  refine kbs _ 24 (fun i=>(((i+1:Nat):Int),tabK l (i+1) 0)) _ (fun i hi=>?_) ?_;unfold kyo;simp only;rw [qj (by omega),qe,kabb a (by omega) (by omega),qa,kad1 l (by omega),kaj _]
  ·rfl
 unfold kkc;rw [k1,qa,k2,k3];rfl
def kpb (i n:Nat) (ts:List Tm):List Tm:=Tm.mk (i:Int) (ts.take n)::ts.drop n
def enL (l:La):Nat->List Int->List (List Tm)
 | 0,ss=>if ss=[] then [[]] else []
 | _+1,[]=>[]
 | k+1,s::tl=>(plL l s l.rules.length).flatMap fun i=>(enL l k (kal l i++tl)).map (kpb i (kal l i).length)
theorem knq {V:Int->Nat->List Tm}:∀ (xs ys:List Int) (n:Nat) (ts:List Tm),ts∈kf5 V (xs++ys) n↔∃ us vs k,ts=us++vs/\k<=n/\us.length=xs.length/\us∈kf5 V xs k/\vs∈kf5 V ys (n - k)
 | [],ys,n,ts=>by
  constructor;intro h;exact ⟨[],ts,0,rfl,qaj _,rfl,mem_prodN.2 ⟨rfl,rfl⟩,h⟩
  ·rintro ⟨us,vs,k,rfl,hk,_,b,hv⟩;obtain ⟨rfl,rfl⟩:=mem_prodN.1 b;exact hv
 | x::xs,ys,n,ts=>by
  constructor;intro h;obtain ⟨t,us,k,rfl,hk,ht,b⟩:=mem_prodL.1 h;obtain ⟨us',vs,j,rfl,c,hl,a,hv⟩:=(knq xs ys (n - k) us).1 b;exact ⟨t::us',vs,k+j,rfl,by omega,by simp [hl],mem_prodL.2 ⟨t,us',k,rfl,by omega,ht,by rw [show k+j - k=j by omega];exact a⟩,by rw [show n - (k+j)=n - k - j by omega];exact hv⟩
  ·rintro ⟨us,vs,k,rfl,hk,hl,b,hv⟩;obtain ⟨t,us',j,rfl,c,ht,a⟩:=mem_prodL.1 b;exact mem_prodL.2 ⟨t,us'++vs,j,rfl,by omega,ht,(knq xs ys (n - j) _).2 ⟨us',vs,k - j,rfl,by omega,by simpa using hl,a,by rw [show n - j - (k - j)=n - k by omega];exact hv⟩⟩
theorem kre {l:La}:∀ (k:Nat) (ss:List Int) (ts:List Tm),ts∈enL l k ss↔ts∈kf5 (dl l) ss k
 | 0,[],ts=>by rw [mem_prodN];simp [enL]
 | 0,a::ss,ts=>by
  rw [mem_prodL];simp only [enL];rw [qi (by simp)];constructor;intro h;cases h
  ·rintro ⟨t,us,k,_,hk,ht,_⟩;obtain rfl:k=0:=(by omega);cases ht
 | k+1,[],ts=>by rw [mem_prodN];simp [enL]
 | k+1,s::tl,ts=>by
  simp only [enL,qa1,qas];constructor;rintro ⟨i,hi,us,b,rfl⟩;obtain ⟨h1,c⟩:=ko2 hi;obtain ⟨vs,ws,j,rfl,d,hl,hv,e⟩:=(knq _ _ _ _).1 ((kre k _ us).1 b);refine mem_prodL.2 ⟨Tm.mk (i:Int) vs,ws,j+1,?_,by omega,mem_dl.2 ⟨i,vs,j,rfl,h1,c,rfl,hv⟩,by rw [show k+1 - (j+1)=k - j by omega];exact e⟩;unfold kpb;rw [<- hl,List.take_left,List.drop_left]
  ·intro h;obtain ⟨t,us,j,rfl,d,ht,f⟩:=mem_prodL.1 h;obtain ⟨i,vs,m,rfl,hi,hs,rfl,hv⟩:=mem_dl.1 ht;have hl:=(koj _ _ _ (fun a k t h=>kt2 k a t h) hv).2;refine ⟨i,?_,vs++us,(kre k _ _).2 ((knq _ _ _ _).2 ⟨vs,us,m,rfl,by omega,hl,hv,by rw [show k - m=k+1 - (m+1) by omega];exact f⟩),?_⟩;unfold plL;rw [List.mem_filter];exact ⟨qbk.2 hi,by simp [hs]⟩
   ·unfold kpb;rw [<- hl,List.take_left,List.drop_left]
theorem kakx {l:La} {k:Nat} {ss:List Int} {ts:List Tm} (h:ts∈enL l k ss):ts.length=ss.length:=(koj _ _ _ (fun a k t h=>kt2 k a t h) ((kre k ss ts).1 h)).2
theorem kzn {σ α:Type} {f g:σ->α->Option σ}:∀ (xs:List α) (s:σ),(∀ x∈xs,∀ s,f s x=g s x)->xs.foldlM f s=xs.foldlM g s
 | [],s,_=>rfl
 | x::xs,s,h=>by rw [qbw,qbw,h x (qu ..)];congr 1;funext s';exact kzn xs s' fun y hy=>h y (qh _ hy)
theorem k4l {σ α β:Type} {f:σ->β->Option σ} {g:α->β}:∀ (xs:List α) (s:σ),(xs.map g).foldlM f s=xs.foldlM (fun s x=>f s (g x)) s
 | [],s=>rfl
 | x::xs,s=>by rw [qa0,qbw,qbw];congr 1;funext s';exact k4l xs s'
theorem kamn {α:Type} (xs:List α) {n:Nat} (h:n<=xs.length):cut3 xs 0 (n:Int) (n:Int)=some (xs.take n):=by unfold cut3;rw [qo (by omega)];simp
theorem kag0 {α:Type} (xs:List α) {n:Nat} (h:n<=xs.length):cutL xs (n:Int) (xs.length:Int)=some (xs.drop n):=by unfold cutL;rw [qo (by omega)];simp
theorem kaf7 {σ:Type} (step:σ->List Tm->Option σ) (i:Nat) (own:List Int) (s:σ) (ts:List Tm) (h:own.length<=ts.length) (a:ts.length<=1000000):ksl step (i:Int) own s ts=step s (kpb i own.length ts):=by unfold ksl;rw [kamn ts h,qa,kag0 ts h,qa,kfe (by simp;omega),qa];rfl
theorem k95 {l:La} {ss:List Int} {k:Nat} (h:rbS l ss k=true):ss.length<=k:=by
 obtain ⟨ts,b⟩:=rbS_iff.1 h;obtain ⟨h1,c⟩:=koj _ _ _ (fun a k t h=>kt2 k a t h) b;have:∀ us:List Tm,us.length<=Tm.sizeL us:=fun us=>by
  induction us with
  | nil=>exact qaj _
  | cons t us ih=>rw [Tm.sizeL];have:=t.size_pos;simp only [qy];omega
 have:=this ts;omega
theorem kahy {l:La} (r:kfj l):∀ (k n:Nat) (ss:List Int) {σ:Type} (step:σ->List Tm->Option σ) (s s':σ),k<n->k<=24->inR l ss->ss.length<=1000->(enL l k ss).foldlM step s=some s'->kmy ⟨l,tabL l⟩ n ss (k:Int) step s=some s':=by
 intro k
 induction k with
 | zero=>
  intro n ss σ step s s' hn hk c f h;obtain ⟨n,rfl⟩:∃ m,n=m+1:=⟨n - 1,by omega⟩;show kri (kmy ⟨l,tabL l⟩ n) ⟨l,tabL l⟩ ss ((0:Nat):Int) step s=some s';unfold kri;rw [k0b (by omega) (k7d l (by omega)) c (by omega),qa];cases ss with
  | nil=>
   rw [kud,qj rfl];simp only [enL,if_true,qbw,List.foldlM_nil] at h;simp only [qbo,qd,qbn];exact h
  | cons a ss=>
   have:rbS l (a::ss) 0=false:=by
    cases e:rbS l (a::ss) 0 with
    | false=>rfl
    | true=>have:=k95 e;simp at this
   rw [this,Bool.not_false,qe];simp only [enL] at h;rw [qi (by simp)] at h;exact h
 | succ k ih=>
  intro n ss σ step s s' hn hk c f h;obtain ⟨n,rfl⟩:∃ m,n=m+1:=⟨n - 1,by omega⟩;show kri (kmy ⟨l,tabL l⟩ n) ⟨l,tabL l⟩ ss ((k+1:Nat):Int) step s=some s';unfold kri;rw [k0b hk (k7d l hk) c (by omega),qa];cases e:rbS l ss (k+1) with
  | false=>
   have v:enL l (k+1) ss=[]:=(by rw [List.eq_nil_iff_forall_not_mem];intro ts d;have:=rbS_iff.2 ⟨ts,(kre _ _ _).1 d⟩;rw [e] at this;cases this);rw [v] at h;exact h
  | true=>
   have t:=k95 e;rw [qbo,qd];cases ss with
   | nil=>rw [kud] at e;simp at e
   | cons a tl=>
    rw [show (((a::tl).length:Int) == 0)=false by simp;omega,qd];rw [show idx (a::tl) 0=some a from rfl,qa,kah8 l a (by have:=r.rules;omega),qa];have w:(plL l a l.rules.length).length<=96:=qav (k3w _ _ _) r.rules;obtain ⟨b,u,rfl⟩:=k3d (step:=kur (kmy ⟨l,tabL l⟩ n) ⟨l,tabL l⟩ (a::tl) ((k+1:Nat):Int) ((plL l a l.rules.length).map natI) step) (plL l a l.rules.length).length (by omega)
     (fun i x=>x.1=(i:Int)/\(((plL l a l.rules.length).drop i).flatMap fun i=>(enL l k (kal l i++tl)).map (kpb i (kal l i).length)).foldlM step x.2=some s') (fun b=>b=s')
     (fun i x hi hx=>by obtain ⟨j,x⟩:=x;obtain ⟨e1,e2⟩:=hx;simp only at e1 e2;subst e1;obtain ⟨p,hp⟩:∃ p,(plL l a l.rules.length)[i]?=some p:=⟨_,qb hi⟩;have hd:(plL l a l.rules.length).drop i=p::(plL l a l.rules.length).drop (i+1):=(by rw [qan hi,<- qw ((qb hi).symm.trans hp)]);rw [hd,List.flatMap_cons,List.foldlM_append] at e2;obtain ⟨x1,q1,q2⟩:=ql.1 e2;obtain ⟨g,A⟩:=ko2 (qn hp);obtain ⟨y,g1,g2,g3,g4⟩:=klz l g;have hy:=r.good y g4;have B:(kal l p).length<=5:=(by rw [<- g3];exact hy.few);have o:inR l (kal l p++tl):=fun z q=>(qau.1 q).elim (fun q=>hy.args z (g3 ▸ q)) fun q=>c z (qh _ q);have C:tl.length<=k:=(by simpa using t);have D:w64 (((k+1:Nat):Int) - 1)=(k:Int):=(by rw [kc3];omega);rw [k4l] at q1;have q3:(enL l k (kal l p++tl)).foldlM (ksl step (p:Int) (kal l p)) x=some x1:=(by rw [<- q1];refine kzn _ _ fun ts d s=>?_;have:=kakx d;rw [qah] at this;exact kaf7 step p _ s ts (by omega) (by omega));refine ⟨(((i+1:Nat):Int),x1),?_,rfl,q2⟩;unfold kur;simp only;rw [qaa,kfq hi,qe,kag,qq,hp,qa6,qa];show Option.bind (kbo ⟨l,tabL l⟩ (p:Int)) _=_;rw [kaan r _ g,qa,kfe (by simp;omega),qa,kld,qa,List.nil_append,kfe (by omega),qa];show Option.bind (kmy ⟨l,tabL l⟩ n (kal l p++tl) (w64 (((k+1:Nat):Int) - 1)) (ksl step (p:Int) (kal l p)) x) _=_;rw [D,ih n _ _ _ _ (by omega) (by omega) o (by rw [qah];omega) q3,qa,kaj _])
     (fun x hx=>by obtain ⟨j,x⟩:=x;obtain ⟨e1,e2⟩:=hx;simp only at e1 e2;subst e1;rw [List.drop_length] at e2;refine ⟨x,?_,qw e2⟩;unfold kur;simp only;rw [qaa,kfm,qd]) (0,s) ⟨rfl,by rw [List.drop_zero];exact h⟩
    rw [u,qa]
theorem kac3 {i n:Nat} {ts us:List Tm} (h:kpb i n ts=kpb i n us):ts=us:=by unfold kpb at h;injection h with h1 a;injection h1 with _ h1;rw [<- List.take_append_drop n ts,<- List.take_append_drop n us,h1,a]
theorem kadv (l:La) (s:Int) (n:Nat):(plL l s n).Nodup:=List.Pairwise.filter _ List.nodup_range
theorem k40 (l:La):∀ (k:Nat) (ss:List Int),(enL l k ss).Nodup
 | 0,ss=>by simp only [enL];split <;> simp
 | k+1,[]=>by simp [enL]
 | k+1,s::tl=>by
  simp only [enL];unfold List.Nodup;rw [List.pairwise_flatMap];refine ⟨fun i hi=>?_,?_⟩;rw [List.pairwise_map];exact (k40 l k _).imp fun h e=>h (kac3 e)
  ·refine (kadv l s _).imp fun h x hx y hy e=>?_;obtain ⟨ts,_,rfl⟩:=qas.1 hx;obtain ⟨us,_,rfl⟩:=qas.1 hy;unfold kpb at e;injection e with e1 _;injection e1 with e1 _;exact h (by omega)
def enT (l:La) (s:Int) (k:Nat):List Tm:=(enL l k [s]).map fun ts=>ts.headD (Tm.mk 0 [])
theorem kx0 {l:La} {s:Int} {k:Nat} {ts:List Tm} (h:ts∈enL l k [s]):∃ t,ts=[t]/\t∈dl l s k:=by
 obtain ⟨t,us,j,rfl,b,ht,a⟩:=mem_prodL.1 ((kre _ _ _).1 h);obtain ⟨rfl,h0⟩:=mem_prodN.1 a;obtain rfl:j=k:=by omega
 exact ⟨t,rfl,ht⟩
theorem enT_mem {l:La} {s:Int} {k:Nat} {t:Tm}:t∈enT l s k↔t∈dl l s k:=by
 unfold enT;rw [qas];constructor;rintro ⟨ts,a,rfl⟩;obtain ⟨u,rfl,b⟩:=kx0 a;exact b
 ·intro h;exact ⟨[t],(kre _ _ _).2 (mem_prodL.2 ⟨t,[],k,rfl,qx _,h,mem_prodN.2 ⟨rfl,by omega⟩⟩),rfl⟩
theorem kadl (l:La) (s:Int) (k:Nat):(enT l s k).Nodup:=by unfold enT List.Nodup;rw [List.pairwise_map];refine (k40 l k [s]).imp_of_mem fun {ts us} h1 a h e=>h ?_;obtain ⟨t,rfl,_⟩:=kx0 h1;obtain ⟨u,rfl,_⟩:=kx0 a;exact congrArg (fun x=>[x]) e
theorem k1o {α:Type}:∀ (xs ys:List α),xs.Nodup->(∀ x∈xs,x∈ys)->xs.length<=ys.length
 | [],ys,_,_=>qaj _
 | x::xs,ys,hn,hs=>by
  unfold List.Nodup at hn;rw [List.pairwise_cons] at hn;obtain ⟨us,bs,rfl⟩:=List.append_of_mem (hs x (qu ..));have:=k1o xs (us++bs) hn.2 fun y hy=>by
   have:=hs y (qh _ hy);rw [qau,qac] at this;rw [qau];rcases this with h | h | h;exact .inl h;exact absurd h.symm (hn.1 y hy)
   ·exact .inr h
  simp only [qah,qy] at this ⊢;omega
theorem kalm (l:La) (s:Int) (k:Nat):(enT l s k).length<=VN l s k:=by rw [kam0];exact k1o _ _ (kadl l s k) fun t h=>enT_mem.1 h
theorem k8o:∀ (n:Nat) (t:Tm),t.size<=n->t.size<=1000->kgj n t=some t
 | 0,t,h,_=>by have:=t.size_pos;omega
 | n+1,t,h,d=>by show kh5 (kgj n) t=_;unfold kh5;have a:=args_len t;have hl:=kvd (khq t (kgj n)) t.args id [] (fun i x hx=>by have hi:=kho hx;have b:=kdd (qn hx);have c:=List.length_take_le i t.args;simp only [khq,kg5 hi,qe,kag,hx,qa];rw [k8o n x (by omega) (by omega),qa,kfe (by simp only [qah,qaa,qbn,qaz];omega),qa,kaj _];rfl) (by simp only [khq,kf1,qd]);rw [show ((0:Int),([]:List Tm))=(0,[]) from rfl,hl,qa,List.map_id,List.nil_append];cases t;rfl
theorem kagd (s:List Tm) (t:Tm) (h:s.length<=1000000):kq4 s t=some (s++[t]):=by unfold kq4;rw [kfe (by simp;omega),qa,kag,qae (qx _),qbs];simp
theorem k63 {l:La} {s:Int} {k:Nat} (hk:k<=24):∀ (xs:List (List Tm)) (acc:List Tm),(∀ ts∈xs,ts∈enL l k [s])->acc.length+xs.length<=1000000->xs.foldlM (kse kq4) acc=some (acc++xs.map fun ts=>ts.headD (Tm.mk 0 []))
 | [],acc,_,_=>by simp
 | x::xs,acc,h,hl=>by
  obtain ⟨t,rfl,ht⟩:=kx0 (h x (qu ..));simp only [qy] at hl;have b:=kt2 k s t ht;rw [qbw];have e:kse kq4 acc [t]=some (acc++[t]):=by unfold kse;rw [show idx [t] 0=some t from rfl,qa,k8o fuel t (qbd (ka7 (by omega))) (by omega),qa,kagd _ _ (by omega)]
  rw [e];show List.foldlM (kse kq4) (acc++[t]) xs=_;rw [k63 hk xs _ (fun ts a=>h ts (qh _ a)) (by simp;omega)];simp
theorem kaff {l:La} (c:kfj l) (hc:kbw l=some 0) {s k:Nat} (hs:s<l.symbols.length) (g:1<=k) (hk:k<=24) (hv:VN l (s:Int) k<=4096):kk6 l (s:Int) (k:Int)=some (enT l (s:Int) k,0):=by
 have f:=kalm l (s:Int) k;have a:errC l 0 (s:Int) (k:Int)=0:=by unfold errC badQ;rw [qf (by omega),qf (by omega)];simp;omega
 have d:en (VN l (s:Int) k)=(VN l (s:Int) k:Int):=by unfold en;omega
 have b:kif l (s:Int) (k:Int)=some ((VN l (s:Int) k:Int),0):=by rw [kab0 c hc,a,qi (by simp),qap];unfold ansC;rw [d,qi (by omega)]
 unfold kk6;rw [kagi c,qa];unfold kr0;rw [b,qa];simp only;rw [show ((0:Int) != 0)=false from rfl,qd,qf (by omega),qd];cases h0:((VN l (s:Int) k:Int) == 0) with
 | true=>
  have:VN l (s:Int) k=0:=by simpa using h0
  have:enT l (s:Int) k=[]:=qa5 (by omega);rw [qe,this]
 | false=>
  rw [qd,qa];have i:(enL l k [(s:Int)]).length=(enT l (s:Int) k).length:=by simp [enT]
  have j:=k63 (l:=l) (s:=(s:Int)) hk (enL l k [(s:Int)]) [] (fun ts h=>h) (by simp;omega);have e:inR l [(s:Int)]:=fun y hy=>by obtain rfl:=qa2.1 hy;omega
  unfold k04;rw [show kgi ⟨l,tabL l⟩ (s:Int) (k:Int)=some () from rfl,qa,show kev ⟨l,tabL l⟩ [(s:Int)] (k:Int)=some () from rfl,qa,kahy c k fuel _ _ _ _ (ka7 (by omega)) hk e (by simp) j];rfl
theorem kzf {α β:Type} {x:Option α} {f g:α->Option β} (h:∀ v,x=some v->f v=g v):Option.bind x f=Option.bind x g:=by
 cases x with
 | none=>rfl
 | some v=>exact h v rfl
theorem kafl {α:Type} {c:Bool} {x y z:α} (h:x=y):(bif c then x else z)=bif c then y else z:=by rw [h]
theorem k5d:∀ n,kl3 n=ka4 n
 | 0=>rfl
 | n+1=>by show koi (kl3 n)=kck (ka4 n);rw [k5d n];rfl
theorem k45 {l:La} {d:Saa} (hd:d.yb.length<=1000) {s:Int} {x:Dk} (b:kym l d.yb s x):∀ n,ke1 n d x=kb0 n d x:=by
 induction b with
 | hole hx hk ht=>
  rename_i s x k h;intro n;cases n with
  | zero=>rfl
  | succ n=>
   have a:=kho hk;show kgp (ke1 n) d x=kbz (kb0 n) d x;unfold kgp kbz;rw [qj (show 0<x.hole by omega),qe,qe,qa,qj (show x.hole<=(d.yb.length:Int) by omega),qe];have e:∀ h,kkk h=kdu h:=fun h=>(by funext v;unfold kkk kdu;rw [k5d]);refine kzf fun h _=>?_;rw [e h]
 | node hx hr hk ht hl ha ih=>
  rename_i s x k r;intro n;cases n with
  | zero=>rfl
  | succ n=>
   show kgp (ke1 n) d x=kbz (kb0 n) d x;unfold kgp kbz;rw [qf (show ¬ 0<x.hole by omega),qd,qd,qa,qd];have e:kko d x (ke1 n)=kdr d x (kb0 n):=(by funext v;unfold kko kdr;refine kafl (kzf fun y hy=>?_);obtain ⟨i0,hi⟩:=kvm hy;have a:=kho hi;rw [ih v.2.toNat y _ hi (qb (by omega)) n]);rw [e]
def upT (l:La) (s:Int) (n:Nat):List Tm:=(List.range n).flatMap fun i=>enT l s (i+1)
theorem kzz (l:La) (s:Int) (n:Nat):upT l s (n+1)=upT l s n++enT l s (n+1):=by unfold upT;rw [List.range_succ,List.flatMap_append];simp
theorem kwr (l:La) (s:Int) (n:Nat):totC l s (n+1)=totC l s n+VN l s (n+1):=rfl
theorem k92 (l:La) (s:Int) {i n:Nat} (h:i<=n):totC l s i<=totC l s n:=kzv _ h
theorem upT_mem {l:La} {s:Int} {n:Nat} {t:Tm}:t∈upT l s n↔t.size<=n/\t∈dl l s t.size:=by
 unfold upT;rw [qa1];constructor;rintro ⟨i,hi,h⟩;have h:=enT_mem.1 h;have hs:=kt2 _ s t h;rw [qbk] at hi;exact ⟨by omega,by rw [hs];exact h⟩
 ·rintro ⟨h1,a⟩;have:=t.size_pos;exact ⟨t.size - 1,qbk.2 (by omega),enT_mem.2 (by rw [show t.size - 1+1=t.size by omega];exact a)⟩
end Go.Proofs.YtjpkdegjcilndaaGreatDoor
