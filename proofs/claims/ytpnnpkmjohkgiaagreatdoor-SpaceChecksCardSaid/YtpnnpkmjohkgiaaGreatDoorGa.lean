import Derived.Test.YtpnnpkmjohkgiaaGreatDoorVd
set_option linter.all false
namespace Go.Proofs.YtpnnpkmjohkgiaaGreatDoor
open Go Go.RowKit
def badP (c:Int) (z:Bool):Option Bool:=(Option.bind ((bif (decide (97<=(ior .u8 c 32))) then (some (decide ((ior .u8 c 32)<=122))) else (some (false))):Option (Bool)) fun (v6:Bool)=>((bif (!v6) then (bif z then (some (true)) else (bif (c != 45) then (bif (decide (c<48)) then (some (true)) else (some (decide (57<c)))) else (some (false)))) else (some (false))):Option (Bool)))
def badR (c:Int) (z:Bool):Option Bool:=(Option.bind ((bif (decide (97<=c)) then (bif (decide (c<=122)) then (some (true)) else (bif (decide (65<=c)) then (some (decide (c<=90))) else (some (false)))) else (bif (decide (65<=c)) then (some (decide (c<=90))) else (some (false)))):Option (Bool)) fun (v9:Bool)=>((bif (!v9) then (bif z then (some (true)) else (bif (c != 45) then (bif (decide (c<48)) then (some (true)) else (some (decide (57<c)))) else (some (false)))) else (some (false))):Option (Bool)))
set_option maxRecDepth 100000 in
theorem k5z:(List.range 256).all (fun k=>[true,false].all fun z=>(badP (k:Int) z == badR (k:Int) z) && (badP (k:Int) z).isSome)=true:=by kernel_rfl
theorem k1u (c:UInt8) (z:Bool):∃ b,badP (c.toNat:Int) z=some b/\badR (c.toNat:Int) z=some b:=by
 have h:=qo.1 k5z c.toNat (List.mem_range.2 (UInt8.toNat_lt c));have a:=qo.1 h z (by cases z <;> simp);simp only [qp,beq_iff_eq] at a;obtain ⟨e,d⟩:=a;cases hp:badP (c.toNat:Int) z with
 | none=>rw [hp] at d;cases d
 | some b=>exact ⟨b,rfl,by rw [<- e,hp]⟩
theorem kp5 (s:BA) (hs:s.size<=9223372036854775807):∃ b,kfm s=some b/\kdk s=some b:=by
 have h:=kh5 s;obtain ⟨r,r',h1,j,rfl,a⟩:=kgw (step:=kdq s) (step':=kb7 s) s.size (by omega) (fun i=>(i:Int)) (fun i=>(i:Int)) (fun r r'=>r=r'/\(r = .inl ()\/r = .inr false)) (fun i hi=>by
  have c:i<s.data.toList.length:=by rw [<- kh5];exact hi
  have e1:byt s (i:Int)=some (s.data.toList[i].toNat:Int):=by rw [ko5,qa c];rfl
  have b1:decide ((i:Int)<(s.size:Int))=true:=qk (by omega);obtain ⟨b,p1,p2⟩:=k1u s.data.toList[i] ((i:Int) == 0);unfold badP at p1;unfold badR at p2;have q1:kdq s (i:Int)=bif b then some (.inr (.inr false)) else some (.inl (w64 ((i:Int)+1))):=by simp only [kdq,b1,qd,e1,qb];rw [<- Option.bind_assoc,p1,qb]
  have q2:kb7 s (i:Int)=bif b then some (.inr (.inr false)) else some (.inl (w64 ((i:Int)+1))):=by simp only [kb7,b1,qd,e1,qb];rw [<- Option.bind_assoc,p2,qb]
  rw [q1,q2,kch (n:=i) (by omega)];cases b with
  | true=>exact .inr ⟨_,_,rfl,rfl,rfl, .inr rfl⟩
  | false=>exact .inl ⟨rfl,rfl⟩) (by
  have b1:decide ((s.size:Int)<(s.size:Int))=false:=qi (by omega);simp only [kdq,kb7,b1,qe];exact ⟨_,_,rfl,rfl,rfl, .inl rfl⟩)
 have d:kac (kdq s) fuel 0=some r:=by simpa using h1
 have e:kac (kb7 s) fuel 0=some r:=by simpa using j
 unfold kfm kdk;rw [d,e];simp only [qb];by_cases f:(s.size:Int)<1;rw [qk f,qi (show ¬ (1:Int)<=(s.size:Int) by omega)];rcases a with rfl | rfl <;> exact ⟨false,rfl,rfl⟩
 ·rw [qi f,qk (show (1:Int)<=(s.size:Int) by omega)];by_cases g:(24:Int)<(s.size:Int);rw [qk g,qi (show ¬ (s.size:Int)<=24 by omega)];rcases a with rfl | rfl <;> exact ⟨false,rfl,rfl⟩
  ·rw [qi g,qk (show (s.size:Int)<=24 by omega)];rcases a with rfl | rfl;exact ⟨true,rfl,rfl⟩
   ·exact ⟨false,rfl,rfl⟩
def tyB (t:Int):Bool:=decide (1<=t) && decide (t<=8)
theorem kpn (t:Int):kfl t=some (tyB t):=by unfold kfl tyB;cases decide (1<=t) <;> rfl
theorem krt (t:Int):kdz t=some (tyB t):=kpn t
theorem kuy (l:La) (h:l.inputs.length<=9223372036854775807):∃ r,kac (kei l) fuel 0=some r/\kac (kct l) fuel 0=some r/\∀ e,r = .inr e->e≠0:=by
 obtain ⟨r,r',h1,a,rfl,b⟩:=kgw (step:=kei l) (step':=kct l) l.inputs.length (by omega) (fun i=>(i:Int)) (fun i=>(i:Int)) (fun r r'=>r=r'/\∀ e,r = .inr e->e≠0) (fun i hi=>by
  have e1:l.inputs[i]?=some l.inputs[i]:=qa hi;have b1:decide ((i:Int)<(l.inputs.length:Int))=true:=qk (by omega);simp only [kei,kct,b1,qd,kaj,e1,qb,kpn,krt,kch (n:=i) (by omega)];cases tyB l.inputs[i] with
  | true=>exact .inl ⟨rfl,rfl⟩
  | false=>exact .inr ⟨_,_,rfl,rfl,rfl,fun e h=>by cases h;decide⟩) (by
  have b1:decide ((l.inputs.length:Int)<(l.inputs.length:Int))=false:=qi (by omega);simp only [kei,kct,b1,qe];exact ⟨_,_,rfl,rfl,rfl,fun e h=>by cases h⟩)
 exact ⟨r,by simpa using h1,by simpa using a,b⟩
theorem kiz {α:Type} (s:BA):∀ (m:List (BA×α)) (i:Nat),kes s m i=(kes s m 0).map fun p=>(p.1+i,p.2)
 | [],i=>rfl
 | (k,v)::l,i=>by
  simp only [kes];cases s.toList == k.toList with
  | true=>simp
  | false=>
   simp only [qe];rw [kiz s l (i+1),kiz s l (0+1),Option.map_map];congr 1;funext p;simp only [Function.comp,qm,and_true];omega
theorem ki7 {α:Type} (k s:BA) (v z:α) (l:List (BA×α)):mget ((k,v)::l) s z=bif s.toList == k.toList then v else mget l s z:=by
 unfold mget;simp only [kes];cases s.toList == k.toList with
 | true=>rfl
 | false=>
  simp only [qe];rw [kiz];cases kes s l 0 <;> rfl
theorem kyj {α:Type} (k s:BA) (v y:α) (l:List (BA×α)):mput ((k,v)::l) s y=bif s.toList == k.toList then (s,y)::l else (k,v)::mput l s y:=by
 unfold mput;simp only [kes];cases s.toList == k.toList with
 | true=>rfl
 | false=>
  simp only [qe];rw [kiz];cases kes s l 0 <;> rfl
theorem kw0 {a b c:BA} (h:(a.toList == b.toList)=true):(c.toList == a.toList)=(c.toList == b.toList):=by rw [beq_iff_eq] at h;rw [h]
theorem kr6 {α:Type} (k s:BA) (y z:α):∀ m:List (BA×α),mget (mput m k y) s z=bif s.toList == k.toList then y else mget m s z
 | []=>by show mget [(k,y)] s z=_;rw [ki7]
 | (k',v)::l=>by
  rw [kyj];cases h:k.toList == k'.toList with
  | true=>
   simp only [qd];rw [ki7,ki7,kw0 (c:=s) h];cases s.toList == k'.toList <;> rfl
  | false=>
   simp only [qe];rw [ki7,ki7,kr6 k s y z l];cases h1:s.toList == k'.toList with
   | false=>rfl
   | true=>
    cases a:s.toList == k.toList with
    | false=>rfl
    | true=>
     rw [beq_iff_eq] at h1 a;rw [<- h1,<- a] at h;simp at h
def mOf (xs:List Sy):List (BA×Bool):=xs.foldl (fun m x=>mput m x.name true) []
theorem k03 (xs:List Sy) (x:Sy):mOf (xs++[x])=mput (mOf xs) x.name true:=by unfold mOf;rw [List.foldl_append];rfl
theorem kry (s:BA):∀ (xs:List Sy) (m:List (BA×Bool)),mget (xs.foldl (fun m x=>mput m x.name true) m) s false=(mget m s false || xs.any fun x=>s.toList == x.name.toList)
 | [],m=>by simp
 | x::xs,m=>by rw [List.foldl_cons,kry s xs,kr6,List.any_cons];cases s.toList == x.name.toList <;> simp
theorem k26 (s:BA) (xs:List Sy):mget (mOf xs) s false=xs.any fun x=>s.toList == x.name.toList:=by unfold mOf;rw [kry];rfl
theorem k58 (l:La) (i:Nat) (hi:i<l.symbols.length) (hl:l.symbols.length<=9223372036854775807):kac (kcq l (i:Int)) fuel 0=some (if ((l.symbols.take i).any fun x=>l.symbols[i].name.toList == x.name.toList)=true then .inr 6 else .inl ()):=by
 have c:(l.symbols.take i).length=i:=by rw [qam];omega
 have:=kgb (step:=kcq l (i:Int)) i (by omega) (fun j=>(j:Int)) (fun j=>if (((l.symbols.take i).drop j).any fun x=>l.symbols[i].name.toList == x.name.toList)=true then .inr 6 else .inl ()) (fun j d=>by
  have e0:l.symbols[i]?=some l.symbols[i]:=qa hi;have a:j<l.symbols.length:=by omega
  have e1:l.symbols[j]?=some l.symbols[j]:=qa a;have b1:decide ((j:Int)<(i:Int))=true:=qk (by omega);have b:(l.symbols.take i).drop j=l.symbols[j]::(l.symbols.take i).drop (j+1):=by rw [qak (by omega)];congr 1;exact List.getElem_take
  have hc:(l.symbols[j].name.toList == l.symbols[i].name.toList)=(l.symbols[i].name.toList == l.symbols[j].name.toList):=by rw [Bool.eq_iff_iff,beq_iff_eq,beq_iff_eq];exact eq_comm
  simp only [kcq,b1,qd,kaj,e0,e1,qb,b,List.any_cons,kch (n:=j) (by omega),hc];cases e:l.symbols[i].name.toList == l.symbols[j].name.toList with
  | true=>exact .inr rfl
  | false=>exact .inl ⟨rfl,rfl⟩) (by
  have b1:decide ((i:Int)<(i:Int))=false:=qi (by omega);have b:(l.symbols.take i).drop i=[]:=qa5 (by omega);simp only [kcq,b1,qe,b,List.any_nil];rfl)
 simpa using this
theorem ktw (l:La) (h:l.symbols.length<=9223372036854775807) (hs:∀ x∈l.symbols,x.name.size<=9223372036854775807):∃ r,kac (kel l) fuel (0,[])=some r/\kac (kcu l) fuel 0=some r/\∀ e,r = .inr e->e≠0:=by
 obtain ⟨r,r',h1,c,rfl,d⟩:=kgw (step:=kel l) (step':=kcu l) l.symbols.length (by omega) (fun i=>((i:Int),mOf (l.symbols.take i))) (fun i=>(i:Int)) (fun r r'=>r=r'/\∀ e,r = .inr e->e≠0) (fun i hi=>by
  have e1:l.symbols[i]?=some l.symbols[i]:=qa hi;have b1:decide ((i:Int)<(l.symbols.length:Int))=true:=qk (by omega);obtain ⟨b,n1,n2⟩:=kp5 l.symbols[i].name (hs _ (qs hi));have f:=k58 l i hi h;have hm:=k26 l.symbols[i].name (l.symbols.take i);have a:mput (mOf (l.symbols.take i)) l.symbols[i].name true=mOf (l.symbols.take (i+1)):=by rw [List.take_add_one,e1,<- k03];rfl
  simp only [kel,kcu,b1,qd,kaj,e1,qb,n1,n2,f,hm,kpn,krt,kch (n:=i) (by omega),a];cases b with
  | false=>exact .inr ⟨_,_,rfl,rfl,rfl,fun e h=>by cases h;decide⟩
  | true=>
   simp only [qa9,qe];cases g:(l.symbols.take i).any fun x=>l.symbols[i].name.toList == x.name.toList with
   | true=>exact .inr ⟨_,_,rfl,rfl,rfl,fun e h=>by cases h;decide⟩
   | false=>
    cases tyB l.symbols[i].type with
    | true=>exact .inl ⟨rfl,rfl⟩
    | false=>exact .inr ⟨_,_,rfl,rfl,rfl,fun e h=>by cases h;decide⟩) (by
  have b1:decide ((l.symbols.length:Int)<(l.symbols.length:Int))=false:=qi (by omega);simp only [kel,kcu,b1,qe];exact ⟨_,_,rfl,rfl,rfl,fun e h=>by cases h⟩)
 exact ⟨r,by simpa [mOf] using h1,by simpa using c,d⟩
set_option maxRecDepth 100000
def opL:List Saf:=operator_catalog.getD []
theorem kxz:operator_catalog.isSome=true:=by kernel_rfl
theorem k8e:operator_catalog=some opL:=by
 have h:=kxz;unfold opL
 revert h
 generalize operator_catalog=x;intro h;cases x with
 | none=>cases h
 | some x=>rfl
def refFs:List BA:=synthesisref09_families.getD []
theorem k2m:synthesisref09_families=some refFs:=rfl
def catL (f:BA):List Sae:=(kbr f).getD []
theorem k2p:refFs.all (fun f=>(kbr f).isSome)=true:=by kernel_rfl
theorem k53 {f:BA} (a:f∈refFs):kbr f=some (catL f):=by
 have h:=qo.1 k2p f a;unfold catL
 revert h
 generalize kbr f=x;intro h;cases x with
 | none=>cases h
 | some x=>rfl
def opNames:List BA:=opL.map fun e=>e.f_Operator.f_Name
theorem kxk:(refFs.flatMap fun f=>(catL f).map fun x=>x.f_0)=opNames:=by kernel_rfl
def eqOp:Option (Sab×Bool)->Option (Sab×Bool)->Bool
 | some (a,b),some (c,d)=>(a.f_Name.toList == c.f_Name.toList) && (a.f_Args == c.f_Args) && (a.f_Result == c.f_Result) && (b == d)
 | _,_=>false
theorem k6m {x y:Option (Sab×Bool)} (h:eqOp x y=true):∃ r,x=some r/\y=some r:=by
 unfold eqOp at h;split at h
 ·rename_i a b c d;simp only [qp,beq_iff_eq] at h;obtain ⟨⟨⟨h1,e⟩,f⟩,rfl⟩:=h;obtain ⟨n,l,t⟩:=a;obtain ⟨n',l',t'⟩:=c;simp only at h1 e f;have h1:n=n':=by have:(n.toList == n'.toList)=true:=(by simpa using h1);rw [kgg,MapKept.bytes_beq] at this;exact this
  subst h1 e f;exact ⟨_,rfl,rfl⟩
 ·cases h
theorem kz9:opNames.all (fun n=>eqOp (ke6 n) (kby n))=true:=by kernel_rfl
def kyn:Sab:=Sab.mk ⟨#[]⟩ [] 0
theorem kvb:opL.length<1000:=of_decide_eq_true (by kernel_rfl)
theorem krp:refFs.length<1000:=of_decide_eq_true (by kernel_rfl)
theorem kty:refFs.all (fun f=>decide ((catL f).length<1000))=true:=by kernel_rfl
theorem kuj {f:BA} (a:f∈refFs):(catL f).length<1000:=of_decide_eq_true (qo.1 kty f a)
theorem kr0 (s:BA) (c:¬ s∈opNames):ke6 s=some (kyn,false)/\kby s=some (kyn,false):=by
 refine ⟨?_,?_⟩
 ·have hl:=kmc (step:=kej s opL) opL.length (by have:=kvb;omega) (fun i=>(i:Int)) (.inl ()) (fun i hi=>by
   have e1:opL[i]?=some opL[i]:=qa hi;have b1:decide ((i:Int)<(opL.length:Int))=true:=qk (by omega);have a:(opL[i].f_Operator.f_Name.toList == s.toList)=false:=by
    cases d:opL[i].f_Operator.f_Name.toList == s.toList with
    | false=>rfl
    | true=>
     rw [kgg,MapKept.bytes_beq] at d;exact absurd (qau.2 ⟨opL[i],qs hi,d⟩) c
   simp only [kej,b1,qd,kaj,e1,qb,a,qe,kch (n:=i) (by have:=kvb;omega)]) (by
   have b1:decide ((opL.length:Int)<(opL.length:Int))=false:=qi (by omega);simp only [kej,b1,qe])
  have b:kac (kej s opL) fuel 0=some (.inl ()):=by simpa using hl
  simp only [ke6,khs,k8e,qb,b,qf];rfl
 ·have hl:=kmc (step:=kcm s refFs) refFs.length (by have:=krp;omega) (fun i=>(i:Int)) (.inl ()) (fun i hi=>by
   have e1:refFs[i]?=some refFs[i]:=qa hi;have f:refFs[i]∈refFs:=qs hi;have b1:decide ((i:Int)<(refFs.length:Int))=true:=qk (by omega);have g:=kmc (step:=kci s refFs[i] (catL refFs[i])) (catL refFs[i]).length (by have:=kuj f;omega) (fun i=>(i:Int)) (.inl ()) (fun j h=>by
    have e2:(catL refFs[i])[j]?=some (catL refFs[i])[j]:=qa h;have b2:decide ((j:Int)<((catL refFs[i]).length:Int))=true:=qk (by omega);have a:((catL refFs[i])[j].f_0.toList == s.toList)=false:=by
     cases d:(catL refFs[i])[j].f_0.toList == s.toList with
     | false=>rfl
     | true=>
      rw [kgg,MapKept.bytes_beq] at d;refine absurd ?_ c;rw [<- kxk];exact List.mem_flatMap.2 ⟨refFs[i],f,qau.2 ⟨_,qs h,d⟩⟩
    simp only [kci,b2,qd,kaj,e2,qb,a,qe,kch (n:=j) (by have:=kuj f;omega)]) (by
    have b2:decide (((catL refFs[i]).length:Int)<((catL refFs[i]).length:Int))=false:=qi (by omega);simp only [kci,b2,qe])
   have e:kac (kci s refFs[i] (catL refFs[i])) fuel 0=some (.inl ()):=(by simpa using g);simp only [kcm,b1,qd,kaj,e1,qb,k53 f,e,qf,kch (n:=i) (by have:=krp;omega)]) (by
   have b1:decide ((refFs.length:Int)<(refFs.length:Int))=false:=qi (by omega);simp only [kcm,b1,qe])
  have b:kac (kcm s refFs) fuel 0=some (.inl ()):=by simpa using hl
  simp only [kby,ke1,k2m,qb,b,qf,beq_self_eq_true,qd];rfl
theorem kyp (s:BA):∃ r,ke6 s=some r/\kby s=some r:=by
 by_cases a:s∈opNames;exact k6m (qo.1 kz9 s a)
 ·exact ⟨_,kr0 s a⟩
theorem kn7 {α:Type} {xs:List α} {i:Int} (h0:0<=i) (h1:i<(xs.length:Int)):∃ x,idx xs i=some x/\x∈xs:=by
 have h:i.toNat<xs.length:=by omega
 refine ⟨xs[i.toNat],?_,qs h⟩;unfold idx;rw [qq h0,qa h]
theorem kzy (x y:List Int):kef x y=kbp x y:=rfl
theorem kyx (x y:List Int) (e:x.length<=9223372036854775807):∃ c,kbp x y=some c:=by
 unfold kbp;by_cases hl:(x.length:Int)=(y.length:Int)
 ·obtain ⟨r,h1,_⟩:=kh3 (step:=kbk x y) (step':=kbk x y) x.length (by omega) (fun i=>(i:Int)) (fun i hi=>by
   have e1:x[i]?=some x[i]:=qa hi;have a:i<y.length:=(by omega);have e2:y[i]?=some y[i]:=qa a;have b1:decide ((i:Int)<(x.length:Int))=true:=qk (by omega);simp only [kbk,b1,qd,kaj,e1,e2,qb,kch (n:=i) (by omega)];cases x[i] != y[i] with
   | true=>exact .inr ⟨_,rfl,rfl⟩
   | false=>exact .inl ⟨rfl,rfl⟩) (.inl ()) (by
   have b1:decide ((x.length:Int)<(x.length:Int))=false:=qi (by omega);simp only [kbk,b1,qe]) (by
   have b1:decide ((x.length:Int)<(x.length:Int))=false:=qi (by omega);simp only [kbk,b1,qe])
  have d:kac (kbk x y) fuel 0=some r:=by simpa using h1
  rw [d,show ((x.length:Int) != (y.length:Int))=false by rw [qbc];omega];cases r with
  | inl u=>exact ⟨true,rfl⟩
  | inr b=>exact ⟨b,rfl⟩
 ·rw [show ((x.length:Int) != (y.length:Int))=true by rw [bne_iff_ne];omega];exact ⟨false,rfl⟩
theorem ko7 (x:List Int):kbp x []=some ((x.length:Int) == 0):=by
 cases x with
 | nil=>kernel_rfl
 | cons a x=>
  unfold kbp;have h1:((((a::x).length:Nat):Int) != (([]:List Int).length:Int))=true:=by rw [bne_iff_ne,List.length_cons,List.length_nil];omega
  have b:((((a::x).length:Nat):Int) == 0)=false:=by rw [qar,List.length_cons];omega
  rw [h1,b];rfl
def fineR (r:Ru):Prop:=r.args.length<=9223372036854775807/\okV r.const/\klz r.const
theorem ksn {a b:Ru} (ha:fineR a) (d:fineR b):∃ c,kcx a b=some c/\kde a b=some c:=by obtain ⟨c,hc⟩:=kyx a.args b.args ha.1;unfold kcx kde;simp only [kzy,hc,qb,klx ha.2.1 d.2.1,ktq ha.2.1 d.2.1];cases a.symbol == b.symbol <;> cases a.kind == b.kind <;> cases a.input == b.input <;> cases a.op.toList == b.op.toList <;> cases c <;> exact ⟨_,rfl,rfl⟩
theorem k79 (v:Va):Va.mk v.type v.num v.text v.items=v:=by cases v;rfl
def kd8:Va:=Va.mk 0 0 ⟨#[]⟩ []
theorem kpk:okV kd8:=by refine ⟨?_,?_,trivial⟩ <;> simp [kd8,depV,kld]
theorem k0g (l:La) (r:Ru) (o:Sab×Bool) (hr:r.args.length<=9223372036854775807) (hl:r.args.length=o.1.f_Args.length):∃ c,kac (ke3 l r o) fuel 0=some c/\kac (kav l r o) fuel 0=some c:=by
 obtain ⟨c,h1,b⟩:=kh3 (step:=ke3 l r o) (step':=kav l r o) r.args.length (by omega) (fun i=>(i:Int)) (fun i hi=>by
  have e1:r.args[i]?=some r.args[i]:=qa hi;have a:i<o.1.f_Args.length:=by omega
  have e2:o.1.f_Args[i]?=some o.1.f_Args[i]:=qa a;have b1:decide ((i:Int)<(r.args.length:Int))=true:=qk (by omega);simp only [ke3,kav,ke8,b1,qd,kaj,e1,e2,qb,kch (n:=i) (by omega)];by_cases h0:0<=r.args[i]
  ·by_cases h1:r.args[i]<(l.symbols.length:Int)
   ·obtain ⟨x,d,_⟩:=kn7 h0 h1;rw [qk h0,qk h1,qi (show ¬ r.args[i]<0 by omega),qi (show ¬ (l.symbols.length:Int)<=r.args[i] by omega)];simp only [qd,qe,qb,qa9,d];cases x.type != o.1.f_Args[i] with
    | true=>exact .inr ⟨_,rfl,rfl⟩
    | false=>exact .inl ⟨rfl,rfl⟩
   ·rw [qk h0,qi h1,qi (show ¬ r.args[i]<0 by omega),qk (show (l.symbols.length:Int)<=r.args[i] by omega)];exact .inr ⟨_,rfl,rfl⟩
  ·rw [qi h0,qk (show r.args[i]<0 by omega)];exact .inr ⟨_,rfl,rfl⟩) (.inl ()) (by
  have b1:decide ((r.args.length:Int)<(r.args.length:Int))=false:=qi (by omega);simp only [ke3,b1,qe]) (by
  have b1:decide ((r.args.length:Int)<(r.args.length:Int))=false:=qi (by omega);simp only [kav,b1,qe])
 exact ⟨c,by simpa using h1,by simpa using b⟩
theorem kyu (a b:Int):(a != b)=(b != a):=by rw [Bool.eq_iff_iff,bne_iff_ne,bne_iff_ne];exact ⟨fun h e=>h e.symm,fun h e=>h e.symm⟩
theorem k2f (l:La) (r:Ru) (ha:r.args.length<=9223372036854775807) (b:kbn r.const (Va.mk 0 0 ⟨#[]⟩ [])=some (eqV r.const kd8)) (hp:kdx r.const (Va.mk 0 0 ⟨#[]⟩ [])=some (eqV r.const kd8)) (hc:∃ c,kax fuel r.const=some c/\kal fuel r.const=some c):∃ c,kf6 l r=some c/\kce l r=some c:=by
 have a:kdx (Va.mk r.const.type r.const.num r.const.text r.const.items) (Va.mk 0 0 ⟨#[]⟩ [])=some (eqV r.const kd8):=by rw [k79];exact hp
 have d:kdx (Va.mk 0 0 ⟨#[]⟩ []) (Va.mk 0 0 ⟨#[]⟩ [])=some true:=by have:=klx kpk kpk;rw [k0z] at this;exact this
 unfold kf6 kce ke8;by_cases h0:0<=r.symbol
 rotate_left
 rw [qi h0,qk (show r.symbol<0 by omega)];exact ⟨1,rfl,rfl⟩;by_cases h1:r.symbol<(l.symbols.length:Int)
 rotate_left
 rw [qk h0,qi h1,qi (show ¬ r.symbol<0 by omega),qk (show (l.symbols.length:Int)<=r.symbol by omega)];exact ⟨1,rfl,rfl⟩;obtain ⟨x,f,_⟩:=kn7 h0 h1;rw [qk h0,qk h1,qi (show ¬ r.symbol<0 by omega),qi (show ¬ (l.symbols.length:Int)<=r.symbol by omega)];simp only [qd,qe,qb,qa9];by_cases k1:r.kind<1;rw [qk k1];exact ⟨4,rfl,rfl⟩;by_cases k3:3<r.kind;rw [qi k1,qk k3];exact ⟨4,rfl,rfl⟩;rw [qi k1,qi k3];simp only [qe,qb,f];have hk:r.kind=1\/r.kind=2\/r.kind=3:=by omega
 rcases hk with hk | hk | hk
 ·have c1:(r.kind == 1)=true:=by rw [hk];rfl
  simp only [c1,qd,qb,kcx,kc0,beq_self_eq_true,ko7,a,b];have fin:∃ c,(Option.bind ((bif (decide (r.input<0)) then (some (true)) else (some (decide ((List.length l.inputs:Int)<=r.input)))):Option (Bool)) fun (v9:Bool)=>(bif v9 then (some 1) else (Option.bind (idx l.inputs r.input) fun v10=>(Option.bind (kd0 (v10) (x.type)) fun v11=>(some v11)))))=some c /\
    (Option.bind ((bif (decide (r.input<0)) then (some (true)) else (some (decide ((List.length l.inputs:Int)<=r.input)))):Option (Bool)) fun (v8:Bool)=>(bif v8 then (some 1) else (Option.bind (idx l.inputs r.input) fun v9=>(bif (v9 != x.type) then (some 3) else (some 0)))))=some (c:Int):=by
   by_cases i0:r.input<0;rw [qk i0];exact ⟨1,rfl,rfl⟩;by_cases i1:(l.inputs.length:Int)<=r.input;rw [qi i0,qk i1];exact ⟨1,rfl,rfl⟩;obtain ⟨y,hy,_⟩:=kn7 (xs:=l.inputs) (i:=r.input) (by omega) (by omega);rw [qi i0,qi i1];simp only [qe,qb,hy,kd0];cases y != x.type <;> exact ⟨_,rfl,rfl⟩
  obtain ⟨c,f1,f2⟩:=fin;cases r.op.toList == (⟨#[]⟩:BA).toList <;> cases (r.args.length:Int) == 0 <;> cases eqV r.const kd8 <;> first | exact ⟨4,rfl,rfl⟩ | exact ⟨c,f1,f2⟩
 ·have c1:(r.kind == 1)=false:=by rw [hk];rfl
  have c2:(r.kind == 2)=true:=by rw [hk];rfl
  simp only [c1,c2,qd,qe,qb,kcx,kc0,beq_self_eq_true,ko7,d,b];obtain ⟨c,f1,f2⟩:=hc;simp only [f1,f2,qb,kd0];cases r.input == 0 <;> cases r.op.toList == (⟨#[]⟩:BA).toList <;> cases (r.args.length:Int) == 0 <;> first | exact ⟨4,rfl,rfl⟩ | skip
  cases c != 0 with
  | true=>exact ⟨c,rfl,rfl⟩
  | false=>cases r.const.type != x.type <;> exact ⟨_,rfl,rfl⟩
 ·have c1:(r.kind == 1)=false:=by rw [hk];rfl
  have c2:(r.kind == 2)=false:=by rw [hk];rfl
  have c3:(r.kind == 3)=true:=by rw [hk];rfl
  have en:kbp [] []=some true:=ko7 [];simp only [c1,c2,c3,qd,qe,qb,kcx,kc0,beq_self_eq_true,en,a,b];obtain ⟨o,f1,f2⟩:=kyp r.op;simp only [kcj,f1,f2,qb,kd0];cases r.input == 0 <;> cases eqV r.const kd8 <;> first | exact ⟨4,rfl,rfl⟩ | skip
  simp only [qa9,Bool.not_false,qd,qe,qb];cases o.2 with
  | false=>exact ⟨5,rfl,rfl⟩
  | true=>
   simp only [qa9,qe];by_cases hl:r.args.length=o.1.f_Args.length
   ·rw [show ((r.args.length:Int) != (o.1.f_Args.length:Int))=false by rw [qbc];omega];obtain ⟨c,g1,g2⟩:=k0g l r o ha hl;simp only [qe,g1,g2,qb,f];cases c with
    | inl u=>
     simp only [qf,qb];rw [kyu];cases x.type != o.1.f_Result <;> exact ⟨_,rfl,rfl⟩
    | inr e=>exact ⟨e,rfl,rfl⟩
   ·rw [show ((r.args.length:Int) != (o.1.f_Args.length:Int))=true by rw [bne_iff_ne];omega];exact ⟨2,rfl,rfl⟩
theorem kms {σ β:Type} {step:σ->Option (σ ⊕ β)} (n:Nat) (S:Nat->σ) (b0:β) (hs:∀ i,i<n->step (S i)=some (.inl (S (i+1)))\/∃ b,step (S i)=some (.inr b)/\b≠b0):
  ∀ (k i:Nat),kac step k (S i)=some b0->∀ j,i<=j->j<n->step (S j)=some (.inl (S (j+1)))
 | 0,i,h=>by cases h
 | k+1,i,h=>fun j a c=>by
  rw [kac] at h;rcases hs i (by omega) with h1 | ⟨b,h1,d⟩
  ·rw [h1] at h;by_cases e:i=j;subst e;exact h1
   ·exact kms n S b0 hs k (i+1) h j (by omega) c
  ·rw [h1] at h;injection h with h;exact absurd h d
theorem ks8 {α:Type} (xs:List α) (i:Nat) (hi:i<=xs.length):cutL xs 0 (i:Int)=some (xs.take i):=by unfold cutL;rw [qq (by omega)];simp
theorem k2u (l:La) (i:Nat) (hi:i<l.rules.length) (hl:l.rules.length<=9223372036854775807) (hr:∀ j (g:j<l.rules.length),j<=i->fineR l.rules[j]):∃ b,ka9 (l.rules.take i) l.rules[i]=some b/\kac (kb0 l (i:Int)) fuel 0=some (if b=true then .inr 6 else .inl ()):=by
 have a:(l.rules.take i).length=i:=by rw [qam];omega
 obtain ⟨r,r',h1,h,k⟩:=kgw (step:=ka3 (l.rules.take i) l.rules[i]) (step':=kb0 l (i:Int)) i (by omega) (fun j=>(j:Int)) (fun j=>(j:Int))
  (fun r r'=>(r = .inl ()/\r' = .inl ())\/∃ j:Nat,r = .inr (j:Int)/\r' = .inr 6) (fun j g=>by
  have e0:l.rules[i]?=some l.rules[i]:=qa hi;have d:j<l.rules.length:=by omega
  have e1:l.rules[j]?=some l.rules[j]:=qa d;have e2:(l.rules.take i)[j]?=some l.rules[j]:=by rw [List.getElem?_take_of_lt g,e1]
  have b1:decide ((j:Int)<(i:Int))=true:=qk (by omega);have b2:decide ((j:Int)<((l.rules.take i).length:Int))=true:=by rw [a];exact b1
  obtain ⟨c,c1,c2⟩:=ksn (hr j d (by omega)) (hr i hi (qy _));simp only [ka3,kb0,kf2,b1,b2,qd,kaj,e0,e1,e2,qb,c1,c2,kch (n:=j) (by omega)];cases c with
  | true=>exact .inr ⟨_,_,rfl,rfl, .inr ⟨j,rfl,rfl⟩⟩
  | false=>exact .inl ⟨rfl,rfl⟩) (by
  have b1:decide ((i:Int)<(i:Int))=false:=qi (by omega);have b2:decide ((i:Int)<((l.rules.take i).length:Int))=false:=by rw [a];exact b1
  simp only [ka3,kb0,b1,b2,qe];exact ⟨_,_,rfl,rfl, .inl ⟨rfl,rfl⟩⟩)
 have e:kac (ka3 (l.rules.take i) l.rules[i]) fuel 0=some r:=by simpa using h1
 have f:kac (kb0 l (i:Int)) fuel 0=some r':=by simpa using h
 unfold ka9 kb6;rw [e,f];rcases k with ⟨rfl,rfl⟩ | ⟨j,rfl,rfl⟩;exact ⟨false,rfl,rfl⟩
 ·refine ⟨true,?_,rfl⟩;simp only [qb,qj];exact congrArg some (qk (by omega))
end Go.Proofs.YtpnnpkmjohkgiaaGreatDoor
