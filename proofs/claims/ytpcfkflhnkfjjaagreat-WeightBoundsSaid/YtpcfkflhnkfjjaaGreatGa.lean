import Derived.Test.YtpcfkflhnkfjjaaGreatVd
set_option linter.all false
namespace Go.Proofs.YtpcfkflhnkfjjaaGreat
open Go Go.RowKit
def badP (c:Int) (z:Bool):Option Bool:=(Option.bind ((bif (decide (97<=(ior .u8 c 32))) then (some (decide ((ior .u8 c 32)<=122))) else (some (false))):Option (Bool)) fun (v6:Bool)=>((bif (!v6) then (bif z then (some (true)) else (bif (c != 45) then (bif (decide (c<48)) then (some (true)) else (some (decide (57<c)))) else (some (false)))) else (some (false))):Option (Bool)))
def badR (c:Int) (z:Bool):Option Bool:=(Option.bind ((bif (decide (97<=c)) then (bif (decide (c<=122)) then (some (true)) else (bif (decide (65<=c)) then (some (decide (c<=90))) else (some (false)))) else (bif (decide (65<=c)) then (some (decide (c<=90))) else (some (false)))):Option (Bool)) fun (v9:Bool)=>((bif (!v9) then (bif z then (some (true)) else (bif (c != 45) then (bif (decide (c<48)) then (some (true)) else (some (decide (57<c)))) else (some (false)))) else (some (false))):Option (Bool)))
set_option maxRecDepth 100000 in
theorem k94:(List.range 256).all (fun k=>[true,false].all fun z=>(badP (k:Int) z == badR (k:Int) z) && (badP (k:Int) z).isSome)=true:=by kernel_rfl
theorem k6c (c:UInt8) (z:Bool):∃ b,badP (c.toNat:Int) z=some b/\badR (c.toNat:Int) z=some b:=by
 have h:=qr.1 k94 c.toNat (List.mem_range.2 (UInt8.toNat_lt c));have a:=qr.1 h z (by cases z <;> simp);simp only [qy,beq_iff_eq] at a;obtain ⟨e,d⟩:=a;cases hp:badP (c.toNat:Int) z with
 | none=>rw [hp] at d;cases d
 | some b=>exact ⟨b,rfl,by rw [<- e,hp]⟩
theorem ku6 (s:BA) (hs:s.size<=9223372036854775807):∃ b,khx s=some b/\ke7 s=some b:=by
 have h:=kku s;obtain ⟨r,r',h1,j,rfl,a⟩:=kjg (step:=kfi s) (step':=kcm s) s.size (by omega) (fun i=>(i:Int)) (fun i=>(i:Int)) (fun r r'=>r=r'/\(r = .inl ()\/r = .inr false)) (fun i hi=>by
  have c:i<s.data.toList.length:=by rw [<- kku];exact hi
  have e1:byt s (i:Int)=some (s.data.toList[i].toNat:Int):=by rw [ktu,qb c];rfl
  have b1:decide ((i:Int)<(s.size:Int))=true:=qh (by omega);obtain ⟨b,p1,p2⟩:=k6c s.data.toList[i] ((i:Int) == 0);unfold badP at p1;unfold badR at p2;have q1:kfi s (i:Int)=bif b then some (.inr (.inr false)) else some (.inl (w64 ((i:Int)+1))):=by simp only [kfi,b1,qf,e1,qa];rw [<- Option.bind_assoc,p1,qa]
  have q2:kcm s (i:Int)=bif b then some (.inr (.inr false)) else some (.inl (w64 ((i:Int)+1))):=by simp only [kcm,b1,qf,e1,qa];rw [<- Option.bind_assoc,p2,qa]
  rw [q1,q2,kcv (n:=i) (by omega)];cases b with
  | true=>exact .inr ⟨_,_,rfl,rfl,rfl, .inr rfl⟩
  | false=>exact .inl ⟨rfl,rfl⟩) (by
  have b1:decide ((s.size:Int)<(s.size:Int))=false:=qe (by omega);simp only [kfi,kcm,b1,qc];exact ⟨_,_,rfl,rfl,rfl, .inl rfl⟩)
 have d:kab (kfi s) fuel 0=some r:=by simpa using h1
 have e:kab (kcm s) fuel 0=some r:=by simpa using j
 unfold khx ke7;rw [d,e];simp only [qa];by_cases f:(s.size:Int)<1;rw [qh f,qe (show ¬ (1:Int)<=(s.size:Int) by omega)];rcases a with rfl | rfl <;> exact ⟨false,rfl,rfl⟩
 ·rw [qe f,qh (show (1:Int)<=(s.size:Int) by omega)];by_cases g:(24:Int)<(s.size:Int);rw [qh g,qe (show ¬ (s.size:Int)<=24 by omega)];rcases a with rfl | rfl <;> exact ⟨false,rfl,rfl⟩
  ·rw [qe g,qh (show (s.size:Int)<=24 by omega)];rcases a with rfl | rfl;exact ⟨true,rfl,rfl⟩
   ·exact ⟨false,rfl,rfl⟩
def tyB (t:Int):Bool:=decide (1<=t) && decide (t<=8)
theorem kui (t:Int):khw t=some (tyB t):=by unfold khw tyB;cases decide (1<=t) <;> rfl
theorem kwv (t:Int):kfu t=some (tyB t):=kui t
theorem kz6 (l:La) (h:l.inputs.length<=9223372036854775807):∃ r,kab (kgf l) fuel 0=some r/\kab (kdg l) fuel 0=some r/\∀ e,r = .inr e->e≠0:=by
 obtain ⟨r,r',h1,a,rfl,b⟩:=kjg (step:=kgf l) (step':=kdg l) l.inputs.length (by omega) (fun i=>(i:Int)) (fun i=>(i:Int)) (fun r r'=>r=r'/\∀ e,r = .inr e->e≠0) (fun i hi=>by
  have e1:l.inputs[i]?=some l.inputs[i]:=qb hi;have b1:decide ((i:Int)<(l.inputs.length:Int))=true:=qh (by omega);simp only [kgf,kdg,b1,qf,kaf,e1,qa,kui,kwv,kcv (n:=i) (by omega)];cases tyB l.inputs[i] with
  | true=>exact .inl ⟨rfl,rfl⟩
  | false=>exact .inr ⟨_,_,rfl,rfl,rfl,fun e h=>by cases h;decide⟩) (by
  have b1:decide ((l.inputs.length:Int)<(l.inputs.length:Int))=false:=qe (by omega);simp only [kgf,kdg,b1,qc];exact ⟨_,_,rfl,rfl,rfl,fun e h=>by cases h⟩)
 exact ⟨r,by simpa using h1,by simpa using a,b⟩
theorem kl3 {α:Type} (s:BA):∀ (m:List (BA×α)) (i:Nat),kgs s m i=(kgs s m 0).map fun p=>(p.1+i,p.2)
 | [],i=>rfl
 | (k,v)::l,i=>by
  simp only [kgs];cases s.toList == k.toList with
  | true=>simp
  | false=>
   simp only [qc];rw [kl3 s l (i+1),kl3 s l (0+1),Option.map_map];congr 1;funext p;simp only [Function.comp,qad,and_true];omega
theorem kmf {α:Type} (k s:BA) (v z:α) (l:List (BA×α)):mget ((k,v)::l) s z=bif s.toList == k.toList then v else mget l s z:=by
 unfold mget;simp only [kgs];cases s.toList == k.toList with
 | true=>rfl
 | false=>
  simp only [qc];rw [kl3];cases kgs s l 0 <;> rfl
theorem k28 {α:Type} (k s:BA) (v y:α) (l:List (BA×α)):mput ((k,v)::l) s y=bif s.toList == k.toList then (s,y)::l else (k,v)::mput l s y:=by
 unfold mput;simp only [kgs];cases s.toList == k.toList with
 | true=>rfl
 | false=>
  simp only [qc];rw [kl3];cases kgs s l 0 <;> rfl
theorem k17 {a b c:BA} (h:(a.toList == b.toList)=true):(c.toList == a.toList)=(c.toList == b.toList):=by rw [beq_iff_eq] at h;rw [h]
theorem kw9 {α:Type} (k s:BA) (y z:α):∀ m:List (BA×α),mget (mput m k y) s z=bif s.toList == k.toList then y else mget m s z
 | []=>by show mget [(k,y)] s z=_;rw [kmf]
 | (k',v)::l=>by
  rw [k28];cases h:k.toList == k'.toList with
  | true=>
   simp only [qf];rw [kmf,kmf,k17 (c:=s) h];cases s.toList == k'.toList <;> rfl
  | false=>
   simp only [qc];rw [kmf,kmf,kw9 k s y z l];cases h1:s.toList == k'.toList with
   | false=>rfl
   | true=>
    cases a:s.toList == k.toList with
    | false=>rfl
    | true=>
     rw [beq_iff_eq] at h1 a;rw [<- h1,<- a] at h;simp at h
def mOf (xs:List Sy):List (BA×Bool):=xs.foldl (fun m x=>mput m x.name true) []
theorem k5s (xs:List Sy) (x:Sy):mOf (xs++[x])=mput (mOf xs) x.name true:=by unfold mOf;rw [List.foldl_append];rfl
theorem kwx (s:BA):∀ (xs:List Sy) (m:List (BA×Bool)),mget (xs.foldl (fun m x=>mput m x.name true) m) s false=(mget m s false || xs.any fun x=>s.toList == x.name.toList)
 | [],m=>by simp
 | x::xs,m=>by rw [List.foldl_cons,kwx s xs,kw9,List.any_cons];cases s.toList == x.name.toList <;> simp
theorem k7h (s:BA) (xs:List Sy):mget (mOf xs) s false=xs.any fun x=>s.toList == x.name.toList:=by unfold mOf;rw [kwx];rfl
theorem kaaa (l:La) (i:Nat) (hi:i<l.symbols.length) (hl:l.symbols.length<=9223372036854775807):kab (kda l (i:Int)) fuel 0=some (if ((l.symbols.take i).any fun x=>l.symbols[i].name.toList == x.name.toList)=true then .inr 6 else .inl ()):=by
 have c:(l.symbols.take i).length=i:=by rw [qak];omega
 have:=kio (step:=kda l (i:Int)) i (by omega) (fun j=>(j:Int)) (fun j=>if (((l.symbols.take i).drop j).any fun x=>l.symbols[i].name.toList == x.name.toList)=true then .inr 6 else .inl ()) (fun j d=>by
  have e0:l.symbols[i]?=some l.symbols[i]:=qb hi;have a:j<l.symbols.length:=by omega
  have e1:l.symbols[j]?=some l.symbols[j]:=qb a;have b1:decide ((j:Int)<(i:Int))=true:=qh (by omega);have b:(l.symbols.take i).drop j=l.symbols[j]::(l.symbols.take i).drop (j+1):=by rw [qah (by omega)];congr 1;exact List.getElem_take
  have hc:(l.symbols[j].name.toList == l.symbols[i].name.toList)=(l.symbols[i].name.toList == l.symbols[j].name.toList):=by rw [Bool.eq_iff_iff,beq_iff_eq,beq_iff_eq];exact eq_comm
  simp only [kda,b1,qf,kaf,e0,e1,qa,b,List.any_cons,kcv (n:=j) (by omega),hc];cases e:l.symbols[i].name.toList == l.symbols[j].name.toList with
  | true=>exact .inr rfl
  | false=>exact .inl ⟨rfl,rfl⟩) (by
  have b1:decide ((i:Int)<(i:Int))=false:=qe (by omega);have b:(l.symbols.take i).drop i=[]:=qa8 (by omega);simp only [kda,b1,qc,b,List.any_nil];rfl)
 simpa using this
theorem kyv (l:La) (h:l.symbols.length<=9223372036854775807) (hs:∀ x∈l.symbols,x.name.size<=9223372036854775807):∃ r,kab (kgj l) fuel (0,[])=some r/\kab (kdj l) fuel 0=some r/\∀ e,r = .inr e->e≠0:=by
 obtain ⟨r,r',h1,c,rfl,d⟩:=kjg (step:=kgj l) (step':=kdj l) l.symbols.length (by omega) (fun i=>((i:Int),mOf (l.symbols.take i))) (fun i=>(i:Int)) (fun r r'=>r=r'/\∀ e,r = .inr e->e≠0) (fun i hi=>by
  have e1:l.symbols[i]?=some l.symbols[i]:=qb hi;have b1:decide ((i:Int)<(l.symbols.length:Int))=true:=qh (by omega);obtain ⟨b,n1,n2⟩:=ku6 l.symbols[i].name (hs _ (qq hi));have f:=kaaa l i hi h;have hm:=k7h l.symbols[i].name (l.symbols.take i);have a:mput (mOf (l.symbols.take i)) l.symbols[i].name true=mOf (l.symbols.take (i+1)):=by rw [List.take_add_one,e1,<- k5s];rfl
  simp only [kgj,kdj,b1,qf,kaf,e1,qa,n1,n2,f,hm,kui,kwv,kcv (n:=i) (by omega),a];cases b with
  | false=>exact .inr ⟨_,_,rfl,rfl,rfl,fun e h=>by cases h;decide⟩
  | true=>
   simp only [qa6,qc];cases g:(l.symbols.take i).any fun x=>l.symbols[i].name.toList == x.name.toList with
   | true=>exact .inr ⟨_,_,rfl,rfl,rfl,fun e h=>by cases h;decide⟩
   | false=>
    cases tyB l.symbols[i].type with
    | true=>exact .inl ⟨rfl,rfl⟩
    | false=>exact .inr ⟨_,_,rfl,rfl,rfl,fun e h=>by cases h;decide⟩) (by
  have b1:decide ((l.symbols.length:Int)<(l.symbols.length:Int))=false:=qe (by omega);simp only [kgj,kdj,b1,qc];exact ⟨_,_,rfl,rfl,rfl,fun e h=>by cases h⟩)
 exact ⟨r,by simpa [mOf] using h1,by simpa using c,d⟩
set_option maxRecDepth 100000
def opL:List Saf:=operator_catalog.getD []
theorem k2r:operator_catalog.isSome=true:=by kernel_rfl
theorem kabi:operator_catalog=some opL:=by
 have h:=k2r;unfold opL
 revert h
 generalize operator_catalog=x;intro h;cases x with
 | none=>cases h
 | some x=>rfl
def refFs:List BA:=synthesisref09_families.getD []
theorem k61:synthesisref09_families=some refFs:=rfl
def catL (f:BA):List Sae:=(kb1 f).getD []
theorem k65:refFs.all (fun f=>(kb1 f).isSome)=true:=by kernel_rfl
theorem k99 {f:BA} (hf:f∈refFs):kb1 f=some (catL f):=by
 have h:=qr.1 k65 f hf;unfold catL
 revert h
 generalize kb1 f=x;intro h;cases x with
 | none=>cases h
 | some x=>rfl
def opNames:List BA:=opL.map fun e=>e.f_Operator.f_Name
theorem k2j:(refFs.flatMap fun f=>(catL f).map fun x=>x.f_0)=opNames:=by kernel_rfl
def eqOp:Option (Sab×Bool)->Option (Sab×Bool)->Bool
 | some (a,b),some (c,d)=>(a.f_Name.toList == c.f_Name.toList) && (a.f_Args == c.f_Args) && (a.f_Result == c.f_Result) && (b == d)
 | _,_=>false
theorem kaam {x y:Option (Sab×Bool)} (h:eqOp x y=true):∃ r,x=some r/\y=some r:=by
 unfold eqOp at h;split at h
 ·rename_i a b c d;simp only [qy,beq_iff_eq] at h;obtain ⟨⟨⟨h1,e⟩,f⟩,rfl⟩:=h;obtain ⟨n,l,t⟩:=a;obtain ⟨n',l',t'⟩:=c;simp only at h1 e f;have h1:n=n':=by have:(n.toList == n'.toList)=true:=(by simpa using h1);rw [kk4,MapKept.bytes_beq] at this;exact this
  subst h1 e f;exact ⟨_,rfl,rfl⟩
 ·cases h
theorem k43:opNames.all (fun n=>eqOp (kha n) (kcb n))=true:=by kernel_rfl
def k3f:Sab:=Sab.mk ⟨#[]⟩ [] 0
theorem k0o:opL.length<1000:=of_decide_eq_true (by kernel_rfl)
theorem kwt:refFs.length<1000:=of_decide_eq_true (by kernel_rfl)
theorem kyy:refFs.all (fun f=>decide ((catL f).length<1000))=true:=by kernel_rfl
theorem kzn {f:BA} (hf:f∈refFs):(catL f).length<1000:=of_decide_eq_true (qr.1 kyy f hf)
theorem kwz (s:BA) (c:¬ s∈opNames):kha s=some (k3f,false)/\kcb s=some (k3f,false):=by
 refine ⟨?_,?_⟩
 ·have hl:=kfg (step:=kgh s opL) opL.length (by have:=k0o;omega) (fun i=>(i:Int)) (.inl ()) (fun i hi=>by
   have e1:opL[i]?=some opL[i]:=qb hi;have b1:decide ((i:Int)<(opL.length:Int))=true:=qh (by omega);have a:(opL[i].f_Operator.f_Name.toList == s.toList)=false:=by
    cases d:opL[i].f_Operator.f_Name.toList == s.toList with
    | false=>rfl
    | true=>
     rw [kk4,MapKept.bytes_beq] at d;exact absurd (qae.2 ⟨opL[i],qq hi,d⟩) c
   simp only [kgh,b1,qf,kaf,e1,qa,a,qc,kcv (n:=i) (by have:=k0o;omega)]) (by
   have b1:decide ((opL.length:Int)<(opL.length:Int))=false:=qe (by omega);simp only [kgh,b1,qc])
  have b:kab (kgh s opL) fuel 0=some (.inl ()):=by simpa using hl
  simp only [kha,kki,kabi,qa,b,qg];rfl
 ·have hl:=kfg (step:=kc3 s refFs) refFs.length (by have:=kwt;omega) (fun i=>(i:Int)) (.inl ()) (fun i hi=>by
   have e1:refFs[i]?=some refFs[i]:=qb hi;have hf:refFs[i]∈refFs:=qq hi;have b1:decide ((i:Int)<(refFs.length:Int))=true:=qh (by omega);have f:=kfg (step:=kcw s refFs[i] (catL refFs[i])) (catL refFs[i]).length (by have:=kzn hf;omega) (fun i=>(i:Int)) (.inl ()) (fun j g=>by
    have e2:(catL refFs[i])[j]?=some (catL refFs[i])[j]:=qb g;have b2:decide ((j:Int)<((catL refFs[i]).length:Int))=true:=qh (by omega);have a:((catL refFs[i])[j].f_0.toList == s.toList)=false:=by
     cases d:(catL refFs[i])[j].f_0.toList == s.toList with
     | false=>rfl
     | true=>
      rw [kk4,MapKept.bytes_beq] at d;refine absurd ?_ c;rw [<- k2j];exact qa2.2 ⟨refFs[i],hf,qae.2 ⟨_,qq g,d⟩⟩
    simp only [kcw,b2,qf,kaf,e2,qa,a,qc,kcv (n:=j) (by have:=kzn hf;omega)]) (by
    have b2:decide (((catL refFs[i]).length:Int)<((catL refFs[i]).length:Int))=false:=qe (by omega);simp only [kcw,b2,qc])
   have e:kab (kcw s refFs[i] (catL refFs[i])) fuel 0=some (.inl ()):=(by simpa using f);simp only [kc3,b1,qf,kaf,e1,qa,k99 hf,e,qg,kcv (n:=i) (by have:=kwt;omega)]) (by
   have b1:decide ((refFs.length:Int)<(refFs.length:Int))=false:=qe (by omega);simp only [kc3,b1,qc])
  have b:kab (kc3 s refFs) fuel 0=some (.inl ()):=by simpa using hl
  simp only [kcb,kg3,k61,qa,b,qg,beq_self_eq_true,qf];rfl
theorem k3h (s:BA):∃ r,kha s=some r/\kcb s=some r:=by
 by_cases a:s∈opNames;exact kaam (qr.1 k43 s a)
 ·exact ⟨_,kwz s a⟩
theorem ksv {α:Type} {xs:List α} {i:Int} (h0:0<=i) (h1:i<(xs.length:Int)):∃ x,idx xs i=some x/\x∈xs:=by
 have h:i.toNat<xs.length:=by omega
 refine ⟨xs[i.toNat],?_,qq h⟩;unfold idx;rw [qn h0,qb h]
theorem k4v (x y:List Int):kga x y=kby x y:=rfl
theorem k3r (x y:List Int) (d:x.length<=9223372036854775807):∃ c,kby x y=some c:=by
 unfold kby;by_cases hl:(x.length:Int)=(y.length:Int)
 ·obtain ⟨r,h1,_⟩:=ko5 (step:=kbv x y) (step':=kbv x y) x.length (by omega) (fun i=>(i:Int)) (fun i hi=>by
   have e1:x[i]?=some x[i]:=qb hi;have hi2:i<y.length:=(by omega);have e2:y[i]?=some y[i]:=qb hi2;have b1:decide ((i:Int)<(x.length:Int))=true:=qh (by omega);simp only [kbv,b1,qf,kaf,e1,e2,qa,kcv (n:=i) (by omega)];cases x[i] != y[i] with
   | true=>exact .inr ⟨_,rfl,rfl⟩
   | false=>exact .inl ⟨rfl,rfl⟩) (.inl ()) (by
   have b1:decide ((x.length:Int)<(x.length:Int))=false:=qe (by omega);simp only [kbv,b1,qc]) (by
   have b1:decide ((x.length:Int)<(x.length:Int))=false:=qe (by omega);simp only [kbv,b1,qc])
  have a:kab (kbv x y) fuel 0=some r:=by simpa using h1
  rw [a,show ((x.length:Int) != (y.length:Int))=false by rw [qba];omega];cases r with
  | inl u=>exact ⟨true,rfl⟩
  | inr b=>exact ⟨b,rfl⟩
 ·rw [show ((x.length:Int) != (y.length:Int))=true by rw [bne_iff_ne];omega];exact ⟨false,rfl⟩
theorem kty (x:List Int):kby x []=some ((x.length:Int) == 0):=by
 cases x with
 | nil=>kernel_rfl
 | cons a x=>
  unfold kby;have h1:((((a::x).length:Nat):Int) != (([]:List Int).length:Int))=true:=by rw [bne_iff_ne,qax,qa9];omega
  have b:((((a::x).length:Nat):Int) == 0)=false:=by rw [qat,qax];omega
  rw [h1,b];rfl
def fineR (r:Ru):Prop:=r.args.length<=9223372036854775807/\okV r.const/\kp6 r.const
theorem kxt {a b:Ru} (ha:fineR a) (d:fineR b):∃ c,kdl a b=some c/\kew a b=some c:=by obtain ⟨c,hc⟩:=k3r a.args b.args ha.1;unfold kdl kew;simp only [k4v,hc,qa,kp5 ha.2.1 d.2.1,kyq ha.2.1 d.2.1];cases a.symbol == b.symbol <;> cases a.kind == b.kind <;> cases a.input == b.input <;> cases a.op.toList == b.op.toList <;> cases c <;> exact ⟨_,rfl,rfl⟩
theorem kabf (v:Va):Va.mk v.type v.num v.text v.items=v:=by cases v;rfl
def kfr:Va:=Va.mk 0 0 ⟨#[]⟩ []
theorem kug:okV kfr:=by refine ⟨?_,?_,trivial⟩ <;> simp [kfr,depV,ko9]
theorem k46 (l:La) (r:Ru) (o:Sab×Bool) (hr:r.args.length<=9223372036854775807) (hl:r.args.length=o.1.f_Args.length):∃ c,kab (kg7 l r o) fuel 0=some c/\kab (ka0 l r o) fuel 0=some c:=by
 obtain ⟨c,h1,a⟩:=ko5 (step:=kg7 l r o) (step':=ka0 l r o) r.args.length (by omega) (fun i=>(i:Int)) (fun i hi=>by
  have e1:r.args[i]?=some r.args[i]:=qb hi;have hi2:i<o.1.f_Args.length:=by omega
  have e2:o.1.f_Args[i]?=some o.1.f_Args[i]:=qb hi2;have b1:decide ((i:Int)<(r.args.length:Int))=true:=qh (by omega);simp only [kg7,ka0,khg,b1,qf,kaf,e1,e2,qa,kcv (n:=i) (by omega)];by_cases h0:0<=r.args[i]
  ·by_cases h1:r.args[i]<(l.symbols.length:Int)
   ·obtain ⟨x,b,_⟩:=ksv h0 h1;rw [qh h0,qh h1,qe (show ¬ r.args[i]<0 by omega),qe (show ¬ (l.symbols.length:Int)<=r.args[i] by omega)];simp only [qf,qc,qa,qa6,b];cases x.type != o.1.f_Args[i] with
    | true=>exact .inr ⟨_,rfl,rfl⟩
    | false=>exact .inl ⟨rfl,rfl⟩
   ·rw [qh h0,qe h1,qe (show ¬ r.args[i]<0 by omega),qh (show (l.symbols.length:Int)<=r.args[i] by omega)];exact .inr ⟨_,rfl,rfl⟩
  ·rw [qe h0,qh (show r.args[i]<0 by omega)];exact .inr ⟨_,rfl,rfl⟩) (.inl ()) (by
  have b1:decide ((r.args.length:Int)<(r.args.length:Int))=false:=qe (by omega);simp only [kg7,b1,qc]) (by
  have b1:decide ((r.args.length:Int)<(r.args.length:Int))=false:=qe (by omega);simp only [ka0,b1,qc])
 exact ⟨c,by simpa using h1,by simpa using a⟩
theorem k3m (a b:Int):(a != b)=(b != a):=by rw [Bool.eq_iff_iff,bne_iff_ne,bne_iff_ne];exact ⟨fun h e=>h e.symm,fun h e=>h e.symm⟩
theorem k6y (l:La) (r:Ru) (ha:r.args.length<=9223372036854775807) (b:kbw r.const (Va.mk 0 0 ⟨#[]⟩ [])=some (eqV r.const kfr)) (hp:kft r.const (Va.mk 0 0 ⟨#[]⟩ [])=some (eqV r.const kfr)) (hc:∃ c,ka4 fuel r.const=some c/\kan fuel r.const=some c):∃ c,kil l r=some c/\kcs l r=some c:=by
 have a:kft (Va.mk r.const.type r.const.num r.const.text r.const.items) (Va.mk 0 0 ⟨#[]⟩ [])=some (eqV r.const kfr):=by rw [kabf];exact hp
 have d:kft (Va.mk 0 0 ⟨#[]⟩ []) (Va.mk 0 0 ⟨#[]⟩ [])=some true:=by have:=kp5 kug kug;rw [k5m] at this;exact this
 unfold kil kcs khg;by_cases h0:0<=r.symbol
 rotate_left
 rw [qe h0,qh (show r.symbol<0 by omega)];exact ⟨1,rfl,rfl⟩;by_cases h1:r.symbol<(l.symbols.length:Int)
 rotate_left
 rw [qh h0,qe h1,qe (show ¬ r.symbol<0 by omega),qh (show (l.symbols.length:Int)<=r.symbol by omega)];exact ⟨1,rfl,rfl⟩;obtain ⟨x,f,_⟩:=ksv h0 h1;rw [qh h0,qh h1,qe (show ¬ r.symbol<0 by omega),qe (show ¬ (l.symbols.length:Int)<=r.symbol by omega)];simp only [qf,qc,qa,qa6];by_cases k1:r.kind<1;rw [qh k1];exact ⟨4,rfl,rfl⟩;by_cases k3:3<r.kind;rw [qe k1,qh k3];exact ⟨4,rfl,rfl⟩;rw [qe k1,qe k3];simp only [qc,qa,f];have hk:r.kind=1\/r.kind=2\/r.kind=3:=by omega
 rcases hk with hk | hk | hk
 ·have c1:(r.kind == 1)=true:=by rw [hk];rfl
  simp only [c1,qf,qa,kdl,kd3,beq_self_eq_true,kty,a,b];have fin:∃ c,(Option.bind ((bif (decide (r.input<0)) then (some (true)) else (some (decide ((List.length l.inputs:Int)<=r.input)))):Option (Bool)) fun (v9:Bool)=>(bif v9 then (some 1) else (Option.bind (idx l.inputs r.input) fun v10=>(Option.bind (kfw (v10) (x.type)) fun v11=>(some v11)))))=some c /\
    (Option.bind ((bif (decide (r.input<0)) then (some (true)) else (some (decide ((List.length l.inputs:Int)<=r.input)))):Option (Bool)) fun (v8:Bool)=>(bif v8 then (some 1) else (Option.bind (idx l.inputs r.input) fun v9=>(bif (v9 != x.type) then (some 3) else (some 0)))))=some (c:Int):=by
   by_cases i0:r.input<0;rw [qh i0];exact ⟨1,rfl,rfl⟩;by_cases i1:(l.inputs.length:Int)<=r.input;rw [qe i0,qh i1];exact ⟨1,rfl,rfl⟩;obtain ⟨y,g,_⟩:=ksv (xs:=l.inputs) (i:=r.input) (by omega) (by omega);rw [qe i0,qe i1];simp only [qc,qa,g,kfw];cases y != x.type <;> exact ⟨_,rfl,rfl⟩
  obtain ⟨c,f1,f2⟩:=fin;cases r.op.toList == (⟨#[]⟩:BA).toList <;> cases (r.args.length:Int) == 0 <;> cases eqV r.const kfr <;> first | exact ⟨4,rfl,rfl⟩ | exact ⟨c,f1,f2⟩
 ·have c1:(r.kind == 1)=false:=by rw [hk];rfl
  have c2:(r.kind == 2)=true:=by rw [hk];rfl
  simp only [c1,c2,qf,qc,qa,kdl,kd3,beq_self_eq_true,kty,d,b];obtain ⟨c,f1,f2⟩:=hc;simp only [f1,f2,qa,kfw];cases r.input == 0 <;> cases r.op.toList == (⟨#[]⟩:BA).toList <;> cases (r.args.length:Int) == 0 <;> first | exact ⟨4,rfl,rfl⟩ | skip;cases c != 0 with
  | true=>exact ⟨c,rfl,rfl⟩
  | false=>cases r.const.type != x.type <;> exact ⟨_,rfl,rfl⟩
 ·have c1:(r.kind == 1)=false:=by rw [hk];rfl
  have c2:(r.kind == 2)=false:=by rw [hk];rfl
  have c3:(r.kind == 3)=true:=by rw [hk];rfl
  have en:kby [] []=some true:=kty [];simp only [c1,c2,c3,qf,qc,qa,kdl,kd3,beq_self_eq_true,en,a,b];obtain ⟨o,f1,f2⟩:=k3h r.op;simp only [kcy,f1,f2,qa,kfw];cases r.input == 0 <;> cases eqV r.const kfr <;> first | exact ⟨4,rfl,rfl⟩ | skip;simp only [qa6,Bool.not_false,qf,qc,qa];cases o.2 with
  | false=>exact ⟨5,rfl,rfl⟩
  | true=>
   simp only [qa6,qc];by_cases hl:r.args.length=o.1.f_Args.length
   ·rw [show ((r.args.length:Int) != (o.1.f_Args.length:Int))=false by rw [qba];omega];obtain ⟨c,g1,g2⟩:=k46 l r o ha hl;simp only [qc,g1,g2,qa,f];cases c with
    | inl u=>
     simp only [qg,qa];rw [k3m];cases x.type != o.1.f_Result <;> exact ⟨_,rfl,rfl⟩
    | inr e=>exact ⟨e,rfl,rfl⟩
   ·rw [show ((r.args.length:Int) != (o.1.f_Args.length:Int))=true by rw [bne_iff_ne];omega];exact ⟨2,rfl,rfl⟩
theorem kq2 {σ β:Type} {step:σ->Option (σ ⊕ β)} (n:Nat) (S:Nat->σ) (b0:β) (hs:∀ i,i<n->step (S i)=some (.inl (S (i+1)))\/∃ b,step (S i)=some (.inr b)/\b≠b0):
  ∀ (k i:Nat),kab step k (S i)=some b0->∀ j,i<=j->j<n->step (S j)=some (.inl (S (j+1)))
 | 0,i,h=>by cases h
 | k+1,i,h=>fun j a c=>by
  rw [kab] at h;rcases hs i (by omega) with h1 | ⟨b,h1,d⟩
  ·rw [h1] at h;by_cases e:i=j;subst e;exact h1
   ·exact kq2 n S b0 hs k (i+1) h j (by omega) c
  ·rw [h1] at h;injection h with h;exact absurd h d
theorem kx4 {α:Type} (xs:List α) (i:Nat) (hi:i<=xs.length):cutL xs 0 (i:Int)=some (xs.take i):=by unfold cutL;rw [qn (by omega)];simp
theorem k7b (l:La) (i:Nat) (hi:i<l.rules.length) (hl:l.rules.length<=9223372036854775807) (hr:∀ j (g:j<l.rules.length),j<=i->fineR l.rules[j]):∃ b,kbj (l.rules.take i) l.rules[i]=some b/\kab (kce l (i:Int)) fuel 0=some (if b=true then .inr 6 else .inl ()):=by
 have a:(l.rules.take i).length=i:=by rw [qak];omega
 obtain ⟨r,r',h1,h,k⟩:=kjg (step:=ka8 (l.rules.take i) l.rules[i]) (step':=kce l (i:Int)) i (by omega) (fun j=>(j:Int)) (fun j=>(j:Int))
  (fun r r'=>(r = .inl ()/\r' = .inl ())\/∃ j:Nat,r = .inr (j:Int)/\r' = .inr 6) (fun j g=>by
  have e0:l.rules[i]?=some l.rules[i]:=qb hi;have d:j<l.rules.length:=by omega
  have e1:l.rules[j]?=some l.rules[j]:=qb d;have e2:(l.rules.take i)[j]?=some l.rules[j]:=by rw [List.getElem?_take_of_lt g,e1]
  have b1:decide ((j:Int)<(i:Int))=true:=qh (by omega);have b2:decide ((j:Int)<((l.rules.take i).length:Int))=true:=by rw [a];exact b1
  obtain ⟨c,c1,c2⟩:=kxt (hr j d (by omega)) (hr i hi (qx _));simp only [ka8,kce,kh9,b1,b2,qf,kaf,e0,e1,e2,qa,c1,c2,kcv (n:=j) (by omega)];cases c with
  | true=>exact .inr ⟨_,_,rfl,rfl, .inr ⟨j,rfl,rfl⟩⟩
  | false=>exact .inl ⟨rfl,rfl⟩) (by
  have b1:decide ((i:Int)<(i:Int))=false:=qe (by omega);have b2:decide ((i:Int)<((l.rules.take i).length:Int))=false:=by rw [a];exact b1
  simp only [ka8,kce,b1,b2,qc];exact ⟨_,_,rfl,rfl, .inl ⟨rfl,rfl⟩⟩)
 have e:kab (ka8 (l.rules.take i) l.rules[i]) fuel 0=some r:=by simpa using h1
 have f:kab (kce l (i:Int)) fuel 0=some r':=by simpa using h
 unfold kbj kck;rw [e,f];rcases k with ⟨rfl,rfl⟩ | ⟨j,rfl,rfl⟩;exact ⟨false,rfl,rfl⟩
 ·refine ⟨true,?_,rfl⟩;simp only [qa,qi];exact congrArg some (qh (by omega))
end Go.Proofs.YtpcfkflhnkfjjaaGreat
