import Derived.Test.YtaimpcnpifoidaaGreatDoorVd
set_option linter.all false
namespace Go.Proofs.YtaimpcnpifoidaaGreatDoor
open Go Go.RowKit
def badP (c:Int) (z:Bool):Option Bool:=(Option.bind ((bif (decide (97<=(ior .u8 c 32))) then (some (decide ((ior .u8 c 32)<=122))) else (some (false))):Option (Bool)) fun (v6:Bool)=>((bif (!v6) then (bif z then (some (true)) else (bif (c != 45) then (bif (decide (c<48)) then (some (true)) else (some (decide (57<c)))) else (some (false)))) else (some (false))):Option (Bool)))
def badR (c:Int) (z:Bool):Option Bool:=(Option.bind ((bif (decide (97<=c)) then (bif (decide (c<=122)) then (some (true)) else (bif (decide (65<=c)) then (some (decide (c<=90))) else (some (false)))) else (bif (decide (65<=c)) then (some (decide (c<=90))) else (some (false)))):Option (Bool)) fun (v9:Bool)=>((bif (!v9) then (bif z then (some (true)) else (bif (c != 45) then (bif (decide (c<48)) then (some (true)) else (some (decide (57<c)))) else (some (false)))) else (some (false))):Option (Bool)))
set_option maxRecDepth 100000 in
theorem kakm:(List.range 256).all (fun k=>[true,false].all fun z=>(badP (k:Int) z == badR (k:Int) z) && (badP (k:Int) z).isSome)=true:=by kernel_rfl
theorem kaha (c:UInt8) (z:Bool):∃ b,badP (c.toNat:Int) z=some b/\badR (c.toNat:Int) z=some b:=by
 have h:=qs.1 kakm c.toNat (List.mem_range.2 (UInt8.toNat_lt c));have h2:=qs.1 h z (by cases z <;> simp);simp only [q8,beq_iff_eq] at h2;obtain ⟨h3,a⟩:=h2;cases hp:badP (c.toNat:Int) z with
 | none=>rw [hp] at a;cases a
 | some b=>exact ⟨b,rfl,by rw [<- h3,hp]⟩
theorem k1u (s:BA) (hs:s.size<=9223372036854775807):∃ b,kkp s=some b/\kek s=some b:=by
 have g:=ka9 s;obtain ⟨r,r',h1,h2,rfl,h3⟩:=kj9 (step:=khb s) (step':=kcs s) s.size (by omega) (fun i=>(i:Int)) (fun i=>(i:Int)) (fun r r'=>r=r'/\(r = .inl ()\/r = .inr false)) (fun i hi=>by
  have a:i<s.data.toList.length:=by rw [<- ka9];exact hi
  have e1:byt s (i:Int)=some (s.data.toList[i].toNat:Int):=by rw [ko0,qc a];rfl
  have b1:decide ((i:Int)<(s.size:Int))=true:=qe (by omega);obtain ⟨b,p1,p2⟩:=kaha s.data.toList[i] ((i:Int) == 0);unfold badP at p1;unfold badR at p2;have q1:khb s (i:Int)=bif b then some (.inr (.inr false)) else some (.inl (w64 ((i:Int)+1))):=by simp only [khb,b1,qf,e1,qa];rw [<- Option.bind_assoc,p1,qa]
  have q2:kcs s (i:Int)=bif b then some (.inr (.inr false)) else some (.inl (w64 ((i:Int)+1))):=by simp only [kcs,b1,qf,e1,qa];rw [<- Option.bind_assoc,p2,qa]
  rw [q1,q2,kcf (n:=i) (by omega)];cases b with
  | true=>exact .inr ⟨_,_,rfl,rfl,rfl, .inr rfl⟩
  | false=>exact .inl ⟨rfl,rfl⟩) (by
  have b1:decide ((s.size:Int)<(s.size:Int))=false:=qb (by omega);simp only [khb,kcs,b1,qd];exact ⟨_,_,rfl,rfl,rfl, .inl rfl⟩)
 have c:kaa (khb s) fuel 0=some r:=by simpa using h1
 have d:kaa (kcs s) fuel 0=some r:=by simpa using h2
 unfold kkp kek;rw [c,d];simp only [qa];by_cases e:(s.size:Int)<1;rw [qe e,qb (show ¬ (1:Int)<=(s.size:Int) by omega)];rcases h3 with rfl | rfl <;> exact ⟨false,rfl,rfl⟩
 ·rw [qb e,qe (show (1:Int)<=(s.size:Int) by omega)];by_cases f:(24:Int)<(s.size:Int);rw [qe f,qb (show ¬ (s.size:Int)<=24 by omega)];rcases h3 with rfl | rfl <;> exact ⟨false,rfl,rfl⟩
  ·rw [qb f,qe (show (s.size:Int)<=24 by omega)];rcases h3 with rfl | rfl;exact ⟨true,rfl,rfl⟩
   ·exact ⟨false,rfl,rfl⟩
def tyB (t:Int):Bool:=decide (1<=t) && decide (t<=8)
theorem k08 (t:Int):kkq t=some (tyB t):=by unfold kkq tyB;cases decide (1<=t) <;> rfl
theorem kxs (t:Int):kgp t=some (tyB t):=k08 t
theorem k81 (l:La) (h:l.inputs.length<=9223372036854775807):∃ r,kaa (kij l) fuel 0=some r/\kaa (kc5 l) fuel 0=some r/\∀ e,r = .inr e->e≠0:=by
 obtain ⟨r,r',h1,h2,rfl,h3⟩:=kj9 (step:=kij l) (step':=kc5 l) l.inputs.length (by omega) (fun i=>(i:Int)) (fun i=>(i:Int)) (fun r r'=>r=r'/\∀ e,r = .inr e->e≠0) (fun i hi=>by
  have e1:l.inputs[i]?=some l.inputs[i]:=qc hi;have b1:decide ((i:Int)<(l.inputs.length:Int))=true:=qe (by omega);simp only [kij,kc5,b1,qf,kak,e1,qa,k08,kxs,kcf (n:=i) (by omega)];cases tyB l.inputs[i] with
  | true=>exact .inl ⟨rfl,rfl⟩
  | false=>exact .inr ⟨_,_,rfl,rfl,rfl,fun e h=>by cases h;decide⟩) (by
  have b1:decide ((l.inputs.length:Int)<(l.inputs.length:Int))=false:=qb (by omega);simp only [kij,kc5,b1,qd];exact ⟨_,_,rfl,rfl,rfl,fun e h=>by cases h⟩)
 exact ⟨r,by simpa using h1,by simpa using h2,h3⟩
theorem kqv {α:Type} (s:BA):∀ (m:List (BA×α)) (i:Nat),khv s m i=(khv s m 0).map fun p=>(p.1+i,p.2)
 | [],i=>rfl
 | (k,v)::l,i=>by
  simp only [khv];cases s.toList == k.toList with
  | true=>simp
  | false=>
   simp only [qd];rw [kqv s l (i+1),kqv s l (0+1),Option.map_map];congr 1;funext p;simp only [Function.comp,qak,and_true];omega
theorem krt {α:Type} (k s:BA) (v z:α) (l:List (BA×α)):mget ((k,v)::l) s z=bif s.toList == k.toList then v else mget l s z:=by
 unfold mget;simp only [khv];cases s.toList == k.toList with
 | true=>rfl
 | false=>
  simp only [qd];rw [kqv];cases khv s l 0 <;> rfl
theorem kads {α:Type} (k s:BA) (v y:α) (l:List (BA×α)):mput ((k,v)::l) s y=bif s.toList == k.toList then (s,y)::l else (k,v)::mput l s y:=by
 unfold mput;simp only [khv];cases s.toList == k.toList with
 | true=>rfl
 | false=>
  simp only [qd];rw [kqv];cases khv s l 0 <;> rfl
theorem kacy {a b c:BA} (h:(a.toList == b.toList)=true):(c.toList == a.toList)=(c.toList == b.toList):=by rw [beq_iff_eq] at h;rw [h]
theorem k43 {α:Type} (k s:BA) (y z:α):∀ m:List (BA×α),mget (mput m k y) s z=bif s.toList == k.toList then y else mget m s z
 | []=>by show mget [(k,y)] s z=_;rw [krt]
 | (k',v)::l=>by
  rw [kads];cases h:k.toList == k'.toList with
  | true=>
   simp only [qf];rw [krt,krt,kacy (c:=s) h];cases s.toList == k'.toList <;> rfl
  | false=>
   simp only [qd];rw [krt,krt,k43 k s y z l];cases h1:s.toList == k'.toList with
   | false=>rfl
   | true=>
    cases h2:s.toList == k.toList with
    | false=>rfl
    | true=>
     rw [beq_iff_eq] at h1 h2;rw [<- h1,<- h2] at h;simp at h
def mOf (xs:List Sy):List (BA×Bool):=xs.foldl (fun m x=>mput m x.name true) []
theorem kaf5 (xs:List Sy) (x:Sy):mOf (xs++[x])=mput (mOf xs) x.name true:=by unfold mOf;rw [List.foldl_append];rfl
theorem k30 (s:BA):∀ (xs:List Sy) (m:List (BA×Bool)),mget (xs.foldl (fun m x=>mput m x.name true) m) s false=(mget m s false || xs.any fun x=>s.toList == x.name.toList)
 | [],m=>by simp
 | x::xs,m=>by rw [List.foldl_cons,k30 s xs,k43,List.any_cons];cases s.toList == x.name.toList <;> simp
theorem kag8 (s:BA) (xs:List Sy):mget (mOf xs) s false=xs.any fun x=>s.toList == x.name.toList:=by unfold mOf;rw [k30];rfl
theorem kakd (l:La) (i:Nat) (hi:i<l.symbols.length) (hl:l.symbols.length<=9223372036854775807):kaa (kci l (i:Int)) fuel 0=some (if ((l.symbols.take i).any fun x=>l.symbols[i].name.toList == x.name.toList)=true then .inr 6 else .inl ()):=by
 have b:(l.symbols.take i).length=i:=by rw [qah];omega
 have:=klu (step:=kci l (i:Int)) i (by omega) (fun j=>(j:Int)) (fun j=>if (((l.symbols.take i).drop j).any fun x=>l.symbols[i].name.toList == x.name.toList)=true then .inr 6 else .inl ()) (fun j c=>by
  have e0:l.symbols[i]?=some l.symbols[i]:=qc hi;have a:j<l.symbols.length:=by omega
  have e1:l.symbols[j]?=some l.symbols[j]:=qc a;have b1:decide ((j:Int)<(i:Int))=true:=qe (by omega);have hd:(l.symbols.take i).drop j=l.symbols[j]::(l.symbols.take i).drop (j+1):=by rw [qaa (by omega)];congr 1;exact List.getElem_take
  have hc:(l.symbols[j].name.toList == l.symbols[i].name.toList)=(l.symbols[i].name.toList == l.symbols[j].name.toList):=by rw [Bool.eq_iff_iff,beq_iff_eq,beq_iff_eq];exact eq_comm
  simp only [kci,b1,qf,kak,e0,e1,qa,hd,List.any_cons,kcf (n:=j) (by omega),hc];cases d:l.symbols[i].name.toList == l.symbols[j].name.toList with
  | true=>exact .inr rfl
  | false=>exact .inl ⟨rfl,rfl⟩) (by
  have b1:decide ((i:Int)<(i:Int))=false:=qb (by omega);have hd:(l.symbols.take i).drop i=[]:=qaq (by omega);simp only [kci,b1,qd,hd,List.any_nil];rfl)
 simpa using this
theorem k7y (l:La) (h:l.symbols.length<=9223372036854775807) (hs:∀ x∈l.symbols,x.name.size<=9223372036854775807):∃ r,kaa (kig l) fuel (0,[])=some r/\kaa (kc4 l) fuel 0=some r/\∀ e,r = .inr e->e≠0:=by
 obtain ⟨r,r',h1,h2,rfl,h3⟩:=kj9 (step:=kig l) (step':=kc4 l) l.symbols.length (by omega) (fun i=>((i:Int),mOf (l.symbols.take i))) (fun i=>(i:Int)) (fun r r'=>r=r'/\∀ e,r = .inr e->e≠0) (fun i hi=>by
  have e1:l.symbols[i]?=some l.symbols[i]:=qc hi;have b1:decide ((i:Int)<(l.symbols.length:Int))=true:=qe (by omega);obtain ⟨b,n1,n2⟩:=k1u l.symbols[i].name (hs _ (qv hi));have hd:=kakd l i hi h;have hm:=kag8 l.symbols[i].name (l.symbols.take i);have a:mput (mOf (l.symbols.take i)) l.symbols[i].name true=mOf (l.symbols.take (i+1)):=by rw [List.take_add_one,e1,<- kaf5];rfl
  simp only [kig,kc4,b1,qf,kak,e1,qa,n1,n2,hd,hm,k08,kxs,kcf (n:=i) (by omega),a];cases b with
  | false=>exact .inr ⟨_,_,rfl,rfl,rfl,fun e h=>by cases h;decide⟩
  | true=>
   simp only [qab,qd];cases c:(l.symbols.take i).any fun x=>l.symbols[i].name.toList == x.name.toList with
   | true=>exact .inr ⟨_,_,rfl,rfl,rfl,fun e h=>by cases h;decide⟩
   | false=>
    cases tyB l.symbols[i].type with
    | true=>exact .inl ⟨rfl,rfl⟩
    | false=>exact .inr ⟨_,_,rfl,rfl,rfl,fun e h=>by cases h;decide⟩) (by
  have b1:decide ((l.symbols.length:Int)<(l.symbols.length:Int))=false:=qb (by omega);simp only [kig,kc4,b1,qd];exact ⟨_,_,rfl,rfl,rfl,fun e h=>by cases h⟩)
 exact ⟨r,by simpa [mOf] using h1,by simpa using h2,h3⟩
set_option maxRecDepth 100000
def opL:List Sae:=operator_catalog.getD []
theorem kabo:operator_catalog.isSome=true:=by kernel_rfl
theorem kam4:operator_catalog=some opL:=by
 have h:=kabo;unfold opL
 revert h
 generalize operator_catalog=x;intro h;cases x with
 | none=>cases h
 | some x=>rfl
def refFs:List BA:=synthesisref09_families.getD []
theorem kagn:synthesisref09_families=some refFs:=rfl
def catL (f:BA):List Sab:=(kdk f).getD []
theorem kagg:refFs.all (fun f=>(kdk f).isSome)=true:=by kernel_rfl
theorem kak9 {f:BA} (a:f∈refFs):kdk f=some (catL f):=by
 have h:=qs.1 kagg f a;unfold catL
 revert h
 generalize kdk f=x;intro h;cases x with
 | none=>cases h
 | some x=>rfl
def opNames:List BA:=opL.map fun e=>e.f_Operator.f_Name
theorem kaa8:(refFs.flatMap fun f=>(catL f).map fun x=>x.f_0)=opNames:=by kernel_rfl
def eqOp:Option (Saa×Bool)->Option (Saa×Bool)->Bool
 | some (a,b),some (c,d)=>(a.f_Name.toList == c.f_Name.toList) && (a.f_Args == c.f_Args) && (a.f_Result == c.f_Result) && (b == d)
 | _,_=>false
theorem kaln {x y:Option (Saa×Bool)} (h:eqOp x y=true):∃ r,x=some r/\y=some r:=by
 unfold eqOp at h;split at h
 ·rename_i a b c d;simp only [q8,beq_iff_eq] at h;obtain ⟨⟨⟨h1,h2⟩,h3⟩,rfl⟩:=h;obtain ⟨n,l,t⟩:=a;obtain ⟨n',l',t'⟩:=c;simp only at h1 h2 h3;have h1:n=n':=by have:(n.toList == n'.toList)=true:=(by simpa using h1);rw [kpi,MapKept.bytes_beq] at this;exact this
  subst h1 h2 h3;exact ⟨_,rfl,rfl⟩
 ·cases h
theorem kafq:opNames.all (fun n=>eqOp (kh8 n) (ka7 n))=true:=by kernel_rfl
def kafa:Saa:=Saa.mk ⟨#[]⟩ [] 0
theorem k92:opL.length<1000:=qal (by kernel_rfl)
theorem k4w:refFs.length<1000:=qal (by kernel_rfl)
theorem k70:refFs.all (fun f=>decide ((catL f).length<1000))=true:=by kernel_rfl
theorem k63 {f:BA} (a:f∈refFs):(catL f).length<1000:=qal (qs.1 k70 f a)
theorem kuf (s:BA) (b:¬ s∈opNames):kh8 s=some (kafa,false)/\ka7 s=some (kafa,false):=by
 refine ⟨?_,?_⟩
 ·have hl:=kwv (step:=kik s opL) opL.length (by have:=k92;omega) (fun i=>(i:Int)) (.inl ()) (fun i hi=>by
   have e1:opL[i]?=some opL[i]:=qc hi;have b1:decide ((i:Int)<(opL.length:Int))=true:=qe (by omega);have hne:(opL[i].f_Operator.f_Name.toList == s.toList)=false:=by
    cases c:opL[i].f_Operator.f_Name.toList == s.toList with
    | false=>rfl
    | true=>
     rw [kpi,MapKept.bytes_beq] at c;exact absurd (qa3.2 ⟨opL[i],qv hi,c⟩) b
   simp only [kik,b1,qf,kak,e1,qa,hne,qd,kcf (n:=i) (by have:=k92;omega)]) (by
   have b1:decide ((opL.length:Int)<(opL.length:Int))=false:=qb (by omega);simp only [kik,b1,qd])
  have a:kaa (kik s opL) fuel 0=some (.inl ()):=by simpa using hl
  simp only [kh8,kop,kam4,qa,a,qh];rfl
 ·have hl:=kwv (step:=ke0 s refFs) refFs.length (by have:=k4w;omega) (fun i=>(i:Int)) (.inl ()) (fun i hi=>by
   have e1:refFs[i]?=some refFs[i]:=qc hi;have e:refFs[i]∈refFs:=qv hi;have b1:decide ((i:Int)<(refFs.length:Int))=true:=qe (by omega);have f:=kwv (step:=kex s refFs[i] (catL refFs[i])) (catL refFs[i]).length (by have:=k63 e;omega) (fun i=>(i:Int)) (.inl ()) (fun j g=>by
    have e2:(catL refFs[i])[j]?=some (catL refFs[i])[j]:=qc g;have b2:decide ((j:Int)<((catL refFs[i]).length:Int))=true:=qe (by omega);have hne:((catL refFs[i])[j].f_0.toList == s.toList)=false:=by
     cases c:(catL refFs[i])[j].f_0.toList == s.toList with
     | false=>rfl
     | true=>
      rw [kpi,MapKept.bytes_beq] at c;refine absurd ?_ b;rw [<- kaa8];exact qba.2 ⟨refFs[i],e,qa3.2 ⟨_,qv g,c⟩⟩
    simp only [kex,b2,qf,kak,e2,qa,hne,qd,kcf (n:=j) (by have:=k63 e;omega)]) (by
    have b2:decide (((catL refFs[i]).length:Int)<((catL refFs[i]).length:Int))=false:=qb (by omega);simp only [kex,b2,qd])
   have d:kaa (kex s refFs[i] (catL refFs[i])) fuel 0=some (.inl ()):=(by simpa using f);simp only [ke0,b1,qf,kak,e1,qa,kak9 e,d,qh,kcf (n:=i) (by have:=k4w;omega)]) (by
   have b1:decide ((refFs.length:Int)<(refFs.length:Int))=false:=qb (by omega);simp only [ke0,b1,qd])
  have a:kaa (ke0 s refFs) fuel 0=some (.inl ()):=by simpa using hl
  simp only [ka7,kja,kagn,qa,a,qh,qbr,qf];rfl
theorem kub (s:BA):∃ r,kh8 s=some r/\ka7 s=some r:=by
 by_cases a:s∈opNames;exact kaln (qs.1 kafq s a)
 ·exact ⟨_,kuf s a⟩
theorem kvd {α:Type} {xs:List α} {i:Int} (h0:0<=i) (h1:i<(xs.length:Int)):∃ x,idx xs i=some x/\x∈xs:=by
 have h:i.toNat<xs.length:=by omega
 refine ⟨xs[i.toNat],?_,qv h⟩;unfold idx;rw [qj h0,qc h]
theorem kaek (x y:List Int):kc7 x y=kdh x y:=rfl
theorem kadb (x y:List Int) (e:x.length<=9223372036854775807):∃ c,kdh x y=some c:=by
 unfold kdh;by_cases hl:(x.length:Int)=(y.length:Int)
 ·obtain ⟨r,h1,_⟩:=krr (step:=kc6 x y) (step':=kc6 x y) x.length (by omega) (fun i=>(i:Int)) (fun i hi=>by
   have e1:x[i]?=some x[i]:=qc hi;have a:i<y.length:=(by omega);have e2:y[i]?=some y[i]:=qc a;have b1:decide ((i:Int)<(x.length:Int))=true:=qe (by omega);simp only [kc6,b1,qf,kak,e1,e2,qa,kcf (n:=i) (by omega)];cases x[i] != y[i] with
   | true=>exact .inr ⟨_,rfl,rfl⟩
   | false=>exact .inl ⟨rfl,rfl⟩) (.inl ()) (by
   have b1:decide ((x.length:Int)<(x.length:Int))=false:=qb (by omega);simp only [kc6,b1,qd]) (by
   have b1:decide ((x.length:Int)<(x.length:Int))=false:=qb (by omega);simp only [kc6,b1,qd])
  have d:kaa (kc6 x y) fuel 0=some r:=by simpa using h1
  rw [d,show ((x.length:Int) != (y.length:Int))=false by rw [qap];omega];cases r with
  | inl u=>exact ⟨true,rfl⟩
  | inr b=>exact ⟨b,rfl⟩
 ·rw [show ((x.length:Int) != (y.length:Int))=true by rw [qbl];omega];exact ⟨false,rfl⟩
theorem k0q (x:List Int):kdh x []=some ((x.length:Int) == 0):=by
 cases x with
 | nil=>kernel_rfl
 | cons a x=>
  unfold kdh;have h1:((((a::x).length:Nat):Int) != (([]:List Int).length:Int))=true:=by rw [qbl,qu,qaf];omega
  have h2:((((a::x).length:Nat):Int) == 0)=false:=by rw [qae,qu];omega
  rw [h1,h2];rfl
def fineR (r:Ru):Prop:=r.args.length<=9223372036854775807/\okV r.const/\kvb r.const
theorem k5a {a b:Ru} (ha:fineR a) (d:fineR b):∃ c,kfc a b=some c/\kd0 a b=some c:=by obtain ⟨c,hc⟩:=kadb a.args b.args ha.1;unfold kfc kd0;simp only [kaek,hc,qa,kqb ha.2.1 d.2.1,ks8 ha.2.1 d.2.1];cases a.symbol == b.symbol <;> cases a.kind == b.kind <;> cases a.input == b.input <;> cases a.op.toList == b.op.toList <;> cases c <;> exact ⟨_,rfl,rfl⟩
theorem kae8 (v:Va):Va.mk v.type v.num v.text v.items=v:=by cases v;rfl
def kcw:Va:=Va.mk 0 0 ⟨#[]⟩ []
theorem ks9:okV kcw:=by refine ⟨?_,?_,trivial⟩ <;> simp [kcw,depV,kt8]
theorem kaeb (l:La) (r:Ru) (o:Saa×Bool) (hr:r.args.length<=9223372036854775807) (hl:r.args.length=o.1.f_Args.length):∃ c,kaa (kje l r o) fuel 0=some c/\kaa (kbb l r o) fuel 0=some c:=by
 obtain ⟨c,h1,h2⟩:=krr (step:=kje l r o) (step':=kbb l r o) r.args.length (by omega) (fun i=>(i:Int)) (fun i hi=>by
  have e1:r.args[i]?=some r.args[i]:=qc hi;have a:i<o.1.f_Args.length:=by omega
  have e2:o.1.f_Args[i]?=some o.1.f_Args[i]:=qc a;have b1:decide ((i:Int)<(r.args.length:Int))=true:=qe (by omega);simp only [kje,kbb,kj4,b1,qf,kak,e1,e2,qa,kcf (n:=i) (by omega)];by_cases h0:0<=r.args[i]
  ·by_cases h1:r.args[i]<(l.symbols.length:Int)
   ·obtain ⟨x,b,_⟩:=kvd h0 h1;rw [qe h0,qe h1,qb (show ¬ r.args[i]<0 by omega),qb (show ¬ (l.symbols.length:Int)<=r.args[i] by omega)];simp only [qf,qd,qa,qab,b];cases x.type != o.1.f_Args[i] with
    | true=>exact .inr ⟨_,rfl,rfl⟩
    | false=>exact .inl ⟨rfl,rfl⟩
   ·rw [qe h0,qb h1,qb (show ¬ r.args[i]<0 by omega),qe (show (l.symbols.length:Int)<=r.args[i] by omega)];exact .inr ⟨_,rfl,rfl⟩
  ·rw [qb h0,qe (show r.args[i]<0 by omega)];exact .inr ⟨_,rfl,rfl⟩) (.inl ()) (by
  have b1:decide ((r.args.length:Int)<(r.args.length:Int))=false:=qb (by omega);simp only [kje,b1,qd]) (by
  have b1:decide ((r.args.length:Int)<(r.args.length:Int))=false:=qb (by omega);simp only [kbb,b1,qd])
 exact ⟨c,by simpa using h1,by simpa using h2⟩
theorem kafo (a b:Int):(a != b)=(b != a):=by rw [Bool.eq_iff_iff,qbl,qbl];exact ⟨fun h e=>h e.symm,fun h e=>h e.symm⟩
theorem kahw (l:La) (r:Ru) (ha:r.args.length<=9223372036854775807) (b:kcd r.const (Va.mk 0 0 ⟨#[]⟩ [])=some (eqV r.const kcw)) (hp:kg1 r.const (Va.mk 0 0 ⟨#[]⟩ [])=some (eqV r.const kcw)) (hc:∃ c,kah fuel r.const=some c/\ka5 fuel r.const=some c):∃ c,klp l r=some c/\kc1 l r=some c:=by
 have a:kg1 (Va.mk r.const.type r.const.num r.const.text r.const.items) (Va.mk 0 0 ⟨#[]⟩ [])=some (eqV r.const kcw):=by rw [kae8];exact hp
 have d:kg1 (Va.mk 0 0 ⟨#[]⟩ []) (Va.mk 0 0 ⟨#[]⟩ [])=some true:=by have:=kqb ks9 ks9;rw [k7j] at this;exact this
 unfold klp kc1 kj4;by_cases h0:0<=r.symbol
 rotate_left
 rw [qb h0,qe (show r.symbol<0 by omega)];exact ⟨1,rfl,rfl⟩;by_cases h1:r.symbol<(l.symbols.length:Int)
 rotate_left
 rw [qe h0,qb h1,qb (show ¬ r.symbol<0 by omega),qe (show (l.symbols.length:Int)<=r.symbol by omega)];exact ⟨1,rfl,rfl⟩;obtain ⟨x,f,_⟩:=kvd h0 h1;rw [qe h0,qe h1,qb (show ¬ r.symbol<0 by omega),qb (show ¬ (l.symbols.length:Int)<=r.symbol by omega)];simp only [qf,qd,qa,qab];by_cases k1:r.kind<1;rw [qe k1];exact ⟨4,rfl,rfl⟩;by_cases k3:3<r.kind;rw [qb k1,qe k3];exact ⟨4,rfl,rfl⟩;rw [qb k1,qb k3];simp only [qd,qa,f];have hk:r.kind=1\/r.kind=2\/r.kind=3:=by omega
 rcases hk with hk | hk | hk
 ·have c1:(r.kind == 1)=true:=by rw [hk];rfl
  simp only [c1,qf,qa,kfc,kc2,qbr,k0q,a,b];have fin:∃ c,(Option.bind ((bif (decide (r.input<0)) then (some (true)) else (some (decide ((List.length l.inputs:Int)<=r.input)))):Option (Bool)) fun (v9:Bool)=>(bif v9 then (some 1) else (Option.bind (idx l.inputs r.input) fun v10=>(Option.bind (kh2 (v10) (x.type)) fun v11=>(some v11)))))=some c /\
    (Option.bind ((bif (decide (r.input<0)) then (some (true)) else (some (decide ((List.length l.inputs:Int)<=r.input)))):Option (Bool)) fun (v8:Bool)=>(bif v8 then (some 1) else (Option.bind (idx l.inputs r.input) fun v9=>(bif (v9 != x.type) then (some 3) else (some 0)))))=some (c:Int):=by
   by_cases i0:r.input<0;rw [qe i0];exact ⟨1,rfl,rfl⟩;by_cases i1:(l.inputs.length:Int)<=r.input;rw [qb i0,qe i1];exact ⟨1,rfl,rfl⟩;obtain ⟨y,g,_⟩:=kvd (xs:=l.inputs) (i:=r.input) (by omega) (by omega);rw [qb i0,qb i1];simp only [qd,qa,g,kh2];cases y != x.type <;> exact ⟨_,rfl,rfl⟩
  obtain ⟨c,f1,f2⟩:=fin;cases r.op.toList == (⟨#[]⟩:BA).toList <;> cases (r.args.length:Int) == 0 <;> cases eqV r.const kcw <;> first | exact ⟨4,rfl,rfl⟩ | exact ⟨c,f1,f2⟩
 ·have c1:(r.kind == 1)=false:=by rw [hk];rfl
  have c2:(r.kind == 2)=true:=by rw [hk];rfl
  simp only [c1,c2,qf,qd,qa,kfc,kc2,qbr,k0q,d,b];obtain ⟨c,f1,f2⟩:=hc;simp only [f1,f2,qa,kh2];cases r.input == 0 <;> cases r.op.toList == (⟨#[]⟩:BA).toList <;> cases (r.args.length:Int) == 0 <;> first | exact ⟨4,rfl,rfl⟩ | skip;cases c != 0 with
  | true=>exact ⟨c,rfl,rfl⟩
  | false=>cases r.const.type != x.type <;> exact ⟨_,rfl,rfl⟩
 ·have c1:(r.kind == 1)=false:=by rw [hk];rfl
  have c2:(r.kind == 2)=false:=by rw [hk];rfl
  have c3:(r.kind == 3)=true:=by rw [hk];rfl
  have en:kdh [] []=some true:=k0q [];simp only [c1,c2,c3,qf,qd,qa,kfc,kc2,qbr,en,a,b];obtain ⟨o,f1,f2⟩:=kub r.op;simp only [kcv,f1,f2,qa,kh2];cases r.input == 0 <;> cases eqV r.const kcw <;> first | exact ⟨4,rfl,rfl⟩ | skip;simp only [qab,qbb,qf,qd,qa];cases o.2 with
  | false=>exact ⟨5,rfl,rfl⟩
  | true=>
   simp only [qab,qd];by_cases hl:r.args.length=o.1.f_Args.length
   ·rw [show ((r.args.length:Int) != (o.1.f_Args.length:Int))=false by rw [qap];omega];obtain ⟨c,g1,g2⟩:=kaeb l r o ha hl;simp only [qd,g1,g2,qa,f];cases c with
    | inl u=>
     simp only [qh,qa];rw [kafo];cases x.type != o.1.f_Result <;> exact ⟨_,rfl,rfl⟩
    | inr e=>exact ⟨e,rfl,rfl⟩
   ·rw [show ((r.args.length:Int) != (o.1.f_Args.length:Int))=true by rw [qbl];omega];exact ⟨2,rfl,rfl⟩
theorem kqo {σ β:Type} {step:σ->Option (σ ⊕ β)} (n:Nat) (S:Nat->σ) (b0:β) (hs:∀ i,i<n->step (S i)=some (.inl (S (i+1)))\/∃ b,step (S i)=some (.inr b)/\b≠b0):
  ∀ (k i:Nat),kaa step k (S i)=some b0->∀ j,i<=j->j<n->step (S j)=some (.inl (S (j+1)))
 | 0,i,h=>by cases h
 | k+1,i,h=>fun j a c=>by
  rw [kaa] at h;rcases hs i (by omega) with h1 | ⟨b,h1,h2⟩
  ·rw [h1] at h;by_cases d:i=j;subst d;exact h1
   ·exact kqo n S b0 hs k (i+1) h j (by omega) c
  ·rw [h1] at h;injection h with h;exact absurd h h2
theorem k7a {α:Type} (xs:List α) (i:Nat) (hi:i<=xs.length):cutL xs 0 (i:Int)=some (xs.take i):=by unfold cutL;rw [qj (by omega)];simp
theorem kahd (l:La) (i:Nat) (hi:i<l.rules.length) (hl:l.rules.length<=9223372036854775807) (hr:∀ j (g:j<l.rules.length),j<=i->fineR l.rules[j]):∃ b,kce (l.rules.take i) l.rules[i]=some b/\kaa (kb4 l (i:Int)) fuel 0=some (if b=true then .inr 6 else .inl ()):=by
 have a:(l.rules.take i).length=i:=by rw [qah];omega
 obtain ⟨r,r',h1,h2,h3⟩:=kj9 (step:=kbv (l.rules.take i) l.rules[i]) (step':=kb4 l (i:Int)) i (by omega) (fun j=>(j:Int)) (fun j=>(j:Int))
  (fun r r'=>(r = .inl ()/\r' = .inl ())\/∃ j:Nat,r = .inr (j:Int)/\r' = .inr 6) (fun j g=>by
  have e0:l.rules[i]?=some l.rules[i]:=qc hi;have d:j<l.rules.length:=by omega
  have e1:l.rules[j]?=some l.rules[j]:=qc d;have e2:(l.rules.take i)[j]?=some l.rules[j]:=by rw [List.getElem?_take_of_lt g,e1]
  have b1:decide ((j:Int)<(i:Int))=true:=qe (by omega);have b2:decide ((j:Int)<((l.rules.take i).length:Int))=true:=by rw [a];exact b1
  obtain ⟨c,c1,c2⟩:=k5a (hr j d (by omega)) (hr i hi (qy _));simp only [kbv,kb4,kk7,b1,b2,qf,kak,e0,e1,e2,qa,c1,c2,kcf (n:=j) (by omega)];cases c with
  | true=>exact .inr ⟨_,_,rfl,rfl, .inr ⟨j,rfl,rfl⟩⟩
  | false=>exact .inl ⟨rfl,rfl⟩) (by
  have b1:decide ((i:Int)<(i:Int))=false:=qb (by omega);have b2:decide ((i:Int)<((l.rules.take i).length:Int))=false:=by rw [a];exact b1
  simp only [kbv,kb4,b1,b2,qd];exact ⟨_,_,rfl,rfl, .inl ⟨rfl,rfl⟩⟩)
 have e:kaa (kbv (l.rules.take i) l.rules[i]) fuel 0=some r:=by simpa using h1
 have f:kaa (kb4 l (i:Int)) fuel 0=some r':=by simpa using h2
 unfold kce kd7;rw [e,f];rcases h3 with ⟨rfl,rfl⟩ | ⟨j,rfl,rfl⟩;exact ⟨false,rfl,rfl⟩
 ·refine ⟨true,?_,rfl⟩;simp only [qa,qi];exact q9 some (qe (by omega))
end Go.Proofs.YtaimpcnpifoidaaGreatDoor
