import Derived.Test.YtjbonbdomgoklaaGreatDoorVd
import Derived.Test.YtjbonbdomgoklaaGreatDoorSa
import Derived.Test.YtjbonbdomgoklaaGreatDoorZE
set_option linter.all false
namespace Go.Proofs.YtjbonbdomgoklaaGreatDoor
open Go Go.RowKit
def badP (c:Int) (z:Bool):Option Bool:=(Option.bind ((bif (decide (97<=(ior .u8 c 32))) then (some (decide ((ior .u8 c 32)<=122))) else (some (false))):Option (Bool)) fun (v6:Bool)=>((bif (!v6) then (bif z then (some (true)) else (bif (c != 45) then (bif (decide (c<48)) then (some (true)) else (some (decide (57<c)))) else (some (false)))) else (some (false))):Option (Bool)))
def badR (c:Int) (z:Bool):Option Bool:=(Option.bind ((bif (decide (97<=c)) then (bif (decide (c<=122)) then (some (true)) else (bif (decide (65<=c)) then (some (decide (c<=90))) else (some (false)))) else (bif (decide (65<=c)) then (some (decide (c<=90))) else (some (false)))):Option (Bool)) fun (v9:Bool)=>((bif (!v9) then (bif z then (some (true)) else (bif (c != 45) then (bif (decide (c<48)) then (some (true)) else (some (decide (57<c)))) else (some (false)))) else (some (false))):Option (Bool)))
set_option maxRecDepth 100000 in
theorem kajn:(List.range 256).all (fun k=>[true,false].all fun z=>(badP (k:Int) z == badR (k:Int) z) && (badP (k:Int) z).isSome)=true:=by kernel_rfl
theorem kafe (c:UInt8) (z:Bool):∃ b,badP (c.toNat:Int) z=some b/\badR (c.toNat:Int) z=some b:=by
 have h:=qr.1 kajn c.toNat (qa8.2 (UInt8.toNat_lt c));have a:=qr.1 h z (by cases z <;> simp);simp only [qv,beq_iff_eq] at a;obtain ⟨e,d⟩:=a;cases hp:badP (c.toNat:Int) z with
 | none=>rw [hp] at d;cases d
 | some b=>exact ⟨b,rfl,by rw [<- e,hp]⟩
theorem k0t (s:BA) (hs:s.size<=9223372036854775807):∃ b,kkz s=some b/\khk s=some b:=by
 have g:=kph s;obtain ⟨r,r',h1,h,rfl,a⟩:=knp (step:=khw s) (step':=kd7 s) s.size (by omega) (fun i=>(i:Int)) (fun i=>(i:Int)) (fun r r'=>r=r'/\(r = .inl ()\/r = .inr false)) (fun i hi=>by
  have c:i<s.data.toList.length:=by rw [<- kph];exact hi
  have e1:byt s (i:Int)=some (s.data.toList[i].toNat:Int):=by rw [ky5,qb c];rfl
  have b1:decide ((i:Int)<(s.size:Int))=true:=qj (by omega);obtain ⟨b,p1,p2⟩:=kafe s.data.toList[i] ((i:Int) == 0);unfold badP at p1;unfold badR at p2;have q1:khw s (i:Int)=bif b then some (.inr (.inr false)) else some (.inl (w64 ((i:Int)+1))):=by simp only [khw,b1,qd,e1,qa];rw [<- Option.bind_assoc,p1,qa]
  have q2:kd7 s (i:Int)=bif b then some (.inr (.inr false)) else some (.inl (w64 ((i:Int)+1))):=by simp only [kd7,b1,qd,e1,qa];rw [<- Option.bind_assoc,p2,qa]
  rw [q1,q2,keq i];cases b with
  | true=>exact .inr ⟨_,_,rfl,rfl,rfl, .inr rfl⟩
  | false=>exact .inl ⟨rfl,rfl⟩) (by
  have b1:decide ((s.size:Int)<(s.size:Int))=false:=qg (by omega);simp only [khw,kd7,b1,qc];exact ⟨_,_,rfl,rfl,rfl, .inl rfl⟩)
 have d:kac (khw s) fuel 0=some r:=by simpa using h1
 have e:kac (kd7 s) fuel 0=some r:=by simpa using h
 unfold kkz khk;rw [d,e];simp only [qa];by_cases f:(s.size:Int)<1;rw [qj f,qg (show ¬ (1:Int)<=(s.size:Int) by omega)];rcases a with rfl | rfl <;> exact ⟨false,rfl,rfl⟩
 ·rw [qg f,qj (show (1:Int)<=(s.size:Int) by omega)];by_cases hg:(24:Int)<(s.size:Int);rw [qj hg,qg (show ¬ (s.size:Int)<=24 by omega)];rcases a with rfl | rfl <;> exact ⟨false,rfl,rfl⟩
  ·rw [qg hg,qj (show (s.size:Int)<=24 by omega)];rcases a with rfl | rfl;exact ⟨true,rfl,rfl⟩
   ·exact ⟨false,rfl,rfl⟩
def tyB (t:Int):Bool:=decide (1<=t) && decide (t<=8)
theorem kzy (t:Int):kkr t=some (tyB t):=by unfold kkr tyB;cases decide (1<=t) <;> rfl
theorem k28 (t:Int):kh7 t=some (tyB t):=kzy t
theorem k7y (l:La) (h:l.inputs.length<=9223372036854775807):∃ r,kac (kix l) fuel 0=some r/\kac (kfa l) fuel 0=some r/\∀ e,r = .inr e->e≠0:=by
 obtain ⟨r,r',h1,a,rfl,b⟩:=knp (step:=kix l) (step':=kfa l) l.inputs.length (by omega) (fun i=>(i:Int)) (fun i=>(i:Int)) (fun r r'=>r=r'/\∀ e,r = .inr e->e≠0) (fun i hi=>by
  have e1:l.inputs[i]?=some l.inputs[i]:=qb hi;have b1:decide ((i:Int)<(l.inputs.length:Int))=true:=qj (by omega);simp only [kix,kfa,b1,qd,kaf,e1,qa,kzy,k28,keq i];cases tyB l.inputs[i] with
  | true=>exact .inl ⟨rfl,rfl⟩
  | false=>exact .inr ⟨_,_,rfl,rfl,rfl,fun e h=>by cases h;decide⟩) (by
  have b1:decide ((l.inputs.length:Int)<(l.inputs.length:Int))=false:=qg (by omega);simp only [kix,kfa,b1,qc];exact ⟨_,_,rfl,rfl,rfl,fun e h=>by cases h⟩)
 exact ⟨r,by simpa using h1,by simpa using a,b⟩
theorem kqx {α:Type} (s:BA):∀ (m:List (BA×α)) (i:Nat),kh4 s m i=(kh4 s m 0).map fun p=>(p.1+i,p.2)
 | [],i=>rfl
 | (k,v)::l,i=>by
  simp only [kh4];cases s.toList == k.toList with
  | true=>simp
  | false=>
   simp only [qc];rw [kqx s l (i+1),kqx s l (0+1),Option.map_map];congr 1;funext p;simp only [Function.comp,qt,and_true];omega
theorem kq8 {α:Type} (k s:BA) (v z:α) (l:List (BA×α)):mget ((k,v)::l) s z=bif s.toList == k.toList then v else mget l s z:=by
 unfold mget;simp only [kh4];cases s.toList == k.toList with
 | true=>rfl
 | false=>
  simp only [qc];rw [kqx];cases kh4 s l 0 <;> rfl
theorem kabq {α:Type} (k s:BA) (v y:α) (l:List (BA×α)):mput ((k,v)::l) s y=bif s.toList == k.toList then (s,y)::l else (k,v)::mput l s y:=by
 unfold mput;simp only [kh4];cases s.toList == k.toList with
 | true=>rfl
 | false=>
  simp only [qc];rw [kqx];cases kh4 s l 0 <;> rfl
theorem kaan {a b:BA} (c:BA) (h:(a.toList == b.toList)=true):(c.toList == a.toList)=(c.toList == b.toList):=by rw [beq_iff_eq] at h;rw [h]
theorem kri {α:Type} (k s:BA) (y z:α):∀ m:List (BA×α),mget (mput m k y) s z=bif s.toList == k.toList then y else mget m s z
 | []=>by show mget [(k,y)] s z=_;rw [kq8]
 | (k',v)::l=>by
  rw [kabq];cases h:k.toList == k'.toList with
  | true=>
   simp only [qd];rw [kq8,kq8,kaan s h];cases s.toList == k'.toList <;> rfl
  | false=>
   simp only [qc];rw [kq8,kq8,kri k s y z l];cases h1:s.toList == k'.toList with
   | false=>rfl
   | true=>
    cases a:s.toList == k.toList with
    | false=>rfl
    | true=>
     rw [beq_iff_eq] at h1 a;rw [<- h1,<- a] at h;simp at h
def mOf (xs:List Sy):List (BA×Bool):=xs.foldl (fun m x=>mput m x.name true) []
theorem kaeo (xs:List Sy) (x:Sy):mOf (xs++[x])=mput (mOf xs) x.name true:=by unfold mOf;rw [List.foldl_append];rfl
theorem k3e (s:BA):∀ (xs:List Sy) (m:List (BA×Bool)),mget (xs.foldl (fun m x=>mput m x.name true) m) s false=(mget m s false || xs.any fun x=>s.toList == x.name.toList)
 | [],m=>by simp
 | x::xs,m=>by rw [List.foldl_cons,k3e s xs,kri,List.any_cons];cases s.toList == x.name.toList <;> simp
theorem kagi (s:BA) (xs:List Sy):mget (mOf xs) s false=xs.any fun x=>s.toList == x.name.toList:=by unfold mOf;rw [k3e];rfl
theorem kajy (l:La) (i:Nat) (hi:i<l.symbols.length) (hl:l.symbols.length<=9223372036854775807):kac (ke4 l (i:Int)) fuel 0=some (if ((l.symbols.take i).any fun x=>l.symbols[i].name.toList == x.name.toList)=true then .inr 6 else .inl ()):=by
 have c:(l.symbols.take i).length=i:=by rw [qam];omega
 have:=kk2 (ke4 l (i:Int)) i (fun j=>(j:Int)) (fun j=>if (((l.symbols.take i).drop j).any fun x=>l.symbols[i].name.toList == x.name.toList)=true then .inr 6 else .inl ()) (fun j d=>by
  have e0:l.symbols[i]?=some l.symbols[i]:=qb hi;have a:j<l.symbols.length:=by omega
  have e1:l.symbols[j]?=some l.symbols[j]:=qb a;have b1:decide ((j:Int)<(i:Int))=true:=qj (by omega);have b:(l.symbols.take i).drop j=l.symbols[j]::(l.symbols.take i).drop (j+1):=by rw [qav (by omega)];congr 1;exact List.getElem_take
  have hc:(l.symbols[j].name.toList == l.symbols[i].name.toList)=(l.symbols[i].name.toList == l.symbols[j].name.toList):=by rw [Bool.eq_iff_iff,beq_iff_eq,beq_iff_eq];exact eq_comm
  simp only [ke4,b1,qd,kaf,e0,e1,qa,b,List.any_cons,keq j,hc];cases e:l.symbols[i].name.toList == l.symbols[j].name.toList with
  | true=>exact .inr rfl
  | false=>exact .inl ⟨rfl,rfl⟩) (by
  have b1:decide ((i:Int)<(i:Int))=false:=qg (by omega);have b:(l.symbols.take i).drop i=[]:=qbs (by omega);simp only [ke4,b1,qc,b,List.any_nil];rfl)
 simpa using this
theorem k6a (l:La) (h:l.symbols.length<=9223372036854775807) (hs:∀ x∈l.symbols,x.name.size<=9223372036854775807):∃ r,kac (kiz l) fuel (0,[])=some r/\kac (kfc l) fuel 0=some r/\∀ e,r = .inr e->e≠0:=by
 obtain ⟨r,r',h1,c,rfl,d⟩:=knp (step:=kiz l) (step':=kfc l) l.symbols.length (by omega) (fun i=>((i:Int),mOf (l.symbols.take i))) (fun i=>(i:Int)) (fun r r'=>r=r'/\∀ e,r = .inr e->e≠0) (fun i hi=>by
  have e1:l.symbols[i]?=some l.symbols[i]:=qb hi;have b1:decide ((i:Int)<(l.symbols.length:Int))=true:=qj (by omega);obtain ⟨b,n1,n2⟩:=k0t l.symbols[i].name (hs _ (qn hi));have f:=kajy l i hi h;have hm:=kagi l.symbols[i].name (l.symbols.take i);have a:mput (mOf (l.symbols.take i)) l.symbols[i].name true=mOf (l.symbols.take (i+1)):=by rw [List.take_add_one,e1,<- kaeo];rfl
  simp only [kiz,kfc,b1,qd,kaf,e1,qa,n1,n2,f,hm,kzy,k28,keq i,a];cases b with
  | false=>exact .inr ⟨_,_,rfl,rfl,rfl,fun e h=>by cases h;decide⟩
  | true=>
   simp only [qbc,qc];cases g:(l.symbols.take i).any fun x=>l.symbols[i].name.toList == x.name.toList with
   | true=>exact .inr ⟨_,_,rfl,rfl,rfl,fun e h=>by cases h;decide⟩
   | false=>
    cases tyB l.symbols[i].type with
    | true=>exact .inl ⟨rfl,rfl⟩
    | false=>exact .inr ⟨_,_,rfl,rfl,rfl,fun e h=>by cases h;decide⟩) (by
  have b1:decide ((l.symbols.length:Int)<(l.symbols.length:Int))=false:=qg (by omega);simp only [kiz,kfc,b1,qc];exact ⟨_,_,rfl,rfl,rfl,fun e h=>by cases h⟩)
 exact ⟨r,by simpa [mOf] using h1,by simpa using c,d⟩
set_option maxRecDepth 100000
def opL:List Saf:=operator_catalog.getD []
theorem kaa5:operator_catalog.isSome=true:=by kernel_rfl
theorem kamm:operator_catalog=some opL:=by
 have h:=kaa5;unfold opL
 revert h
 generalize operator_catalog=x;intro h;cases x with
 | none=>cases h
 | some x=>rfl
def refFs:List BA:=synthesisref09_families.getD []
theorem kaf4:synthesisref09_families=some refFs:=rfl
def catL (f:BA):List Sae:=(kdg f).getD []
theorem kaf9:refFs.all (fun f=>(kdg f).isSome)=true:=by kernel_rfl
theorem kajs {f:BA} (hf:f∈refFs):kdg f=some (catL f):=by
 have h:=qr.1 kaf9 f hf;unfold catL
 revert h
 generalize kdg f=x;intro h;cases x with
 | none=>cases h
 | some x=>rfl
def opNames:List BA:=opL.map fun e=>e.yk.yi
theorem kaaw:(refFs.flatMap fun f=>(catL f).map fun x=>x.f_0)=opNames:=by kernel_rfl
def eqOp:Option (Sab×Bool)->Option (Sab×Bool)->Bool
 | some (a,b),some (c,d)=>(a.yi.toList == c.yi.toList) && (a.yb == c.yb) && (a.yj == c.yj) && (b == d)
 | _,_=>false
theorem kakc {x y:Option (Sab×Bool)} (h:eqOp x y=true):∃ r,x=some r/\y=some r:=by
 unfold eqOp at h;split at h
 ·rename_i a b c d;simp only [qv,beq_iff_eq] at h;obtain ⟨⟨⟨h1,e⟩,f⟩,rfl⟩:=h;obtain ⟨n,l,t⟩:=a;obtain ⟨n',l',t'⟩:=c;simp only at h1 e f;have h1:n=n':=by have:(n.toList == n'.toList)=true:=(by simpa using h1);rw [kk6,MapKept.bytes_beq] at this;exact this
  subst h1 e f;exact ⟨_,rfl,rfl⟩
 ·cases h
theorem kadx:opNames.all (fun n=>eqOp (kjw n) (kdq n))=true:=by kernel_rfl
def kabx:Sab:=Sab.mk ⟨#[]⟩ [] 0
theorem k8j:opL.length<1000:=of_decide_eq_true (by kernel_rfl)
theorem k25:refFs.length<1000:=of_decide_eq_true (by kernel_rfl)
theorem k6d:refFs.all (fun f=>decide ((catL f).length<1000))=true:=by kernel_rfl
theorem k7c {f:BA} (hf:f∈refFs):(catL f).length<1000:=of_decide_eq_true (qr.1 k6d f hf)
theorem k3g (s:BA) (c:¬ s∈opNames):kjw s=some (kabx,false)/\kdq s=some (kabx,false):=by
 refine ⟨?_,?_⟩
 ·have hl:=kck (kiy s opL) opL.length (fun i=>(i:Int)) (.inl ()) (fun i hi=>by
   have e1:opL[i]?=some opL[i]:=qb hi;have b1:decide ((i:Int)<(opL.length:Int))=true:=qj (by omega);have a:(opL[i].yk.yi.toList == s.toList)=false:=by
    cases d:opL[i].yk.yi.toList == s.toList with
    | false=>rfl
    | true=>
     rw [kk6,MapKept.bytes_beq] at d;exact absurd (qaa.2 ⟨opL[i],qn hi,d⟩) c
   simp only [kiy,b1,qd,kaf,e1,qa,a,qc,keq i (h:=(by have:=k8j;omega))]) (by
   have b1:decide ((opL.length:Int)<(opL.length:Int))=false:=qg (by omega);simp only [kiy,b1,qc]) (hn:=(by have:=k8j;omega))
  have b:kac (kiy s opL) fuel 0=some (.inl ()):=by simpa using hl
  simp only [kjw,kox,kamm,qa,b,qy];rfl
 ·have hl:=kck (kez s refFs) refFs.length (fun i=>(i:Int)) (.inl ()) (fun i hi=>by
   have e1:refFs[i]?=some refFs[i]:=qb hi;have hf:refFs[i]∈refFs:=qn hi;have b1:decide ((i:Int)<(refFs.length:Int))=true:=qj (by omega);have f:=kck (ker s refFs[i] (catL refFs[i])) (catL refFs[i]).length (fun i=>(i:Int)) (.inl ()) (fun j g=>by
    have e2:(catL refFs[i])[j]?=some (catL refFs[i])[j]:=qb g;have b2:decide ((j:Int)<((catL refFs[i]).length:Int))=true:=qj (by omega);have a:((catL refFs[i])[j].f_0.toList == s.toList)=false:=by
     cases d:(catL refFs[i])[j].f_0.toList == s.toList with
     | false=>rfl
     | true=>
      rw [kk6,MapKept.bytes_beq] at d;refine absurd ?_ c;rw [<- kaaw];exact qay.2 ⟨refFs[i],hf,qaa.2 ⟨_,qn g,d⟩⟩
    simp only [ker,b2,qd,kaf,e2,qa,a,qc,keq j (h:=(by have:=k7c hf;omega))]) (by
    have b2:decide (((catL refFs[i]).length:Int)<((catL refFs[i]).length:Int))=false:=qg (by omega);simp only [ker,b2,qc]) (hn:=(by have:=k7c hf;omega))
   have e:kac (ker s refFs[i] (catL refFs[i])) fuel 0=some (.inl ()):=(by simpa using f);simp only [kez,b1,qd,kaf,e1,qa,kajs hf,e,qy,keq i (h:=(by have:=k25;omega))]) (by
   have b1:decide ((refFs.length:Int)<(refFs.length:Int))=false:=qg (by omega);simp only [kez,b1,qc]) (hn:=(by have:=k25;omega))
  have b:kac (kez s refFs) fuel 0=some (.inl ()):=by simpa using hl
  simp only [kdq,kjs,kaf4,qa,b,qy,beq_self_eq_true,qd];rfl
theorem kaby (s:BA):∃ r,kjw s=some r/\kdq s=some r:=by
 by_cases a:s∈opNames;exact kakc (qr.1 kadx s a)
 ·exact ⟨_,k3g s a⟩
theorem kx1 {α:Type} {xs:List α} {i:Int} (h0:0<=i) (h1:i<(xs.length:Int)):∃ x,idx xs i=some x/\x∈xs:=by
 have h:i.toNat<xs.length:=by omega
 refine ⟨xs[i.toNat],?_,qn h⟩;unfold idx;rw [ql h0,qb h]
theorem kadj (x y:List Int):kiq x y=kdc x y:=rfl
theorem kab6 (x y:List Int) (d:x.length<=9223372036854775807):∃ c,kdc x y=some c:=by
 unfold kdc;by_cases hl:(x.length:Int)=(y.length:Int)
 ·obtain ⟨r,h1,_⟩:=kty (kc5 x y) (kc5 x y) x.length (fun i=>(i:Int)) (fun i hi=>by
   have e1:x[i]?=some x[i]:=qb hi;have hi2:i<y.length:=(by omega);have e2:y[i]?=some y[i]:=qb hi2;have b1:decide ((i:Int)<(x.length:Int))=true:=qj (by omega);simp only [kc5,b1,qd,kaf,e1,e2,qa,keq i];cases x[i] != y[i] with
   | true=>exact .inr ⟨_,rfl,rfl⟩
   | false=>exact .inl ⟨rfl,rfl⟩) (.inl ()) (by
   have b1:decide ((x.length:Int)<(x.length:Int))=false:=qg (by omega);simp only [kc5,b1,qc]) (by
   have b1:decide ((x.length:Int)<(x.length:Int))=false:=qg (by omega);simp only [kc5,b1,qc])
  have a:kac (kc5 x y) fuel 0=some r:=by simpa using h1
  rw [a,show ((x.length:Int) != (y.length:Int))=false by rw [qb5];omega];cases r with
  | inl u=>exact ⟨true,rfl⟩
  | inr b=>exact ⟨b,rfl⟩
 ·rw [show ((x.length:Int) != (y.length:Int))=true by rw [bne_iff_ne];omega];exact ⟨false,rfl⟩
theorem ky8 (x:List Int):kdc x []=some ((x.length:Int) == 0):=by
 cases x with
 | nil=>kernel_rfl
 | cons a x=>
  unfold kdc;have h1:((((a::x).length:Nat):Int) != (([]:List Int).length:Int))=true:=by rw [bne_iff_ne,qat,qbx];omega
  have b:((((a::x).length:Nat):Int) == 0)=false:=by rw [qaw,qat];omega
  rw [h1,b];rfl
def fineR (r:Ru):Prop:=r.args.length<=9223372036854775807/\okV r.const/\kuw r.const
theorem k4j {a b:Ru} (ha:fineR a) (d:fineR b):∃ c,kfe a b=some c/\kg5 a b=some c:=by obtain ⟨c,hc⟩:=kab6 a.args b.args ha.1;unfold kfe kg5;simp only [kadj,hc,qa,kuu ha.2.1 d.2.1,k54 ha.2.1 d.2.1];cases a.symbol == b.symbol <;> cases a.kind == b.kind <;> cases a.input == b.input <;> cases a.op.toList == b.op.toList <;> cases c <;> exact ⟨_,rfl,rfl⟩
theorem kamb (v:Va):Va.mk v.type v.num v.text v.items=v:=by cases v;rfl
def kh1:Va:=Va.mk 0 0 ⟨#[]⟩ []
theorem kzs:okV kh1:=by refine ⟨?_,?_,trivial⟩ <;> simp [kh1,depV,kt0]
theorem kad2 (l:La) (r:Ru) (o:Sab×Bool) (hr:r.args.length<=9223372036854775807) (hl:r.args.length=o.1.yb.length):∃ c,kac (kju l r o) fuel 0=some c/\kac (kbd l r o) fuel 0=some c:=by
 obtain ⟨c,h1,a⟩:=kty (kju l r o) (kbd l r o) r.args.length (fun i=>(i:Int)) (fun i hi=>by
  have e1:r.args[i]?=some r.args[i]:=qb hi;have hi2:i<o.1.yb.length:=by omega
  have e2:o.1.yb[i]?=some o.1.yb[i]:=qb hi2;have b1:decide ((i:Int)<(r.args.length:Int))=true:=qj (by omega);simp only [kju,kbd,kj6,b1,qd,kaf,e1,e2,qa,keq i];by_cases h0:0<=r.args[i]
  ·by_cases h1:r.args[i]<(l.symbols.length:Int)
   ·obtain ⟨x,b,_⟩:=kx1 h0 h1;rw [qj h0,qj h1,qg (show ¬ r.args[i]<0 by omega),qg (show ¬ (l.symbols.length:Int)<=r.args[i] by omega)];simp only [qd,qc,qa,qbc,b];cases x.type != o.1.yb[i] with
    | true=>exact .inr ⟨_,rfl,rfl⟩
    | false=>exact .inl ⟨rfl,rfl⟩
   ·rw [qj h0,qg h1,qg (show ¬ r.args[i]<0 by omega),qj (show (l.symbols.length:Int)<=r.args[i] by omega)];exact .inr ⟨_,rfl,rfl⟩
  ·rw [qg h0,qj (show r.args[i]<0 by omega)];exact .inr ⟨_,rfl,rfl⟩) (.inl ()) (by
  have b1:decide ((r.args.length:Int)<(r.args.length:Int))=false:=qg (by omega);simp only [kju,b1,qc]) (by
  have b1:decide ((r.args.length:Int)<(r.args.length:Int))=false:=qg (by omega);simp only [kbd,b1,qc])
 exact ⟨c,by simpa using h1,by simpa using a⟩
theorem kab2 (a b:Int):(a != b)=(b != a):=by rw [Bool.eq_iff_iff,bne_iff_ne,bne_iff_ne];exact ⟨fun h e=>h e.symm,fun h e=>h e.symm⟩
theorem kaf0 (l:La) (r:Ru) (ha:r.args.length<=9223372036854775807) (b:kc8 r.const (Va.mk 0 0 ⟨#[]⟩ [])=some (eqV r.const kh1)) (hp:kh6 r.const (Va.mk 0 0 ⟨#[]⟩ [])=some (eqV r.const kh1)) (hc:∃ c,kbh fuel r.const=some c/\kaw fuel r.const=some c):∃ c,kl6 l r=some c/\keh l r=some c:=by
 have a:kh6 (Va.mk r.const.type r.const.num r.const.text r.const.items) (Va.mk 0 0 ⟨#[]⟩ [])=some (eqV r.const kh1):=by rw [kamb];exact hp
 have d:kh6 (Va.mk 0 0 ⟨#[]⟩ []) (Va.mk 0 0 ⟨#[]⟩ [])=some true:=by have:=kuu kzs kzs;rw [kaei] at this;exact this
 unfold kl6 keh kj6;by_cases h0:0<=r.symbol
 rotate_left
 rw [qg h0,qj (show r.symbol<0 by omega)];exact ⟨1,rfl,rfl⟩;by_cases h1:r.symbol<(l.symbols.length:Int)
 rotate_left
 rw [qj h0,qg h1,qg (show ¬ r.symbol<0 by omega),qj (show (l.symbols.length:Int)<=r.symbol by omega)];exact ⟨1,rfl,rfl⟩;obtain ⟨x,f,_⟩:=kx1 h0 h1;rw [qj h0,qj h1,qg (show ¬ r.symbol<0 by omega),qg (show ¬ (l.symbols.length:Int)<=r.symbol by omega)];simp only [qd,qc,qa,qbc];by_cases k1:r.kind<1;rw [qj k1];exact ⟨4,rfl,rfl⟩;by_cases k3:3<r.kind;rw [qg k1,qj k3];exact ⟨4,rfl,rfl⟩;rw [qg k1,qg k3];simp only [qc,qa,f];have hk:r.kind=1\/r.kind=2\/r.kind=3:=by omega
 rcases hk with hk | hk | hk
 ·have c1:(r.kind == 1)=true:=by rw [hk];rfl
  simp only [c1,qd,qa,kfe,kf1,beq_self_eq_true,ky8,a,b];have fin:∃ c,(Option.bind ((bif (decide (r.input<0)) then (some (true)) else (some (decide ((List.length l.inputs:Int)<=r.input)))):Option (Bool)) fun (v9:Bool)=>(bif v9 then (some 1) else (Option.bind (idx l.inputs r.input) fun v10=>(Option.bind (kh9 (v10) (x.type)) fun v11=>(some v11)))))=some c /\
    (Option.bind ((bif (decide (r.input<0)) then (some (true)) else (some (decide ((List.length l.inputs:Int)<=r.input)))):Option (Bool)) fun (v8:Bool)=>(bif v8 then (some 1) else (Option.bind (idx l.inputs r.input) fun v9=>(bif (v9 != x.type) then (some 3) else (some 0)))))=some (c:Int):=by
   by_cases i0:r.input<0;rw [qj i0];exact ⟨1,rfl,rfl⟩;by_cases i1:(l.inputs.length:Int)<=r.input;rw [qg i0,qj i1];exact ⟨1,rfl,rfl⟩;obtain ⟨y,hy,_⟩:=kx1 (xs:=l.inputs) (i:=r.input) (by omega) (by omega);rw [qg i0,qg i1];simp only [qc,qa,hy,kh9];cases y != x.type <;> exact ⟨_,rfl,rfl⟩
  obtain ⟨c,f1,f2⟩:=fin;cases r.op.toList == (⟨#[]⟩:BA).toList <;> cases (r.args.length:Int) == 0 <;> cases eqV r.const kh1 <;> first | exact ⟨4,rfl,rfl⟩ | exact ⟨c,f1,f2⟩
 ·have c1:(r.kind == 1)=false:=by rw [hk];rfl
  have c2:(r.kind == 2)=true:=by rw [hk];rfl
  simp only [c1,c2,qd,qc,qa,kfe,kf1,beq_self_eq_true,ky8,d,b];obtain ⟨c,f1,f2⟩:=hc;simp only [f1,f2,qa,kh9];cases r.input == 0 <;> cases r.op.toList == (⟨#[]⟩:BA).toList <;> cases (r.args.length:Int) == 0 <;> first | exact ⟨4,rfl,rfl⟩ | skip
  cases c != 0 with
  | true=>exact ⟨c,rfl,rfl⟩
  | false=>cases r.const.type != x.type <;> exact ⟨_,rfl,rfl⟩
 ·have c1:(r.kind == 1)=false:=by rw [hk];rfl
  have c2:(r.kind == 2)=false:=by rw [hk];rfl
  have c3:(r.kind == 3)=true:=by rw [hk];rfl
  have en:kdc [] []=some true:=ky8 [];simp only [c1,c2,c3,qd,qc,qa,kfe,kf1,beq_self_eq_true,en,a,b];obtain ⟨o,f1,f2⟩:=kaby r.op;simp only [ket,f1,f2,qa,kh9];cases r.input == 0 <;> cases eqV r.const kh1 <;> first | exact ⟨4,rfl,rfl⟩ | skip
  simp only [qbc,Bool.not_false,qd,qc,qa];cases o.2 with
  | false=>exact ⟨5,rfl,rfl⟩
  | true=>
   simp only [qbc,qc];by_cases hl:r.args.length=o.1.yb.length
   ·rw [show ((r.args.length:Int) != (o.1.yb.length:Int))=false by rw [qb5];omega];obtain ⟨c,g1,g2⟩:=kad2 l r o ha hl;simp only [qc,g1,g2,qa,f];cases c with
    | inl u=>
     simp only [qy,qa];rw [kab2];cases x.type != o.1.yj <;> exact ⟨_,rfl,rfl⟩
    | inr e=>exact ⟨e,rfl,rfl⟩
   ·rw [show ((r.args.length:Int) != (o.1.yb.length:Int))=true by rw [bne_iff_ne];omega];exact ⟨2,rfl,rfl⟩
theorem kvw {σ β:Type} {step:σ->Option (σ ⊕ β)} (n:Nat) (S:Nat->σ) (b0:β) (hs:∀ i,i<n->step (S i)=some (.inl (S (i+1)))\/∃ b,step (S i)=some (.inr b)/\b≠b0):
  ∀ (k i:Nat),kac step k (S i)=some b0->∀ j,i<=j->j<n->step (S j)=some (.inl (S (j+1)))
 | 0,i,h=>by cases h
 | k+1,i,h=>fun j a c=>by
  rw [kac] at h;rcases hs i (by omega) with h1 | ⟨b,h1,d⟩
  ·rw [h1] at h;by_cases e:i=j;subst e;exact h1
   ·exact kvw n S b0 hs k (i+1) h j (by omega) c
  ·rw [h1] at h;injection h with h;exact absurd h d
theorem k46 {α:Type} (xs:List α) (i:Nat) (hi:i<=xs.length:=by omega):cutL xs 0 (i:Int)=some (xs.take i):=by unfold cutL;rw [ql (by omega)];simp
theorem kagd (l:La) (i:Nat) (hi:i<l.rules.length) (hl:l.rules.length<=9223372036854775807) (hr:∀ j (g:j<l.rules.length),j<=i->fineR l.rules[j]):∃ b,kcb (l.rules.take i) l.rules[i]=some b/\kac (kdx l (i:Int)) fuel 0=some (if b=true then .inr 6 else .inl ()):=by
 have a:(l.rules.take i).length=i:=by rw [qam];omega
 obtain ⟨r,r',h1,h,k⟩:=knp (step:=kbn (l.rules.take i) l.rules[i]) (step':=kdx l (i:Int)) i (by omega) (fun j=>(j:Int)) (fun j=>(j:Int))
  (fun r r'=>(r = .inl ()/\r' = .inl ())\/∃ j:Nat,r = .inr (j:Int)/\r' = .inr 6) (fun j g=>by
  have e0:l.rules[i]?=some l.rules[i]:=qb hi;have d:j<l.rules.length:=by omega
  have e1:l.rules[j]?=some l.rules[j]:=qb d;have e2:(l.rules.take i)[j]?=some l.rules[j]:=by rw [List.getElem?_take_of_lt g,e1]
  have b1:decide ((j:Int)<(i:Int))=true:=qj (by omega);have b2:decide ((j:Int)<((l.rules.take i).length:Int))=true:=by rw [a];exact b1
  obtain ⟨c,c1,c2⟩:=k4j (hr j d (by omega)) (hr i hi (qx _));simp only [kbn,kdx,klt,b1,b2,qd,kaf,e0,e1,e2,qa,c1,c2,keq j];cases c with
  | true=>exact .inr ⟨_,_,rfl,rfl, .inr ⟨j,rfl,rfl⟩⟩
  | false=>exact .inl ⟨rfl,rfl⟩) (by
  have b1:decide ((i:Int)<(i:Int))=false:=qg (by omega);have b2:decide ((i:Int)<((l.rules.take i).length:Int))=false:=by rw [a];exact b1
  simp only [kbn,kdx,b1,b2,qc];exact ⟨_,_,rfl,rfl, .inl ⟨rfl,rfl⟩⟩)
 have e:kac (kbn (l.rules.take i) l.rules[i]) fuel 0=some r:=by simpa using h1
 have f:kac (kdx l (i:Int)) fuel 0=some r':=by simpa using h
 unfold kcb kd4;rw [e,f];rcases k with ⟨rfl,rfl⟩ | ⟨j,rfl,rfl⟩;exact ⟨false,rfl,rfl⟩
 ·refine ⟨true,?_,rfl⟩;simp only [qa,qaj];exact congrArg some (qj (by omega))
theorem kagj (n:Nat) (x z:Va) (d:z.items=[]):kdl (n+1) x z=some (cmpV x z):=by
 show kib (kdl n) x z=_;rw [kv0];unfold kib;by_cases h1:x.type<z.type;rw [qj h1,ql h1];rfl;rw [qg h1,qi h1,qc];by_cases a:z.type<x.type;rw [qj a,ql a];rfl;rw [qg a,qi a,qc];by_cases b:x.num<z.num;rw [qj b,ql b];rfl;rw [qg b,qi b,qc];by_cases c:z.num<x.num;rw [qj c,ql c];rfl;rw [qg c,qi c,qc,k32];show (bif kh5 x.text z.text then _ else bif kh5 z.text x.text then _ else _)=_;cases f:kh5 x.text z.text with
 | true=>rfl
 | false=>
  cases g:kh5 z.text x.text with
  | true=>rfl
  | false=>
   simp only [qc,Bool.false_eq_true,if_false];cases hi:x.items with
   | nil=>
    have:kac (kco x z (kdl n)) fuel 0=some (.inl ()):=(by rw [ktz,kac];simp [kco,hi]);rw [this,d];simp [kja]
   | cons y l=>
    have:kac (kco x z (kdl n)) fuel 0=some (.inr 1):=(by rw [ktz,kac];have e:idx (y::l) 0=some y:=kaf (y::l) 0;simp [kco,hi,e,d]);rw [this,d];simp [kja]
theorem kage (n:Nat) (x:Va):kdl (n+1) x kh1=some (cmpV x kh1):=kagj n x kh1 rfl
theorem k95 (n:Nat) (l:List Va):kc9 (n+1) l []=some (if l.length=0 then 0 else 1):=by
 show kcx (ka1 n) (kc9 n) l []=_;have:kac (ka6 l [] (ka1 n)) fuel 0=some (.inl ()):=by rw [ktz,kac];cases l <;> simp [ka6]
 unfold kcx;rw [this];cases l with
 | nil=>simp
 | cons y l=>
  have h1:((((y::l).length:Nat):Int) == (([]:List Va).length:Int))=false:=by rw [qaw,qat,qbx];omega
  have a:decide ((((y::l).length:Nat):Int)<(([]:List Va).length:Int))=false:=qg (by rw [qat,qbx];omega);simp only [qa,qy,h1,a,qc,kpf];rfl
theorem kaef (n:Nat) (x z:Va) (d:z.items=[]):ka1 (n+2) x z=some (cmpV x z):=by
 show kdn (ka1 (n+1)) (kc9 (n+1)) x z=_;rw [kv0];unfold kdn;have e:kja x.items []=if x.items.length=0 then 0 else 1:=by cases x.items <;> rfl
 have a:=k95 n x.items;rw [d,e,a];by_cases t0:x.type=z.type
 ·rw [show (x.type != z.type)=false by rw [qb5];exact t0,qc,qi (show ¬ x.type<z.type by omega),qi (show ¬ z.type<x.type by omega)];by_cases n0:x.num=z.num
  ·rw [show (x.num != z.num)=false by rw [qb5];exact n0,qc,qi (show ¬ x.num<z.num by omega),qi (show ¬ z.num<x.num by omega)];by_cases b:x.text=z.text;rw [b,show (z.text.toList == z.text.toList)=true from beq_self_eq_true _];simp only [qbc,qc,qa,k1a,Bool.false_eq_true,if_false]
   ·have c:(x.text.toList == z.text.toList)=false:=(by rw [qaw];exact fun h=>b (kwh h));rw [c];simp only [Bool.not_false,qd,kpf,qa];show some (if kh5 x.text z.text=true then (-1:Int) else 1)=_;cases f:kh5 x.text z.text with
    | true=>rfl
    | false=>
     cases g:kh5 z.text x.text with
     | true=>rfl
     | false=>exact absurd (k7k f g) b
  ·rw [show (x.num != z.num)=true by rw [bne_iff_ne];exact n0,qd,kpf];by_cases hl:x.num<z.num;rw [qj hl,ql hl];rfl
   ·rw [qg hl,qi hl,ql (show z.num<x.num by omega)];rfl
 ·rw [show (x.type != z.type)=true by rw [bne_iff_ne];exact t0,qd,kpf];by_cases hl:x.type<z.type;rw [qj hl,ql hl];rfl
  ·rw [qg hl,qi hl,ql (show z.type<x.type by omega)];rfl
theorem kafm (n:Nat) (x:Va):ka1 (n+2) x kh1=some (cmpV x kh1):=kaef n x kh1 rfl
theorem kabc (x:Va):kh6 x (Va.mk 0 0 ⟨#[]⟩ [])=some (eqV x kh1):=by unfold kh6;have:=kage 18446744073709551615 x;rw [<- ktz] at this;show Option.bind (kdl fuel x kh1) _=_;rw [this];simp only [qa,eqV];by_cases h:cmpV x kh1=0 <;> simp [h]
theorem kwf (x:Va):kc8 x (Va.mk 0 0 ⟨#[]⟩ [])=some (eqV x kh1):=by unfold kc8;have:=kafm 18446744073709551614 x;show Option.bind (ka1 fuel x kh1) _=_;rw [show fuel=18446744073709551614+2 from rfl,this];simp only [qa,eqV];by_cases h:cmpV x kh1=0 <;> simp [h]
def rkT (t:Int):Nat:=if t=7 then 3 else if t=5\/t=6 then 2 else 1
def inV (x:Va):Prop:=kov 9223372036854775807 x/\kuw x
theorem kab8 {x:Va} (h:inV x):x.items.length<=9223372036854775807/\x.text.size<=9223372036854775807/\∀ y∈x.items,inV y:=by obtain ⟨l1,l2⟩:=kp3 h.1;obtain ⟨s1,s2⟩:=k72 h.2;exact ⟨l1,s1,fun y hy=>⟨l2 y hy,s2 y hy⟩⟩
theorem k5i {k:Nat}:∀ {l:List Va},(∀ y∈l,depV y<=k)->kt0 l<=k
 | [],_=>qao _
 | y::l,h=>by simp only [kt0];exact Nat.max_le.2 ⟨h y (qo ..),k5i fun z a=>h z (qk _ a)⟩
theorem k2d {x:Va} {k:Nat} (h:∀ y∈x.items,depV y<=k):depV x<=k+1:=by
 cases x with
 | mk t n s l=>simp only [depV];exact Nat.succ_le_succ (k5i h)
theorem kso {x:Va} (h:((x.items.length:Int) == 0)=true):depV x<=1:=by
 refine k2d fun y hy=>?_;have:x.items.length=0:=by have:=eq_of_beq h;omega
 rw [qbe this] at hy;cases hy
theorem k8e:∀ n:Nat,(∀ x:Va,2*rkT x.type<=n->inV x->∃ c,kbh n x=some c/\kaw n x=some c/\(c=0->depV x<=rkT x.type)) /\
  (∀ (l:List Va) (t:Int),(t=2\/t=3)->3<=n->l.length<=9223372036854775807->(∀ x∈l,inV x)->∃ c,kj7 n l t=some c/\kfd n l t=some c/\(c=0->∀ x∈l,depV x<=1)) /\
  (∀ l:List Va,5<=n->l.length<=9223372036854775807->(∀ x∈l,inV x)->∃ c,kn4 n l=some c/\khi n l=some c/\(c=0->∀ x∈l,depV x<=2))
 | 0=>⟨fun x h=>by unfold rkT at h;split at h <;> (try split at h) <;> omega,fun l t _ h=>by omega,fun l h=>by omega⟩
 | n+1=>by
  obtain ⟨ih1,ih2,ih3⟩:=k8e n;refine ⟨fun x s m=>?_,fun l t ht s hl wl=>?_,fun l s hl wl=>?_⟩
  ·show ∃ c,kc3 (kbh n) (kj7 n) (kn4 n) x=some c/\kax (kaw n) (kfd n) (khi n) x=some c/\_;obtain ⟨lx,sx,wx⟩:=kab8 m;have hS:=fun a b=>kaaf x.text a b sx;have v:=fun a b=>k6n x.text a b sx;by_cases h0:x.type<1;exact ⟨3,by simp [kc3,h0],by simp [kax,h0],fun h=>absurd h (by decide)⟩;by_cases h8:8<x.type;exact ⟨3,by simp [kc3,h0,h8],by simp [kax,h0,h8],fun h=>absurd h (by decide)⟩;have ht:x.type=1\/x.type=2\/x.type=3\/x.type=4\/x.type=5\/x.type=6\/x.type=7\/x.type=8:=(by omega);have w:∀ t,(t=2\/t=3)->rkT x.type=2->∃ c,kj7 n x.items t=some c/\kfd n x.items t=some c/\(c=0->depV x<=2):=fun t h1 y=>(by obtain ⟨c,e1,e2,e3⟩:=ih2 x.items t h1 (by omega) lx wx;exact ⟨c,e1,e2,fun h=>k2d (e3 h)⟩);have z:rkT x.type=3->∃ c,kn4 n x.items=some c/\khi n x.items=some c/\(c=0->depV x<=3):=fun y=>(by obtain ⟨c,e1,e2,e3⟩:=ih3 x.items (by omega) lx wx;exact ⟨c,e1,e2,fun h=>k2d (e3 h)⟩);have hp:=kaj1 x.items;cases e:(x.text.toList == (⟨#[]⟩:BA).toList) <;> cases hm:(x.num == 0) <;> cases hl:((x.items.length:Int) == 0) <;> rw [hl] at hp <;>
    rcases ht with ht | ht | ht | ht | ht | ht | ht | ht <;>
    first
     | (refine ⟨4,?_,?_,fun h=>absurd h (by decide)⟩;rotate_left;(simp only [kax,ht,e,hm,hp,bne];simp);(simp only [kc3,kfm,ht,e,hm,hl];simp))
     | (obtain ⟨c,e1,e2⟩:=kud x.num 0 1;refine ⟨c,?_,?_,fun _=>by rw [ht];exact kso hl⟩;rotate_left;(simp only [kax,ht,e,hm,hp,bne];simp [e2]);(simp only [kc3,kfm,ht,e,hm,hl];simp [e1]))
     | (obtain ⟨c,e1,e2⟩:=kud x.num (-1000000) 1000000;refine ⟨c,?_,?_,fun _=>by rw [ht];exact kso hl⟩;rotate_left;(simp only [kax,ht,e,hm,hp,bne];simp [e2]);(simp only [kc3,kfm,ht,e,hm,hl];simp [e1]))
     | (obtain ⟨c,e1,e2⟩:=kud x.num 0 255;refine ⟨c,?_,?_,fun _=>by rw [ht];exact kso hl⟩;rotate_left;(simp only [kax,ht,e,hm,hp,bne];simp [e2]);(simp only [kc3,kfm,ht,e,hm,hl];simp [e1]))
     | (obtain ⟨c,e1⟩:=hS 0 64;refine ⟨c,?_,?_,fun _=>by rw [ht];exact kso hl⟩;rotate_left;(simp only [kax,ht,e,hm,hp,bne];simp [v,e1]);(simp only [kc3,kfm,ht,e,hm,hl];simp [e1]))
     | (obtain ⟨c,e1⟩:=hS 1 40;refine ⟨c,?_,?_,fun _=>by rw [ht];exact kso hl⟩;rotate_left;(simp only [kax,ht,e,hm,hp,bne];simp [v,e1]);(simp only [kc3,kfm,ht,e,hm,hl];simp [e1]))
     | (obtain ⟨c,e1,e2,e3⟩:=w 2 (.inl rfl) (by rw [ht];rfl);refine ⟨c,?_,?_,fun h=>by rw [ht];exact e3 h⟩;rotate_left;(simp only [kax,ht,e,hm,hp,bne];simp [e2]);(simp only [kc3,kfm,ht,e,hm,hl];simp [e1]))
     | (obtain ⟨c,e1,e2,e3⟩:=w 3 (.inr rfl) (by rw [ht];rfl);refine ⟨c,?_,?_,fun h=>by rw [ht];exact e3 h⟩;rotate_left;(simp only [kax,ht,e,hm,hp,bne];simp [e2]);(simp only [kc3,kfm,ht,e,hm,hl];simp [e1]))
     | (obtain ⟨c,e1,e2,e3⟩:=z (by rw [ht];rfl);refine ⟨c,?_,?_,fun h=>by rw [ht];exact e3 h⟩;rotate_left;(simp only [kax,ht,e,hm,hp,bne];simp [e2]);(simp only [kc3,kfm,ht,e,hm,hl];simp [e1]))
  ·show ∃ c,ki2 (kbh n) (kj7 n) (kn4 n) l t=some c/\keb (kaw n) (kfd n) (khi n) l t=some c/\_;by_cases d:(16:Int)<(l.length:Int);exact ⟨2,by simp only [ki2,qj d,qd],by simp only [keb,qj d,qd],fun h=>absurd h (by decide)⟩
   ·have o:rkT t=1:=(by rcases ht with rfl | rfl <;> rfl);have hst:∀ (i:Nat) (hi:i<l.length),(kbe l t (kbh n) (i:Int)=some (.inl ((i+1:Nat):Int))/\kbj l t (kaw n) (i:Int)=some (.inl ((i+1:Nat):Int))/\depV l[i]<=1) \/
      ∃ c,c≠0/\kbe l t (kbh n) (i:Int)=some (.inr (.inr c))/\kbj l t (kaw n) (i:Int)=some (.inr (.inr c)):=fun i hi=>by
     have e1:l[i]?=some l[i]:=qb hi;have b1:decide ((i:Int)<(l.length:Int))=true:=qj (by omega);have p:=keq i;cases ht:(l[i].type != t) with
     | true=>exact .inr ⟨3,by decide,by simp only [kbe,b1,kaf,e1,ht,qd,qa],by simp only [kbj,b1,kaf,e1,ht,qd,qa]⟩
     | false=>
      have g:l[i].type=t:=(by rwa [qb5] at ht);obtain ⟨c,k1,k2,k3⟩:=ih1 l[i] (by rw [g,o];omega) (wl _ (qn hi));rw [g,o] at k3;cases hc:(c != 0) with
      | true=>exact .inr ⟨c,by simpa using hc,by simp only [kbe,b1,kaf,e1,ht,k1,hc,qd,qc,qa],by simp only [kbj,b1,kaf,e1,ht,k2,hc,qd,qc,qa]⟩
      | false=>exact .inl ⟨by simp only [kbe,b1,kaf,e1,ht,k1,hc,p,qd,qc,qa],by simp only [kbj,b1,kaf,e1,ht,k2,hc,p,qd,qc,qa],k3 (by rwa [qb5] at hc)⟩
    obtain ⟨r,e1,e2⟩:=kty (kbe l t (kbh n)) (kbj l t (kaw n)) l.length (fun i=>(i:Int)) (fun i hi=>by
     rcases hst i hi with ⟨a1,a2,_⟩ | ⟨c,_,a1,a2⟩;exact .inl ⟨a1,a2⟩
     ·exact .inr ⟨_,a1,a2⟩) (.inl ()) (by simp [kbe]) (by simp [kbj])
    have e1':kac (kbe l t (kbh n)) fuel 0=some r:=(by simpa using e1);have e2':kac (kbj l t (kaw n)) fuel 0=some r:=(by simpa using e2);have j:∀ c:Int,r = .inr c->c≠0:=fun c hr=>by
     obtain ⟨r2,r3,f1,f2,f3⟩:=knp (step:=kbe l t (kbh n)) (step':=kbe l t (kbh n)) l.length (by omega) (fun i=>(i:Int)) (fun i=>(i:Int)) (fun r r'=>∀ c,r = .inr c->c≠0) (fun i hi=>by
      rcases hst i hi with ⟨a1,a2,_⟩ | ⟨c,h0,a1,a2⟩;exact .inl ⟨a1,a1⟩
      ·exact .inr ⟨_,_,a1,a1,fun c' h=>by cases h;exact h0⟩) ⟨.inl (), .inl (),by simp [kbe],by simp [kbe],fun c h=>by cases h⟩
     have f1':kac (kbe l t (kbh n)) fuel 0=some r2:=(by simpa using f1);rw [e1'] at f1';cases f1';exact f3 c hr
    refine ⟨Sum.elim (fun _=>0) id r,?_,?_,fun h0=>?_⟩;simp only [ki2,qg d,qc,e1',qa];cases r <;> rfl;simp only [keb,qg d,qc,e2',qa];cases r <;> rfl
    ·cases r with
     | inr c=>exact absurd h0 (j c rfl)
     | inl u=>
      intro x m;obtain ⟨i,hi,rfl⟩:=qal.1 m;have f:=kvw (step:=kbe l t (kbh n)) l.length (fun i=>(i:Int)) (.inl u) (fun i hi=>by
       rcases hst i hi with ⟨a1,a2,_⟩ | ⟨c,_,a1,a2⟩;exact .inl a1
       ·exact .inr ⟨_,a1,fun h=>by cases h⟩) fuel 0 e1' i (qao _) hi
      rcases hst i hi with ⟨_,_,h⟩ | ⟨c,_,a1,_⟩;exact h
      ·rw [a1] at f;cases f
  ·show ∃ c,kmb (kbh n) (kj7 n) (kn4 n) l=some c/\kga (kaw n) (kfd n) (khi n) l=some c/\_;by_cases d:(8:Int)<(l.length:Int);exact ⟨2,by simp only [kmb,qj d,qd],by simp only [kga,qj d,qd],fun h=>absurd h (by decide)⟩
   ·have hst:∀ (i:Nat) (hi:i<l.length),(kca l (kbh n) (i:Int)=some (.inl ((i+1:Nat):Int))/\kbr l (kaw n) (i:Int)=some (.inl ((i+1:Nat):Int))/\depV l[i]<=2) \/
      ∃ c,c≠0/\kca l (kbh n) (i:Int)=some (.inr (.inr c))/\kbr l (kaw n) (i:Int)=some (.inr (.inr c)):=fun i hi=>by
     have e1:l[i]?=some l[i]:=qb hi;have e0:idx l 0=some (l[0]'(by omega)):=(by rw [show (0:Int)=((0:Nat):Int) from rfl,kaf,qb]);have b1:decide ((i:Int)<(l.length:Int))=true:=qj (by omega);have p:=keq i;cases ht:(l[i].type != 6) with
     | true=>exact .inr ⟨3,by decide,by simp only [kca,b1,kaf,e1,ht,qd,qa],by simp only [kbr,b1,kaf,e1,ht,qd,qa]⟩
     | false=>
      have g:l[i].type=6:=(by rwa [qb5] at ht);obtain ⟨c,k1,k2,k3⟩:=ih1 l[i] (by rw [g];show 2*2<=n;omega) (wl _ (qn hi));rw [g] at k3;obtain ⟨q,k⟩:∃ q,(bif decide ((l[i].items.length:Int)<1) then some true else bif decide (8<(l[i].items.length:Int)) then some true else (some ((l[i].items.length:Int) != ((l[0]'(by omega)).items.length:Int)):Option Bool))=some q:=(by cases decide ((l[i].items.length:Int)<1) <;> cases decide (8<(l[i].items.length:Int)) <;> exact ⟨_,rfl⟩);cases q with
      | true=>exact .inr ⟨2,by decide,by simp only [kca,b1,kaf,e1,e0,ht,k,qd,qc,qa],by simp only [kbr,b1,kaf,e1,e0,ht,k,qd,qc,qa]⟩
      | false=>
       cases hc:(c != 0) with
       | true=>exact .inr ⟨c,by simpa using hc,by simp only [kca,b1,kaf,e1,e0,ht,k,k1,hc,qd,qc,qa],by simp only [kbr,b1,kaf,e1,e0,ht,k,k2,hc,qd,qc,qa]⟩
       | false=>exact .inl ⟨by simp only [kca,b1,kaf,e1,e0,ht,k,k1,hc,p,qd,qc,qa],by simp only [kbr,b1,kaf,e1,e0,ht,k,k2,hc,p,qd,qc,qa],k3 (by rwa [qb5] at hc)⟩
    obtain ⟨r,e1,e2⟩:=kty (kca l (kbh n)) (kbr l (kaw n)) l.length (fun i=>(i:Int)) (fun i hi=>by
     rcases hst i hi with ⟨a1,a2,_⟩ | ⟨c,_,a1,a2⟩;exact .inl ⟨a1,a2⟩
     ·exact .inr ⟨_,a1,a2⟩) (.inl ()) (by simp [kca]) (by simp [kbr])
    have e1':kac (kca l (kbh n)) fuel 0=some r:=(by simpa using e1);have e2':kac (kbr l (kaw n)) fuel 0=some r:=(by simpa using e2);have j:∀ c:Int,r = .inr c->c≠0:=fun c hr=>by
     obtain ⟨r2,r3,f1,f2,f3⟩:=knp (step:=kca l (kbh n)) (step':=kca l (kbh n)) l.length (by omega) (fun i=>(i:Int)) (fun i=>(i:Int)) (fun r r'=>∀ c,r = .inr c->c≠0) (fun i hi=>by
      rcases hst i hi with ⟨a1,a2,_⟩ | ⟨c,h0,a1,a2⟩;exact .inl ⟨a1,a1⟩
      ·exact .inr ⟨_,_,a1,a1,fun c' h=>by cases h;exact h0⟩) ⟨.inl (), .inl (),by simp [kca],by simp [kca],fun c h=>by cases h⟩
     have f1':kac (kca l (kbh n)) fuel 0=some r2:=(by simpa using f1);rw [e1'] at f1';cases f1';exact f3 c hr
    refine ⟨Sum.elim (fun _=>0) id r,?_,?_,fun h0=>?_⟩;simp only [kmb,qg d,qc,e1',qa];cases r <;> rfl;simp only [kga,qg d,qc,e2',qa];cases r <;> rfl
    ·cases r with
     | inr c=>exact absurd h0 (j c rfl)
     | inl u=>
      intro x m;obtain ⟨i,hi,rfl⟩:=qal.1 m;have f:=kvw (step:=kca l (kbh n)) l.length (fun i=>(i:Int)) (.inl u) (fun i hi=>by
       rcases hst i hi with ⟨a1,a2,_⟩ | ⟨c,_,a1,a2⟩;exact .inl a1
       ·exact .inr ⟨_,a1,fun h=>by cases h⟩) fuel 0 e1' i (qao _) hi
      rcases hst i hi with ⟨_,_,h⟩ | ⟨c,_,a1,_⟩;exact h
      ·rw [a1] at f;cases f
theorem kadi (t:Int):rkT t<=3:=by unfold rkT;split <;> (try split) <;> omega
theorem k84 {x:Va} (a:inV x):∃ c,kbh fuel x=some c/\kaw fuel x=some c/\(c=0->okV x):=by have b:2*rkT x.type<=fuel:=qag (Nat.mul_le_mul_left 2 (kadi x.type)) (by decide);obtain ⟨c,h1,d,e⟩:=(k8e fuel).1 x b a;exact ⟨c,h1,d,fun h=>⟨by have:=e h;have:=kadi x.type;omega,a.1⟩⟩
def k1b (r:Ru):Prop:=r.args.length<=9223372036854775807/\inV r.const
theorem k58 {x:Va} (h:eqV x kh1=true):x=kh1:=kaie x kh1 (by simpa [eqV] using h)
theorem kalv (l:La) (r:Ru) (hr:k1b r):∃ c,kl6 l r=some c/\keh l r=some c:=by obtain ⟨c,h1,a,_⟩:=k84 hr.2;exact kaf0 l r hr.1 (kwf _) (kabc _) ⟨c,h1,a⟩
structure GoodR (l:La) (r:Ru):Prop where
 sym0:0<=r.symbol
 sym1:r.symbol<(l.symbols.length:Int)
 kind:r.kind=1\/r.kind=2\/r.kind=3
 noargs:r.kind≠3->r.args=[]
 args:∀ a∈r.args,0<=a/\a<(l.symbols.length:Int)
 few:r.args.length<=5
 fine:okV r.const
theorem kmd {α:Type} {b:Bool} {x y:Option α} {r:α} (h:(bif b then x else y)=some r):(b=true/\x=some r)\/(b=false/\y=some r):=by
 cases b;exact .inr ⟨rfl,h⟩
 ·exact .inl ⟨rfl,h⟩
theorem kly {α β:Type} {E:Option α} {K:α->Option β} {r:β} (h:Option.bind E K=some r):∃ v,E=some v/\K v=some r:=qf.1 h
theorem k6s:opNames.all (fun n=>(kdq n).all fun o=>decide (o.1.yb.length<=5))=true:=by kernel_rfl
theorem kaed {s:BA} {o:Sab×Bool} (h:kdq s=some o) (ho:o.2=true):o.1.yb.length<=5:=by
 by_cases a:s∈opNames;have:=qr.1 k6s s a;rw [h] at this;simpa using this
 ·rw [(k3g s a).2] at h;cases h;cases ho
theorem kabn {l:La} {r:Ru} (ha:r.args.length<=9223372036854775807) (h:ket l r=some 0):r.args.length<=5/\∀ a∈r.args,0<=a/\a<(l.symbols.length:Int):=by
 unfold ket at h;obtain ⟨o,h1,h⟩:=kly h;rcases kmd h with ⟨_,h⟩ | ⟨f,h⟩;cases h;rcases kmd h with ⟨_,h⟩ | ⟨g,h⟩;cases h;have e:r.args.length=o.1.yb.length:=by have:=qb5.1 g;omega
 have p:=kaed h1 (by simpa using f);obtain ⟨v,j,h⟩:=kly h;refine ⟨by omega,fun a d=>?_⟩;have hst:∀ i,i<r.args.length->kbd l r o (i:Int)=some (.inl ((i+1:Nat):Int))/\(∀ x,r.args[i]?=some x->0<=x/\x<(l.symbols.length:Int))\/∃ c,c≠0/\kbd l r o (i:Int)=some (.inr (.inr c)):=fun i hi=>by
  have e1:r.args[i]?=some r.args[i]:=qb hi;have hi2:i<o.1.yb.length:=by omega
  have e2:o.1.yb[i]?=some o.1.yb[i]:=qb hi2;have b1:decide ((i:Int)<(r.args.length:Int))=true:=qj (by omega);simp only [kbd,b1,qd,kaf,e1,e2,qa,keq i];by_cases h0:0<=r.args[i]
  ·by_cases h1:r.args[i]<(l.symbols.length:Int)
   ·obtain ⟨x,k,_⟩:=kx1 h0 h1;rw [qg (show ¬ r.args[i]<0 by omega),qg (show ¬ (l.symbols.length:Int)<=r.args[i] by omega)];simp only [qc,qa,k];cases x.type != o.1.yb[i] with
    | true=>exact .inr ⟨3,by decide,rfl⟩
    | false=>exact .inl ⟨rfl,fun y hy=>by cases hy;exact ⟨h0,h1⟩⟩
   ·rw [qg (show ¬ r.args[i]<0 by omega),qj (show (l.symbols.length:Int)<=r.args[i] by omega)];exact .inr ⟨1,by decide,rfl⟩
  ·rw [qj (show r.args[i]<0 by omega)];exact .inr ⟨1,by decide,rfl⟩
 obtain ⟨i,hi,rfl⟩:=qal.1 d;have hv:∀ c:Int,c≠0->(.inr c:Unit ⊕ Int)≠v:=fun c hc m=>by subst m;cases h;exact hc rfl
 have b:=kvw (step:=kbd l r o) r.args.length (fun i=>(i:Int)) v (fun i hi=>by
  rcases hst i hi with ⟨a1,_⟩ | ⟨c,hc,a1⟩;exact .inl a1
  ·exact .inr ⟨_,a1,hv c hc⟩) fuel 0 j i (qao _) hi
 rcases hst i hi with ⟨_,a2⟩ | ⟨c,_,a1⟩;exact a2 _ (qb hi)
 ·rw [a1] at b;cases b
theorem len0 {α:Type} {xs:List α} (h:((xs.length:Int) == 0)=true):xs=[]:=qbe (by have:=eq_of_beq h;omega)
theorem kad0 {l:La} {r:Ru} (hr:k1b r) (h:keh l r=some 0):GoodR l r:=by
 unfold keh at h;obtain ⟨b1,h1,h⟩:=kly h;rcases kmd h with ⟨_,h⟩ | ⟨j,h⟩;cases h;subst j;have hs:0<=r.symbol/\r.symbol<(l.symbols.length:Int):=by
  rcases kmd h1 with ⟨_,h1⟩ | ⟨q,h1⟩;cases h1
  ·have q:=of_decide_eq_false q;have q2:=of_decide_eq_false (qas h1);omega
 obtain ⟨b2,d,h⟩:=kly h;rcases kmd h with ⟨_,h⟩ | ⟨k,h⟩;cases h;subst k;rcases kmd d with ⟨_,d⟩ | ⟨q1,d⟩;cases d;rcases kmd d with ⟨_,d⟩ | ⟨q2,d⟩;cases d;have q1:=of_decide_eq_false q1;have q2:=of_decide_eq_false q2;obtain ⟨z,f,m⟩:=kly d;have n:z=true:=by
  cases z with
  | true=>rfl
  | false=>cases m
 subst n;obtain ⟨x,o,h⟩:=kly h;unfold kf1 at f;rw [kwf,qa] at f;have hk:r.kind=1\/r.kind=2\/r.kind=3:=by omega
 have okz:eqV r.const kh1=true->okV r.const:=fun h=>by rw [k58 h];exact kzs
 rcases hk with hk | hk | hk
 ·have c1:(r.kind == 1)=true:=by rw [hk];rfl
  rw [c1,qd] at f;obtain ⟨b,h8,g⟩:=kly f;cases g;rcases kmd h8 with ⟨e1,h8⟩ | ⟨_,h8⟩
  ·rcases kmd h8 with ⟨e2,h8⟩ | ⟨_,h8⟩;have ha:=len0 (qas h8);exact ⟨hs.1,hs.2, .inl hk,fun _=>ha,by rw [ha];intro a h;(cases h),by rw [ha];exact qao _,okz e1⟩
   ·cases h8
  ·cases h8
 ·have c1:(r.kind == 1)=false:=by rw [hk];rfl
  have c2:(r.kind == 2)=true:=by rw [hk];rfl
  rw [c1,qc,c2,qd] at f;rw [c1,qc,c2,qd] at h;obtain ⟨b,h8,g⟩:=kly f;cases g;obtain ⟨c,g1,g2⟩:=kly h;have hc:c=0:=by
   rcases kmd g2 with ⟨e,g2⟩ | ⟨e,g2⟩;cases g2;rfl
   ·exact qb5.1 e
  obtain ⟨c',f1,f2,f3⟩:=k84 hr.2;have i:c'=0:=by rw [f2] at g1;cases g1;exact hc
  rcases kmd h8 with ⟨e1,h8⟩ | ⟨_,h8⟩
  ·rcases kmd h8 with ⟨e2,h8⟩ | ⟨_,h8⟩;have ha:=len0 (qas h8);exact ⟨hs.1,hs.2, .inr (.inl hk),fun _=>ha,by rw [ha];intro a h;(cases h),by rw [ha];exact qao _,f3 i⟩
   ·cases h8
  ·cases h8
 ·have c1:(r.kind == 1)=false:=by rw [hk];rfl
  have c2:(r.kind == 2)=false:=by rw [hk];rfl
  rw [c1,qc,c2,qc] at f;rw [c1,qc,c2,qc] at h;obtain ⟨b,h8,g⟩:=kly f;cases g;obtain ⟨c,g1,g2⟩:=kly h;cases g2;obtain ⟨a1,a2⟩:=kabn hr.1 g1;rcases kmd h8 with ⟨e1,h8⟩ | ⟨_,h8⟩;exact ⟨hs.1,hs.2, .inr (.inr hk),fun h=>absurd hk h,a2,a1,okz (qas h8)⟩
  ·cases h8
theorem GoodR.fineR {l:La} {r:Ru} (h:GoodR l r) (hr:k1b r):fineR r:=⟨by have:=h.few;omega,h.fine,hr.2.2⟩
structure k1k (l:La):Prop where
 name:l.name.size<=9223372036854775807
 inputs:l.inputs.length<=9223372036854775807
 symbols:l.symbols.length<=9223372036854775807
 rules:l.rules.length<=9223372036854775807
 names:∀ x∈l.symbols,x.name.size<=9223372036854775807
 wide:∀ r∈l.rules,k1b r
structure khu (l:La):Prop where
 inputs:l.inputs.length<=4
 sym1:1<=l.symbols.length
 sym16:l.symbols.length<=16
 rules:l.rules.length<=96
 good:∀ r∈l.rules,GoodR l r
theorem kai2 (l:La) (h:k1k l):∃ r,kac (kcn l) fuel 0=some r/\kac (ka3 l) fuel 0=some r/\(r = .inl ()->∀ x∈l.rules,GoodR l x)/\(∀ e,r = .inr e->e≠0):=by
 have hl:=h.rules;have v:∀ n,n<=l.rules.length->(∃ i,i<n/\∃ e,e≠0/\(∀ j,j<i->kcn l (j:Int)=some (.inl ((j+1:Nat):Int))/\ka3 l (j:Int)=some (.inl ((j+1:Nat):Int)))/\kcn l (i:Int)=some (.inr (.inr e))/\ka3 l (i:Int)=some (.inr (.inr e))) \/
   ((∀ j,j<n->kcn l (j:Int)=some (.inl ((j+1:Nat):Int))/\ka3 l (j:Int)=some (.inl ((j+1:Nat):Int)))/\∀ j (a:j<l.rules.length),j<n->GoodR l l.rules[j]):=by
  intro n
  induction n with
  | zero=>intro _;exact .inr ⟨fun j a=>by omega,fun j _ a=>by omega⟩
  | succ n ih=>
   intro hn;rcases ih (by omega) with ⟨i,hi,e,o,p⟩ | ⟨g1,g2⟩;exact .inl ⟨i,by omega,e,o,p⟩
   ·have hi:n<l.rules.length:=(by omega);have e1:l.rules[n]?=some l.rules[n]:=qb hi;have b1:decide ((n:Int)<(l.rules.length:Int))=true:=qj (by omega);have q:=h.wide _ (qn hi);obtain ⟨c,c1,c2⟩:=kalv l l.rules[n] q;by_cases hc:c=0
    ·subst hc;have hg:=kad0 q c2;have m:∀ j (a:j<l.rules.length),j<=n->fineR l.rules[j]:=fun j a g=>by
      have s:=h.wide _ (qn a);by_cases d:j=n;subst d;exact hg.fineR q
      ·exact (g2 j a (by omega)).fineR s
     obtain ⟨b,d1,d2⟩:=kagd l n hi hl m;cases b with
     | true=>
      refine .inl ⟨n,by omega,6,by decide,g1,?_,?_⟩;simp only [kcn,b1,qd,kaf,e1,qa,c1,k46 l.rules n,d1];rfl
      ·simp only [ka3,b1,qd,kaf,e1,qa,c2,d2];rfl
     | false=>
      refine .inr ⟨fun j a=>?_,fun j a g=>?_⟩
      ·by_cases g:j=n
       ·subst g;constructor;simp only [kcn,b1,qd,kaf,e1,qa,c1,k46 l.rules j,d1,keq j];rfl
        ·simp only [ka3,b1,qd,kaf,e1,qa,c2,d2,keq j];rfl
       ·exact g1 j (by omega)
      ·by_cases d:j=n;subst d;exact hg
       ·exact g2 j a (by omega)
    ·refine .inl ⟨n,by omega,c,hc,g1,?_,?_⟩;simp only [kcn,b1,qd,kaf,e1,qa,c1,show (c != 0)=true by simpa using hc]
     ·simp only [ka3,b1,qd,kaf,e1,qa,c2,show (c != 0)=true by simpa using hc]
 have f:kcn l (l.rules.length:Int)=some (.inr (.inl ()))/\ka3 l (l.rules.length:Int)=some (.inr (.inl ())):=by have b1:decide ((l.rules.length:Int)<(l.rules.length:Int))=false:=qg (by omega);simp only [kcn,ka3,b1,qc,and_self]
 rcases v l.rules.length (qx _) with ⟨i,hi,e,o,a,a1,a2⟩ | ⟨g1,g2⟩;obtain ⟨r,r',h1,t,rfl,u⟩:=knp (step:=kcn l) (step':=ka3 l) i (by omega) (fun i=>(i:Int)) (fun i=>(i:Int)) (fun r r'=>r=r'/\r = .inr e) (fun j k => .inl (a j k)) ⟨_,_,a1,a2,rfl,rfl⟩;subst u;exact ⟨_,by simpa using h1,by simpa using t,(fun h=>by cases h),fun e' h=>by cases h;exact o⟩
 ·obtain ⟨r,r',h1,t,rfl,u⟩:=knp (step:=kcn l) (step':=ka3 l) l.rules.length (by omega) (fun i=>(i:Int)) (fun i=>(i:Int)) (fun r r'=>r=r'/\r = .inl ()) (fun j k => .inl (g1 j k)) ⟨_,_,f.1,f.2,rfl,rfl⟩;subst u;refine ⟨_,by simpa using h1,by simpa using t,fun _ x p=>?_,fun e' h=>by cases h⟩;obtain ⟨i,hi,rfl⟩:=qal.1 p;exact g2 i hi hi
theorem kaku (l:La) (h:k1k l):∃ c,kfj l=some c/\kaz l=some c/\(c=0->khu l):=by
 obtain ⟨b,n1,n2⟩:=k0t l.name h.name;obtain ⟨r1,i1,i2,i3⟩:=k7y l h.inputs;obtain ⟨r2,s1,s2,s3⟩:=k6a l h.symbols h.names;obtain ⟨r3,t1,t2,t3,t4⟩:=kai2 l h;have a:∀ c:Int,c≠0->(c=0->khu l):=fun c hc h=>absurd h hc;unfold kfj kaz;rw [n1,n2];simp only [qa];cases b with
 | false=>exact ⟨5,rfl,rfl,a 5 (by decide)⟩
 | true=>
  simp only [qbc,qc];cases f:decide (4<(l.inputs.length:Int)) with
  | true=>exact ⟨2,rfl,rfl,a 2 (by decide)⟩
  | false=>
   have f:=of_decide_eq_false f;simp only [qc,i1,i2,qa];cases r1 with
   | inr e=>exact ⟨e,rfl,rfl,a e (i3 e rfl)⟩
   | inl u=>
    simp only [qy];have hc:(bif decide ((l.symbols.length:Int)<1) then some true else some (decide (16<(l.symbols.length:Int))):Option Bool)=some (decide ((l.symbols.length:Int)<1) || decide (16<(l.symbols.length:Int))):=(by cases decide ((l.symbols.length:Int)<1) <;> rfl);rw [hc,qa,qa];cases d:decide ((l.symbols.length:Int)<1) || decide (16<(l.symbols.length:Int)) with
    | true=>exact ⟨2,rfl,rfl,a 2 (by decide)⟩
    | false=>
     rw [Bool.or_eq_false_iff] at d;have hs1:=of_decide_eq_false d.1;have i:=of_decide_eq_false d.2;simp only [qc,s1,s2,qa];cases r2 with
     | inr e=>exact ⟨e,rfl,rfl,a e (s3 e rfl)⟩
     | inl u=>
      simp only [qy];cases g:decide (96<(l.rules.length:Int)) with
      | true=>exact ⟨2,rfl,rfl,a 2 (by decide)⟩
      | false=>
       have g:=of_decide_eq_false g;simp only [qc,t1,t2,qa];cases r3 with
       | inr e=>exact ⟨e,rfl,rfl,a e (t4 e rfl)⟩
       | inl u=>exact ⟨0,rfl,rfl,fun _=>⟨by omega,by omega,by omega,by omega,t3 rfl⟩⟩
theorem kaav (l:List Tm) (i:Nat) (h:i<l.length):Tm.sizeL (l.take (i+1))=Tm.sizeL (l.take i)+l[i].size:=by rw [qae h,Tm.sizeL_snoc]
theorem k4i (l:List Tm) (i:Nat):i<=l.length->i<=Tm.sizeL (l.take i)/\Tm.sizeL (l.take i)<=Tm.sizeL l:=by
 intro hi
 induction i with
 | zero=>exact ⟨qao _,by simp [Tm.sizeL]⟩
 | succ i ih=>
  have h1:=ih (by omega);have c:=kaav l i (by omega);have d:=Tm.size_pos l[i];refine ⟨by omega,?_⟩;have:Tm.sizeL l=Tm.sizeL (l.take (i+1))+Tm.sizeL (l.drop (i+1)):=by
   have gen:∀ a b:List Tm,Tm.sizeL (a++b)=Tm.sizeL a+Tm.sizeL b:=fun a b=>by
    induction a with
    | nil=>simp [Tm.sizeL]
    | cons x a ih=>simp only [qb0,Tm.sizeL,ih];omega
   rw [<- gen,List.take_append_drop]
  omega
theorem kp7 (t:Tm):Tm.sizeL t.args+1=t.size:=by cases t;rfl
theorem k5s (l:List Tm):l.length<=Tm.sizeL l:=by have:=(k4i l l.length (qx _)).1;rw [qar] at this;exact this
theorem kadn (g:Tm->Int) (t:Tm):t.pre g=g t::Tm.preL g t.args:=by cases t;rfl
theorem kpc {t x:Tm} (h:x∈t.args):x.size<t.size:=by have:=Tm.sizeL_mem h;have:=kp7 t;omega
theorem kzc (t:Tm):t.args.length<t.size:=by have:=k5s t.args;have:=kp7 t;omega
theorem kxl (g:Tm->Int) (r:Tm->Option (List Int)):∀ (xs:List Tm) (acc:List Int),acc.length+Tm.sizeL xs<=1000000->(∀ x∈xs,r x=some (x.pre g))->xs.foldlM (fun s x=>Option.bind (r x) fun v=>app 8 s v) acc=some (acc++Tm.preL g xs)
 | [],acc,_,_=>by simp [Tm.preL]
 | x::xs,acc,hl,h=>by have hs:Tm.sizeL (x::xs)=x.size+Tm.sizeL xs:=rfl;rw [List.foldlM_cons,h x (qo ..),qa,kcg (by rw [Tm.pre_length];omega)];have:=kxl g r xs (acc++x.pre g) (by rw [qac,Tm.pre_length];omega) fun y hy=>h y (qk _ hy);show List.foldlM _ (acc++x.pre g) xs=_;rw [this,qbi];rfl
theorem kwz:∀ (n:Nat) (t:Tm),t.size<=n->t.size<=1000->kcs n t=some t.rules
 | 0,t,h,_=>by have:=Tm.size_pos t;omega
 | n+1,t,h,hl=>by
  show khr (kcs n) t=_;have b:=kzc t;have c:=kp7 t;unfold khr;rw [ksy (step:=kha t (kcs n)) t.args (fun s x=>Option.bind (kcs n x) fun v=>app 8 s v) (fun i s=>(i,s)) (by omega) (fun i x s a=>by
   have hi:=ka8 a;simp only [kha,kao hi,qd,kaf,a,qa,kak hi (show t.args.length<=9223372036854775807 by omega)];cases kcs n x with
   | none=>rfl
   | some v=>simp only [qa];cases app 8 s v <;> rfl) (fun s=>by simp only [kha,kan,qc])]
  rw [kxl Tm.rule _ t.args _ (by rw [qab];omega) fun x a=>kwz n x (by have:=kpc a;omega) (by have:=kpc a;omega)];show some _=some (t.pre Tm.rule);rw [kadn];rfl
theorem kui:∀ (n:Nat) (t:Tm),t.size<=n->t.size<=1000->kb1 n t=some t.arities
 | 0,t,h,_=>by have:=Tm.size_pos t;omega
 | n+1,t,h,hl=>by
  show kgk (kb1 n) t=_;have b:=kzc t;have c:=kp7 t;unfold kgk;rw [ksy (step:=kf8 t (kb1 n)) t.args (fun s x=>Option.bind (kb1 n x) fun v=>app 8 s v) (fun i s=>(i,s)) (by omega) (fun i x s a=>by
   have hi:=ka8 a;simp only [kf8,kao hi,qd,kaf,a,qa,kak hi (show t.args.length<=9223372036854775807 by omega)];cases kb1 n x with
   | none=>rfl
   | some v=>simp only [qa];cases app 8 s v <;> rfl) (fun s=>by simp only [kf8,kan,qc])]
  rw [kxl Tm.nargs _ t.args _ (by rw [qab];omega) fun x a=>kui n x (by have:=kpc a;omega) (by have:=kpc a;omega)];show some _=some (t.pre Tm.nargs);rw [kadn];rfl
theorem k3m (r:Tm->Option Int):∀ (xs:List Tm) (s:Nat),s+Tm.sizeL xs<=1000000->(∀ x∈xs,r x=some (x.size:Int))->xs.foldlM (fun (s:Int) x=>Option.bind (r x) fun v=>some (w64 (s+v))) (s:Int)=some ((s+Tm.sizeL xs:Nat):Int)
 | [],s,_,_=>by simp [Tm.sizeL]
 | x::xs,s,hl,h=>by have hs:Tm.sizeL (x::xs)=x.size+Tm.sizeL xs:=rfl;rw [List.foldlM_cons,h x (qo ..),qa,kas];have:=k3m r xs (s+x.size) (by omega) fun y hy=>h y (qk _ hy);show List.foldlM _ ((s:Int)+(x.size:Int)) xs=_;rw [show (s:Int)+(x.size:Int)=((s+x.size:Nat):Int) by omega,this,hs];congr 2;omega
theorem ky7:∀ (n:Nat) (t:Tm),t.size<=n->t.size<=1000->kci n t=some (t.size:Int)
 | 0,t,h,_=>by have:=Tm.size_pos t;omega
 | n+1,t,h,hl=>by show khx (kci n) t=_;have b:=kzc t;have c:=kp7 t;unfold khx;rw [ksy (step:=khq t (kci n)) t.args (fun s x=>Option.bind (kci n x) fun v=>some (w64 (s+v))) (fun i s=>(s,i)) (by omega) (fun i x s a=>by have hi:=ka8 a;simp only [khq,kao hi,qd,kaf,a,qa,kak hi (show t.args.length<=9223372036854775807 by omega)];cases kci n x <;> rfl) (fun s=>by simp only [khq,kan,qc])];have:=k3m (kci n) t.args 1 (by omega) fun x a=>ky7 n x (by have:=kpc a;omega) (by have:=kpc a;omega);rw [show (1:Int)=((1:Nat):Int) from rfl,this,qa];congr 2;omega
def lexC:List Int->List Int->Int
 | x::xs,y::ys=>if x<y then -1 else if y<x then 1 else lexC xs ys
 | _,_=>0
def lexO:List Int->List Int->Unit ⊕ Int
 | x::xs,y::ys=>if x<y then .inr (-1) else if y<x then .inr 1 else lexO xs ys
 | _,_ => .inl ()
theorem k9q:∀ xs ys:List Int,Sum.elim (fun _=>0) id (lexO xs ys)=lexC xs ys
 | [],_=>rfl
 | _::_,[]=>rfl
 | x::xs,y::ys=>by
  simp only [lexO,lexC];split;rfl
  ·split;rfl
   ·exact k9q xs ys
theorem k8f (x y:List Int) (hl:x.length=y.length) (d:x.length<=1000000):kav x y=some (lexC x y):=by
 unfold kav;have h:=kk2 (kay x y) x.length (fun i=>(i:Int)) (fun i=>lexO (x.drop i) (y.drop i)) (fun i hi=>by
  have hy:i<y.length:=by omega
  simp only [kay,kao hi,kao hy,qd,kaf,qb hi,qb hy,qa,kak hi (show x.length<=9223372036854775807 by omega),qav hi,qav hy,lexO];by_cases h1:x[i]<y[i];rw [qj h1,ql h1];exact .inr rfl
  ·rw [qg h1,qi h1];by_cases a:y[i]<x[i];rw [qj a,ql a];exact .inr rfl
   ·rw [qg a,qi a];exact .inl ⟨rfl,rfl⟩) (by
  simp only [kay,kan,qc,List.drop_length,lexO,qa])
 have b:kac (kay x y) fuel 0=some (lexO x y):=by simpa using h
 rw [b,qa,<- k9q];cases lexO x y with
 | inr c=>rfl
 | inl u=>
  simp only [qy];unfold kff;have e1:decide ((x.length:Int)<(y.length:Int))=false:=qg (by omega);have e2:decide ((y.length:Int)<(x.length:Int))=false:=qg (by omega);simp [e1,e2,hl]
def cmpT (a b:Tm):Int:=if a.size<b.size then -1 else if b.size<a.size then 1 else if lexC a.rules b.rules≠0 then lexC a.rules b.rules else lexC a.arities b.arities
theorem kyb (a b:Tm) (ha:a.size<=1000) (d:b.size<=1000):kcp a b=some (cmpT a b):=by
 unfold kcp cmpT;rw [ky7 fuel a (Nat.le_of_lt (kfu (by omega))) ha,ky7 fuel b (Nat.le_of_lt (kfu (by omega))) d];simp only [qa,kff];by_cases h1:a.size<b.size;rw [ql h1,qj (show (a.size:Int)<(b.size:Int) by omega)];rfl;rw [qi h1,qg (show ¬ (a.size:Int)<(b.size:Int) by omega)];by_cases e:b.size<a.size;rw [ql e,qj (show (b.size:Int)<(a.size:Int) by omega)];rfl;rw [qi e,qg (show ¬ (b.size:Int)<(a.size:Int) by omega)];simp only [qc,qa,show ((0:Int) != 0)=false from rfl];rw [kwz fuel a (Nat.le_of_lt (kfu (by omega))) ha,kwz fuel b (Nat.le_of_lt (kfu (by omega))) d];simp only [qa];rw [k8f a.rules b.rules (by rw [Tm.rules_length,Tm.rules_length];omega) (by rw [Tm.rules_length];omega),qa];by_cases c:lexC a.rules b.rules=0;rw [qi (by simpa using c),c,show ((0:Int) != 0)=false from rfl,qc];rw [kui fuel a (Nat.le_of_lt (kfu (by omega))) ha,kui fuel b (Nat.le_of_lt (kfu (by omega))) d];simp only [qa];rw [k8f a.arities b.arities (by rw [Tm.arities_length,Tm.arities_length];omega) (by rw [Tm.arities_length];omega)];rfl
 ·rw [ql c,show (lexC a.rules b.rules != 0)=true by rw [bne_iff_ne];exact c];rfl
mutual
theorem k8p:∀ (s t:Tm) (xs ys us vs:List Int),s.pre Tm.rule++xs=t.pre Tm.rule++ys->s.pre Tm.nargs++us=t.pre Tm.nargs++vs->s=t/\xs=ys/\us=vs
 | .mk r l, .mk r' l',xs,ys,us,vs,h1,a=>by
  simp only [Tm.pre,qb0,List.cons.injEq] at h1 a;have hr:r=r':=h1.1;have hl:l.length=l'.length:=by have:=a.1;simp only [Tm.nargs,Tm.args] at this;omega
  obtain ⟨e1,e2,e3⟩:=k6c l l' hl xs ys us vs h1.2 a.2;exact ⟨by rw [hr,e1],e2,e3⟩
theorem k6c:∀ (l l':List Tm),l.length=l'.length->∀ (xs ys us vs:List Int),Tm.preL Tm.rule l++xs=Tm.preL Tm.rule l'++ys->Tm.preL Tm.nargs l++us=Tm.preL Tm.nargs l'++vs->l=l'/\xs=ys/\us=vs
 | [],[],_,xs,ys,us,vs,h1,a=>⟨rfl,by simpa [Tm.preL] using h1,by simpa [Tm.preL] using a⟩
 | [],_::_,h,_,_,_,_,_,_=>by simp at h
 | _::_,[],h,_,_,_,_,_,_=>by simp at h
 | t::l,t'::l',h,xs,ys,us,vs,h1,a=>by simp only [Tm.preL,qbi] at h1 a;obtain ⟨e1,e2,e3⟩:=k8p t t' _ _ _ _ h1 a;obtain ⟨e4,e5,e6⟩:=k6c l l' (by simpa using h) xs ys us vs e2 e3;exact ⟨by rw [e1,e4],e5,e6⟩
end
structure Ord3 {α:Type} (E:α->α->Prop) (c:α->α->Int):Prop where
 anti:∀ x y,E x y->c y x = -c x y
 trans:∀ x y z,E x y->E y z->E x z->c x y<=0->c y z<=0->c x z<=0
def lex {α:Type} (c d:α->α->Int) (x y:α):Int:=if c x y≠0 then c x y else d x y
theorem Ord3.lex {α:Type} {E:α->α->Prop} {c d:α->α->Int} (a:∀ x y,E x y->E y x) (hc:Ord3 E c) (f:Ord3 (fun x y=>E x y/\c x y=0) d):Ord3 E (lex c d):=by
 have z:∀ x y,E x y->(c y x=0↔c x y=0):=fun x y e=>by rw [hc.anti x y e];omega
 refine ⟨fun x y e=>?_,fun x y z e1 e2 e3 h1 b=>?_⟩
 ·unfold Go.Proofs.YtjbonbdomgoklaaGreatDoor.lex;by_cases h:c x y=0;rw [qi (by rw [(z x y e).2 h];decide),qi (by rw [h];decide)];exact f.anti x y ⟨e,h⟩
  ·rw [ql (fun g=>h ((z x y e).1 g)),ql h];exact hc.anti x y e
 ·unfold Go.Proofs.YtjbonbdomgoklaaGreatDoor.lex at h1 b ⊢;have k1:c x y<=0:=by split at h1 <;> omega
  have k2:c y z<=0:=by split at b <;> omega
  have k3:=hc.trans x y z e1 e2 e3 k1 k2;by_cases h:c x z=0;have a1:=hc.anti x y e1;have a2:=hc.anti y z e2;have a3:=hc.anti x z e3;have b1:=hc.trans y z x e2 (a _ _ e3) (a _ _ e1) k2 (by omega);have b2:=hc.trans z x y (a _ _ e3) e1 (a _ _ e2) (by omega) k1;have c1:c x y=0:=(by omega);have c2:c y z=0:=(by omega);rw [qi (by rw [c1];decide)] at h1;rw [qi (by rw [c2];decide)] at b;rw [qi (by rw [h];decide)];exact f.trans x y z ⟨e1,c1⟩ ⟨e2,c2⟩ ⟨e3,h⟩ h1 b
  ·rw [ql h];exact k3
def cmpZ {α:Type} (f:α->Int) (x y:α):Int:=if f x<f y then -1 else if f y<f x then 1 else 0
theorem kafr {α:Type} {E:α->α->Prop} (f:α->Int):Ord3 E (cmpZ f):=by
 refine ⟨fun x y _=>?_,fun x y z _ _ _ h1 a=>?_⟩;unfold cmpZ;split <;> split <;> omega
 ·unfold cmpZ at *
  split at h1
  ·split at a;rw [ql (by omega)];decide
   ·split at a;omega
    ·rw [ql (by omega)];decide
  ·split at h1;omega
   ·split at a;rw [ql (by omega)];decide
    ·split at a;omega
     ·rw [qi (by omega),qi (by omega)];decide
theorem kxg:∀ xs ys:List Int,xs.length=ys.length->lexC ys xs = -lexC xs ys
 | [],[],_=>rfl
 | [],_::_,h=>by simp at h
 | _::_,[],h=>by simp at h
 | x::xs,y::ys,h=>by
  have ih:=kxg xs ys (by simpa using h);simp only [lexC];rcases Int.lt_trichotomy x y with h1 | h1 | h1;rw [qi (by omega),ql h1,ql h1];rfl;rw [qi (by omega),qi (by omega),qi (by omega),qi (by omega),ih]
  ·rw [ql h1,qi (by omega),ql h1]
theorem kvc:∀ xs ys zs:List Int,xs.length=ys.length->ys.length=zs.length->lexC xs ys<=0->lexC ys zs<=0->lexC xs zs<=0
 | [],_,_,_,_,_,_=>by simp [lexC]
 | _::_,[],_,h,_,_,_=>by simp at h
 | _::_,_::_,[],_,h,_,_=>by simp at h
 | x::xs,y::ys,z::zs,h,g,h1,a=>by
  have ih:=kvc xs ys zs (by simpa using h) (by simpa using g);simp only [lexC] at h1 a ⊢;split at h1
  ·split at a;rw [ql (by omega)];decide
   ·split at a;omega
    ·rw [ql (by omega)];decide
  ·split at h1;omega
   ·split at a;rw [ql (by omega)];decide
    ·split at a;omega
     ·rw [qi (by omega),qi (by omega)];exact ih h1 a
theorem k2l:∀ xs ys:List Int,xs.length=ys.length->lexC xs ys=0->xs=ys
 | [],[],_,_=>rfl
 | [],_::_,h,_=>by simp at h
 | _::_,[],h,_=>by simp at h
 | x::xs,y::ys,h,h1=>by
  simp only [lexC] at h1;split at h1;omega
  ·split at h1;omega
   ·rw [k2l xs ys (by simpa using h) h1,show x=y by omega]
theorem k3v:∀ xs:List Int,lexC xs xs=0
 | []=>rfl
 | x::xs=>by simp only [lexC,Int.lt_irrefl,if_false];exact k3v xs
theorem kaem (a b:Tm):cmpT a b=lex (cmpZ fun t:Tm=>(t.size:Int)) (lex (fun a b=>lexC a.rules b.rules) (fun a b=>lexC a.arities b.arities)) a b:=by
 unfold cmpT lex cmpZ;by_cases h1:a.size<b.size;rw [ql h1,ql (show (a.size:Int)<(b.size:Int) by omega),ql (by decide)]
 ·rw [qi h1,qi (show ¬ (a.size:Int)<(b.size:Int) by omega)];by_cases c:b.size<a.size;rw [ql c,ql (show (b.size:Int)<(a.size:Int) by omega),ql (by decide)]
  ·rw [qi c,qi (show ¬ (b.size:Int)<(a.size:Int) by omega),qi (show ¬ ((0:Int)≠0) by decide)]
theorem cmpZ_zero {α:Type} {f:α->Int} {x y:α}:cmpZ f x y=0↔f x=f y:=by
 unfold cmpZ;split;omega
 ·split <;> omega
theorem cmpT_ord:Ord3 (fun _ _=>True) cmpT:=by
 have:cmpT=lex (cmpZ fun t:Tm=>(t.size:Int)) (lex (fun a b=>lexC a.rules b.rules) (fun a b=>lexC a.arities b.arities)):=by funext a b;exact kaem a b
 rw [this];have c:∀ {a b:Tm},cmpZ (fun t:Tm=>(t.size:Int)) a b=0->a.size=b.size:=fun h=>by have:=cmpZ_zero.1 h;omega
 refine Ord3.lex (fun _ _ _=>trivial) (kafr _) (Ord3.lex (fun x y h=>⟨trivial,by have:=c h.2;exact cmpZ_zero.2 (by omega)⟩) ⟨fun x y h=>?_,fun x y z h1 d _=>?_⟩ ⟨fun x y h=>?_,fun x y z h1 d _=>?_⟩);exact kxg _ _ (by rw [Tm.rules_length,Tm.rules_length];exact c h.2);exact kvc _ _ _ (by rw [Tm.rules_length,Tm.rules_length];exact c h1.2) (by rw [Tm.rules_length,Tm.rules_length];exact c d.2);exact kxg _ _ (by rw [Tm.arities_length,Tm.arities_length];exact c h.1.2)
 ·exact kvc _ _ _ (by rw [Tm.arities_length,Tm.arities_length];exact c h1.1.2) (by rw [Tm.arities_length,Tm.arities_length];exact c d.1.2)
theorem cmpT_eq0 {s t:Tm}:cmpT s t=0↔s=t:=by
 constructor
 ·intro h;unfold cmpT at h;split at h;omega
  ·split at h;omega
   ·have hs:s.size=t.size:=(by omega);split at h;rename_i h0;exact absurd h h0
    ·rename_i h0;have e1:=k2l s.rules t.rules (by rw [Tm.rules_length,Tm.rules_length];exact hs) (by simpa using h0);have e2:=k2l s.arities t.arities (by rw [Tm.arities_length,Tm.arities_length];exact hs) h;exact (k8p s t [] [] [] [] (by simpa [Tm.rules] using e1) (by simpa [Tm.arities] using e2)).1
 ·rintro rfl;unfold cmpT;simp [k3v]
structure SR (R:Type) where
 add:R->R->R
 mul:R->R->R
 zero:R
 one:R
 add_assoc:∀ a b c,add (add a b) c=add a (add b c)
 add_comm:∀ a b,add a b=add b a
 zero_add:∀ a,add zero a=a
 mul_assoc:∀ a b c,mul (mul a b) c=mul a (mul b c)
 mul_comm:∀ a b,mul a b=mul b a
 mul_add:∀ a b c,mul a (add b c)=add (mul a b) (mul a c)
 mul_zero:∀ a,mul a zero=zero
 mul_one:∀ a,mul a one=a
namespace SR
variable {R:Type} (S:SR R)
theorem add_zero (a:R):S.add a S.zero=a:=by rw [S.add_comm,S.zero_add]
theorem zero_mul (a:R):S.mul S.zero a=S.zero:=by rw [S.mul_comm,S.mul_zero]
theorem one_mul (a:R):S.mul S.one a=a:=by rw [S.mul_comm,S.mul_one]
theorem add_mul (a b c:R):S.mul (S.add a b) c=S.add (S.mul a c) (S.mul b c):=by rw [S.mul_comm,S.mul_add,S.mul_comm c,S.mul_comm c]
theorem add4 (a b c d:R):S.add (S.add a b) (S.add c d)=S.add (S.add a c) (S.add b d):=by rw [S.add_assoc,<- S.add_assoc b,S.add_comm b c,S.add_assoc c,<- S.add_assoc a]
def sum (f:Nat->R):Nat->R
 | 0=>S.zero
 | n+1=>S.add (sum f n) (f n)
theorem sum_congr {f g:Nat->R}:∀ (n:Nat),(∀ i,i<n->f i=g i)->S.sum f n=S.sum g n
 | 0,_=>rfl
 | n+1,h=>by rw [sum,sum,sum_congr n fun i hi=>h i (by omega),h n (by omega)]
theorem sum_zero {f:Nat->R}:∀ (n:Nat),(∀ i,i<n->f i=S.zero)->S.sum f n=S.zero
 | 0,_=>rfl
 | n+1,h=>by rw [sum,sum_zero n fun i hi=>h i (by omega),h n (by omega),S.zero_add]
theorem sum_add (f g:Nat->R):∀ n,S.sum (fun i=>S.add (f i) (g i)) n=S.add (S.sum f n) (S.sum g n)
 | 0=>(S.zero_add _).symm
 | n+1=>by rw [sum,sum,sum,sum_add f g n,S.add4]
theorem mul_sum (c:R) (f:Nat->R):∀ n,S.mul c (S.sum f n)=S.sum (fun i=>S.mul c (f i)) n
 | 0=>S.mul_zero c
 | n+1=>by rw [sum,sum,S.mul_add,mul_sum c f n]
theorem sum_mul (c:R) (f:Nat->R):∀ n,S.mul (S.sum f n) c=S.sum (fun i=>S.mul (f i) c) n
 | 0=>S.zero_mul c
 | n+1=>by rw [sum,sum,S.add_mul,sum_mul c f n]
theorem tri (F:Nat->Nat->R):∀ n,S.sum (fun j=>S.sum (fun i=>F i (j - i)) (j+1)) n=S.sum (fun i=>S.sum (fun k=>F i k) (n - i)) n
 | 0=>rfl
 | n+1=>by
  rw [sum,tri F n];have h:S.sum (fun i=>S.sum (fun k=>F i k) (n+1 - i)) (n+1)=S.sum (fun i=>S.add (S.sum (fun k=>F i k) (n - i)) (F i (n - i))) (n+1):=S.sum_congr _ fun i hi=>by rw [show n+1 - i=(n - i)+1 by omega,sum]
  rw [h,S.sum_add];congr 1;rw [sum,qcc,sum,S.add_zero]
def rr (V:Int->Nat->R):List Int->Nat->R
 | [],n=>if n=0 then S.one else S.zero
 | a::ys,n=>S.sum (fun k=>S.mul (V a k) (rr V ys (n - k))) (n+1)
def conv (f g:Nat->R) (n:Nat):R:=S.sum (fun i=>S.mul (f i) (g (n - i))) (n+1)
def lf (V:Int->Nat->R) (f:Nat->R):List Int->Nat->R
 | []=>f
 | a::ys=>lf V (S.conv f (V a)) ys
theorem lf_eq (V:Int->Nat->R):∀ (ys:List Int) (f:Nat->R) (n:Nat),S.lf V f ys n=S.sum (fun i=>S.mul (f i) (S.rr V ys (n - i))) (n+1)
 | [],f,n=>by rw [lf,sum,S.sum_zero n fun i hi=>by rw [rr,qi (by omega),S.mul_zero],S.zero_add,qcc,rr,ql rfl,S.mul_one]
 | a::ys,f,n=>by
  rw [lf,lf_eq V ys];have h1:S.sum (fun j=>S.mul (S.conv f (V a) j) (S.rr V ys (n - j))) (n+1)=S.sum (fun j=>S.sum (fun i=>S.mul (f i) (S.mul (V a (j - i)) (S.rr V ys (n - i - (j - i))))) (j+1)) (n+1):=S.sum_congr _ fun j b=>by unfold conv;rw [S.sum_mul];exact S.sum_congr _ fun i hi=>by rw [S.mul_assoc,show n - i - (j - i)=n - j by omega]
  rw [h1,S.tri (fun i k=>S.mul (f i) (S.mul (V a k) (S.rr V ys (n - i - k)))) (n+1)];refine S.sum_congr _ fun i hi=>?_;rw [<- S.mul_sum,rr,show n+1 - i=n - i+1 by omega]
def dlt (n:Nat):R:=if n=0 then S.one else S.zero
theorem lf_dlt (V:Int->Nat->R) (ys:List Int) (n:Nat):S.lf V S.dlt ys n=S.rr V ys n:=by
 rw [S.lf_eq];have:∀ m,S.sum (fun i=>S.mul (S.dlt i) (S.rr V ys (n - i))) (m+1)=S.rr V ys n:=fun m=>by
  induction m with
  | zero=>rw [sum,sum,S.zero_add];show S.mul (S.dlt 0) _=_;rw [show S.dlt 0=S.one from rfl,S.one_mul,Nat.sub_zero]
  | succ m ih=>rw [sum,ih,show S.dlt (m+1)=S.zero from rfl,S.zero_mul,S.add_zero]
 exact this n
theorem rr_congr {V V':Int->Nat->R}:∀ (ys:List Int) (n:Nat),(∀ a∈ys,∀ k,k<=n->V a k=V' a k)->S.rr V ys n=S.rr V' ys n
 | [],n,_=>rfl
 | a::ys,n,h=>by rw [rr,rr];refine S.sum_congr _ fun k hk=>?_;rw [h a (qo ..) k (by omega),rr_congr ys (n - k) fun b c j d=>h b (qk _ c) j (by omega)]
theorem rr_small {V:Int->Nat->R} (h0:∀ a,V a 0=S.zero):∀ (ys:List Int) (n:Nat),n<ys.length->S.rr V ys n=S.zero
 | [],n,h=>by simp at h
 | a::ys,n,h=>by
  rw [qat] at h;rw [rr];refine S.sum_zero _ fun k hk=>?_;by_cases h1:k=0;rw [h1,h0,S.zero_mul]
  ·rw [rr_small h0 ys (n - k) (by omega),S.mul_zero]
theorem rr_one (V:Int->Nat->R) (a:Int) (n:Nat):S.rr V [a] n=S.mul (V a n) S.one:=by rw [rr,sum,S.sum_zero n fun i hi=>by rw [rr,qi (by omega),S.mul_zero],S.zero_add,qcc,rr,ql rfl]
theorem sum_shift (f:Nat->R):∀ n,S.sum f (n+1)=S.add (f 0) (S.sum (fun i=>f (i+1)) n)
 | 0=>by rw [sum,sum,sum,S.zero_add,S.add_zero]
 | n+1=>by rw [sum,sum_shift f n,sum,S.add_assoc]
theorem sum_trunc {f:Nat->R} {m:Nat}:∀ n,m<=n->(∀ i,m<=i->i<n->f i=S.zero)->S.sum f n=S.sum f m
 | 0,h,_=>by rw [show m=0 by omega]
 | n+1,h,a=>by
  by_cases hm:m=n+1;rw [hm]
  ·rw [sum,a n (by omega) (by omega),S.add_zero];exact sum_trunc n (by omega) fun i h1 b=>a i h1 (by omega)
def tab (N:Nat) (sy:Nat->Int) (ar:Nat->List Int) (wt:Nat->R):Nat->Int->Nat->R
 | 0=>fun _ _=>S.zero
 | n+1=>fun s k=>if k=n+1 then S.sum (fun i=>if sy i=s then S.mul (wt i) (S.rr (tab N sy ar wt n) (ar i) n) else S.zero) N else tab N sy ar wt n s k
def val (N:Nat) (sy:Nat->Int) (ar:Nat->List Int) (wt:Nat->R) (s:Int) (k:Nat):R:=S.tab N sy ar wt k s k
theorem tab_eq (N:Nat) (sy:Nat->Int) (ar:Nat->List Int) (wt:Nat->R) (s:Int):∀ (n k:Nat),S.tab N sy ar wt n s k=if k<=n then S.val N sy ar wt s k else S.zero
 | 0,k=>by
  unfold val;by_cases h:k=0;subst h;rw [ql (by omega)]
  ·rw [qi (by omega),tab]
 | n+1,k=>by
  by_cases h:k=n+1;subst h;rw [ql (by omega)];rfl
  ·show (if k=n+1 then _ else S.tab N sy ar wt n s k)=_;rw [qi h,tab_eq N sy ar wt s n k];by_cases a:k<=n;rw [ql a,ql (by omega)]
   ·rw [qi a,qi (by omega)]
theorem val_succ (N:Nat) (sy:Nat->Int) (ar:Nat->List Int) (wt:Nat->R) (s:Int) (n:Nat):S.val N sy ar wt s (n+1)=S.sum (fun i=>if sy i=s then S.mul (wt i) (S.rr (S.val N sy ar wt) (ar i) n) else S.zero) N:=by
 unfold val;show (if n+1=n+1 then _ else _)=_;rw [ql rfl];refine S.sum_congr _ fun i hi=>?_;split
 ·congr 1;exact S.rr_congr _ _ fun a _ k hk=>by rw [S.tab_eq,ql hk];rfl
 ·rfl
end SR
def kag0:Ru:=Ru.mk 0 0 0 kh1 ⟨#[]⟩ []
def khh (l:La) (k:Nat):Int:=((l.rules[k]?).getD kag0).symbol
def kdp (l:La) (k:Nat):List Int:=((l.rules[k]?).getD kag0).args
def plL (l:La) (s:Int) (n:Nat):List Nat:=(List.range n).filter fun k=>khh l k == s
theorem kzq (l:La) (s:Int) (n:Nat):plL l s (n+1)=plL l s n++(if (khh l n == s)=true then [n] else []):=by unfold plL;rw [qbg,List.filter_append];congr 1;cases h:khh l n == s <;> simp [h]
theorem kajr {l:La} {s:Int} {n k:Nat} (h:k∈plL l s n):k<n/\khh l k=s:=by unfold plL at h;rw [qa5,qa8] at h;exact ⟨h.1,by simpa using h.2⟩
theorem ku2 (l:La) (s:Int) (n:Nat):(plL l s n).length<=n:=by
 unfold plL;have:=qb6 (fun k=>khh l k == s) (List.range n)
 rwa [List.length_range] at this
def natI (k:Nat):Int:=(k:Int)
theorem km4 (l:La) {k:Nat} (h:k<l.rules.length):∃ y,l.rules[k]?=some y/\y.symbol=khh l k/\y.args=kdp l k/\y∈l.rules:=
 ⟨l.rules[k],qb h,by unfold khh;rw [qb h];rfl,by unfold kdp;rw [qb h];rfl,qn h⟩
theorem app8 {acc:List Int} {v:Int} (h:acc.length<=1000000):app 8 acc [v]=some (acc++[v]):=kcg (by rw [qab];omega)
theorem kagn (l:La) (s:Int) (h:l.rules.length<=1000000):kmm l s=some ((plL l s l.rules.length).map natI):=by
 unfold kmm;have:=kck (kkx l s) l.rules.length (fun i=>((i:Int),(plL l s i).map natI)) ((plL l s l.rules.length).map natI) (fun i hi=>by
  obtain ⟨y,hr,hs,_⟩:=km4 l hi;have a:=ku2 l s i;simp only [kkx,kao hi,qd,kaf,hr,hs,qa,kak hi (show l.rules.length<=9223372036854775807 by omega),app8 (show ((plL l s i).map natI).length<=1000000 by rw [qs];omega)];rw [kzq];show Option.bind (bif khh l i == s then _ else _) _=_;cases khh l i == s with
  | true=>simp only [qd,qa,if_true,qax,qa2,List.map_nil];rfl
  | false=>simp) (by simp only [kkx,kan,qc])
 have b:kac (kkx l s) fuel (0,[])=some ((plL l s l.rules.length).map natI):=by simpa [plL] using this
 rw [b,qa]
theorem kalu (l:La) (s:Int) (h:l.rules.length<=1000000):kmm l s=some ((plL l s l.rules.length).map natI):=kagn l s h
def NS:SR Nat:=⟨(·+·),(·*·),0,1,Nat.add_assoc,Nat.add_comm,Nat.zero_add,Nat.mul_assoc,Nat.mul_comm,Nat.mul_add,Nat.mul_zero,qbh⟩
def en (n:Nat):Int:=((min n 1152921504606846977:Nat):Int)
theorem kagx (n:Nat):0<=en n/\en n<=1152921504606846977:=by unfold en;omega
theorem k80 (a b:Nat):imin (w64 (en a+en b)) 1152921504606846977=en (a+b):=by have h1:=kagx a;have c:=kagx b;rw [kas];unfold imin en;split <;> omega
theorem k65 (a b:Nat):kkq (en a) (en b)=some (en (a+b)):=by unfold kkq;rw [k80]
theorem kabm (m n:Nat) (hn:0<n) (hm:m<=9223372036854775807:=by omega):quo .i64 (m:Int) (n:Int)=some ((m / n:Nat):Int):=by
 unfold quo;rw [qi (by omega)];have h1:((m:Int).tdiv (n:Int))=((m / n:Nat):Int):=(Int.ofNat_tdiv m n).symm;have a:m / n<=m:=Nat.div_le_self m n;rw [h1];generalize m / n=q at *
 exact congrArg some (kas)
theorem k0h {a b:Nat} (h:min a 1152921504606846977*min b 1152921504606846977<=1152921504606846977):w64 (en a*en b)=((min a 1152921504606846977*min b 1152921504606846977:Nat):Int):=by unfold en;rw [<- Int.natCast_mul];exact kas
theorem k79 (a b:Nat):min (min a 1152921504606846977*min b 1152921504606846977) 1152921504606846977=min (a*b) 1152921504606846977:=by
 by_cases ha:a<=1152921504606846977
 ·by_cases c:b<=1152921504606846977;rw [qce ha,qce c]
  ·rw [qce ha,Nat.min_eq_right (show 1152921504606846977<=b by omega)];rcases Nat.eq_zero_or_pos a with h0 | h0;subst h0;simp
   ·have h1:1152921504606846977<=a*1152921504606846977:=Nat.le_mul_of_pos_left _ h0;have d:1152921504606846977<=a*b:=qag (by omega:1152921504606846977<=b) (Nat.le_mul_of_pos_left _ h0);omega
 ·rw [Nat.min_eq_right (by omega:1152921504606846977<=a)];rcases Nat.eq_zero_or_pos b with h0 | h0;subst h0;simp
  ·have e:1<=min b 1152921504606846977:=(by omega);have h1:1152921504606846977<=1152921504606846977*min b 1152921504606846977:=Nat.le_mul_of_pos_right _ e;have d:1152921504606846977<=a*b:=qag (by omega:1152921504606846977<=a) (Nat.le_mul_of_pos_right _ h0);omega
theorem kad9 (a b:Nat):kma (en a) (en b)=some (en (a*b)):=by
 have hc:=k79 a b;unfold kma;by_cases h0:0<min a 1152921504606846977
 ·have e0:decide (0<en a)=true:=qj (by unfold en;omega);have f:quo .i64 1152921504606846976 (en a)=some ((1152921504606846976 / min a 1152921504606846977:Nat):Int):=kabm 1152921504606846976 _ h0;rw [e0,f];simp only [qd,qa];by_cases c:1152921504606846976 / min a 1152921504606846977<min b 1152921504606846977;have e1:decide (((1152921504606846976 / min a 1152921504606846977:Nat):Int)<en b)=true:=qj (by unfold en;omega);rw [e1,qd];have d:=(Nat.div_lt_iff_lt_mul h0).1 c;rw [Nat.mul_comm] at d;unfold en;congr 1;omega
  ·have e1:decide (((1152921504606846976 / min a 1152921504606846977:Nat):Int)<en b)=false:=qg (by unfold en;omega);rw [e1,qc];have d:¬ 1152921504606846976<min b 1152921504606846977*min a 1152921504606846977:=fun h=>c ((Nat.div_lt_iff_lt_mul h0).2 h);rw [Nat.mul_comm] at d;rw [k0h (by omega)];unfold en;congr 1;omega
 ·have e0:decide (0<en a)=false:=qg (by unfold en;omega);rw [e0];simp only [qc,qa];have e:min a 1152921504606846977=0:=by omega
  rw [k0h (by rw [e,Nat.zero_mul];omega)];unfold en;rw [<- hc,e,Nat.zero_mul];rfl
def keyB (ys:List Int) (k:Int):BA:=toBA (wu8 k::ys.map wu8)
theorem k22:∀ (xs:List Int) (r:BA),(xs.foldl (fun r n=>r.push (UInt8.ofNat n.toNat)) r).data.toList=r.data.toList++xs.map fun n=>UInt8.ofNat n.toNat
 | [],r=>by simp
 | x::xs,r=>by
  rw [List.foldl_cons,k22 xs];have:(r.push (UInt8.ofNat x.toNat)).data.toList=r.data.toList++[UInt8.ofNat x.toNat]:=by cases r;simp [ByteArray.push]
  rw [this,qbi];rfl
def Byt (n:Int):Prop:=0<=n/\n<256
theorem kaj9 {a b:Int} (ha:Byt a) (c:Byt b) (h:UInt8.ofNat a.toNat=UInt8.ofNat b.toNat):a=b:=by
 unfold Byt at ha c;have h1:(UInt8.ofNat a.toNat).toNat=(UInt8.ofNat b.toNat).toNat:=by rw [h]
 rw [UInt8.toNat_ofNat',UInt8.toNat_ofNat'] at h1;omega
theorem k33:∀ {xs ys:List Int},(∀ x∈xs,Byt x)->(∀ y∈ys,Byt y)->(xs.map fun n=>UInt8.ofNat n.toNat)=(ys.map fun n=>UInt8.ofNat n.toNat)->xs=ys
 | [],[],_,_,_=>rfl
 | [],y::ys,_,_,h=>by simp at h
 | x::xs,[],_,_,h=>by simp at h
 | x::xs,y::ys,b,hy,h=>by rw [qa2,qa2] at h;injection h with h1 c;rw [kaj9 (b x (qo ..)) (hy y (qo ..)) h1,k33 (fun z a=>b z (qk _ a)) (fun z a=>hy z (qk _ a)) c]
theorem k5g {n:Int} (h:Byt n):wu8 n=n:=by unfold Byt at h;unfold wu8 IntKind.wrap;simp [IntKind.signed,IntKind.bits];omega
theorem kae1 {ys zs:List Int} {k j:Int} (hy:∀ y∈ys,Byt y) (f:∀ z∈zs,Byt z) (hk:Byt k) (g:Byt j) (h:keyB ys k=keyB zs j):ys=zs/\k=j:=by
 have e:∀ {l:List Int},(∀ x∈l,Byt x)->l.map wu8=l:=fun {l} hl=>by
  induction l with
  | nil=>rfl
  | cons a l ih=>rw [qa2,k5g (hl a (qo ..)),ih fun x c=>hl x (qk _ c)]
 unfold keyB at h;rw [e hy,e f,k5g hk,k5g g] at h;have d:=congrArg (fun b:BA=>b.data.toList) h;unfold toBA at d;simp only [k22] at d;have:=k33 (xs:=k::ys) (ys:=j::zs) (fun x c=>by
  rcases qan.1 c with rfl | c;exact hk
  ·exact hy x c) (fun x c=>by
  rcases qan.1 c with rfl | c;exact g
  ·exact f x c) (by simpa using d)
 injection this with i m;exact ⟨m,i⟩
theorem kamo (ys:List Int) (k:Int) (hl:ys.length<=1000000):knd ys k=some (keyB ys k):=by
 unfold knd;rw [ksy (step:=kk9 ys) ys (fun (s:List Int) x=>app 1 s [wu8 x]) (fun i s=>(i,s)) (by omega) (fun i x s a=>by have hi:=ka8 a;simp only [kk9,kao hi,qd,kaf,a,qa,kak hi (show ys.length<=9223372036854775807 by omega)];cases app 1 s [wu8 x] <;> rfl) (fun s=>by simp only [kk9,kan,qc])];have gen:∀ (ys:List Int) (s:List Int),s.length+ys.length<=2000000->ys.foldlM (fun (s:List Int) x=>app 1 s [wu8 x]) s=some (s++ys.map wu8):=fun ys=>by
  induction ys with
  | nil=>intro s _;simp
  | cons y ys ih=>
   intro s hs;rw [qat] at hs;have ha:app 1 s [wu8 y]=some (s++[wu8 y]):=kcg (by rw [qab];omega);rw [List.foldlM_cons,ha];have:=ih (s++[wu8 y]) (by rw [qac,qab];omega);show List.foldlM _ (s++[wu8 y]) ys=_;rw [this,qbi];rfl
 rw [gen ys [wu8 k] (by rw [qab];omega)];rfl
def KI (V:Int->Nat->Nat) (m:List (BA×Int)):Prop:=∀ (ys:List Int) (k:Nat),(∀ y∈ys,Byt y)->k<256->(∀ z,mget m (keyB ys (k:Int)) z=en (NS.rr V ys k))\/∀ z,mget m (keyB ys (k:Int)) z=z
theorem KI.nil (V:Int->Nat->Nat):KI V []:=fun ys k _ _ => .inr fun z=>rfl
theorem kaf3 {m:List (BA×Int)} {s:BA} (h:mhas m s=true):mget m s 0=mget m s 1:=by
 unfold mhas at h;unfold mget;cases hf:kh4 s m 0 with
 | none=>rw [hf] at h;cases h
 | some p=>rfl
theorem KI.has {V:Int->Nat->Nat} {m:List (BA×Int)} (h:KI V m) {ys:List Int} {k:Nat} (hy:∀ y∈ys,Byt y) (hk:k<256) (a:mhas m (keyB ys (k:Int))=true):mget m (keyB ys (k:Int)) 0=en (NS.rr V ys k):=by
 rcases h ys k hy hk with h1 | h1;exact h1 0
 ·have:=kaf3 a;rw [h1,h1] at this;cases this
theorem KI.put {V:Int->Nat->Nat} {m:List (BA×Int)} (h:KI V m) {ys:List Int} {k:Nat} (hy:∀ y∈ys,Byt y) (hk:k<256):KI V (mput m (keyB ys (k:Int)) (en (NS.rr V ys k))):=fun zs j c d=>by
 by_cases a:(keyB zs (j:Int)).toList == (keyB ys (k:Int)).toList
 ·rw [kk6] at a;have b:keyB zs (j:Int)=keyB ys (k:Int):=by
   have:=MapKept.bytes_beq (keyB zs (j:Int)) (keyB ys (k:Int))
   first
    | exact eq_of_beq a
    | simpa [this] using a
  obtain ⟨e1,e2⟩:=kae1 c hy (by unfold Byt;omega) (by unfold Byt;omega) b;have e3:j=k:=by omega
  subst e1 e3;left;intro z;rw [kri];simp
 ·rcases h zs j c d with h1 | h1;left;intro z;rw [kri];simp [a,h1]
  ·right;intro z;rw [kri];simp [a,h1]
theorem k81 {σ β:Type} {step:σ->Option (σ ⊕ β)} (n:Nat) (hn:n<18446744073709551616) (P:Nat->σ->Prop) (Q:β->Prop) (hs:∀ i s,i<n->P i s->∃ s',step s=some (.inl s')/\P (i+1) s') (d:∀ s,P n s->∃ b,step s=some (.inr b)/\Q b) (s:σ) (h0:P 0 s):∃ b,kac step fuel s=some b/\Q b:=by
 have key:∀ (k i:Nat) (s:σ),i<=n->n - i<k->P i s->∃ b,kac step k s=some b/\Q b:=by
  intro k
  induction k with
  | zero=>intro i s _ h;omega
  | succ k ih=>
   intro i s hi hk hp;by_cases h:i=n;subst h;obtain ⟨b,h1,a⟩:=d s hp;refine ⟨b,?_,a⟩;unfold kac;rw [h1]
   ·obtain ⟨s',h1,a⟩:=hs i s (by omega) hp;obtain ⟨b,c,e⟩:=ih (i+1) s' (by omega) (by omega) a;refine ⟨b,?_,e⟩;unfold kac;rw [h1];cases k with
    | zero=>cases c
    | succ k=>exact c
 exact key fuel 0 s (by omega) (kfu (by omega)) h0
def VN (l:La):Int->Nat->Nat:=NS.val l.rules.length (khh l) (kdp l) (fun _=>1)
def inR (l:La) (ys:List Int):Prop:=∀ y∈ys,0<=y/\y<(l.symbols.length:Int)
theorem inR.byt {l:La} (a:l.symbols.length<=16) {ys:List Int} (h:inR l ys):∀ y∈ys,Byt y:=fun y hy=>by have:=h y hy;unfold Byt;omega
theorem kafo (a:Int) (ys:List Int):cutL (a::ys) 0 1=some [a]:=by unfold cutL;rw [ql ⟨by omega,by omega,by rw [qat];omega⟩];rfl
theorem kael {α:Type} (a:α) (ys:List α):cutL (a::ys) 1 (((a::ys).length:Nat):Int)=some ys:=by unfold cutL;rw [ql ⟨by omega,by rw [qat];omega,by omega⟩,qah,qar];rfl
theorem ky9 {l:La} (f:l.symbols.length<=16) {r14:La->List (BA×Int)->Int->Int->Option (Int×List (BA×Int))} {K:Nat} (hK:K<=24) (hr:∀ m s k,KI (VN l) m->0<=s->s<(l.symbols.length:Int)->1<=k->k<=K->∃ m',r14 l m s (k:Int)=some (en (VN l s k),m')/\KI (VN l) m'):
  ∀ (n:Nat) (ys:List Int) (k:Nat) (m:List (BA×Int)),ys.length<n->ys.length<=1000->inR l ys->k<=K->KI (VN l) m->∃ m',kcj r14 n l m ys (k:Int)=some (en (NS.rr (VN l) ys k),m')/\KI (VN l) m'
 | 0,ys,k,m,h,_,_,_,_=>by omega
 | n+1,[],k,m,_,_,_,hk,hm=>by
  refine ⟨m,?_,hm⟩;show kcv r14 (kcj r14 n) l m [] (k:Int)=_;unfold kcv;rw [show ((([]:List Int).length:Int) == 0)=true from rfl];simp only [qd,qa];rw [SR.rr];by_cases h0:k=0;subst h0;rfl
  ·rw [show ((k:Int) == 0)=false by rw [qaw];omega,qi h0];rfl
 | n+1,a::ys,k,m,h,d,hy,hk,hm=>by
  have p:=hy.byt f;have ha:=hy a (qo ..);have r:inR l ys:=fun y h=>hy y (qk _ h);show ∃ m',kcv r14 (kcj r14 n) l m (a::ys) (k:Int)=_/\_;unfold kcv;have t:(((a::ys).length:Int) == 0)=false:=by rw [qaw,qat];omega
  rw [qat] at h d;rw [t];simp only [qc];by_cases g:k<(a::ys).length;rw [qj (show (k:Int)<((a::ys).length:Int) by omega)];refine ⟨m,?_,hm⟩;rw [NS.rr_small (fun b=>rfl) (a::ys) k g];rfl
  ·rw [qg (show ¬ (k:Int)<((a::ys).length:Int) by omega)];simp only [qc,qa,kamo (a::ys) (k:Int) (by rw [qat];omega)];cases x:mhas m (keyB (a::ys) (k:Int)) with
   | true=>
    refine ⟨m,?_,hm⟩;rw [hm.has p (by omega) x];rfl
   | false=>
    simp only [qc];have fin:∀ (m2:List (BA×Int)),KI (VN l) m2->KI (VN l) (mput m2 (keyB (a::ys) (k:Int)) (en (NS.rr (VN l) (a::ys) k))):=fun m2 w=>w.put p (by omega);cases ys with
    | nil=>
     obtain ⟨m2,r1,r2⟩:=hr m a k hm ha.1 ha.2 (by rw [qat] at g;omega) hk;refine ⟨_,?_,fin m2 r2⟩;rw [show ((([a]:List Int).length:Int) == 1)=true from rfl];have h0:idx [a] 0=some a:=rfl;have hv:NS.rr (VN l) [a] k=VN l a k:=(NS.rr_one _ _ _).trans (NS.mul_one _);simp only [qd,h0,qa,r1,hv]
    | cons b zs=>
     have u:(((a::b::zs).length:Int) == 1)=false:=(by rw [qaw,qat,qat];omega);rw [u];simp only [qc];rw [qat] at h d;have e:(a::b::zs).length=zs.length+2:=rfl;rw [e] at g;have ew:w64 (w64 ((k:Int) - (((a::b::zs).length:Nat):Int))+1)=((k - (zs.length+2)+1:Nat):Int):=(by rw [e,kas (n:=(k:Int) - ((zs.length+2:Nat):Int)),kas];omega);obtain ⟨b2,q1,q2,q3⟩:=k81 (step:=kes l (a::b::zs) (k:Int) (kcj r14 n)) (k - (zs.length+2)+1) (by omega)
      (fun i s=>s.1=en (NS.sum (fun j=>VN l a (j+1)*NS.rr (VN l) (b::zs) (k - (j+1))) i)/\s.2.1=(i:Int)/\KI (VN l) s.2.2)
      (fun v=>v.1=en (NS.sum (fun j=>VN l a (j+1)*NS.rr (VN l) (b::zs) (k - (j+1))) (k - (zs.length+2)+1))/\KI (VN l) v.2)
      (fun i s hi hp=>by
       obtain ⟨acc,j,m3⟩:=s;obtain ⟨p1,p2,p3⟩:=hp;simp only at p1 p2 p3;subst p1 p2;have e1:w64 ((i:Int)+1)=((i+1:Nat):Int):=kak hi (by omega);have e2:w64 (w64 ((k:Int) - (i:Int)) - 1)=((k - (i+1):Nat):Int):=(by rw [kas (n:=(k:Int) - (i:Int)),kas];omega);obtain ⟨m4,s1,s2⟩:=ky9 f hK hr n [a] (i+1) m3 (by rw [qab];omega) (by rw [qab];omega) (fun y o=>hy y (by rcases qan.1 o with rfl | o;exact qo ..; cases o)) (by omega) p3;obtain ⟨m5,s3,s4⟩:=ky9 f hK hr n (b::zs) (k - (i+1)) m4 (by rw [qat];omega) (by rw [qat];omega) r (by omega) s2;have hv:NS.rr (VN l) [a] (i+1)=VN l a (i+1):=(NS.rr_one _ _ _).trans (NS.mul_one _);rw [hv] at s1;refine ⟨(en (NS.sum (fun j=>VN l a (j+1)*NS.rr (VN l) (b::zs) (k - (j+1))) (i+1)),((i+1:Nat):Int),m5),?_,rfl,rfl,s4⟩;simp only [kes,ew,qj (show (i:Int)<((k - (zs.length+2)+1:Nat):Int) by omega),qd,kafo,qa,e1,s1,kael,e2,s3,kad9,k65];rfl) (fun s hp=>by
       obtain ⟨acc,j,m3⟩:=s;obtain ⟨p1,p2,p3⟩:=hp;simp only at p1 p2 p3;subst p1 p2;refine ⟨(en (NS.sum (fun j=>VN l a (j+1)*NS.rr (VN l) (b::zs) (k - (j+1))) (k - (zs.length+2)+1)),m3),?_,rfl,p3⟩;simp only [kes,ew,kan,qc]) (0,0,m) ⟨rfl,rfl,hm⟩
     have q:NS.sum (fun j=>VN l a (j+1)*NS.rr (VN l) (b::zs) (k - (j+1))) (k - (zs.length+2)+1)=NS.rr (VN l) (a::b::zs) k:=(by have hg:NS.sum (fun j=>VN l a (j+1)*NS.rr (VN l) (b::zs) (k - (j+1))) k=NS.sum (fun j=>VN l a (j+1)*NS.rr (VN l) (b::zs) (k - (j+1))) (k - (zs.length+2)+1):=NS.sum_trunc k (by omega) fun i h1 w=>(by show VN l a (i+1)*NS.rr (VN l) (b::zs) (k - (i+1))=0;rw [NS.rr_small (fun c=>rfl) (b::zs) (k - (i+1)) (by rw [qat];omega)];exact Nat.mul_zero _);rw [<- hg,SR.rr];refine Eq.trans ?_ (NS.sum_shift _ k).symm;show _=VN l a 0*NS.rr (VN l) (b::zs) (k - 0)+NS.sum (fun j=>VN l a (j+1)*NS.rr (VN l) (b::zs) (k - (j+1))) k;rw [show VN l a 0=0 from rfl,Nat.zero_mul,Nat.zero_add]);rw [q] at q2;obtain ⟨acc,m6⟩:=b2;simp only at q2 q3;subst q2;refine ⟨_,?_,fin m6 q3⟩;rw [q1];rfl
theorem k86 (l:La) (s:Int) (f:Nat->Nat):∀ n,((plL l s n).map f).sum=NS.sum (fun i=>if khh l i=s then f i else 0) n
 | 0=>rfl
 | n+1=>by
  rw [kzq,qax,qb4,k86 l s f n,SR.sum];by_cases h:khh l n=s;rw [ql (by simpa using h),ql h];show _+[f n].sum=_+f n;simp
  ·rw [qi (by simpa using h),qi h];rfl
theorem kac0 {l:La} {r:Ru} (hr:GoodR l r):kmu r=some r.args:=by
 unfold kmu;by_cases a:r.kind=3;rw [a];rfl
 ·rw [show (r.kind != 3)=true by rw [bne_iff_ne];exact a,hr.noargs a];rfl
theorem k5f {l:La} (hg:khu l):∀ (n k:Nat) (s:Int) (m:List (BA×Int)),k<=n->1<=k->k<=24->0<=s->s<(l.symbols.length:Int)->KI (VN l) m->∃ m',kcu n l m s (k:Int)=some (en (VN l s k),m')/\KI (VN l) m'
 | 0,k,s,m,h,h1,_,_,_,_=>by omega
 | n+1,k+1,s,m,h,h1,r,t,hs1,hm=>by
  have u:=hg.rules;have c:=hg.sym16;show ∃ m',kfn (kcu n) l m s ((k+1:Nat):Int)=_/\_;unfold kfn;rw [kalu l s (by omega),qa];have ew:w64 (((k+1:Nat):Int) - 1)=(k:Int):=by rw [kas];omega
  have w:=ku2 l s l.rules.length;obtain ⟨b2,q1,q2,q3⟩:=k81 (step:=ke1 l ((k+1:Nat):Int) (kcu n) ((plL l s l.rules.length).map natI)) (plL l s l.rules.length).length (by omega)
   (fun i st=>st.1=en (((plL l s l.rules.length).take i).map fun q=>NS.rr (VN l) (kdp l q) k).sum/\st.2.1=(i:Int)/\KI (VN l) st.2.2)
   (fun v=>v.1=en ((plL l s l.rules.length).map fun q=>NS.rr (VN l) (kdp l q) k).sum/\KI (VN l) v.2)
   (fun i st hi hp=>by
    obtain ⟨acc,j,m3⟩:=st;obtain ⟨p1,p2,p3⟩:=hp;simp only at p1 p2 p3;subst p1 p2;have x:(plL l s l.rules.length)[i]?=some (plL l s l.rules.length)[i]:=qb hi;have d:=kajr (qn hi);have e:((plL l s l.rules.length).map natI)[i]?=some ((((plL l s l.rules.length)[i]:Nat)):Int):=(by rw [qq,x];rfl);obtain ⟨y,hy,_,f,a⟩:=km4 l d.1;have gy:=hg.good y a;have p:=gy.few;obtain ⟨m4,s1,s2⟩:=ky9 (r14:=kcu n) (K:=k) c (by omega) (fun m s k' hm h0 h1 g z=>k5f hg n k' s m (by omega) g (by omega) h0 h1 hm) fuel y.args k m3 (kfu (by omega)) (by omega) gy.args (qx _) p3;have o:(plL l s l.rules.length).take (i+1)=(plL l s l.rules.length).take i++[(plL l s l.rules.length)[i]]:=qae hi;refine ⟨(en (((plL l s l.rules.length).take (i+1)).map fun q=>NS.rr (VN l) (kdp l q) k).sum,((i+1:Nat):Int),m4),?_,rfl,rfl,s2⟩;simp only [ke1,qs,kao hi,qd,kaf,e,qa,hy,kac0 gy,ew,s1,kak hi (show (plL l s l.rules.length).length<=9223372036854775807 by omega),k65,qa];rw [o,qax,qb4,f];show some _=some _;simp) (fun st hp=>by
    obtain ⟨acc,j,m3⟩:=st;obtain ⟨p1,p2,p3⟩:=hp;simp only at p1 p2 p3;subst p1 p2;refine ⟨(en ((plL l s l.rules.length).map fun q=>NS.rr (VN l) (kdp l q) k).sum,m3),?_,rfl,p3⟩;simp only [ke1,qs,kan,qc,qar]) (0,0,m) ⟨rfl,rfl,hm⟩
  have b:((plL l s l.rules.length).map fun q=>NS.rr (VN l) (kdp l q) k).sum=VN l s (k+1):=by
   rw [k86];unfold VN;rw [NS.val_succ];refine NS.sum_congr _ fun i hi=>?_;split;exact (Nat.one_mul _).symm
   ·rfl
  rw [b] at q2;obtain ⟨acc,m6⟩:=b2;simp only at q2 q3;subst q2;refine ⟨m6,?_,q3⟩;rw [q1];rfl
theorem kz3 (a b:Nat):kf3 (en a) (en b)=some (en (a+b)):=by unfold kf3 kgc;rw [qa,k80]
theorem kadh (a b:Nat):kih (en a) (en b)=some (en (a*b)):=by
 have hc:=k79 a b;have c:∀ n:Nat,imin (n:Int) 1152921504606846977=((min n 1152921504606846977:Nat):Int):=fun n=>by unfold imin;split <;> omega
 unfold kih kgc;by_cases h0:0<min a 1152921504606846977
 ·have e0:decide (0<en a)=true:=qj (by unfold en;omega);have f:quo .i64 1152921504606846977 (en a)=some ((1152921504606846977 / min a 1152921504606846977:Nat):Int):=kabm 1152921504606846977 _ h0;rw [e0,f];simp only [qd,qa];by_cases d:1152921504606846977 / min a 1152921504606846977<min b 1152921504606846977;have e1:decide (((1152921504606846977 / min a 1152921504606846977:Nat):Int)<en b)=true:=qj (by unfold en;omega);rw [e1,qd];have e:=(Nat.div_lt_iff_lt_mul h0).1 d;rw [Nat.mul_comm] at e;unfold en;congr 1;omega
  ·have e1:decide (((1152921504606846977 / min a 1152921504606846977:Nat):Int)<en b)=false:=qg (by unfold en;omega);rw [e1,qc];have e:¬ 1152921504606846977<min b 1152921504606846977*min a 1152921504606846977:=fun h=>d ((Nat.div_lt_iff_lt_mul h0).2 h);rw [Nat.mul_comm] at e;rw [k0h (by omega),c];unfold en;rw [hc]
 ·have e0:decide (0<en a)=false:=qg (by unfold en;omega);rw [e0];simp only [qc,qa];have g:min a 1152921504606846977=0:=by omega
  rw [k0h (by rw [g,Nat.zero_mul];omega),c];unfold en;rw [hc]
def rowN (f:Nat->Nat) (n:Nat):List Int:=(List.range n).map fun m=>en (f m)
theorem ko4 (f:Nat->Nat) (n:Nat):(rowN f n).length=n:=by simp [rowN]
theorem kk1 (f:Nat->Nat) {n k:Nat} (h:k<n):(rowN f n)[k]?=some (en (f k)):=by simp [rowN,h]
theorem kjz {f g:Nat->Nat} {n:Nat} (h:∀ m,m<n->f m=g m):rowN f n=rowN g n:=by unfold rowN;exact qbl fun m hm=>by rw [h m (qa8.1 hm)]
theorem kzx (f:Nat->Nat) (n k v:Nat):(rowN f n).set k (en v)=rowN (fun m=>if m=k then v else f m) n:=by
 refine qbt fun i=>?_;rw [List.getElem?_set,ko4];by_cases hk:k=i
 ·subst hk;rw [ql rfl];split;rename_i h;rw [kk1 _ h,ql rfl]
  ·rename_i h;rw [qaq (by rw [ko4];omega)]
 ·rw [qi hk];by_cases hi:i<n;rw [kk1 _ hi,kk1 _ hi,qi (fun h=>hk h.symm)]
  ·rw [qaq (by rw [ko4];omega),qaq (by rw [ko4];omega)]
theorem kzr (n:Nat):List.replicate n (0:Int)=rowN (fun _=>0) n:=by
 refine qbt fun i=>?_;by_cases hi:i<n;rw [kk1 _ hi,qbu,ql hi];rfl
 ·rw [qbu,qi hi,qaq (by rw [ko4];omega)]
def tabN (T:Int->Nat->Nat) (n m:Nat):List (List Int):=(List.range n).map fun s:Nat=>rowN (T (s:Int)) m
theorem kvb (T:Int->Nat->Nat) (n m:Nat):(tabN T n m).length=n:=by simp [tabN]
theorem kur (T:Int->Nat->Nat) {n m i:Nat} (hi:i<n):(tabN T n m)[i]?=some (rowN (T (i:Int)) m):=by simp [tabN,hi]
theorem kv4 (T:Int->Nat->Nat) {n m:Nat} {s:Int} (h:0<=s/\s<(n:Int)):idx (tabN T n m) s=some (rowN (T s) m):=by obtain ⟨k,rfl⟩:=Int.eq_ofNat_of_zero_le h.1;rw [kaf];exact kur T (by omega)
theorem k1l {T T':Int->Nat->Nat} {n m:Nat} (h:∀ s k,k<m->T s k=T' s k):tabN T n m=tabN T' n m:=by unfold tabN;exact qbl fun s hs=>kjz fun k hk=>h _ k hk
theorem kaf6 (T:Int->Nat->Nat) {n m:Nat} {s:Int} (h:0<=s/\s<(n:Int)) (f:Nat->Nat):(tabN T n m).set s.toNat (rowN f m)=tabN (fun q=>if q=s then f else T q) n m:=by
 obtain ⟨k,rfl⟩:=Int.eq_ofNat_of_zero_le h.1;refine qbt fun i=>?_;rw [List.getElem?_set,kvb];have hk:k<n:=by omega
 by_cases a:k=i;subst a;rw [qah,ql rfl,ql hk,kur _ hk,ql rfl]
 ·rw [qah,qi a];by_cases hi:i<n;rw [kur _ hi,kur _ hi,qi (by omega)]
  ·rw [qaq (by rw [kvb];omega),qaq (by rw [kvb];omega)]
theorem kahn {T:Int->Nat->Nat} {ns M p:Nat} {a:Int} (ha:0<=a/\a<(ns:Int)) (hp:p<M) (d:p<=100) {i:Nat} (hi:i<=p) (x:List Int) (z:Int) (o g:Nat->Nat):
  kac (kcq (tabN T ns M) (p:Int) (z,rowN o (p+1)) a ((i:Int),x)) fuel (1,rowN g (p+1))=some (rowN (fun m=>if i<m then g m+o i*T a (m - i) else g m) (p+1)):=by
 have h:=kck (kcq (tabN T ns M) (p:Int) (z,rowN o (p+1)) a ((i:Int),x)) (p - i) (fun j=>(((j+1:Nat):Int),rowN (fun m=>if i<m/\m<=i+j then g m+o i*T a (m - i) else g m) (p+1))) (rowN (fun m=>if i<m then g m+o i*T a (m - i) else g m) (p+1)) (fun j e=>by
  have ew:w64 ((i:Int)+((j+1:Nat):Int))=((i+j+1:Nat):Int):=by rw [kas];omega
  have ew2:w64 (((j+1:Nat):Int)+1)=((j+1+1:Nat):Int):=by rw [kas];omega
  have b:decide (((i+j+1:Nat):Int)<=(p:Int))=true:=qj (by omega);have e3:(rowN (fun m=>if i<m/\m<=i+j then g m+o i*T a (m - i) else g m) (p+1))[i+j+1]?=some (en (g (i+j+1))):=by rw [kk1 _ (by omega),qi (by omega)]
  have e4:(rowN (T a) M)[j+1]?=some (en (T a (j+1))):=kk1 _ (by omega);have e5:(rowN o (p+1))[i]?=some (en (o i)):=kk1 _ (by omega);simp only [kcq,ew,ew2,b,qd,kaf,e3,e4,e5,kv4 T ha,qa,kadh,kz3,qah,kzx];congr 3;refine kjz fun m hm=>?_;by_cases h1:m=i+j+1;subst h1;rw [ql rfl,ql (by omega),show i+j+1 - i=j+1 by omega]
  ·rw [qi h1];by_cases c:i<m/\m<=i+j;rw [ql c,ql (by omega)]
   ·rw [qi c,qi (by omega)]) (by
  have ew:w64 ((i:Int)+((p - i+1:Nat):Int))=((p+1:Nat):Int):=by rw [kas];omega
  have b:decide (((p+1:Nat):Int)<=(p:Int))=false:=qg (by omega);simp only [kcq,ew,b,qc];congr 2;refine kjz fun m hm=>?_;by_cases c:i<m;rw [ql c,ql (by omega)]
  ·rw [qi c,qi (by omega)])
 rw [show rowN g (p+1)=rowN (fun m=>if i<m/\m<=i+0 then g m+o i*T a (m - i) else g m) (p+1) from kjz fun m hm=>by rw [qi (by omega)]];exact h
theorem kai5 {T:Int->Nat->Nat} {ns M p:Nat} {a:Int} (ha:0<=a/\a<(ns:Int)) (hp:p<M) (c:p<=100) (z:Int) (o:Nat->Nat) (d:T a 0=0):
  kac (ka7 (tabN T ns M) (p:Int) (z,rowN o (p+1)) a) fuel (0,rowN (fun _=>0) (p+1))=some (rowN (NS.conv o (T a)) (p+1)):=by
 have h:=kck (ka7 (tabN T ns M) (p:Int) (z,rowN o (p+1)) a) (p+1) (fun j=>((j:Int),rowN (fun m=>NS.sum (fun i=>o i*T a (m - i)) (min j m)) (p+1))) (rowN (NS.conv o (T a)) (p+1)) (fun j e=>by
  have b:decide ((j:Int)<=(p:Int))=true:=qj (by omega);simp only [ka7,b,qd,qa,kahn ha hp c (show j<=p by omega),kak e (show p+1<=9223372036854775807 by omega)];congr 3;refine kjz fun m hm=>?_;by_cases h1:j<m;rw [ql h1,show min j m=j by omega,show min (j+1) m=j+1 by omega];rfl
  ·rw [qi h1,show min j m=m by omega,show min (j+1) m=m by omega]) (by
  have b:decide (((p+1:Nat):Int)<=(p:Int))=false:=qg (by omega);simp only [ka7,b,qc];congr 2;refine kjz fun m hm=>?_;unfold SR.conv;rw [SR.sum,show min (p+1) m=m by omega,qcc,d];show _=_+o m*0;rw [Nat.mul_zero,Nat.add_zero];rfl)
 rw [show rowN (fun _=>0) (p+1)=rowN (fun m=>NS.sum (fun i=>o i*T a (m - i)) (min 0 m)) (p+1) from kjz fun m hm=>by rw [Nat.zero_min];rfl];exact h
theorem kad8 (t:List (List Int)) (p a z z':Int) (s:List Int) (v6:Int×List Int):kcq t p (z,s) a v6=kcq t p (z',s) a v6:=by funext v7;unfold kcq;rfl
theorem kad7 (t:List (List Int)) (p a z z':Int) (s:List Int):ka7 t p (z,s) a=ka7 t p (z',s) a:=by funext v6;unfold ka7;rw [kad8 t p a z z' s v6]
theorem k3z {T:Int->Nat->Nat} {ns M p:Nat} (hp:p<M) (c:p<=100) (d:∀ a,T a 0=0):∀ (ys:List Int) (o:Nat->Nat),(∀ a∈ys,0<=a/\a<(ns:Int)) ->
  ys.foldlM (fun (s:List Int) a=>Option.bind (mkL 8 (0:Int) ((p+1:Nat):Int)) fun v5=>kac (ka7 (tabN T ns M) (p:Int) (0,s) a) fuel (0,v5)) (rowN o (p+1))=some (rowN (NS.lf T o ys) (p+1))
 | [],o,_=>rfl
 | a::ys,o,ha=>by
  have e:(Option.bind (mkL 8 (0:Int) ((p+1:Nat):Int)) fun v5=>kac (ka7 (tabN T ns M) (p:Int) (0,rowN o (p+1)) a) fuel (0,v5))=some (rowN (NS.conv o (T a)) (p+1)):=by rw [kla 8 (0:Int) (p+1),qa,kzr,kai5 (ha a (qo ..)) hp c 0 o (d a)]
  rw [List.foldlM_cons,e];exact k3z hp c d ys (NS.conv o (T a)) fun b f=>ha b (qk _ f)
theorem kaly:en 1=1:=by unfold en;rw [qce (by omega)];rfl
theorem kaj2 (p:Nat):(rowN (fun _=>0) (p+1)).set (Int.toNat 0) 1=rowN NS.dlt (p+1):=by rw [<- kaly,Int.toNat_zero,kzx];refine kjz fun m hm=>?_;unfold SR.dlt;split <;> rfl
theorem kae9 {T:Int->Nat->Nat} {ns M p:Nat} (hp:p<M) (b:p<=100) (c:∀ a,T a 0=0) (ys:List Int) (hl:ys.length<=1000000) (ha:∀ a∈ys,0<=a/\a<(ns:Int)):kac (kft (tabN T ns M) ys (p:Int)) fuel (0,rowN NS.dlt (p+1))=some (rowN (NS.lf T NS.dlt ys) (p+1)):=by
 have ew:w64 ((p:Int)+1)=((p+1:Nat):Int):=by rw [kas];omega
 rw [ksy (step:=kft (tabN T ns M) ys (p:Int)) ys (fun (s:List Int) a=>Option.bind (mkL 8 (0:Int) ((p+1:Nat):Int)) fun v5=>kac (ka7 (tabN T ns M) (p:Int) (0,s) a) fuel (0,v5)) (fun i s=>(i,s)) (by omega) (fun i a s e=>by
  have hi:=ka8 e;have d:=kad7 (tabN T ns M) (p:Int) a (i:Int) 0 s;unfold kft;simp only;rw [kao hi,qd,kaf,e,qa,ew,kak hi (show ys.length<=9223372036854775807 by omega),d];cases mkL 8 (0:Int) ((p+1:Nat):Int) with
  | none=>rfl
  | some v=>rw [qa,qa];cases kac (ka7 (tabN T ns M) (p:Int) (0,s) a) fuel (0,v) <;> rfl) (fun s=>by unfold kft;simp only;rw [kan,qc])]
 exact k3z hp b c ys NS.dlt ha
theorem kaje (T:Int->Nat->Nat) (ns M p:Nat) (hp:p<M) (b:p<=100) (c:∀ a,T a 0=0) (ys:List Int) (hl:ys.length<=1000000) (ha:∀ a∈ys,0<=a/\a<(ns:Int)):kiv (tabN T ns M) ys (p:Int)=some (en (NS.rr T ys p)):=by
 have ew:w64 ((p:Int)+1)=((p+1:Nat):Int):=by rw [kas];omega
 have e0:idx (rowN (fun _=>0) (p+1)) 0=some (en 0):=by have:=kk1 (fun _=>0) (show 0<p+1 by omega);rw [show (0:Int)=((0:Nat):Int) from rfl,kaf,this]
 have es:=kaj2 p;unfold kiv;rw [ew,kla 8 (0:Int) (p+1),kzr];simp only [qa,e0,es];rw [kae9 hp b c ys hl ha];simp only [qa,kaf,kk1 _ (show p<p+1 by omega),NS.lf_dlt]
def tabC (l:La):Nat->Int->Nat->Nat:=NS.tab l.rules.length (khh l) (kdp l) (fun _=>1)
theorem k16 (l:La) (n:Nat) (s:Int) (k:Nat) (h:k<=n):tabC l n s k=VN l s k:=by unfold tabC;rw [SR.tab_eq,ql h];rfl
theorem kah2 (l:La) (n:Nat) (s:Int) (k:Nat) (h:n<k):tabC l n s k=0:=by unfold tabC;rw [SR.tab_eq,qi (by omega)];rfl
def midC (l:La) (n i:Nat) (s:Int) (k:Nat):Nat:=if k=n+1 then NS.sum (fun i=>if khh l i=s then 1*NS.rr (tabC l n) (kdp l i) n else 0) i else tabC l n s k
theorem kaey {l:La} (hg:khu l) {n most:Nat} (hn:n<most) (hm:most<=24) (z:List (List Int)):
  kac (ke7 l (((n+1:Nat):Int),z)) fuel (0,tabN (tabC l n) l.symbols.length (most+1))=some (tabN (tabC l (n+1)) l.symbols.length (most+1)):=by
 have m:=hg.rules;have ew:w64 (((n+1:Nat):Int) - 1)=(n:Int):=by rw [kas];omega
 have h:=kck (ke7 l (((n+1:Nat):Int),z)) l.rules.length (fun i=>((i:Int),tabN (midC l n i) l.symbols.length (most+1))) (tabN (tabC l (n+1)) l.symbols.length (most+1)) (fun i hi=>by
  obtain ⟨y,hy,hs,g,e⟩:=km4 l hi;have gy:=hg.good y e;have o:=gy.few;have f:0<=y.symbol/\y.symbol<(l.symbols.length:Int):=⟨gy.sym0,gy.sym1⟩;have d:=kaje (midC l n i) l.symbols.length (most+1) n (by omega) (by omega) (fun a=>by unfold midC;rw [qi (by omega),k16 l n a 0 (by omega)];rfl) y.args (by omega) gy.args;have j:NS.rr (midC l n i) y.args n=NS.rr (tabC l n) y.args n:=NS.rr_congr _ _ fun a _ k hk=>by unfold midC;rw [qi (by omega)]
  rw [j] at d;have e3:(rowN (midC l n i y.symbol) (most+1))[n+1]?=some (en (midC l n i y.symbol (n+1))):=kk1 _ (by omega);simp only [ke7,kao hi,qd,kaf,hy,qa,kv4 _ f,ew,e3,d,kz3,kak hi (show l.rules.length<=9223372036854775807 by omega),qah,kzx,kaf6 _ f];congr 3;refine k1l fun s k hk=>?_;unfold midC;by_cases c:s=y.symbol
  ·rw [ql c];by_cases b:k=n+1;rw [ql b,ql b,ql rfl,SR.sum,<- hs,<- c,ql rfl,<- g,Nat.one_mul];rfl
   ·rw [qi b,qi b,qi b,c]
  ·rw [qi c];by_cases b:k=n+1;rw [ql b,ql b,SR.sum,<- hs,qi (fun h=>c h.symm)];exact (Nat.add_zero _).symm
   ·rw [qi b,qi b]) (by
  simp only [ke7,kan,qc];rfl)
 have h0:tabN (tabC l n) l.symbols.length (most+1)=tabN (midC l n 0) l.symbols.length (most+1):=k1l fun s k hk=>by
  unfold midC;by_cases b:k=n+1;rw [ql b,kah2 l n s k (by omega)];rfl
  ·rw [qi b]
 rw [h0];exact h
theorem kafk (ns:Nat) (c:ns<=16) {most:Nat} (hm:most<=24) (T:Int->Nat->Nat) (d:∀ s k,T s k=0):kac (ke6 (most:Int)) fuel (0,List.replicate ns ([]:List Int))=some (tabN T ns (most+1)):=by
 have ew:w64 ((most:Int)+1)=((most+1:Nat):Int):=by rw [kas];omega
 have h:=kck (ke6 (most:Int)) ns (fun j=>((j:Int),List.replicate j (rowN (fun _=>0) (most+1))++List.replicate (ns - j) ([]:List Int))) (tabN T ns (most+1)) (fun j b=>by
  have a:(List.replicate j (rowN (fun _=>0) (most+1))++List.replicate (ns - j) ([]:List Int)).length=ns:=by rw [qac,qa0,qa0];omega
  have e1':(List.replicate j (rowN (fun _=>0) (most+1))++List.replicate (ns - j) ([]:List Int))[j]?=some []:=by rw [qap (by rw [qa0];omega),qa0,qcc,qbu,ql (by omega)]
  have e2':(List.replicate j (rowN (fun _=>0) (most+1))++List.replicate (ns - j) ([]:List Int)).set j (rowN (fun _=>0) (most+1))=List.replicate (j+1) (rowN (fun _=>0) (most+1))++List.replicate (ns - (j+1)) ([]:List Int):=by rw [List.set_append_right _ _ (by rw [qa0];omega),qa0,qcc,show ns - j=(ns - (j+1))+1 by omega,List.replicate_succ,List.set_cons_zero,List.replicate_succ',qbi];rfl
  simp only [ke6,a,kao b,qd,ew,kla 8 (0:Int) (most+1),kzr,qa,kaf,e1',qah,e2',kak b (show ns<=9223372036854775807 by omega)]) (by
  have a:(List.replicate ns (rowN (fun _=>0) (most+1))++List.replicate (ns - ns) ([]:List Int)).length=ns:=by simp
  simp only [ke6,a,kan,qc];congr 2;rw [qcc,List.replicate_zero,qby];refine qbt fun i=>?_;by_cases hi:i<ns;rw [qbu,ql hi,kur T hi];congr 1;exact kjz fun m _=>(d _ _).symm
  ·rw [qbu,qi hi,qaq (by rw [kvb];omega)])
 rw [Nat.sub_zero,List.replicate_zero,List.nil_append] at h;exact h
theorem k7d {l:La} (hg:khu l) {most:Nat} (hm:most<=24:=by omega):kgy l (most:Int)=some (tabN (tabC l most) l.symbols.length (most+1)):=by
 have b:=hg.sym16;unfold kgy;simp only [kla 24 ([]:List Int) l.symbols.length,qa,kafk l.symbols.length b hm (tabC l 0) (fun _ _=>rfl)];have h:=kck (ke5 l (most:Int)) most (fun j=>(((j+1:Nat):Int),tabN (tabC l j) l.symbols.length (most+1))) (tabN (tabC l most) l.symbols.length (most+1)) (fun j c=>by
  have a:decide (((j+1:Nat):Int)<=(most:Int))=true:=qj (by omega);have ew:w64 (((j+1:Nat):Int)+1)=((j+1+1:Nat):Int):=by rw [kas];omega
  simp only [ke5,a,qd,kaey hg c hm,qa,ew]) (by
  have a:decide (((most+1:Nat):Int)<=(most:Int))=false:=qg (by omega);simp only [ke5,a,qc])
 rw [show kac (ke5 l (most:Int)) fuel (1,tabN (tabC l 0) l.symbols.length (most+1))=_ from h];rfl
def ansC (n:Nat):Int×Int:=if (1152921504606846976:Int)<en n then (0,11) else (en n,0)
def badQ (l:La) (s k:Int):Bool:=decide (s<0) || (decide ((l.symbols.length:Int)<=s) || (decide (k<1) || decide (24<k)))
theorem kye (l:La) (s k:Int):((bif decide (s<0) then some true else bif decide ((l.symbols.length:Int)<=s) then some true else bif decide (k<1) then some true else some (decide (24<k))):Option Bool)=some (badQ l s k):=by unfold badQ;cases decide (s<0) <;> cases decide ((l.symbols.length:Int)<=s) <;> cases decide (k<1) <;> cases decide (24<k) <;> rfl
theorem k0w {l:La} {s k:Int} (h:badQ l s k=false):0<=s/\s<(l.symbols.length:Int)/\1<=k/\k<=24:=by unfold badQ at h;simp at h;omega
def errC (l:La) (c s k:Int):Int:=if c≠0 then c else if badQ l s k=true then 1 else 0
theorem kahu {l:La} {c:Int} (hc:kfj l=some c) (s k:Int):kl8 l s k=some (errC l c s k):=by
 unfold kl8 errC;rw [hc,qa,kye];by_cases h:c=0;rw [h,bne_self_eq_false,qi (by simp)];cases badQ l s k <;> rfl
 ·rw [show (c != 0)=true by rw [bne_iff_ne];exact h,ql h];rfl
theorem k9g {l:La} {c:Int} (hc:kaz l=some c) (s k:Int):kgv l s k=some (errC l c s k):=by
 unfold kgv errC;rw [hc,qa,kye];by_cases h:c=0;rw [h,bne_self_eq_false,qi (by simp)];cases badQ l s k <;> rfl
 ·rw [show (c != 0)=true by rw [bne_iff_ne];exact h,ql h];rfl
theorem kwo {l:La} {c s k:Int} (h:errC l c s k=0):c=0/\0<=s/\s<(l.symbols.length:Int)/\1<=k/\k<=24:=by
 unfold errC at h;by_cases hc:c=0
 ·rw [qi (by simpa using hc)] at h;cases a:badQ l s k with
  | true=>rw [a] at h;cases h
  | false=>exact ⟨hc,k0w a⟩
 ·rw [ql hc] at h;exact absurd h hc
theorem kal4 (x:Int):kid x=some (if 1152921504606846976<x then .inr () else .inl ()):=by
 unfold kid;by_cases h:1152921504606846976<x;rw [qj h,ql h];rfl
 ·rw [qg h,qi h];rfl
theorem kaj4 (l:La):km5 l=some ():=rfl
theorem kaap {l:La} (hg:khu l) {c:Int} (s k:Int) (hc:kfj l=some c):kl0 l s k=some (if errC l c s k≠0 then (0,errC l c s k) else ansC (VN l s k.toNat)):=by
 unfold kl0;rw [kahu hc,qa];by_cases a:errC l c s k=0
 ·obtain ⟨_,h1,d,e,f⟩:=kwo a;obtain ⟨n,rfl⟩:=Int.eq_ofNat_of_zero_le (show 0<=k by omega);obtain ⟨m,t1,_⟩:=k5f hg fuel n s [] (Nat.le_of_lt (kfu (by omega))) (by omega) (by omega) h1 d (KI.nil _);rw [a,bne_self_eq_false,qi (by simp),qah];unfold klb kk7;rw [kaj4,qa,t1,qa,kal4];unfold ansC;by_cases b:1152921504606846976<en (VN l s n);rw [ql b,ql b];rfl
  ·rw [qi b,qi b];rfl
 ·rw [show (errC l c s k != 0)=true by rw [bne_iff_ne];exact a,ql a];rfl
theorem kacu {l:La} (hg:khu l) {c:Int} (s k:Int) (hc:kaz l=some c):kh8 l s k=some (if errC l c s k≠0 then (0,errC l c s k) else ansC (VN l s k.toNat)):=by
 unfold kh8;rw [k9g hc,qa];by_cases a:errC l c s k=0
 ·obtain ⟨_,h1,d,e,f⟩:=kwo a;obtain ⟨n,rfl⟩:=Int.eq_ofNat_of_zero_le (show 0<=k by omega);rw [a,bne_self_eq_false,qi (by simp),qah,qc,k7d hg,qa,kv4 _ ⟨h1,d⟩,qa,kaf,kk1 _ (by omega),qa,k16 l n s n (qx _)];unfold ansC;by_cases b:1152921504606846976<en (VN l s n);rw [qj b,ql b];rfl
  ·rw [qg b,qi b];rfl
 ·rw [show (errC l c s k != 0)=true by rw [bne_iff_ne];exact a,ql a];rfl
def totC (l:La) (s:Int) (n:Nat):Nat:=NS.sum (fun j=>VN l s (j+1)) n
theorem kace {l:La} (hg:khu l) {c:Int} (s k:Int) (hc:kaz l=some c):kik l s k=some (if errC l c s k≠0 then (0,errC l c s k) else ansC (totC l s k.toNat)):=by
 unfold kik;rw [k9g hc,qa];by_cases b:errC l c s k=0
 ·obtain ⟨_,h1,h,m,o⟩:=kwo b;obtain ⟨n,rfl⟩:=Int.eq_ofNat_of_zero_le (show 0<=k by omega);have g:=kck (kfb (rowN (tabC l n s) (n+1))) (n+1) (fun j=>(en (NS.sum (tabC l n s) j),(j:Int))) (en (NS.sum (tabC l n s) (n+1))) (fun j f=>by
   unfold kfb;simp only;rw [ko4,kao f,qd,kaf,kk1 _ f,qa,kz3,qa,kak f (by omega)];rfl) (by
   unfold kfb;simp only;rw [ko4,kan,qc])
  have a:NS.sum (tabC l n s) (n+1)=totC l s n:=by have e:NS.sum (tabC l n s) (n+1)=NS.sum (VN l s) (n+1):=NS.sum_congr _ fun i hi=>k16 l n s i (by omega);rw [e,NS.sum_shift];show VN l s 0+totC l s n=_;rw [show VN l s 0=0 from rfl,Nat.zero_add]
  rw [a] at g;rw [b,bne_self_eq_false,qi (by simp),qah,qc,k7d hg,qa,kv4 _ ⟨h1,h⟩,qa];rw [show kac (kfb (rowN (tabC l n s) (n+1))) fuel (0,0)=_ from g,qa];unfold ansC;by_cases d:1152921504606846976<en (totC l s n);rw [qj d,ql d];rfl
  ·rw [qg d,qi d];rfl
 ·rw [show (errC l c s k != 0)=true by rw [bne_iff_ne];exact b,ql b];rfl
abbrev ON:=Option Nat
def e1:ON->Int
 | none=>1099511627776
 | some v=>(v:Int)
def e2:ON->Int
 | none => -1
 | some v=>(v:Int)
end Go.Proofs.YtjbonbdomgoklaaGreatDoor
