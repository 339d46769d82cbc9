import Derived.Test.YtchjomeomabamaaGreatDoorVd
import Derived.Test.YtchjomeomabamaaGreatDoorDrawE
import Derived.Test.YtchjomeomabamaaGreatDoorGl
import Derived.Test.YtchjomeomabamaaGreatDoorDf
import Derived.Test.YtchjomeomabamaaGreatDoorZ7
set_option linter.all false
namespace Go.Proofs.YtchjomeomabamaaGreatDoor
open Go Go.RowKit
def badP (c:Int) (z:Bool):Option Bool:=(Option.bind ((bif (decide (97<=(ior .u8 c 32))) then (some (decide ((ior .u8 c 32)<=122))) else (some (false))):Option (Bool)) fun (v6:Bool)=>((bif (!v6) then (bif z then (some (true)) else (bif (c != 45) then (bif (decide (c<48)) then (some (true)) else (some (decide (57<c)))) else (some (false)))) else (some (false))):Option (Bool)))
def badR (c:Int) (z:Bool):Option Bool:=(Option.bind ((bif (decide (97<=c)) then (bif (decide (c<=122)) then (some (true)) else (bif (decide (65<=c)) then (some (decide (c<=90))) else (some (false)))) else (bif (decide (65<=c)) then (some (decide (c<=90))) else (some (false)))):Option (Bool)) fun (v9:Bool)=>((bif (!v9) then (bif z then (some (true)) else (bif (c != 45) then (bif (decide (c<48)) then (some (true)) else (some (decide (57<c)))) else (some (false)))) else (some (false))):Option (Bool)))
set_option maxRecDepth 100000 in
theorem kad4:(List.range 256).all (fun k=>[true,false].all fun z=>(badP (k:Int) z == badR (k:Int) z) && (badP (k:Int) z).isSome)=true:=by kernel_rfl
theorem kaac (c:UInt8) (z:Bool):∃ b,badP (c.toNat:Int) z=some b/\badR (c.toNat:Int) z=some b:=by
 have h:=qs.1 kad4 c.toNat (List.mem_range.2 (UInt8.toNat_lt c));have a:=qs.1 h z (by cases z <;> simp);simp only [qv,beq_iff_eq] at a;obtain ⟨e,d⟩:=a;cases hp:badP (c.toNat:Int) z with
 | none=>rw [hp] at d;cases d
 | some b=>exact ⟨b,rfl,by rw [<- e,hp]⟩
theorem kxb (s:BA) (hs:s.size<=9223372036854775807):∃ b,kji s=some b/\kf9 s=some b:=by
 have h:=kmk s;obtain ⟨r,r',h1,j,rfl,a⟩:=kkb (step:=kgq s) (step':=kdb s) s.size (by omega) (fun i=>(i:Int)) (fun i=>(i:Int)) (fun r r'=>r=r'/\(r = .inl ()\/r = .inr false)) (fun i hi=>by
  have c:i<s.data.toList.length:=by rw [<- kmk];exact hi
  have e1:byt s (i:Int)=some (s.data.toList[i].toNat:Int):=by rw [kvz,qa c];rfl
  have b1:decide ((i:Int)<(s.size:Int))=true:=qh (by omega);obtain ⟨b,p1,p2⟩:=kaac s.data.toList[i] ((i:Int) == 0);unfold badP at p1;unfold badR at p2;have q1:kgq s (i:Int)=bif b then some (.inr (.inr false)) else some (.inl (w64 ((i:Int)+1))):=by simp only [kgq,b1,qe,e1,qb];rw [<- Option.bind_assoc,p1,qb]
  have q2:kdb s (i:Int)=bif b then some (.inr (.inr false)) else some (.inl (w64 ((i:Int)+1))):=by simp only [kdb,b1,qe,e1,qb];rw [<- Option.bind_assoc,p2,qb]
  rw [q1,q2,kbh i];cases b with
  | true=>exact .inr ⟨_,_,rfl,rfl,rfl, .inr rfl⟩
  | false=>exact .inl ⟨rfl,rfl⟩) (by
  have b1:decide ((s.size:Int)<(s.size:Int))=false:=qg (by omega);simp only [kgq,kdb,b1,qd];exact ⟨_,_,rfl,rfl,rfl, .inl rfl⟩)
 have d:kab (kgq s) fuel 0=some r:=by simpa using h1
 have e:kab (kdb s) fuel 0=some r:=by simpa using j
 unfold kji kf9;rw [d,e];simp only [qb];by_cases f:(s.size:Int)<1;rw [qh f,qg (show ¬ (1:Int)<=(s.size:Int) by omega)];rcases a with rfl | rfl <;> exact ⟨false,rfl,rfl⟩
 ·rw [qg f,qh (show (1:Int)<=(s.size:Int) by omega)];by_cases g:(24:Int)<(s.size:Int);rw [qh g,qg (show ¬ (s.size:Int)<=24 by omega)];rcases a with rfl | rfl <;> exact ⟨false,rfl,rfl⟩
  ·rw [qg g,qh (show (s.size:Int)<=24 by omega)];rcases a with rfl | rfl;exact ⟨true,rfl,rfl⟩
   ·exact ⟨false,rfl,rfl⟩
def tyB (t:Int):Bool:=decide (1<=t) && decide (t<=8)
theorem kwo (t:Int):kjh t=some (tyB t):=by unfold kjh tyB;cases decide (1<=t) <;> rfl
theorem ky5 (t:Int):kg3 t=some (tyB t):=kwo t
theorem k3i (l:La) (h:l.inputs.length<=9223372036854775807):∃ r,kab (khr l) fuel 0=some r/\kab (kd8 l) fuel 0=some r/\∀ e,r = .inr e->e≠0:=by
 obtain ⟨r,r',h1,a,rfl,b⟩:=kkb (step:=khr l) (step':=kd8 l) l.inputs.length (by omega) (fun i=>(i:Int)) (fun i=>(i:Int)) (fun r r'=>r=r'/\∀ e,r = .inr e->e≠0) (fun i hi=>by
  have e1:l.inputs[i]?=some l.inputs[i]:=qa hi;have b1:decide ((i:Int)<(l.inputs.length:Int))=true:=qh (by omega);simp only [khr,kd8,b1,qe,kac,e1,qb,kwo,ky5,kbh i];cases tyB l.inputs[i] with
  | true=>exact .inl ⟨rfl,rfl⟩
  | false=>exact .inr ⟨_,_,rfl,rfl,rfl,fun e h=>by cases h;decide⟩) (by
  have b1:decide ((l.inputs.length:Int)<(l.inputs.length:Int))=false:=qg (by omega);simp only [khr,kd8,b1,qd];exact ⟨_,_,rfl,rfl,rfl,fun e h=>by cases h⟩)
 exact ⟨r,by simpa using h1,by simpa using a,b⟩
theorem kno {α:Type} (s:BA):∀ (m:List (BA×α)) (i:Nat),kgo s m i=(kgo s m 0).map fun p=>(p.1+i,p.2)
 | [],i=>rfl
 | (k,v)::l,i=>by
  simp only [kgo];cases s.toList == k.toList with
  | true=>simp
  | false=>
   simp only [qd];rw [kno s l (i+1),kno s l (0+1),Option.map_map];congr 1;funext p;simp only [Function.comp,qq,and_true];omega
theorem kn2 {α:Type} (k s:BA) (v z:α) (l:List (BA×α)):mget ((k,v)::l) s z=bif s.toList == k.toList then v else mget l s z:=by
 unfold mget;simp only [kgo];cases s.toList == k.toList with
 | true=>rfl
 | false=>
  simp only [qd];rw [kno];cases kgo s l 0 <;> rfl
theorem k6w {α:Type} (k s:BA) (v y:α) (l:List (BA×α)):mput ((k,v)::l) s y=bif s.toList == k.toList then (s,y)::l else (k,v)::mput l s y:=by
 unfold mput;simp only [kgo];cases s.toList == k.toList with
 | true=>rfl
 | false=>
  simp only [qd];rw [kno];cases kgo s l 0 <;> rfl
theorem k5v {a b:BA} (c:BA) (h:(a.toList == b.toList)=true):(c.toList == a.toList)=(c.toList == b.toList):=by rw [beq_iff_eq] at h;rw [h]
theorem koc {α:Type} (k s:BA) (y z:α):∀ m:List (BA×α),mget (mput m k y) s z=bif s.toList == k.toList then y else mget m s z
 | []=>by show mget [(k,y)] s z=_;rw [kn2]
 | (k',v)::l=>by
  rw [k6w];cases h:k.toList == k'.toList with
  | true=>
   simp only [qe];rw [kn2,kn2,k5v s h];cases s.toList == k'.toList <;> rfl
  | false=>
   simp only [qd];rw [kn2,kn2,koc k s y z l];cases h1:s.toList == k'.toList with
   | false=>rfl
   | true=>
    cases a:s.toList == k.toList with
    | false=>rfl
    | true=>
     rw [beq_iff_eq] at h1 a;rw [<- h1,<- a] at h;simp at h
def mOf (xs:List Sy):List (BA×Bool):=xs.foldl (fun m x=>mput m x.name true) []
theorem k9o (xs:List Sy) (x:Sy):mOf (xs++[x])=mput (mOf xs) x.name true:=by unfold mOf;rw [List.foldl_append];rfl
theorem kzc (s:BA):∀ (xs:List Sy) (m:List (BA×Bool)),mget (xs.foldl (fun m x=>mput m x.name true) m) s false=(mget m s false || xs.any fun x=>s.toList == x.name.toList)
 | [],m=>by simp
 | x::xs,m=>by rw [List.foldl_cons,kzc s xs,koc,List.any_cons];cases s.toList == x.name.toList <;> simp
theorem kabb (s:BA) (xs:List Sy):mget (mOf xs) s false=xs.any fun x=>s.toList == x.name.toList:=by unfold mOf;rw [kzc];rfl
theorem kaeh (l:La) (i:Nat) (hi:i<l.symbols.length) (hl:l.symbols.length<=9223372036854775807):kab (kd2 l (i:Int)) fuel 0=some (if ((l.symbols.take i).any fun x=>l.symbols[i].name.toList == x.name.toList)=true then .inr 6 else .inl ()):=by
 have c:(l.symbols.take i).length=i:=by rw [qai];omega
 have:=kjj (kd2 l (i:Int)) i (fun j=>(j:Int)) (fun j=>if (((l.symbols.take i).drop j).any fun x=>l.symbols[i].name.toList == x.name.toList)=true then .inr 6 else .inl ()) (fun j d=>by
  have e0:l.symbols[i]?=some l.symbols[i]:=qa hi;have a:j<l.symbols.length:=by omega
  have e1:l.symbols[j]?=some l.symbols[j]:=qa a;have b1:decide ((j:Int)<(i:Int))=true:=qh (by omega);have b:(l.symbols.take i).drop j=l.symbols[j]::(l.symbols.take i).drop (j+1):=by rw [qay (by omega)];congr 1;exact List.getElem_take
  have hc:(l.symbols[j].name.toList == l.symbols[i].name.toList)=(l.symbols[i].name.toList == l.symbols[j].name.toList):=by rw [Bool.eq_iff_iff,beq_iff_eq,beq_iff_eq];exact eq_comm
  simp only [kd2,b1,qe,kac,e0,e1,qb,b,List.any_cons,kbh j,hc];cases e:l.symbols[i].name.toList == l.symbols[j].name.toList with
  | true=>exact .inr rfl
  | false=>exact .inl ⟨rfl,rfl⟩) (by
  have b1:decide ((i:Int)<(i:Int))=false:=qg (by omega);have b:(l.symbols.take i).drop i=[]:=qbo (by omega);simp only [kd2,b1,qd,b,List.any_nil];rfl)
 simpa using this
theorem k13 (l:La) (h:l.symbols.length<=9223372036854775807) (hs:∀ x∈l.symbols,x.name.size<=9223372036854775807):∃ r,kab (khu l) fuel (0,[])=some r/\kab (kd9 l) fuel 0=some r/\∀ e,r = .inr e->e≠0:=by
 obtain ⟨r,r',h1,c,rfl,d⟩:=kkb (step:=khu l) (step':=kd9 l) l.symbols.length (by omega) (fun i=>((i:Int),mOf (l.symbols.take i))) (fun i=>(i:Int)) (fun r r'=>r=r'/\∀ e,r = .inr e->e≠0) (fun i hi=>by
  have e1:l.symbols[i]?=some l.symbols[i]:=qa hi;have b1:decide ((i:Int)<(l.symbols.length:Int))=true:=qh (by omega);obtain ⟨b,n1,n2⟩:=kxb l.symbols[i].name (hs _ (qi hi));have f:=kaeh l i hi h;have hm:=kabb l.symbols[i].name (l.symbols.take i);have a:mput (mOf (l.symbols.take i)) l.symbols[i].name true=mOf (l.symbols.take (i+1)):=by rw [List.take_add_one,e1,<- k9o];rfl
  simp only [khu,kd9,b1,qe,kac,e1,qb,n1,n2,f,hm,kwo,ky5,kbh i,a];cases b with
  | false=>exact .inr ⟨_,_,rfl,rfl,rfl,fun e h=>by cases h;decide⟩
  | true=>
   simp only [qa9,qd];cases g:(l.symbols.take i).any fun x=>l.symbols[i].name.toList == x.name.toList with
   | true=>exact .inr ⟨_,_,rfl,rfl,rfl,fun e h=>by cases h;decide⟩
   | false=>
    cases tyB l.symbols[i].type with
    | true=>exact .inl ⟨rfl,rfl⟩
    | false=>exact .inr ⟨_,_,rfl,rfl,rfl,fun e h=>by cases h;decide⟩) (by
  have b1:decide ((l.symbols.length:Int)<(l.symbols.length:Int))=false:=qg (by omega);simp only [khu,kd9,b1,qd];exact ⟨_,_,rfl,rfl,rfl,fun e h=>by cases h⟩)
 exact ⟨r,by simpa [mOf] using h1,by simpa using c,d⟩
set_option maxRecDepth 100000
def opL:List Saf:=operator_catalog.getD []
theorem k6d:operator_catalog.isSome=true:=by kernel_rfl
theorem kago:operator_catalog=some opL:=by
 have h:=k6d;unfold opL
 revert h
 generalize operator_catalog=x;intro h;cases x with
 | none=>cases h
 | some x=>rfl
def refFs:List BA:=synthesisref09_families.getD []
theorem kaax:synthesisref09_families=some refFs:=rfl
def catL (f:BA):List Sae:=(kce f).getD []
theorem kaa1:refFs.all (fun f=>(kce f).isSome)=true:=by kernel_rfl
theorem kaeb {f:BA} (hf:f∈refFs):kce f=some (catL f):=by
 have h:=qs.1 kaa1 f hf;unfold catL
 revert h
 generalize kce f=x;intro h;cases x with
 | none=>cases h
 | some x=>rfl
def opNames:List BA:=opL.map fun e=>e.yk.yi
theorem k53:(refFs.flatMap fun f=>(catL f).map fun x=>x.f_0)=opNames:=by kernel_rfl
def eqOp:Option (Sab×Bool)->Option (Sab×Bool)->Bool
 | some (a,b),some (c,d)=>(a.yi.toList == c.yi.toList) && (a.yb == c.yb) && (a.yj == c.yj) && (b == d)
 | _,_=>false
theorem kaeu {x y:Option (Sab×Bool)} (h:eqOp x y=true):∃ r,x=some r/\y=some r:=by
 unfold eqOp at h;split at h
 ·rename_i a b c d;simp only [qv,beq_iff_eq] at h;obtain ⟨⟨⟨h1,e⟩,f⟩,rfl⟩:=h;obtain ⟨n,l,t⟩:=a;obtain ⟨n',l',t'⟩:=c;simp only at h1 e f;have h1:n=n':=by have:(n.toList == n'.toList)=true:=(by simpa using h1);rw [kj9,MapKept.bytes_beq] at this;exact this
  subst h1 e f;exact ⟨_,rfl,rfl⟩
 ·cases h
theorem k8u:opNames.all (fun n=>eqOp (kiq n) (kcr n))=true:=by kernel_rfl
def k61:Sab:=Sab.mk ⟨#[]⟩ [] 0
theorem k35:opL.length<1000:=qbr (by kernel_rfl)
theorem ky2:refFs.length<1000:=qbr (by kernel_rfl)
theorem k16:refFs.all (fun f=>decide ((catL f).length<1000))=true:=by kernel_rfl
theorem k2y {f:BA} (hf:f∈refFs):(catL f).length<1000:=qbr (qs.1 k16 f hf)
theorem kze (s:BA) (c:¬ s∈opNames):kiq s=some (k61,false)/\kcr s=some (k61,false):=by
 refine ⟨?_,?_⟩
 ·have hl:=kin (kht s opL) opL.length (fun i=>(i:Int)) (.inl ()) (fun i hi=>by
   have e1:opL[i]?=some opL[i]:=qa hi;have b1:decide ((i:Int)<(opL.length:Int))=true:=qh (by omega);have a:(opL[i].yk.yi.toList == s.toList)=false:=by
    cases d:opL[i].yk.yi.toList == s.toList with
    | false=>rfl
    | true=>
     rw [kj9,MapKept.bytes_beq] at d;exact absurd (qad.2 ⟨opL[i],qi hi,d⟩) c
   simp only [kht,b1,qe,kac,e1,qb,a,qd,kbh i (h:=(by have:=k35;omega))]) (by
   have b1:decide ((opL.length:Int)<(opL.length:Int))=false:=qg (by omega);simp only [kht,b1,qd]) (hn:=(by have:=k35;omega))
  have b:kab (kht s opL) fuel 0=some (.inl ()):=by simpa using hl
  simp only [kiq,kl6,kago,qb,b,q9];rfl
 ·have hl:=kin (kdx s refFs) refFs.length (fun i=>(i:Int)) (.inl ()) (fun i hi=>by
   have e1:refFs[i]?=some refFs[i]:=qa hi;have hf:refFs[i]∈refFs:=qi hi;have b1:decide ((i:Int)<(refFs.length:Int))=true:=qh (by omega);have f:=kin (kdq s refFs[i] (catL refFs[i])) (catL refFs[i]).length (fun i=>(i:Int)) (.inl ()) (fun j g=>by
    have e2:(catL refFs[i])[j]?=some (catL refFs[i])[j]:=qa g;have b2:decide ((j:Int)<((catL refFs[i]).length:Int))=true:=qh (by omega);have a:((catL refFs[i])[j].f_0.toList == s.toList)=false:=by
     cases d:(catL refFs[i])[j].f_0.toList == s.toList with
     | false=>rfl
     | true=>
      rw [kj9,MapKept.bytes_beq] at d;refine absurd ?_ c;rw [<- k53];exact qbe.2 ⟨refFs[i],hf,qad.2 ⟨_,qi g,d⟩⟩
    simp only [kdq,b2,qe,kac,e2,qb,a,qd,kbh j (h:=(by have:=k2y hf;omega))]) (by
    have b2:decide (((catL refFs[i]).length:Int)<((catL refFs[i]).length:Int))=false:=qg (by omega);simp only [kdq,b2,qd]) (hn:=(by have:=k2y hf;omega))
   have e:kab (kdq s refFs[i] (catL refFs[i])) fuel 0=some (.inl ()):=(by simpa using f);simp only [kdx,b1,qe,kac,e1,qb,kaeb hf,e,q9,kbh i (h:=(by have:=ky2;omega))]) (by
   have b1:decide ((refFs.length:Int)<(refFs.length:Int))=false:=qg (by omega);simp only [kdx,b1,qd]) (hn:=(by have:=ky2;omega))
  have b:kab (kdx s refFs) fuel 0=some (.inl ()):=by simpa using hl
  simp only [kcr,kij,kaax,qb,b,q9,beq_self_eq_true,qe];rfl
theorem k62 (s:BA):∃ r,kiq s=some r/\kcr s=some r:=by
 by_cases a:s∈opNames;exact kaeu (qs.1 k8u s a)
 ·exact ⟨_,kze s a⟩
theorem kni {α:Type} (xs:List α) (i:Int) (h0:0<=i) (h1:i<(xs.length:Int)):∃ x,idx xs i=some x/\x∈xs:=by
 have h:i.toNat<xs.length:=by omega
 refine ⟨xs[i.toNat],?_,qi h⟩;unfold idx;rw [qp h0,qa h]
theorem k8g (x y:List Int):khn x y=kca x y:=rfl
theorem k7d (x y:List Int) (e:x.length<=9223372036854775807):∃ c,kca x y=some c:=by
 unfold kca;by_cases hl:(x.length:Int)=(y.length:Int)
 ·obtain ⟨r,h1,_⟩:=koe (kb5 x y) (kb5 x y) x.length (fun i=>(i:Int)) (fun i hi=>by
   have e1:x[i]?=some x[i]:=qa hi;have a:i<y.length:=(by omega);have e2:y[i]?=some y[i]:=qa a;have b1:decide ((i:Int)<(x.length:Int))=true:=qh (by omega);simp only [kb5,b1,qe,kac,e1,e2,qb,kbh i];cases x[i] != y[i] with
   | true=>exact .inr ⟨_,rfl,rfl⟩
   | false=>exact .inl ⟨rfl,rfl⟩) (.inl ()) (by
   have b1:decide ((x.length:Int)<(x.length:Int))=false:=qg (by omega);simp only [kb5,b1,qd]) (by
   have b1:decide ((x.length:Int)<(x.length:Int))=false:=qg (by omega);simp only [kb5,b1,qd])
  have d:kab (kb5 x y) fuel 0=some r:=by simpa using h1
  rw [d,show ((x.length:Int) != (y.length:Int))=false by rw [qbc];omega];cases r with
  | inl u=>exact ⟨true,rfl⟩
  | inr b=>exact ⟨b,rfl⟩
 ·rw [show ((x.length:Int) != (y.length:Int))=true by rw [bne_iff_ne];omega];exact ⟨false,rfl⟩
theorem kv2 (x:List Int):kca x []=some ((x.length:Int) == 0):=by
 cases x with
 | nil=>kernel_rfl
 | cons a x=>
  unfold kca;have h1:((((a::x).length:Nat):Int) != (([]:List Int).length:Int))=true:=by rw [bne_iff_ne,qbd,qb1];omega
  have b:((((a::x).length:Nat):Int) == 0)=false:=by rw [qa2,qbd];omega
  rw [h1,b];rfl
def fineR (r:Ru):Prop:=r.args.length<=9223372036854775807/\okV r.const/\kru r.const
theorem k0h {a b:Ru} (ha:fineR a) (d:fineR b):∃ c,keb a b=some c/\kfv a b=some c:=by obtain ⟨c,hc⟩:=k7d a.args b.args ha.1;unfold keb kfv;simp only [k8g,hc,qb,krt ha.2.1 d.2.1,k1t ha.2.1 d.2.1];cases a.symbol == b.symbol <;> cases a.kind == b.kind <;> cases a.input == b.input <;> cases a.op.toList == b.op.toList <;> cases c <;> exact ⟨_,rfl,rfl⟩
theorem kagf (v:Va):Va.mk v.type v.num v.text v.items=v:=by cases v;rfl
def kgy:Va:=Va.mk 0 0 ⟨#[]⟩ []
theorem kwl:okV kgy:=by refine ⟨?_,?_,trivial⟩ <;> simp [kgy,depV,kq8]
theorem k8z (l:La) (r:Ru) (o:Sab×Bool) (hr:r.args.length<=9223372036854775807) (hl:r.args.length=o.1.yb.length):∃ c,kab (kil l r o) fuel 0=some c/\kab (ka2 l r o) fuel 0=some c:=by
 obtain ⟨c,h1,b⟩:=koe (kil l r o) (ka2 l r o) r.args.length (fun i=>(i:Int)) (fun i hi=>by
  have e1:r.args[i]?=some r.args[i]:=qa hi;have a:i<o.1.yb.length:=by omega
  have e2:o.1.yb[i]?=some o.1.yb[i]:=qa a;have b1:decide ((i:Int)<(r.args.length:Int))=true:=qh (by omega);simp only [kil,ka2,ki0,b1,qe,kac,e1,e2,qb,kbh i];by_cases h0:0<=r.args[i]
  ·by_cases h1:r.args[i]<(l.symbols.length:Int)
   ·obtain ⟨x,d,_⟩:=kni _ _ h0 h1;rw [qh h0,qh h1,qg (show ¬ r.args[i]<0 by omega),qg (show ¬ (l.symbols.length:Int)<=r.args[i] by omega)];simp only [qe,qd,qb,qa9,d];cases x.type != o.1.yb[i] with
    | true=>exact .inr ⟨_,rfl,rfl⟩
    | false=>exact .inl ⟨rfl,rfl⟩
   ·rw [qh h0,qg h1,qg (show ¬ r.args[i]<0 by omega),qh (show (l.symbols.length:Int)<=r.args[i] by omega)];exact .inr ⟨_,rfl,rfl⟩
  ·rw [qg h0,qh (show r.args[i]<0 by omega)];exact .inr ⟨_,rfl,rfl⟩) (.inl ()) (by
  have b1:decide ((r.args.length:Int)<(r.args.length:Int))=false:=qg (by omega);simp only [kil,b1,qd]) (by
  have b1:decide ((r.args.length:Int)<(r.args.length:Int))=false:=qg (by omega);simp only [ka2,b1,qd])
 exact ⟨c,by simpa using h1,by simpa using b⟩
theorem k68 (a b:Int):(a != b)=(b != a):=by rw [Bool.eq_iff_iff,bne_iff_ne,bne_iff_ne];exact ⟨fun h e=>h e.symm,fun h e=>h e.symm⟩
theorem kaat (l:La) (r:Ru) (ha:r.args.length<=9223372036854775807) (b:kb8 r.const (Va.mk 0 0 ⟨#[]⟩ [])=some (eqV r.const kgy)) (hp:kg0 r.const (Va.mk 0 0 ⟨#[]⟩ [])=some (eqV r.const kgy)) (hc:∃ c,ka7 fuel r.const=some c/\kap fuel r.const=some c):∃ c,kj5 l r=some c/\kdi l r=some c:=by
 have a:kg0 (Va.mk r.const.type r.const.num r.const.text r.const.items) (Va.mk 0 0 ⟨#[]⟩ [])=some (eqV r.const kgy):=by rw [kagf];exact hp
 have d:kg0 (Va.mk 0 0 ⟨#[]⟩ []) (Va.mk 0 0 ⟨#[]⟩ [])=some true:=by have:=krt kwl kwl;rw [k9j] at this;exact this
 unfold kj5 kdi ki0;by_cases h0:0<=r.symbol
 rotate_left
 rw [qg h0,qh (show r.symbol<0 by omega)];exact ⟨1,rfl,rfl⟩;by_cases h1:r.symbol<(l.symbols.length:Int)
 rotate_left
 rw [qh h0,qg h1,qg (show ¬ r.symbol<0 by omega),qh (show (l.symbols.length:Int)<=r.symbol by omega)];exact ⟨1,rfl,rfl⟩;obtain ⟨x,f,_⟩:=kni _ _ h0 h1;rw [qh h0,qh h1,qg (show ¬ r.symbol<0 by omega),qg (show ¬ (l.symbols.length:Int)<=r.symbol by omega)];simp only [qe,qd,qb,qa9];by_cases k1:r.kind<1;rw [qh k1];exact ⟨4,rfl,rfl⟩;by_cases k3:3<r.kind;rw [qg k1,qh k3];exact ⟨4,rfl,rfl⟩;rw [qg k1,qg k3];simp only [qd,qb,f];have hk:r.kind=1\/r.kind=2\/r.kind=3:=by omega
 rcases hk with hk | hk | hk
 ·have c1:(r.kind == 1)=true:=by rw [hk];rfl
  simp only [c1,qe,qb,keb,kez,beq_self_eq_true,kv2,a,b];have fin:∃ c,(Option.bind ((bif (decide (r.input<0)) then (some (true)) else (some (decide ((List.length l.inputs:Int)<=r.input)))):Option (Bool)) fun (v9:Bool)=>(bif v9 then (some 1) else (Option.bind (idx l.inputs r.input) fun v10=>(Option.bind (kg4 (v10) (x.type)) fun v11=>(some v11)))))=some c /\
    (Option.bind ((bif (decide (r.input<0)) then (some (true)) else (some (decide ((List.length l.inputs:Int)<=r.input)))):Option (Bool)) fun (v8:Bool)=>(bif v8 then (some 1) else (Option.bind (idx l.inputs r.input) fun v9=>(bif (v9 != x.type) then (some 3) else (some 0)))))=some (c:Int):=by
   by_cases i0:r.input<0;rw [qh i0];exact ⟨1,rfl,rfl⟩;by_cases i1:(l.inputs.length:Int)<=r.input;rw [qg i0,qh i1];exact ⟨1,rfl,rfl⟩;obtain ⟨y,hy,_⟩:=kni l.inputs r.input (by omega) (by omega);rw [qg i0,qg i1];simp only [qd,qb,hy,kg4];cases y != x.type <;> exact ⟨_,rfl,rfl⟩
  obtain ⟨c,f1,f2⟩:=fin;cases r.op.toList == (⟨#[]⟩:BA).toList <;> cases (r.args.length:Int) == 0 <;> cases eqV r.const kgy <;> first | exact ⟨4,rfl,rfl⟩ | exact ⟨c,f1,f2⟩
 ·have c1:(r.kind == 1)=false:=by rw [hk];rfl
  have c2:(r.kind == 2)=true:=by rw [hk];rfl
  simp only [c1,c2,qe,qd,qb,keb,kez,beq_self_eq_true,kv2,d,b];obtain ⟨c,f1,f2⟩:=hc;simp only [f1,f2,qb,kg4];cases r.input == 0 <;> cases r.op.toList == (⟨#[]⟩:BA).toList <;> cases (r.args.length:Int) == 0 <;> first | exact ⟨4,rfl,rfl⟩ | skip
  cases c != 0 with
  | true=>exact ⟨c,rfl,rfl⟩
  | false=>cases r.const.type != x.type <;> exact ⟨_,rfl,rfl⟩
 ·have c1:(r.kind == 1)=false:=by rw [hk];rfl
  have c2:(r.kind == 2)=false:=by rw [hk];rfl
  have c3:(r.kind == 3)=true:=by rw [hk];rfl
  have en:kca [] []=some true:=kv2 [];simp only [c1,c2,c3,qe,qd,qb,keb,kez,beq_self_eq_true,en,a,b];obtain ⟨o,f1,f2⟩:=k62 r.op;simp only [kdr,f1,f2,qb,kg4];cases r.input == 0 <;> cases eqV r.const kgy <;> first | exact ⟨4,rfl,rfl⟩ | skip
  simp only [qa9,Bool.not_false,qe,qd,qb];cases o.2 with
  | false=>exact ⟨5,rfl,rfl⟩
  | true=>
   simp only [qa9,qd];by_cases hl:r.args.length=o.1.yb.length
   ·rw [show ((r.args.length:Int) != (o.1.yb.length:Int))=false by rw [qbc];omega];obtain ⟨c,g1,g2⟩:=k8z l r o ha hl;simp only [qd,g1,g2,qb,f];cases c with
    | inl u=>
     simp only [q9,qb];rw [k68];cases x.type != o.1.yj <;> exact ⟨_,rfl,rfl⟩
    | inr e=>exact ⟨e,rfl,rfl⟩
   ·rw [show ((r.args.length:Int) != (o.1.yb.length:Int))=true by rw [bne_iff_ne];omega];exact ⟨2,rfl,rfl⟩
theorem kp3 {σ β:Type} {step:σ->Option (σ ⊕ β)} (n:Nat) (S:Nat->σ) (b0:β) (hs:∀ i,i<n->step (S i)=some (.inl (S (i+1)))\/∃ b,step (S i)=some (.inr b)/\b≠b0):
  ∀ (k i:Nat),kab step k (S i)=some b0->∀ j,i<=j->j<n->step (S j)=some (.inl (S (j+1)))
 | 0,i,h=>by cases h
 | k+1,i,h=>fun j a c=>by
  rw [kab] at h;rcases hs i (by omega) with h1 | ⟨b,h1,d⟩
  ·rw [h1] at h;by_cases e:i=j;subst e;exact h1
   ·exact kp3 n S b0 hs k (i+1) h j (by omega) c
  ·rw [h1] at h;injection h with h;exact absurd h d
theorem k05 {α:Type} (xs:List α) (i:Nat) (hi:i<=xs.length:=by omega):cutL xs 0 (i:Int)=some (xs.take i):=by unfold cutL;rw [qp (by omega)];simp
theorem kaa5 (l:La) (i:Nat) (hi:i<l.rules.length) (hl:l.rules.length<=9223372036854775807) (hr:∀ j (g:j<l.rules.length),j<=i->fineR l.rules[j]):∃ b,kbp (l.rules.take i) l.rules[i]=some b/\kab (kc1 l (i:Int)) fuel 0=some (if b=true then .inr 6 else .inl ()):=by
 have a:(l.rules.take i).length=i:=by rw [qai];omega
 obtain ⟨r,r',h1,h,k⟩:=kkb (step:=kbc (l.rules.take i) l.rules[i]) (step':=kc1 l (i:Int)) i (by omega) (fun j=>(j:Int)) (fun j=>(j:Int))
  (fun r r'=>(r = .inl ()/\r' = .inl ())\/∃ j:Nat,r = .inr (j:Int)/\r' = .inr 6) (fun j g=>by
  have e0:l.rules[i]?=some l.rules[i]:=qa hi;have d:j<l.rules.length:=by omega
  have e1:l.rules[j]?=some l.rules[j]:=qa d;have e2:(l.rules.take i)[j]?=some l.rules[j]:=by rw [List.getElem?_take_of_lt g,e1]
  have b1:decide ((j:Int)<(i:Int))=true:=qh (by omega);have b2:decide ((j:Int)<((l.rules.take i).length:Int))=true:=by rw [a];exact b1
  obtain ⟨c,c1,c2⟩:=k0h (hr j d (by omega)) (hr i hi (qx _));simp only [kbc,kc1,kjy,b1,b2,qe,kac,e0,e1,e2,qb,c1,c2,kbh j];cases c with
  | true=>exact .inr ⟨_,_,rfl,rfl, .inr ⟨j,rfl,rfl⟩⟩
  | false=>exact .inl ⟨rfl,rfl⟩) (by
  have b1:decide ((i:Int)<(i:Int))=false:=qg (by omega);have b2:decide ((i:Int)<((l.rules.take i).length:Int))=false:=by rw [a];exact b1
  simp only [kbc,kc1,b1,b2,qd];exact ⟨_,_,rfl,rfl, .inl ⟨rfl,rfl⟩⟩)
 have e:kab (kbc (l.rules.take i) l.rules[i]) fuel 0=some r:=by simpa using h1
 have f:kab (kc1 l (i:Int)) fuel 0=some r':=by simpa using h
 unfold kbp kda;rw [e,f];rcases k with ⟨rfl,rfl⟩ | ⟨j,rfl,rfl⟩;exact ⟨false,rfl,rfl⟩
 ·refine ⟨true,?_,rfl⟩;simp only [qb,qat];exact qan some (qh (by omega))
def dval (l:List UInt8):Nat:=l.foldl (fun a c=>a*10+(c.toNat - 48)) 0
theorem kxf {d:Nat} (h:d<10):(UInt8.ofNat (48+d)).toNat=48+d:=by simp only [UInt8.toNat_ofNat'];omega
theorem k1u (u:Nat):dval (Lib.decDigits u)=u:=by
 induction u using Nat.strongRecOn with
 | _ u ih=>
  rw [Lib.decDigits];split;rename_i h;simp only [dval,List.foldl_cons,List.foldl_nil,kxf h];omega
  ·rename_i h;have:=ih (u / 10) (by omega);simp only [dval,List.foldl_append,List.foldl_cons,List.foldl_nil,kxf (Nat.mod_lt u (by omega:0<10))] at this ⊢;rw [this];omega
theorem ktn (u:Nat):∀ c∈Lib.decDigits u,48<=c.toNat/\c.toNat<=57:=by
 induction u using Nat.strongRecOn with
 | _ u ih=>
  rw [Lib.decDigits];split;rename_i h;intro c hc;obtain rfl:=qw.1 hc;rw [kxf h];omega
  ·rename_i h;intro c hc;rcases qab.1 hc with hc | hc;exact ih (u / 10) (by omega) c hc
   ·obtain rfl:=qw.1 hc;have:=Nat.mod_lt u (by omega:0<10);rw [kxf this];omega
theorem k4e {u v:Nat} (h:Lib.decDigits u=Lib.decDigits v):u=v:=by rw [<- k1u u,h,k1u]
theorem kva (n:Int):∀ c∈Lib.itoa n,c≠32:=by
 intro c hc e;subst e;unfold Lib.itoa at hc;split at hc
 ·rcases qam.1 hc with h | h;cases h
  ·have:=ktn _ _ h;revert this;decide
 ·have:=ktn _ _ hc;revert this;decide
theorem k3e {m n:Int} (h:Lib.itoa m=Lib.itoa n):m=n:=by
 have a:∀ (u v:Nat),(45:UInt8)::Lib.decDigits u≠Lib.decDigits v:=fun u v h=>by
  have:=ktn v 45 (by rw [<- h];exact qn ..)
  revert this;decide
 unfold Lib.itoa at h;split at h <;> split at h;have:=k4e (List.cons.inj h).2;omega;exact absurd h (a _ _);exact absurd h.symm (a _ _)
 ·have:=k4e h;omega
theorem kyv:∀ {a a' b b':List UInt8},(∀ c∈a,c≠32)->(∀ c∈a',c≠32)->(b=[]\/∃ t,b=32::t)->(b'=[]\/∃ t,b'=32::t)->a++b=a'++b'->a=a'/\b=b'
 | [],[],b,b',_,_,_,_,h=>⟨rfl,h⟩
 | [],c::a',b,b',_,d,e,_,h=>by
  rcases e with rfl | ⟨t,rfl⟩;cases h
  ·exact absurd (List.cons.inj h).1.symm (d c (qn ..))
 | c::a,[],b,b',h1,_,_,f,h=>by
  rcases f with rfl | ⟨t,rfl⟩;cases h
  ·exact absurd (List.cons.inj h).1 (h1 c (qn ..))
 | c::a,c'::a',b,b',h1,d,e,f,h=>by obtain ⟨e1,e2⟩:=List.cons.inj h;obtain ⟨e3,e4⟩:=kyv (fun x g=>h1 x (qj _ g)) (fun x g=>d x (qj _ g)) e f e2;exact ⟨by rw [e1,e3],e4⟩
theorem ku8:∀ xs:List Int,(xs.flatMap fun a=>(32:UInt8)::Lib.itoa a)=[]\/∃ t,(xs.flatMap fun a=>(32:UInt8)::Lib.itoa a)=32::t
 | [] => .inl rfl
 | a::l => .inr ⟨_,rfl⟩
theorem k1m:∀ {xs ys:List Int},(xs.flatMap fun a=>(32:UInt8)::Lib.itoa a)=(ys.flatMap fun a=>(32:UInt8)::Lib.itoa a)->xs=ys
 | [],[],_=>rfl
 | [],_::_,h=>by cases h
 | _::_,[],h=>by cases h
 | x::xs,y::ys,h=>by simp only [List.flatMap_cons,qbp,List.cons.injEq,true_and] at h;obtain ⟨h1,b⟩:=kyv (kva x) (kva y) (ku8 xs) (ku8 ys) h;rw [k3e h1,k1m b]
theorem k86 {r r':Int} {xs ys:List Int} (h:keyL r xs=keyL r' ys):r=r'/\xs=ys:=by obtain ⟨h1,a⟩:=kyv (kva r) (kva r') (ku8 xs) (ku8 ys) h;exact ⟨k3e h1,k1m a⟩
theorem kwk (m:List (BA×Int)) (s:BA):mhas m s=true↔mget m s 0=mget m s 1:=by unfold mhas mget;cases kgo s m 0 <;> simp
theorem kaa8 (m:List (BA×Int)) (k s:BA) (y:Int):mhas (mput m k y) s=((s.toList == k.toList) || mhas m s):=by rw [Bool.eq_iff_iff,qbv,kwk,kwk,koc,koc];cases s.toList == k.toList <;> simp
def kb (r:Int) (xs:List Int):BA:=⟨(keyL r xs).toArray⟩
theorem kb_eq {r:Int} {xs:List Int} (h:inI r=true) (h1:xs.length<=1000000) (a:xs.all inI=true):keyB r xs=some (kb r xs):=by
 unfold keyB;have b:Nat.ble xs.length 1000000=true:=by rw [Nat.ble_eq];exact h1
 rw [h,a,b];rfl
theorem kae4 {r r':Int} {xs ys:List Int} (h:(kb r xs).toList=(kb r' ys).toList):r=r'/\xs=ys:=by
 apply k86;have e:∀ l:List UInt8,(ByteArray.mk l.toArray).toList=l:=by intro l;rw [ByteArray.toList_eq]
 unfold kb at h;rw [e,e] at h;exact h
def Pool (m:List (BA×Int)) (ps:List (Int×List Int)):Prop:=
 (∀ r xs,mhas m (kb r xs)=true↔(r,xs)∈ps)/\∀ (i:Nat) r xs,ps[i]?=some (r,xs)->mget m (kb r xs) 0=(i:Int)
theorem kaai:Pool [] []:=by
 refine ⟨fun r xs=>?_,fun i r xs h=>?_⟩;rw [kwk];simp [mget,kgo]
 ·simp at h
theorem k90 {m:List (BA×Int)} {ps:List (Int×List Int)} {r:Int} {xs:List Int} (h:Pool m ps) (hn:(r,xs)∉ps):Pool (mput m (kb r xs) (ps.length:Int)) (ps++[(r,xs)]):=by
 have e:∀ r' ys,((kb r' ys).toList == (kb r xs).toList)=true↔(r',ys)=(r,xs):=by
  intro r' ys;rw [beq_iff_eq];constructor;intro q;obtain ⟨a,b⟩:=kae4 q;rw [a,b]
  ·intro q;injection q with a b;rw [a,b]
 refine ⟨fun r' ys=>?_,fun i r' ys hi=>?_⟩;rw [kaa8,qbv,h.1,e,qab,qw];exact Or.comm
 ·rw [koc];by_cases q:(r',ys)=(r,xs)
  ·rw [(e r' ys).2 q];by_cases hl:i<ps.length;rw [qy hl] at hi;exact absurd (q ▸ qo hi) hn
   ·rw [qak (by omega)] at hi;have:i - ps.length=0:=by
     cases c:i - ps.length with
     | zero=>rfl
     | succ n=>
      rw [c] at hi;simp at hi
    have:i=ps.length:=(by omega);rw [this];rfl
  ·have q':((kb r' ys).toList == (kb r xs).toList)=false:=by
    cases d:(kb r' ys).toList == (kb r xs).toList with
    | true=>exact absurd ((e r' ys).1 d) q
    | false=>rfl
   rw [q'];by_cases hl:i<ps.length;rw [qy hl] at hi;exact h.2 i r' ys hi
   ·rw [qak (by omega)] at hi;cases c:i - ps.length with
    | zero=>
     rw [c] at hi;simp at hi;exact absurd (by rw [hi.1,hi.2]) q
    | succ n=>
     rw [c] at hi;simp at hi
theorem kaau (zs:List Int) (js cs:List Nat) (h:js.map (fun j=>zs[j]?)=cs.map (fun (c:Nat)=>some (c:Int))) (f:cs.sum<=1000000) (hl:js.length<=1000000):
  kab (kex zs (js.map fun (j:Nat)=>(j:Int))) fuel (1,0)=some ((1+cs.sum:Nat):Int):=by
 have a:js.length=cs.length:=by simpa using qan List.length h
 have key:=kin (kex zs (js.map fun (j:Nat)=>(j:Int))) js.length (fun i=>(((1+(cs.take i).sum:Nat):Int),(i:Int))) ((1+cs.sum:Nat):Int) (fun i hi=>by
  have b:js[i]?=some js[i]:=qa hi;have hc:cs[i]?=some (cs[i]'(by omega)):=qa (by omega);have d:zs[js[i]]?=some ((cs[i]'(by omega):Nat):Int):=by have:=qan (fun l=>l[i]?) h;simp only [qr,b,hc,qax] at this;exact qaj this
  have hs:(cs.take (i+1)).sum=(cs.take i).sum+cs[i]'(by omega):=by rw [List.take_add_one,hc,qbu];simp only [Option.toList_some,List.sum_cons,List.sum_nil,Nat.add_zero]
  have ht:(cs.take (i+1)).sum<=cs.sum:=by have:=qan List.sum (List.take_append_drop (i+1) cs);rw [qbu] at this;omega
  unfold kex;simp only [qaa];rw [show (decide ((i:Int)<(js.length:Int)))=true by simpa using hi,qe,kac,qr,b];simp only [qax,qb];rw [kac,d];simp only [qb];rw [kbh _,kgv,hs];have e:(((1+(cs.take i).sum:Nat):Int)+((cs[i]'(by omega):Nat):Int))=((1+((cs.take i).sum+cs[i]'(by omega)):Nat):Int):=by omega
  rw [e]) (by
  unfold kex;simp only [qaa];rw [show (decide ((js.length:Int)<(js.length:Int)))=false by simp,qd,a,qal])
 simpa using key
def krr (ts:List Tm) (i:Nat) (xs:List Int) (l:List Tm):Prop:=∃ js:List Nat,xs=js.map (fun (j:Nat)=>(j:Int))/\(∀ j∈js,j<i)/\js.map (fun j=>ts[j]?)=l.map some
structure km3 (m:List (BA×Int)) (rs:List Int) (ag:List (List Int)) (zs:List Int) (ts:List Tm):Prop where
 mp:Pool m (rs.zip ag)
 lr:rs=ts.map Tm.rule
 la:ag.length=ts.length
 lz:zs=ts.map fun t=>(t.size:Int)
 ar:∀ (i:Nat) xs t,ag[i]?=some xs->ts[i]?=some t->krr ts i xs t.args
 nd:ts.Nodup
theorem kpk {α:Type}:∀ {l l':List α},l.map some=l'.map some->l=l'
 | [],[],_=>rfl
 | [],_::_,h=>by simp at h
 | _::_,[],h=>by simp at h
 | a::l,b::l',h=>by simp only [qas,List.cons.injEq,qc] at h;rw [h.1,kpk h.2]
theorem k28:∀ {l l':List Nat},l.map (fun (j:Nat)=>(j:Int))=l'.map (fun (j:Nat)=>(j:Int))->l=l'
 | [],[],_=>rfl
 | [],_::_,h=>by simp at h
 | _::_,[],h=>by simp at h
 | a::l,b::l',h=>by
  simp only [qas,List.cons.injEq] at h;have:a=b:=by omega
  rw [this,k28 h.2]
theorem k4o {ts:List Tm} (nd:ts.Nodup):∀ {l l':List Nat},(∀ j∈l,j<ts.length)->l.map (fun j=>ts[j]?)=l'.map (fun j=>ts[j]?)->l=l'
 | [],[],_,_=>rfl
 | [],_::_,_,h=>by simp at h
 | _::_,[],_,h=>by simp at h
 | a::l,b::l',c,h=>by simp only [qas,List.cons.injEq] at h;have:a=b:=(List.getElem?_inj (c a qn) nd).1 h.1;rw [this,k4o nd (fun j d=>c j (qj _ d)) h.2]
theorem kz4 {ts e:List Tm} {i:Nat} {xs:List Int} {l:List Tm} (hi:i<=ts.length) (h:krr ts i xs l):krr (ts++e) i xs l:=by obtain ⟨js,h1,a,b⟩:=h;refine ⟨js,h1,a,?_⟩;rw [<- b];apply qbf;intro j c;rw [qy (by have:=a j c;omega)]
theorem kn8:∀ l:List Tm,Tm.sizeL l=(l.map Tm.size).sum
 | []=>by simp [Tm.sizeL]
 | t::l=>by rw [Tm.sizeL,kn8 l];simp
theorem kacz {α β:Type} {ag:List α} {bs:List β} {i:Nat} {a:α} {b:β} (ha:ag[i]?=some a) (c:bs[i]?=some b):(ag.zip bs)[i]?=some (a,b):=by rw [List.getElem?_zip_eq_some];exact ⟨ha,c⟩
theorem kad6 {m:List (BA×Int)} {rs:List Int} {ag:List (List Int)} {zs:List Int} {ts:List Tm} (h:km3 m rs ag zs ts) {r:Int} {xs:List Int} {l:List Tm} (b:krr ts ts.length xs l)
  (hm:(r,xs)∈rs.zip ag):∃ i:Nat,mget m (kb r xs) 0=(i:Int)/\ts[i]?=some (Tm.mk r l):=by
 obtain ⟨i,hi⟩:=qap.1 hm;refine ⟨i,h.mp.2 i r xs hi,?_⟩;rw [List.getElem?_zip_eq_some] at hi;obtain ⟨h1,c⟩:=hi;have a:=h1;rw [h.lr,qr] at a;cases ht:ts[i]? with
 | none=>rw [ht] at a;simp at a
 | some t=>
  rw [ht] at a;simp only [qax,qc] at a;obtain ⟨js,a1,a2,a3⟩:=h.ar i xs t c ht;obtain ⟨ks,b1,b2,b3⟩:=b;have:js=ks:=k28 (a1.symm.trans b1);rw [this,b3] at a3;have:=kpk a3;cases t with
  | mk r0 l0=>
   simp only [Tm.rule,Tm.args] at a this;rw [a,this]
theorem kadl {m:List (BA×Int)} {rs:List Int} {ag:List (List Int)} {zs:List Int} {ts:List Tm} (h:km3 m rs ag zs ts) {r:Int} {xs:List Int} {l:List Tm} (f:krr ts ts.length xs l)
  (hm:(r,xs)∉rs.zip ag):km3 (mput m (kb r xs) (rs.length:Int)) (rs++[r]) (ag++[xs]) (zs++[((Tm.mk r l).size:Int)]) (ts++[Tm.mk r l]):=by
 have hl:rs.length=ts.length:=by rw [h.lr,qaa]
 have k:(rs.zip ag).length=rs.length:=by rw [List.length_zip,h.la,hl,Nat.min_self]
 refine ⟨?_,?_,?_,?_,?_,?_⟩;have:=k90 h.mp hm;rw [k] at this;rw [List.zip_append (by rw [hl,h.la])];exact this;rw [qaw,<- h.lr];rfl;simp [h.la];rw [qaw,<- h.lz];rfl
 ·intro i ys t hy ht;by_cases hi:i<ts.length;rw [qy (by rw [h.la];exact hi)] at hy;rw [qy hi] at ht;exact kz4 (by omega) (h.ar i ys t hy ht)
  ·have n:i=ts.length:=(by have:=(qf.1 ht).1;simp at this;omega);subst n;rw [<- h.la,List.getElem?_concat_length] at hy;rw [List.getElem?_concat_length] at ht;cases hy;cases ht;exact kz4 (qx _) f
 ·rw [List.nodup_append];refine ⟨h.nd,by simp,?_⟩;intro a ha b g d;rw [qw] at g;rw [d,g] at ha;obtain ⟨i,hi⟩:=qap.1 ha;have e:=(qf.1 hi).1;have c:ag[i]?=some (ag[i]'(by rw [h.la];exact e)):=qa _;obtain ⟨js,a1,a2,a3⟩:=h.ar i _ _ c hi;obtain ⟨ks,b1,b2,b3⟩:=f;have:js=ks:=k4o h.nd (fun j o=>by have:=a2 j o;omega) (a3.trans b3.symm);apply hm;refine qap.2 ⟨i,kacz ?_ ?_⟩;rw [h.lr,qr,hi];rfl
  ·rw [c,a1,this,b1]
theorem k38 {n:Nat} (h:n<=1000000):inI (n:Int)=true:=by unfold inI;rw [qv,qa6,qa6];omega
theorem kaab {m:List (BA×Int)} {rs:List Int} {ag:List (List Int)} {zs:List Int} {ts:List Tm} (h:km3 m rs ag zs ts) (r:Int) (xs:List Int) (l:List Tm) (d:krr ts ts.length xs l) (hr:inI r=true) (n:ts.length<=1000) (hs:(Tm.mk r l).size<=1000):
  ∃ (i:Nat) (m':List (BA×Int)) (rs':List Int) (ag':List (List Int)) (zs':List Int) (e:List Tm),ki5 m rs ag zs r xs=some ((i:Int),m',rs',ag',zs')/\km3 m' rs' ag' zs' (ts++e)/\(ts++e)[i]?=some (Tm.mk r l)/\e.length<=1/\∀ t∈e,t=Tm.mk r l:=by
 obtain ⟨js,x1,x2,x3⟩:=d;have c:js.length=l.length:=by simpa using qan List.length x3
 have b:(Tm.mk r l).size=(l.map Tm.size).sum+1:=by rw [Tm.size,kn8]
 have f:l.length<=1000:=by
  have key:∀ l:List Tm,l.length<=Tm.sizeL l:=by
   intro l
   induction l with
   | nil=>simp
   | cons t l ih=>
    rw [Tm.sizeL,qbd];have:1<=t.size:=(by cases t;rw [Tm.size];omega);omega
  have:=key l;rw [kn8] at this;omega
 have hk:keyB r xs=some (kb r xs):=by refine kb_eq hr (by rw [x1,qaa];omega) ?_;rw [x1,qs];intro y hy;obtain ⟨j,g,rfl⟩:=qad.1 hy;exact k38 (by have:=x2 j g;omega)
 have hl:rs.length=ts.length:=by rw [h.lr,qaa]
 have k:zs.length=ts.length:=by rw [h.lz,qaa]
 unfold ki5;rw [hk];simp only [qb];cases hm:mhas m (kb r xs) with
 | true=>
  obtain ⟨i,i1,i2⟩:=kad6 h ⟨js,x1,x2,x3⟩ ((h.mp.1 r xs).1 hm);refine ⟨i,m,rs,ag,zs,[],?_,by rw [qbw];exact h,by rw [qbw];exact i2,by simp,by simp⟩;simp only [qa9,qd,qb,i1]
 | false=>
  have hn:(r,xs)∉rs.zip ag:=fun q=>by rw [(h.mp.1 r xs).2 q] at hm;cases hm
  refine ⟨ts.length,mput m (kb r xs) (rs.length:Int),rs++[r],ag++[xs],zs++[((Tm.mk r l).size:Int)],[Tm.mk r l],?_,kadl h ⟨js,x1,x2,x3⟩ hn,by rw [List.getElem?_concat_length],by simp,by simp⟩;have a:kab (kex zs xs) fuel (1,0)=some (((Tm.mk r l).size:Nat):Int):=by
   rw [x1,kaau zs js (l.map Tm.size) ?_ (by omega) (by omega),b,Nat.add_comm];rw [List.map_map];have:=qan (List.map (Option.map fun t:Tm=>(t.size:Int))) x3;rw [List.map_map,List.map_map] at this;rw [show (fun j=>zs[j]?)=(Option.map fun t:Tm=>(t.size:Int)) ∘ fun j=>ts[j]? from ?_,this];rfl
   ·funext j;rw [h.lz,qr];rfl
  simp only [Bool.not_false,qe];rw [kcv (by simp;omega),kcv (by simp [h.la];omega)];simp only [qb];rw [a];simp only [qb];rw [kcv (by simp;omega)];simp only [qb,hl]
theorem kv1 {σ β:Type} {step:σ->Option (σ ⊕ β)} (n:Nat) (hn:n<18446744073709551616) (P:Nat->σ->Prop) (Q:β->Prop) (hs:∀ i s,i<n->P i s->∃ s',step s=some (.inl s')/\P (i+1) s') (c:∀ s,P n s->∃ b,step s=some (.inr b)/\Q b) (s:σ) (h0:P 0 s):∃ b,kab step fuel s=some b/\Q b:=by
 have key:∀ (k i:Nat) (s:σ),i<=n->n - i<k->P i s->∃ b,kab step k s=some b/\Q b:=by
  intro k
  induction k with
  | zero=>intro i s _ h;omega
  | succ k ih=>
   intro i s hi hk hp;rw [kab];by_cases h:i=n;subst h;obtain ⟨b,h1,a⟩:=c s hp;exact ⟨b,by rw [h1],a⟩
   ·obtain ⟨s',h1,a⟩:=hs i s (by omega) hp;rw [h1];exact ih (i+1) s' (by omega) (by omega) a
 exact key fuel 0 s (by omega) (kb7 (by omega)) h0
theorem k54 (q:List Int):cut3 q 0 (q.length:Int) (q.length:Int)=some q:=by unfold cut3;simp
theorem k1b {l:List Tm} {i:Nat} (hi:i<l.length):Tm.sizeL (l.take i)+l[i].size<=Tm.sizeL l:=by have:=qan Tm.sizeL (List.take_append_drop (i+1) l);rw [kn8,qaw,qbu,<- kn8,qac hi,Tm.sizeL_snoc] at this;omega
theorem krk:∀ l:List Tm,l.length<=Tm.sizeL l
 | []=>by simp
 | t::l=>by rw [Tm.sizeL,qbd];have:=Tm.size_pos t;have:=krk l;omega
def AddQ (G:Tm->Prop) (ts:List Tm) (t:Tm) (r:(Int)×(List (BA×Int))×(List Int)×(List (List Int))×(List Int)):Prop:=∃ (i:Nat) (e:List Tm),r.1=(i:Int)/\km3 r.2.1 r.2.2.1 r.2.2.2.1 r.2.2.2.2 (ts++e)/\(ts++e)[i]?=some t/\e.length<=t.size/\∀ x∈e,G x
theorem kaae {G:Tm->Prop} (A:∀ r l,G (Tm.mk r l)->∀ a∈l,G a):∀ (n:Nat) (t:Tm),t.size<=n->∀ m rs ag zs (ts:List Tm),km3 m rs ag zs ts->(∀ r∈t.rules,inI r=true)->ts.length+t.size<=1000->G t->∃ r,kfj n m rs ag zs t=some r/\AddQ G ts t r:=by
 intro n
 induction n with
 | zero=>
  intro t h;have:=Tm.size_pos t;omega
 | succ n ih=>
  intro t hn m rs ag zs ts B hr H z;cases t with
  | mk r l=>
  have C:(Tm.mk r l).size=Tm.sizeL l+1:=by rw [Tm.size]
  have D:=krk l;rw [kfj];unfold kjp;have u:mkC 8 ((l.length:Nat):Int)=some ():=by unfold mkC;rw [qp (by omega)]
  obtain ⟨⟨m1,rs1,ag1,zs1,ids⟩,q1,e,js,q2,q3,q4,q5,q6,q7⟩:=kv1 (step:=kga (Tm.mk r l) (kfj n)) l.length (by omega)
   (fun i s=>s.1=(i:Int)/\∃ (e:List Tm) (js:List Nat),km3 s.2.1 s.2.2.1 s.2.2.2.1 s.2.2.2.2.1 (ts++e)/\s.2.2.2.2.2=js.map (fun (j:Nat)=>(j:Int))/\(∀ j∈js,j<(ts++e).length)/\js.map (fun j=>(ts++e)[j]?)=(l.take i).map some/\e.length<=Tm.sizeL (l.take i)/\∀ x∈e,G x)
   (fun b=>∃ (e:List Tm) (js:List Nat),km3 b.1 b.2.1 b.2.2.1 b.2.2.2.1 (ts++e)/\b.2.2.2.2=js.map (fun (j:Nat)=>(j:Int))/\(∀ j∈js,j<(ts++e).length)/\js.map (fun j=>(ts++e)[j]?)=l.map some/\e.length<=Tm.sizeL l/\∀ x∈e,G x)
   (fun i s hi hs=>by
    obtain ⟨si,m0,rs0,ag0,zs0,ids0⟩:=s;obtain ⟨h0,e,js,h1,g,o,p,q,v⟩:=hs;simp only at h0 h1 g o p q;have w:l[i]?=some l[i]:=qa hi;have E:=k1b hi;obtain ⟨⟨ai,m2,rs2,ag2,zs2⟩,w1,k,e2,w2,w3,w4,w5,w6⟩:=ih l[i] (by omega) m0 rs0 ag0 zs0 (ts++e) h1 (fun y hy=>hr y (by
     rw [Tm.rules,Tm.pre];refine qj _ ?_;have key:∀ (l:List Tm) (x:Tm),x∈l->y∈x.rules->y∈Tm.preL Tm.rule l:=by
      intro l
      induction l with
      | nil=>intro x c;simp at c
      | cons a l ih=>
       intro x c hy;rw [Tm.preL,qab];rcases qam.1 c with rfl | c;exact .inl hy
       ·exact .inr (ih x c hy)
     exact key l l[i] (qi hi) hy)) (by rw [qag];omega) (A r l z _ (qi hi))
    simp only at w2 w3;have F:js.length=i:=(by have:=qan List.length p;simp only [qaa,qai] at this;omega);have f:kga (Tm.mk r l) (kfj n) (si,m0,rs0,ag0,zs0,ids0)=some (.inl (((i+1:Nat):Int),m2,rs2,ag2,zs2,ids0++[ai])):=(by unfold kga;simp only [Tm.args];rw [h0];show (bif decide ((i:Int)<(l.length:Int)) then _ else _)=_;rw [show (decide ((i:Int)<(l.length:Int)))=true by simpa using hi,qe,kac,w];simp only [qb];rw [w1];simp only [qb];rw [kcv (by rw [g];simp;omega)];simp only [qb];rw [kbh _]);refine ⟨_,f,rfl,e++e2,js++[k],?_,?_,?_,?_,?_,fun x c=>(qab.1 c).elim (v x) (w6 x)⟩;rw [<- qa8];exact w3;simp only [g,w2,qaw,qas,List.map_nil]
    ·intro j d;rcases qab.1 d with d | d;have:=o j d;simp only [qag] at this ⊢;omega
     ·rw [qw] at d;rw [d,<- qa8];exact (qf.1 w4).1
    ·rw [qaw,qac hi,qaw,<- p,<- qa8];congr 1;apply qbf;intro j d;rw [qy (o j d)]
     ·simp only [qas,List.map_nil,w4]
    ·rw [qag,qac hi,Tm.sizeL_snoc];omega)
   (fun s hs=>by
    obtain ⟨si,m0,rs0,ag0,zs0,ids0⟩:=s;obtain ⟨h0,e,js,h1,g,o,p,q,v⟩:=hs;refine ⟨(m0,rs0,ag0,zs0,ids0),?_,e,js,h1,g,o,?_,?_,v⟩;unfold kga;simp only [Tm.args];simp only at h0;rw [h0];show (bif decide ((l.length:Int)<(l.length:Int)) then _ else _)=_;rw [show (decide ((l.length:Int)<(l.length:Int)))=false by simp,qd];rw [p,qal]
    ·rw [qal] at q;exact q)
   (0,m,rs,ag,zs,[]) ⟨rfl,[],[],by rw [qbw];exact B,rfl,by simp,by simp,by simp,by simp⟩
  simp only at q2 q3;simp only [Tm.args];rw [u];simp only [qb];rw [q1];simp only [qb];rw [k54];simp only [qb,Tm.rule];obtain ⟨i,m2,rs2,ag2,zs2,e2,p1,p2,p3,p4,p5⟩:=kaab q2 r ids l ⟨js,q3,q4,q5⟩ (hr r (by rw [Tm.rules,Tm.pre];exact qn)) (by rw [qag];omega) (by omega);rw [p1];refine ⟨_,rfl,i,e++e2,rfl,?_,?_,?_,fun x c=>(qab.1 c).elim (q7 x) (fun c=>by rw [p5 x c];exact z)⟩;rw [<- qa8];exact p2;rw [<- qa8];exact p3
  ·rw [qag];omega
def k2x (G:Tm->Prop) (xs:List Tm) (b:(List Int)×(List (List Int))×(List Int)×(List Int)×(List (BA×Int))):Prop:=∃ (ts:List Tm) (js:List Nat),km3 b.2.2.2.2 b.1 b.2.1 b.2.2.1 ts/\b.2.2.2.1=js.map (fun (j:Nat)=>(j:Int))/\(∀ j∈js,j<ts.length)/\js.map (fun j=>ts[j]?)=xs.map some/\ts.length<=24*xs.length/\∀ x∈ts,G x
theorem kac5 {G:Tm->Prop} (w:∀ r l,G (Tm.mk r l)->∀ a∈l,G a) (xs:List Tm) (hl:xs.length<=12) (hs:∀ t∈xs,t.size<=24) (hr:∀ t∈xs,∀ r∈t.rules,inI r=true) (n:∀ t∈xs,G t):
  ∃ v,kab (kir xs) fuel (0,([]:List (Int)),([]:List (List Int)),([]:List (Int)),([]:List (Int)),([]:List (BA×Int)))=some (.inl v)/\k2x G xs v:=by
 have key:=kv1 (step:=kir xs) xs.length (by omega)
  (fun i s=>s.1=(i:Int)/\k2x G (xs.take i) s.2)
  (fun b=>∃ v,b = .inl v/\k2x G xs v)
  (fun i s hi h=>by
   obtain ⟨si,rs,ag,zs,ids,m⟩:=s;obtain ⟨h0,ts,js,h1,g,o,p,u,y⟩:=h;simp only at h0 h1 g o p u;have q:xs[i]?=some xs[i]:=qa hi;have c:xs[i]∈xs:=qi hi;rw [qai,Nat.min_eq_left (by omega)] at u;have z:=hs _ c;obtain ⟨⟨ai,m2,rs2,ag2,zs2⟩,w1,k,e,w2,w3,w4,w5,w6⟩:=kaae w fuel xs[i] (by rw [koh];omega) m rs ag zs ts h1 (hr _ c) (by omega) (n _ c);simp only at w2 w3;have A:rs2.length=ts.length+e.length:=(by rw [w3.lr,qaa,qag]);have B:js.length=i:=(by have:=qan List.length p;simp only [qaa,qai] at this;omega);have f:kir xs (si,rs,ag,zs,ids,m)=some (.inl (((i+1:Nat):Int),rs2,ag2,zs2,ids++[ai],m2)):=(by unfold kir;rw [h0];show (bif decide ((i:Int)<(xs.length:Int)) then _ else _)=_;rw [show (decide ((i:Int)<(xs.length:Int)))=true by simpa using hi,qe,kac,q];simp only [qb];rw [w1];simp only [qb];rw [kcv (by rw [g];simp;omega)];simp only [qb];rw [show decide ((4096:Int)<(rs2.length:Int))=false by rw [qbh];omega,qd,kbh _]);refine ⟨_,f,rfl,ts++e,js++[k],w3,?_,?_,?_,?_,fun x n=>(qab.1 n).elim (y x) (w6 x)⟩;simp only [g,w2,qaw,qas,List.map_nil]
   ·intro j d;rcases qab.1 d with d | d;have:=o j d;simp only [qag];omega
    ·rw [qw] at d;rw [d];exact (qf.1 w4).1
   ·rw [qaw,qac hi,qaw,<- p];congr 1;apply qbf;intro j d;rw [qy (o j d)]
    ·simp only [qas,List.map_nil,w4]
   ·rw [qag,qai,Nat.min_eq_left (by omega)];omega)
  (fun s h=>by obtain ⟨si,rs,ag,zs,ids,m⟩:=s;obtain ⟨h0,h1⟩:=h;simp only at h0;rw [qal] at h1;refine ⟨.inl (rs,ag,zs,ids,m),?_,_,rfl,h1⟩;unfold kir;rw [h0];show (bif decide ((xs.length:Int)<(xs.length:Int)) then _ else _)=_;rw [show (decide ((xs.length:Int)<(xs.length:Int)))=false by simp,qd])
  (0,[],[],[],[],[]) ⟨rfl,[],[],⟨kaai,rfl,rfl,rfl,by simp,by simp⟩,rfl,by simp,by simp,by simp,by simp⟩
 obtain ⟨b,h1,v,rfl,g⟩:=key;exact ⟨v,h1,g⟩
end Go.Proofs.YtchjomeomabamaaGreatDoor
