import Derived.Test.YtdnfbjahbkpibaaGreatDoorVd
import Derived.Test.YtdnfbjahbkpibaaGreatDoorSk
import Derived.Test.YtdnfbjahbkpibaaGreatDoorTT
import Derived.Test.YtdnfbjahbkpibaaGreatDoorZE
set_option linter.all false
namespace Go.Proofs.YtdnfbjahbkpibaaGreatDoor
open Go Go.RowKit
def badP (c:Int) (z:Bool):Option Bool:=(Option.bind ((bif (decide (97<=(ior .u8 c 32))) then (some (decide ((ior .u8 c 32)<=122))) else (some (false))):Option (Bool)) fun (v6:Bool)=>((bif (!v6) then (bif z then (some (true)) else (bif (c != 45) then (bif (decide (c<48)) then (some (true)) else (some (decide (57<c)))) else (some (false)))) else (some (false))):Option (Bool)))
def badR (c:Int) (z:Bool):Option Bool:=(Option.bind ((bif (decide (97<=c)) then (bif (decide (c<=122)) then (some (true)) else (bif (decide (65<=c)) then (some (decide (c<=90))) else (some (false)))) else (bif (decide (65<=c)) then (some (decide (c<=90))) else (some (false)))):Option (Bool)) fun (v9:Bool)=>((bif (!v9) then (bif z then (some (true)) else (bif (c != 45) then (bif (decide (c<48)) then (some (true)) else (some (decide (57<c)))) else (some (false)))) else (some (false))):Option (Bool)))
set_option maxRecDepth 100000 in
theorem kaiz:(List.range 256).all (fun k=>[true,false].all fun z=>(badP (k:Int) z == badR (k:Int) z) && (badP (k:Int) z).isSome)=true:=by kernel_rfl
theorem kaeu (c:UInt8) (z:Bool):∃ b,badP (c.toNat:Int) z=some b/\badR (c.toNat:Int) z=some b:=by
 have h:=qu.1 kaiz c.toNat (qbq.2 (UInt8.toNat_lt c));have a:=qu.1 h z (by cases z <;> simp);simp only [qr,beq_iff_eq] at a;obtain ⟨e,d⟩:=a;cases hp:badP (c.toNat:Int) z with
 | none=>rw [hp] at d;cases d
 | some b=>exact ⟨b,rfl,by rw [<- e,hp]⟩
theorem kzl (s:BA) (hs:s.size<=9223372036854775807):∃ b,kh4 s=some b/\khv s=some b:=by
 have h:=kmo s;obtain ⟨r,r',h1,j,rfl,a⟩:=kjy (step:=kes s) (step':=kdi s) s.size (by omega) (fun i=>(i:Int)) (fun i=>(i:Int)) (fun r r'=>r=r'/\(r = .inl ()\/r = .inr false)) (fun i hi=>by
  have c:i<s.data.toList.length:=by rw [<- kmo];exact hi
  have e1:byt s (i:Int)=some (s.data.toList[i].toNat:Int):=by rw [kxn,qb c];rfl
  have b1:decide ((i:Int)<(s.size:Int))=true:=ql (by omega);obtain ⟨b,p1,p2⟩:=kaeu s.data.toList[i] ((i:Int) == 0);unfold badP at p1;unfold badR at p2;have q1:kes s (i:Int)=bif b then some (.inr (.inr false)) else some (.inl (w64 ((i:Int)+1))):=by simp only [kes,b1,qe,e1,qa];rw [<- Option.bind_assoc,p1,qa]
  have q2:kdi s (i:Int)=bif b then some (.inr (.inr false)) else some (.inl (w64 ((i:Int)+1))):=by simp only [kdi,b1,qe,e1,qa];rw [<- Option.bind_assoc,p2,qa]
  rw [q1,q2,kai i];cases b with
  | true=>exact .inr ⟨_,_,rfl,rfl,rfl, .inr rfl⟩
  | false=>exact .inl ⟨rfl,rfl⟩) (by
  have b1:decide ((s.size:Int)<(s.size:Int))=false:=qg (by omega);simp only [kes,kdi,b1,qd];exact ⟨_,_,rfl,rfl,rfl, .inl rfl⟩)
 have d:kab (kes s) fuel 0=some r:=by simpa using h1
 have e:kab (kdi s) fuel 0=some r:=by simpa using j
 unfold kh4 khv;rw [d,e];simp only [qa];by_cases f:(s.size:Int)<1;rw [ql f,qg (show ¬ (1:Int)<=(s.size:Int) by omega)];rcases a with rfl | rfl <;> exact ⟨false,rfl,rfl⟩
 ·rw [qg f,ql (show (1:Int)<=(s.size:Int) by omega)];by_cases g:(24:Int)<(s.size:Int);rw [ql g,qg (show ¬ (s.size:Int)<=24 by omega)];rcases a with rfl | rfl <;> exact ⟨false,rfl,rfl⟩
  ·rw [qg g,ql (show (s.size:Int)<=24 by omega)];rcases a with rfl | rfl;exact ⟨true,rfl,rfl⟩
   ·exact ⟨false,rfl,rfl⟩
def tyB (t:Int):Bool:=decide (1<=t) && decide (t<=8)
theorem kyl (t:Int):kh2 t=some (tyB t):=by unfold kh2 tyB;cases decide (1<=t) <;> rfl
theorem k1t (t:Int):kju t=some (tyB t):=kyl t
theorem k6t (l:La) (h:l.inputs.length<=9223372036854775807):∃ r,kab (kf2 l) fuel 0=some r/\kab (kec l) fuel 0=some r/\∀ e,r = .inr e->e≠0:=by
 obtain ⟨r,r',h1,a,rfl,b⟩:=kjy (step:=kf2 l) (step':=kec l) l.inputs.length (by omega) (fun i=>(i:Int)) (fun i=>(i:Int)) (fun r r'=>r=r'/\∀ e,r = .inr e->e≠0) (fun i hi=>by
  have e1:l.inputs[i]?=some l.inputs[i]:=qb hi;have b1:decide ((i:Int)<(l.inputs.length:Int))=true:=ql (by omega);simp only [kf2,kec,b1,qe,kag,e1,qa,kyl,k1t,kai i];cases tyB l.inputs[i] with
  | true=>exact .inl ⟨rfl,rfl⟩
  | false=>exact .inr ⟨_,_,rfl,rfl,rfl,fun e h=>by cases h;decide⟩) (by
  have b1:decide ((l.inputs.length:Int)<(l.inputs.length:Int))=false:=qg (by omega);simp only [kf2,kec,b1,qd];exact ⟨_,_,rfl,rfl,rfl,fun e h=>by cases h⟩)
 exact ⟨r,by simpa using h1,by simpa using a,b⟩
theorem kof {α:Type} (s:BA):∀ (m:List (BA×α)) (i:Nat),ke6 s m i=(ke6 s m 0).map fun p=>(p.1+i,p.2)
 | [],i=>rfl
 | (k,v)::l,i=>by
  simp only [ke6];cases s.toList == k.toList with
  | true=>simp
  | false=>
   simp only [qd];rw [kof s l (i+1),kof s l (0+1),Option.map_map];congr 1;funext p;simp only [Function.comp,qw,and_true];omega
theorem kou {α:Type} (k s:BA) (v z:α) (l:List (BA×α)):mget ((k,v)::l) s z=bif s.toList == k.toList then v else mget l s z:=by
 unfold mget;simp only [ke6];cases s.toList == k.toList with
 | true=>rfl
 | false=>
  simp only [qd];rw [kof];cases ke6 s l 0 <;> rfl
theorem kaaz {α:Type} (k s:BA) (v y:α) (l:List (BA×α)):mput ((k,v)::l) s y=bif s.toList == k.toList then (s,y)::l else (k,v)::mput l s y:=by
 unfold mput;simp only [ke6];cases s.toList == k.toList with
 | true=>rfl
 | false=>
  simp only [qd];rw [kof];cases ke6 s l 0 <;> rfl
theorem k9j {a b:BA} (c:BA) (h:(a.toList == b.toList)=true):(c.toList == a.toList)=(c.toList == b.toList):=by rw [beq_iff_eq] at h;rw [h]
theorem ko2 {α:Type} (k s:BA) (y z:α):∀ m:List (BA×α),mget (mput m k y) s z=bif s.toList == k.toList then y else mget m s z
 | []=>by show mget [(k,y)] s z=_;rw [kou]
 | (k',v)::l=>by
  rw [kaaz];cases h:k.toList == k'.toList with
  | true=>
   simp only [qe];rw [kou,kou,k9j s h];cases s.toList == k'.toList <;> rfl
  | false=>
   simp only [qd];rw [kou,kou,ko2 k s y z l];cases h1:s.toList == k'.toList with
   | false=>rfl
   | true=>
    cases a:s.toList == k.toList with
    | false=>rfl
    | true=>
     rw [beq_iff_eq] at h1 a;rw [<- h1,<- a] at h;simp at h
def mOf (xs:List Sy):List (BA×Bool):=xs.foldl (fun m x=>mput m x.name true) []
theorem kad4 (xs:List Sy) (x:Sy):mOf (xs++[x])=mput (mOf xs) x.name true:=by unfold mOf;rw [List.foldl_append];rfl
theorem k1z (s:BA):∀ (xs:List Sy) (m:List (BA×Bool)),mget (xs.foldl (fun m x=>mput m x.name true) m) s false=(mget m s false || xs.any fun x=>s.toList == x.name.toList)
 | [],m=>by simp
 | x::xs,m=>by rw [List.foldl_cons,k1z s xs,ko2,List.any_cons];cases s.toList == x.name.toList <;> simp
theorem kafw (s:BA) (xs:List Sy):mget (mOf xs) s false=xs.any fun x=>s.toList == x.name.toList:=by unfold mOf;rw [k1z];rfl
theorem kai9 (l:La) (i:Nat) (hi:i<l.symbols.length) (hl:l.symbols.length<=9223372036854775807):kab (kd8 l (i:Int)) fuel 0=some (if ((l.symbols.take i).any fun x=>l.symbols[i].name.toList == x.name.toList)=true then .inr 6 else .inl ()):=by
 have b:(l.symbols.take i).length=i:=by rw [qad];omega
 have:=kh5 (kd8 l (i:Int)) i (fun j=>(j:Int)) (fun j=>if (((l.symbols.take i).drop j).any fun x=>l.symbols[i].name.toList == x.name.toList)=true then .inr 6 else .inl ()) (fun j c=>by
  have e0:l.symbols[i]?=some l.symbols[i]:=qb hi;have a:j<l.symbols.length:=by omega
  have e1:l.symbols[j]?=some l.symbols[j]:=qb a;have b1:decide ((j:Int)<(i:Int))=true:=ql (by omega);have hd:(l.symbols.take i).drop j=l.symbols[j]::(l.symbols.take i).drop (j+1):=by rw [qao (by omega)];congr 1;exact List.getElem_take
  have hc:(l.symbols[j].name.toList == l.symbols[i].name.toList)=(l.symbols[i].name.toList == l.symbols[j].name.toList):=by rw [Bool.eq_iff_iff,beq_iff_eq,beq_iff_eq];exact eq_comm
  simp only [kd8,b1,qe,kag,e0,e1,qa,hd,List.any_cons,kai j,hc];cases d:l.symbols[i].name.toList == l.symbols[j].name.toList with
  | true=>exact .inr rfl
  | false=>exact .inl ⟨rfl,rfl⟩) (by
  have b1:decide ((i:Int)<(i:Int))=false:=qg (by omega);have hd:(l.symbols.take i).drop i=[]:=qbj (by omega);simp only [kd8,b1,qd,hd,List.any_nil];rfl)
 simpa using this
theorem k47 (l:La) (h:l.symbols.length<=9223372036854775807) (hs:∀ x∈l.symbols,x.name.size<=9223372036854775807):∃ r,kab (kf6 l) fuel (0,[])=some r/\kab (ked l) fuel 0=some r/\∀ e,r = .inr e->e≠0:=by
 obtain ⟨r,r',h1,c,rfl,d⟩:=kjy (step:=kf6 l) (step':=ked l) l.symbols.length (by omega) (fun i=>((i:Int),mOf (l.symbols.take i))) (fun i=>(i:Int)) (fun r r'=>r=r'/\∀ e,r = .inr e->e≠0) (fun i hi=>by
  have e1:l.symbols[i]?=some l.symbols[i]:=qb hi;have b1:decide ((i:Int)<(l.symbols.length:Int))=true:=ql (by omega);obtain ⟨b,n1,n2⟩:=kzl l.symbols[i].name (hs _ (q9 hi));have hd:=kai9 l i hi h;have hm:=kafw l.symbols[i].name (l.symbols.take i);have a:mput (mOf (l.symbols.take i)) l.symbols[i].name true=mOf (l.symbols.take (i+1)):=by rw [List.take_add_one,e1,<- kad4];rfl
  simp only [kf6,ked,b1,qe,kag,e1,qa,n1,n2,hd,hm,kyl,k1t,kai i,a];cases b with
  | false=>exact .inr ⟨_,_,rfl,rfl,rfl,fun e h=>by cases h;decide⟩
  | true=>
   simp only [qbv,qd];cases f:(l.symbols.take i).any fun x=>l.symbols[i].name.toList == x.name.toList with
   | true=>exact .inr ⟨_,_,rfl,rfl,rfl,fun e h=>by cases h;decide⟩
   | false=>
    cases tyB l.symbols[i].type with
    | true=>exact .inl ⟨rfl,rfl⟩
    | false=>exact .inr ⟨_,_,rfl,rfl,rfl,fun e h=>by cases h;decide⟩) (by
  have b1:decide ((l.symbols.length:Int)<(l.symbols.length:Int))=false:=qg (by omega);simp only [kf6,ked,b1,qd];exact ⟨_,_,rfl,rfl,rfl,fun e h=>by cases h⟩)
 exact ⟨r,by simpa [mOf] using h1,by simpa using c,d⟩
set_option maxRecDepth 100000
def opL:List Sae:=operator_catalog.getD []
theorem k99:operator_catalog.isSome=true:=by kernel_rfl
theorem kalm:operator_catalog=some opL:=by
 have h:=k99;unfold opL
 revert h
 generalize operator_catalog=x;intro h;cases x with
 | none=>cases h
 | some x=>rfl
def refFs:List BA:=synthesisref09_families.getD []
theorem kafd:synthesisref09_families=some refFs:=rfl
def catL (f:BA):List Sad:=(kdj f).getD []
theorem kafh:refFs.all (fun f=>(kdj f).isSome)=true:=by kernel_rfl
theorem kai4 {f:BA} (a:f∈refFs):kdj f=some (catL f):=by
 have h:=qu.1 kafh f a;unfold catL
 revert h
 generalize kdj f=x;intro h;cases x with
 | none=>cases h
 | some x=>rfl
def opNames:List BA:=opL.map fun e=>e.yn.yg
theorem k9x:(refFs.flatMap fun f=>(catL f).map fun x=>x.f_0)=opNames:=by kernel_rfl
def eqOp:Option (Sac×Bool)->Option (Sac×Bool)->Bool
 | some (a,b),some (c,d)=>(a.yg.toList == c.yg.toList) && (a.yd == c.yd) && (a.yk == c.yk) && (b == d)
 | _,_=>false
theorem kajo {x y:Option (Sac×Bool)} (h:eqOp x y=true):∃ r,x=some r/\y=some r:=by
 unfold eqOp at h;split at h
 ·rename_i a b c d;simp only [qr,beq_iff_eq] at h;obtain ⟨⟨⟨h1,e⟩,f⟩,rfl⟩:=h;obtain ⟨n,l,t⟩:=a;obtain ⟨n',l',t'⟩:=c;simp only at h1 e f;have h1:n=n':=by have:(n.toList == n'.toList)=true:=(by simpa using h1);rw [kia,MapKept.bytes_beq] at this;exact this
  subst h1 e f;exact ⟨_,rfl,rfl⟩
 ·cases h
theorem kadf:opNames.all (fun n=>eqOp (kg2 n) (kdl n))=true:=by kernel_rfl
def kaa7:Sac:=Sac.mk ⟨#[]⟩ [] 0
theorem k7e:opL.length<1000:=qbd (by kernel_rfl)
theorem k1o:refFs.length<1000:=qbd (by kernel_rfl)
theorem k5a:refFs.all (fun f=>decide ((catL f).length<1000))=true:=by kernel_rfl
theorem k58 {f:BA} (a:f∈refFs):(catL f).length<1000:=qbd (qu.1 k5a f a)
theorem k13 (s:BA) (c:¬ s∈opNames):kg2 s=some (kaa7,false)/\kdl s=some (kaa7,false):=by
 refine ⟨?_,?_⟩
 ·have hl:=kcc (step:=kf4 s opL) opL.length (fun i=>(i:Int)) (.inl ()) (fun i hi=>by
   have e1:opL[i]?=some opL[i]:=qb hi;have b1:decide ((i:Int)<(opL.length:Int))=true:=ql (by omega);have a:(opL[i].yn.yg.toList == s.toList)=false:=by
    cases d:opL[i].yn.yg.toList == s.toList with
    | false=>rfl
    | true=>
     rw [kia,MapKept.bytes_beq] at d;exact absurd (qai.2 ⟨opL[i],q9 hi,d⟩) c
   simp only [kf4,b1,qe,kag,e1,qa,a,qd,kai i (h:=(by have:=k7e;omega))]) (by
   have b1:decide ((opL.length:Int)<(opL.length:Int))=false:=qg (by omega);simp only [kf4,b1,qd]) (hn:=(by have:=k7e;omega))
  have b:kab (kf4 s opL) fuel 0=some (.inl ()):=by simpa using hl
  simp only [kg2,kl4,kalm,qa,b,qan];rfl
 ·have hl:=kcc (step:=kdz s refFs) refFs.length (fun i=>(i:Int)) (.inl ()) (fun i hi=>by
   have e1:refFs[i]?=some refFs[i]:=qb hi;have f:refFs[i]∈refFs:=q9 hi;have b1:decide ((i:Int)<(refFs.length:Int))=true:=ql (by omega);have g:=kcc (step:=kdw s refFs[i] (catL refFs[i])) (catL refFs[i]).length (fun i=>(i:Int)) (.inl ()) (fun j h=>by
    have e2:(catL refFs[i])[j]?=some (catL refFs[i])[j]:=qb h;have b2:decide ((j:Int)<((catL refFs[i]).length:Int))=true:=ql (by omega);have a:((catL refFs[i])[j].f_0.toList == s.toList)=false:=by
     cases d:(catL refFs[i])[j].f_0.toList == s.toList with
     | false=>rfl
     | true=>
      rw [kia,MapKept.bytes_beq] at d;refine absurd ?_ c;rw [<- k9x];exact qa1.2 ⟨refFs[i],f,qai.2 ⟨_,q9 h,d⟩⟩
    simp only [kdw,b2,qe,kag,e2,qa,a,qd,kai j (h:=(by have:=k58 f;omega))]) (by
    have b2:decide (((catL refFs[i]).length:Int)<((catL refFs[i]).length:Int))=false:=qg (by omega);simp only [kdw,b2,qd]) (hn:=(by have:=k58 f;omega))
   have e:kab (kdw s refFs[i] (catL refFs[i])) fuel 0=some (.inl ()):=(by simpa using g);simp only [kdz,b1,qe,kag,e1,qa,kai4 f,e,qan,kai i (h:=(by have:=k1o;omega))]) (by
   have b1:decide ((refFs.length:Int)<(refFs.length:Int))=false:=qg (by omega);simp only [kdz,b1,qd]) (hn:=(by have:=k1o;omega))
  have b:kab (kdz s refFs) fuel 0=some (.inl ()):=by simpa using hl
  simp only [kdl,kmj,kafd,qa,b,qan,beq_self_eq_true,qe];rfl
theorem kaa8 (s:BA):∃ r,kg2 s=some r/\kdl s=some r:=by
 by_cases a:s∈opNames;exact kajo (qu.1 kadf s a)
 ·exact ⟨_,k13 s a⟩
theorem kr7 {α:Type} (xs:List α) {i:Int} (h0:0<=i) (h1:i<(xs.length:Int)):∃ x,idx xs i=some x/\x∈xs:=by
 have h:i.toNat<xs.length:=by omega
 refine ⟨xs[i.toNat],?_,q9 h⟩;unfold idx;rw [qo h0,qb h]
theorem kac2 (x y:List Int):kli x y=kb3 x y:=rfl
theorem kabj (x y:List Int) (hx:x.length<=9223372036854775807):∃ c,kb3 x y=some c:=by
 unfold kb3;by_cases hl:(x.length:Int)=(y.length:Int)
 ·obtain ⟨r,h1,_⟩:=ko6 (kbz x y) (kbz x y) x.length (fun i=>(i:Int)) (fun i hi=>by
   have e1:x[i]?=some x[i]:=qb hi;have a:i<y.length:=(by omega);have e2:y[i]?=some y[i]:=qb a;have b1:decide ((i:Int)<(x.length:Int))=true:=ql (by omega);simp only [kbz,b1,qe,kag,e1,e2,qa,kai i];cases x[i] != y[i] with
   | true=>exact .inr ⟨_,rfl,rfl⟩
   | false=>exact .inl ⟨rfl,rfl⟩) (.inl ()) (by
   have b1:decide ((x.length:Int)<(x.length:Int))=false:=qg (by omega);simp only [kbz,b1,qd]) (by
   have b1:decide ((x.length:Int)<(x.length:Int))=false:=qg (by omega);simp only [kbz,b1,qd])
  have d:kab (kbz x y) fuel 0=some r:=by simpa using h1
  rw [d,show ((x.length:Int) != (y.length:Int))=false by rw [qa0];omega];cases r with
  | inl u=>exact ⟨true,rfl⟩
  | inr b=>exact ⟨b,rfl⟩
 ·rw [show ((x.length:Int) != (y.length:Int))=true by rw [qbg];omega];exact ⟨false,rfl⟩
theorem kxr (x:List Int):kb3 x []=some ((x.length:Int) == 0):=by
 cases x with
 | nil=>kernel_rfl
 | cons a x=>
  unfold kb3;have h1:((((a::x).length:Nat):Int) != (([]:List Int).length:Int))=true:=by rw [qbg,qag,qbf];omega
  have b:((((a::x).length:Nat):Int) == 0)=false:=by rw [qas,qag];omega
  rw [h1,b];rfl
def fineR (r:Ru):Prop:=r.args.length<=9223372036854775807/\okV r.const/\kr9 r.const
theorem k3b {a b:Ru} (ha:fineR a) (d:fineR b):∃ c,kc5 a b=some c/\khz a b=some c:=by obtain ⟨c,hc⟩:=kabj a.args b.args ha.1;unfold kc5 khz;simp only [kac2,hc,qa,kr6 ha.2.1 d.2.1,k40 ha.2.1 d.2.1];cases a.symbol == b.symbol <;> cases a.kind == b.kind <;> cases a.input == b.input <;> cases a.op.toList == b.op.toList <;> cases c <;> exact ⟨_,rfl,rfl⟩
theorem kalh (v:Va):Va.mk v.type v.num v.text v.items=v:=by cases v;rfl
def ke2:Va:=Va.mk 0 0 ⟨#[]⟩ []
theorem kyh:okV ke2:=by refine ⟨?_,?_,trivial⟩ <;> simp [ke2,depV,krk]
theorem kadk (l:La) (r:Ru) (o:Sac×Bool) (hr:r.args.length<=9223372036854775807) (hl:r.args.length=o.1.yd.length):∃ c,kab (kgx l r o) fuel 0=some c/\kab (kaz l r o) fuel 0=some c:=by
 obtain ⟨c,h1,b⟩:=ko6 (kgx l r o) (kaz l r o) r.args.length (fun i=>(i:Int)) (fun i hi=>by
  have e1:r.args[i]?=some r.args[i]:=qb hi;have a:i<o.1.yd.length:=by omega
  have e2:o.1.yd[i]?=some o.1.yd[i]:=qb a;have b1:decide ((i:Int)<(r.args.length:Int))=true:=ql (by omega);simp only [kgx,kaz,khh,b1,qe,kag,e1,e2,qa,kai i];by_cases h0:0<=r.args[i]
  ·by_cases h1:r.args[i]<(l.symbols.length:Int)
   ·obtain ⟨x,hx,_⟩:=kr7 _ h0 h1;rw [ql h0,ql h1,qg (show ¬ r.args[i]<0 by omega),qg (show ¬ (l.symbols.length:Int)<=r.args[i] by omega)];simp only [qe,qd,qa,qbv,hx];cases x.type != o.1.yd[i] with
    | true=>exact .inr ⟨_,rfl,rfl⟩
    | false=>exact .inl ⟨rfl,rfl⟩
   ·rw [ql h0,qg h1,qg (show ¬ r.args[i]<0 by omega),ql (show (l.symbols.length:Int)<=r.args[i] by omega)];exact .inr ⟨_,rfl,rfl⟩
  ·rw [qg h0,ql (show r.args[i]<0 by omega)];exact .inr ⟨_,rfl,rfl⟩) (.inl ()) (by
  have b1:decide ((r.args.length:Int)<(r.args.length:Int))=false:=qg (by omega);simp only [kgx,b1,qd]) (by
  have b1:decide ((r.args.length:Int)<(r.args.length:Int))=false:=qg (by omega);simp only [kaz,b1,qd])
 exact ⟨c,by simpa using h1,by simpa using b⟩
theorem kabe (a b:Int):(a != b)=(b != a):=by rw [Bool.eq_iff_iff,qbg,qbg];exact ⟨fun h e=>h e.symm,fun h e=>h e.symm⟩
theorem kae9 (l:La) (r:Ru) (ha:r.args.length<=9223372036854775807) (b:kc7 r.const (Va.mk 0 0 ⟨#[]⟩ [])=some (eqV r.const ke2)) (hp:ke8 r.const (Va.mk 0 0 ⟨#[]⟩ [])=some (eqV r.const ke2)) (hc:∃ c,kau fuel r.const=some c/\kam fuel r.const=some c):∃ c,kjh l r=some c/\keh l r=some c:=by
 have a:ke8 (Va.mk r.const.type r.const.num r.const.text r.const.items) (Va.mk 0 0 ⟨#[]⟩ [])=some (eqV r.const ke2):=by rw [kalh];exact hp
 have d:ke8 (Va.mk 0 0 ⟨#[]⟩ []) (Va.mk 0 0 ⟨#[]⟩ [])=some true:=by have:=kr6 kyh kyh;rw [kad0] at this;exact this
 unfold kjh keh khh;by_cases h0:0<=r.symbol
 rotate_left
 rw [qg h0,ql (show r.symbol<0 by omega)];exact ⟨1,rfl,rfl⟩;by_cases h1:r.symbol<(l.symbols.length:Int)
 rotate_left
 rw [ql h0,qg h1,qg (show ¬ r.symbol<0 by omega),ql (show (l.symbols.length:Int)<=r.symbol by omega)];exact ⟨1,rfl,rfl⟩;obtain ⟨x,hx,_⟩:=kr7 _ h0 h1;rw [ql h0,ql h1,qg (show ¬ r.symbol<0 by omega),qg (show ¬ (l.symbols.length:Int)<=r.symbol by omega)];simp only [qe,qd,qa,qbv];by_cases k1:r.kind<1;rw [ql k1];exact ⟨4,rfl,rfl⟩;by_cases k3:3<r.kind;rw [qg k1,ql k3];exact ⟨4,rfl,rfl⟩;rw [qg k1,qg k3];simp only [qd,qa,hx];have hk:r.kind=1\/r.kind=2\/r.kind=3:=by omega
 rcases hk with hk | hk | hk
 ·have c1:(r.kind == 1)=true:=by rw [hk];rfl
  simp only [c1,qe,qa,kc5,kf0,beq_self_eq_true,kxr,a,b];have fin:∃ c,(Option.bind ((bif (decide (r.input<0)) then (some (true)) else (some (decide ((List.length l.inputs:Int)<=r.input)))):Option (Bool)) fun (v9:Bool)=>(bif v9 then (some 1) else (Option.bind (idx l.inputs r.input) fun v10=>(Option.bind (kfc (v10) (x.type)) fun v11=>(some v11)))))=some c /\
    (Option.bind ((bif (decide (r.input<0)) then (some (true)) else (some (decide ((List.length l.inputs:Int)<=r.input)))):Option (Bool)) fun (v8:Bool)=>(bif v8 then (some 1) else (Option.bind (idx l.inputs r.input) fun v9=>(bif (v9 != x.type) then (some 3) else (some 0)))))=some (c:Int):=by
   by_cases i0:r.input<0;rw [ql i0];exact ⟨1,rfl,rfl⟩;by_cases i1:(l.inputs.length:Int)<=r.input;rw [qg i0,ql i1];exact ⟨1,rfl,rfl⟩;obtain ⟨y,hy,_⟩:=kr7 (i:=r.input) l.inputs (by omega) (by omega);rw [qg i0,qg i1];simp only [qd,qa,hy,kfc];cases y != x.type <;> exact ⟨_,rfl,rfl⟩
  obtain ⟨c,f1,f2⟩:=fin;cases r.op.toList == (⟨#[]⟩:BA).toList <;> cases (r.args.length:Int) == 0 <;> cases eqV r.const ke2 <;> first | exact ⟨4,rfl,rfl⟩ | exact ⟨c,f1,f2⟩
 ·have c1:(r.kind == 1)=false:=by rw [hk];rfl
  have c2:(r.kind == 2)=true:=by rw [hk];rfl
  simp only [c1,c2,qe,qd,qa,kc5,kf0,beq_self_eq_true,kxr,d,b];obtain ⟨c,f1,f2⟩:=hc;simp only [f1,f2,qa,kfc];cases r.input == 0 <;> cases r.op.toList == (⟨#[]⟩:BA).toList <;> cases (r.args.length:Int) == 0 <;> first | exact ⟨4,rfl,rfl⟩ | skip
  cases c != 0 with
  | true=>exact ⟨c,rfl,rfl⟩
  | false=>cases r.const.type != x.type <;> exact ⟨_,rfl,rfl⟩
 ·have c1:(r.kind == 1)=false:=by rw [hk];rfl
  have c2:(r.kind == 2)=false:=by rw [hk];rfl
  have c3:(r.kind == 3)=true:=by rw [hk];rfl
  have en:kb3 [] []=some true:=kxr [];simp only [c1,c2,c3,qe,qd,qa,kc5,kf0,beq_self_eq_true,en,a,b];obtain ⟨o,f1,f2⟩:=kaa8 r.op;simp only [kfn,f1,f2,qa,kfc];cases r.input == 0 <;> cases eqV r.const ke2 <;> first | exact ⟨4,rfl,rfl⟩ | skip
  simp only [qbv,Bool.not_false,qe,qd,qa];cases o.2 with
  | false=>exact ⟨5,rfl,rfl⟩
  | true=>
   simp only [qbv,qd];by_cases hl:r.args.length=o.1.yd.length
   ·rw [show ((r.args.length:Int) != (o.1.yd.length:Int))=false by rw [qa0];omega];obtain ⟨c,g1,g2⟩:=kadk l r o ha hl;simp only [qd,g1,g2,qa,hx];cases c with
    | inl u=>
     simp only [qan,qa];rw [kabe];cases x.type != o.1.yk <;> exact ⟨_,rfl,rfl⟩
    | inr e=>exact ⟨e,rfl,rfl⟩
   ·rw [show ((r.args.length:Int) != (o.1.yd.length:Int))=true by rw [qbg];omega];exact ⟨2,rfl,rfl⟩
theorem ktl {σ β:Type} {step:σ->Option (σ ⊕ β)} (n:Nat) (S:Nat->σ) (b0:β) (hs:∀ i,i<n->step (S i)=some (.inl (S (i+1)))\/∃ b,step (S i)=some (.inr b)/\b≠b0):
  ∀ (k i:Nat),kab step k (S i)=some b0->∀ j,i<=j->j<n->step (S j)=some (.inl (S (j+1)))
 | 0,i,h=>by cases h
 | k+1,i,h=>fun j a c=>by
  rw [kab] at h;rcases hs i (by omega) with h1 | ⟨b,h1,d⟩
  ·rw [h1] at h;by_cases e:i=j;subst e;exact h1
   ·exact ktl n S b0 hs k (i+1) h j (by omega) c
  ·rw [h1] at h;injection h with h;exact absurd h d
theorem kxm {α:Type} (xs:List α) (i:Nat) (hi:i<=xs.length):cutL xs 0 (i:Int)=some (xs.take i):=by unfold cutL;rw [qo (by omega)];simp
theorem kafo (l:La) (i:Nat) (hi:i<l.rules.length) (hl:l.rules.length<=9223372036854775807) (hr:∀ j (g:j<l.rules.length),j<=i->fineR l.rules[j]):∃ b,kbf (l.rules.take i) l.rules[i]=some b/\kab (kc3 l (i:Int)) fuel 0=some (if b=true then .inr 6 else .inl ()):=by
 have a:(l.rules.take i).length=i:=by rw [qad];omega
 obtain ⟨r,r',h1,h,k⟩:=kjy (step:=kay (l.rules.take i) l.rules[i]) (step':=kc3 l (i:Int)) i (by omega) (fun j=>(j:Int)) (fun j=>(j:Int))
  (fun r r'=>(r = .inl ()/\r' = .inl ())\/∃ j:Nat,r = .inr (j:Int)/\r' = .inr 6) (fun j g=>by
  have e0:l.rules[i]?=some l.rules[i]:=qb hi;have d:j<l.rules.length:=by omega
  have e1:l.rules[j]?=some l.rules[j]:=qb d;have e2:(l.rules.take i)[j]?=some l.rules[j]:=by rw [List.getElem?_take_of_lt g,e1]
  have b1:decide ((j:Int)<(i:Int))=true:=ql (by omega);have b2:decide ((j:Int)<((l.rules.take i).length:Int))=true:=by rw [a];exact b1
  obtain ⟨c,c1,c2⟩:=k3b (hr j d (by omega)) (hr i hi (qx _));simp only [kay,kc3,ki0,b1,b2,qe,kag,e0,e1,e2,qa,c1,c2,kai j];cases c with
  | true=>exact .inr ⟨_,_,rfl,rfl, .inr ⟨j,rfl,rfl⟩⟩
  | false=>exact .inl ⟨rfl,rfl⟩) (by
  have b1:decide ((i:Int)<(i:Int))=false:=qg (by omega);have b2:decide ((i:Int)<((l.rules.take i).length:Int))=false:=by rw [a];exact b1
  simp only [kay,kc3,b1,b2,qd];exact ⟨_,_,rfl,rfl, .inl ⟨rfl,rfl⟩⟩)
 have e:kab (kay (l.rules.take i) l.rules[i]) fuel 0=some r:=by simpa using h1
 have f:kab (kc3 l (i:Int)) fuel 0=some r':=by simpa using h
 unfold kbf kcj;rw [e,f];rcases k with ⟨rfl,rfl⟩ | ⟨j,rfl,rfl⟩;exact ⟨false,rfl,rfl⟩
 ·refine ⟨true,?_,rfl⟩;simp only [qa,qba];exact qbc some (ql (by omega))
theorem kafz (n:Nat) (x z:Va) (d:z.items=[]):kca (n+1) x z=some (cmpV x z):=by
 show kfe (kca n) x z=_;rw [kto];unfold kfe;by_cases h1:x.type<z.type;rw [ql h1,qo h1];rfl;rw [qg h1,qi h1,qd];by_cases a:z.type<x.type;rw [ql a,qo a];rfl;rw [qg a,qi a,qd];by_cases b:x.num<z.num;rw [ql b,qo b];rfl;rw [qg b,qi b,qd];by_cases c:z.num<x.num;rw [ql c,qo c];rfl;rw [qg c,qi c,qd,k2u];show (bif ke7 x.text z.text then _ else bif ke7 z.text x.text then _ else _)=_;cases f:ke7 x.text z.text with
 | true=>rfl
 | false=>
  cases g:ke7 z.text x.text with
  | true=>rfl
  | false=>
   simp only [qd,qb0,if_false];cases hi:x.items with
   | nil=>
    have:kab (kbq x z (kca n)) fuel 0=some (.inl ()):=(by rw [krj,kab];simp [kbq,hi]);rw [this,d];simp [kgc]
   | cons y l=>
    have:kab (kbq x z (kca n)) fuel 0=some (.inr 1):=(by rw [krj,kab];have e:idx (y::l) 0=some y:=kag (y::l) 0;simp [kbq,hi,e,d]);rw [this,d];simp [kgc]
theorem kafp (n:Nat) (x:Va):kca (n+1) x ke2=some (cmpV x ke2):=kafz n x ke2 rfl
theorem k8t (n:Nat) (l:List Va):kco (n+1) l []=some (if l.length=0 then 0 else 1):=by
 show kc1 (kav n) (kco n) l []=_;have:kab (kaw l [] (kav n)) fuel 0=some (.inl ()):=by rw [krj,kab];cases l <;> simp [kaw]
 unfold kc1;rw [this];cases l with
 | nil=>simp
 | cons y l=>
  have h1:((((y::l).length:Nat):Int) == (([]:List Va).length:Int))=false:=by rw [qas,qag,qbf];omega
  have a:decide ((((y::l).length:Nat):Int)<(([]:List Va).length:Int))=false:=qg (by rw [qag,qbf];omega);simp only [qa,qan,h1,a,qd,kmk];rfl
theorem kady (n:Nat) (x z:Va) (d:z.items=[]):kav (n+2) x z=some (cmpV x z):=by
 show kdv (kav (n+1)) (kco (n+1)) x z=_;rw [kto];unfold kdv;have e:kgc x.items []=if x.items.length=0 then 0 else 1:=by cases x.items <;> rfl
 have a:=k8t n x.items;rw [d,e,a];by_cases t0:x.type=z.type
 ·rw [show (x.type != z.type)=false by rw [qa0];exact t0,qd,qi (show ¬ x.type<z.type by omega),qi (show ¬ z.type<x.type by omega)];by_cases n0:x.num=z.num
  ·rw [show (x.num != z.num)=false by rw [qa0];exact n0,qd,qi (show ¬ x.num<z.num by omega),qi (show ¬ z.num<x.num by omega)];by_cases b:x.text=z.text;rw [b,show (z.text.toList == z.text.toList)=true from beq_self_eq_true _];simp only [qbv,qd,qa,kzx,qb0,if_false]
   ·have c:(x.text.toList == z.text.toList)=false:=(by rw [qas];exact fun h=>b (kue h));rw [c];simp only [Bool.not_false,qe,kmk,qa];show some (if ke7 x.text z.text=true then (-1:Int) else 1)=_;cases f:ke7 x.text z.text with
    | true=>rfl
    | false=>
     cases g:ke7 z.text x.text with
     | true=>rfl
     | false=>exact absurd (k6f f g) b
  ·rw [show (x.num != z.num)=true by rw [qbg];exact n0,qe,kmk];by_cases hl:x.num<z.num;rw [ql hl,qo hl];rfl
   ·rw [qg hl,qi hl,qo (show z.num<x.num by omega)];rfl
 ·rw [show (x.type != z.type)=true by rw [qbg];exact t0,qe,kmk];by_cases hl:x.type<z.type;rw [ql hl,qo hl];rfl
  ·rw [qg hl,qi hl,qo (show z.type<x.type by omega)];rfl
theorem kaez (n:Nat) (x:Va):kav (n+2) x ke2=some (cmpV x ke2):=kady n x ke2 rfl
theorem kaaf (x:Va):ke8 x (Va.mk 0 0 ⟨#[]⟩ [])=some (eqV x ke2):=by unfold ke8;have:=kafp 18446744073709551615 x;rw [<- krj] at this;show Option.bind (kca fuel x ke2) _=_;rw [this];simp only [qa,eqV];by_cases h:cmpV x ke2=0 <;> simp [h]
theorem kuc (x:Va):kc7 x (Va.mk 0 0 ⟨#[]⟩ [])=some (eqV x ke2):=by unfold kc7;have:=kaez 18446744073709551614 x;show Option.bind (kav fuel x ke2) _=_;rw [show fuel=18446744073709551614+2 from rfl,this];simp only [qa,eqV];by_cases h:cmpV x ke2=0 <;> simp [h]
def rkT (t:Int):Nat:=if t=7 then 3 else if t=5\/t=6 then 2 else 1
def inV (x:Va):Prop:=kl2 9223372036854775807 x/\kr9 x
theorem kabk {x:Va} (h:inV x):x.items.length<=9223372036854775807/\x.text.size<=9223372036854775807/\∀ y∈x.items,inV y:=by obtain ⟨l1,l2⟩:=kne h.1;obtain ⟨s1,s2⟩:=k61 h.2;exact ⟨l1,s1,fun y hy=>⟨l2 y hy,s2 y hy⟩⟩
theorem k4f {k:Nat}:∀ {l:List Va},(∀ y∈l,depV y<=k)->krk l<=k
 | [],_=>qak _
 | y::l,h=>by simp only [krk];exact Nat.max_le.2 ⟨h y (qv ..),k4f fun z a=>h z (qh _ a)⟩
theorem k0u {x:Va} {k:Nat} (h:∀ y∈x.items,depV y<=k):depV x<=k+1:=by
 cases x with
 | mk t n s l=>simp only [depV];exact Nat.succ_le_succ (k4f h)
theorem kqc {x:Va} (h:((x.items.length:Int) == 0)=true):depV x<=1:=by
 refine k0u fun y hy=>?_;have:x.items.length=0:=by have:=eq_of_beq h;omega
 rw [qax this] at hy;cases hy
theorem k69:∀ n:Nat,(∀ x:Va,2*rkT x.type<=n->inV x->∃ c,kau n x=some c/\kam n x=some c/\(c=0->depV x<=rkT x.type)) /\
  (∀ (l:List Va) (t:Int),(t=2\/t=3)->3<=n->l.length<=9223372036854775807->(∀ x∈l,inV x)->∃ c,khi n l t=some c/\kef n l t=some c/\(c=0->∀ x∈l,depV x<=1)) /\
  (∀ l:List Va,5<=n->l.length<=9223372036854775807->(∀ x∈l,inV x)->∃ c,klc n l=some c/\kfx n l=some c/\(c=0->∀ x∈l,depV x<=2))
 | 0=>⟨fun x h=>by unfold rkT at h;split at h <;> (try split at h) <;> omega,fun l t _ h=>by omega,fun l h=>by omega⟩
 | n+1=>by
  obtain ⟨ih1,ih2,ih3⟩:=k69 n;refine ⟨fun x hd hx=>?_,fun l t ht hd hl wl=>?_,fun l hd hl wl=>?_⟩
  ·show ∃ c,kby (kau n) (khi n) (klc n) x=some c/\kap (kam n) (kef n) (kfx n) x=some c/\_;obtain ⟨lx,sx,wx⟩:=kabk hx;have hS:=fun a b=>k86 x.text a b sx;have p:=fun a b=>k5l x.text a b sx;by_cases h0:x.type<1;exact ⟨3,by simp [kby,h0],by simp [kap,h0],fun h=>absurd h (by decide)⟩;by_cases s:8<x.type;exact ⟨3,by simp [kby,h0,s],by simp [kap,h0,s],fun h=>absurd h (by decide)⟩;have ht:x.type=1\/x.type=2\/x.type=3\/x.type=4\/x.type=5\/x.type=6\/x.type=7\/x.type=8:=(by omega);have v:∀ t,(t=2\/t=3)->rkT x.type=2->∃ c,khi n x.items t=some c/\kef n x.items t=some c/\(c=0->depV x<=2):=fun t h1 w=>(by obtain ⟨c,e1,e2,e3⟩:=ih2 x.items t h1 (by omega) lx wx;exact ⟨c,e1,e2,fun h=>k0u (e3 h)⟩);have y:rkT x.type=3->∃ c,klc n x.items=some c/\kfx n x.items=some c/\(c=0->depV x<=3):=fun w=>(by obtain ⟨c,e1,e2,e3⟩:=ih3 x.items (by omega) lx wx;exact ⟨c,e1,e2,fun h=>k0u (e3 h)⟩);have hp:=kajc x.items;cases e:(x.text.toList == (⟨#[]⟩:BA).toList) <;> cases hm:(x.num == 0) <;> cases hl:((x.items.length:Int) == 0) <;> rw [hl] at hp <;>
    rcases ht with ht | ht | ht | ht | ht | ht | ht | ht <;>
    first
     | (refine ⟨4,?_,?_,fun h=>absurd h (by decide)⟩;rotate_left;(simp only [kap,ht,e,hm,hp,bne];simp);(simp only [kby,kdb,ht,e,hm,hl];simp))
     | (obtain ⟨c,e1,e2⟩:=krs x.num 0 1;refine ⟨c,?_,?_,fun _=>by rw [ht];exact kqc hl⟩;rotate_left;(simp only [kap,ht,e,hm,hp,bne];simp [e2]);(simp only [kby,kdb,ht,e,hm,hl];simp [e1]))
     | (obtain ⟨c,e1,e2⟩:=krs x.num (-1000000) 1000000;refine ⟨c,?_,?_,fun _=>by rw [ht];exact kqc hl⟩;rotate_left;(simp only [kap,ht,e,hm,hp,bne];simp [e2]);(simp only [kby,kdb,ht,e,hm,hl];simp [e1]))
     | (obtain ⟨c,e1,e2⟩:=krs x.num 0 255;refine ⟨c,?_,?_,fun _=>by rw [ht];exact kqc hl⟩;rotate_left;(simp only [kap,ht,e,hm,hp,bne];simp [e2]);(simp only [kby,kdb,ht,e,hm,hl];simp [e1]))
     | (obtain ⟨c,e1⟩:=hS 0 64;refine ⟨c,?_,?_,fun _=>by rw [ht];exact kqc hl⟩;rotate_left;(simp only [kap,ht,e,hm,hp,bne];simp [p,e1]);(simp only [kby,kdb,ht,e,hm,hl];simp [e1]))
     | (obtain ⟨c,e1⟩:=hS 1 40;refine ⟨c,?_,?_,fun _=>by rw [ht];exact kqc hl⟩;rotate_left;(simp only [kap,ht,e,hm,hp,bne];simp [p,e1]);(simp only [kby,kdb,ht,e,hm,hl];simp [e1]))
     | (obtain ⟨c,e1,e2,e3⟩:=v 2 (.inl rfl) (by rw [ht];rfl);refine ⟨c,?_,?_,fun h=>by rw [ht];exact e3 h⟩;rotate_left;(simp only [kap,ht,e,hm,hp,bne];simp [e2]);(simp only [kby,kdb,ht,e,hm,hl];simp [e1]))
     | (obtain ⟨c,e1,e2,e3⟩:=v 3 (.inr rfl) (by rw [ht];rfl);refine ⟨c,?_,?_,fun h=>by rw [ht];exact e3 h⟩;rotate_left;(simp only [kap,ht,e,hm,hp,bne];simp [e2]);(simp only [kby,kdb,ht,e,hm,hl];simp [e1]))
     | (obtain ⟨c,e1,e2,e3⟩:=y (by rw [ht];rfl);refine ⟨c,?_,?_,fun h=>by rw [ht];exact e3 h⟩;rotate_left;(simp only [kap,ht,e,hm,hp,bne];simp [e2]);(simp only [kby,kdb,ht,e,hm,hl];simp [e1]))
  ·show ∃ c,kf9 (kau n) (khi n) (klc n) l t=some c/\ke4 (kam n) (kef n) (kfx n) l t=some c/\_;by_cases d:(16:Int)<(l.length:Int);exact ⟨2,by simp only [kf9,ql d,qe],by simp only [ke4,ql d,qe],fun h=>absurd h (by decide)⟩
   ·have m:rkT t=1:=(by rcases ht with rfl | rfl <;> rfl);have hst:∀ (i:Nat) (hi:i<l.length),(kat l t (kau n) (i:Int)=some (.inl ((i+1:Nat):Int))/\ka2 l t (kam n) (i:Int)=some (.inl ((i+1:Nat):Int))/\depV l[i]<=1) \/
      ∃ c,c≠0/\kat l t (kau n) (i:Int)=some (.inr (.inr c))/\ka2 l t (kam n) (i:Int)=some (.inr (.inr c)):=fun i hi=>by
     have e1:l[i]?=some l[i]:=qb hi;have b1:decide ((i:Int)<(l.length:Int))=true:=ql (by omega);have o:=kai i;cases ht:(l[i].type != t) with
     | true=>exact .inr ⟨3,by decide,by simp only [kat,b1,kag,e1,ht,qe,qa],by simp only [ka2,b1,kag,e1,ht,qe,qa]⟩
     | false=>
      have g:l[i].type=t:=(by rwa [qa0] at ht);obtain ⟨c,k1,k2,k3⟩:=ih1 l[i] (by rw [g,m];omega) (wl _ (q9 hi));rw [g,m] at k3;cases hc:(c != 0) with
      | true=>exact .inr ⟨c,by simpa using hc,by simp only [kat,b1,kag,e1,ht,k1,hc,qe,qd,qa],by simp only [ka2,b1,kag,e1,ht,k2,hc,qe,qd,qa]⟩
      | false=>exact .inl ⟨by simp only [kat,b1,kag,e1,ht,k1,hc,o,qe,qd,qa],by simp only [ka2,b1,kag,e1,ht,k2,hc,o,qe,qd,qa],k3 (by rwa [qa0] at hc)⟩
    obtain ⟨r,e1,e2⟩:=ko6 (kat l t (kau n)) (ka2 l t (kam n)) l.length (fun i=>(i:Int)) (fun i hi=>by
     rcases hst i hi with ⟨a1,a2,_⟩ | ⟨c,_,a1,a2⟩;exact .inl ⟨a1,a2⟩
     ·exact .inr ⟨_,a1,a2⟩) (.inl ()) (by simp [kat]) (by simp [ka2])
    have e1':kab (kat l t (kau n)) fuel 0=some r:=(by simpa using e1);have e2':kab (ka2 l t (kam n)) fuel 0=some r:=(by simpa using e2);have j:∀ c:Int,r = .inr c->c≠0:=fun c hr=>by
     obtain ⟨r2,r3,f1,f2,f3⟩:=kjy (step:=kat l t (kau n)) (step':=kat l t (kau n)) l.length (by omega) (fun i=>(i:Int)) (fun i=>(i:Int)) (fun r r'=>∀ c,r = .inr c->c≠0) (fun i hi=>by
      rcases hst i hi with ⟨a1,a2,_⟩ | ⟨c,h0,a1,a2⟩;exact .inl ⟨a1,a1⟩
      ·exact .inr ⟨_,_,a1,a1,fun c' h=>by cases h;exact h0⟩) ⟨.inl (), .inl (),by simp [kat],by simp [kat],fun c h=>by cases h⟩
     have f1':kab (kat l t (kau n)) fuel 0=some r2:=(by simpa using f1);rw [e1'] at f1';cases f1';exact f3 c hr
    refine ⟨Sum.elim (fun _=>0) id r,?_,?_,fun h0=>?_⟩;simp only [kf9,qg d,qd,e1',qa];cases r <;> rfl;simp only [ke4,qg d,qd,e2',qa];cases r <;> rfl
    ·cases r with
     | inr c=>exact absurd h0 (j c rfl)
     | inl u=>
      intro x hx;obtain ⟨i,hi,rfl⟩:=qaj.1 hx;have f:=ktl (step:=kat l t (kau n)) l.length (fun i=>(i:Int)) (.inl u) (fun i hi=>by
       rcases hst i hi with ⟨a1,a2,_⟩ | ⟨c,_,a1,a2⟩;exact .inl a1
       ·exact .inr ⟨_,a1,fun h=>by cases h⟩) fuel 0 e1' i (qak _) hi
      rcases hst i hi with ⟨_,_,h⟩ | ⟨c,_,a1,_⟩;exact h
      ·rw [a1] at f;cases f
  ·show ∃ c,kjl (kau n) (khi n) (klc n) l=some c/\kgn (kam n) (kef n) (kfx n) l=some c/\_;by_cases d:(8:Int)<(l.length:Int);exact ⟨2,by simp only [kjl,ql d,qe],by simp only [kgn,ql d,qe],fun h=>absurd h (by decide)⟩
   ·have hst:∀ (i:Nat) (hi:i<l.length),(kbe l (kau n) (i:Int)=some (.inl ((i+1:Nat):Int))/\ka8 l (kam n) (i:Int)=some (.inl ((i+1:Nat):Int))/\depV l[i]<=2) \/
      ∃ c,c≠0/\kbe l (kau n) (i:Int)=some (.inr (.inr c))/\ka8 l (kam n) (i:Int)=some (.inr (.inr c)):=fun i hi=>by
     have e1:l[i]?=some l[i]:=qb hi;have e0:idx l 0=some (l[0]'(by omega)):=(by rw [show (0:Int)=((0:Nat):Int) from rfl,kag,qb]);have b1:decide ((i:Int)<(l.length:Int))=true:=ql (by omega);have o:=kai i;cases ht:(l[i].type != 6) with
     | true=>exact .inr ⟨3,by decide,by simp only [kbe,b1,kag,e1,ht,qe,qa],by simp only [ka8,b1,kag,e1,ht,qe,qa]⟩
     | false=>
      have g:l[i].type=6:=(by rwa [qa0] at ht);obtain ⟨c,k1,k2,k3⟩:=ih1 l[i] (by rw [g];show 2*2<=n;omega) (wl _ (q9 hi));rw [g] at k3;obtain ⟨q,k⟩:∃ q,(bif decide ((l[i].items.length:Int)<1) then some true else bif decide (8<(l[i].items.length:Int)) then some true else (some ((l[i].items.length:Int) != ((l[0]'(by omega)).items.length:Int)):Option Bool))=some q:=(by cases decide ((l[i].items.length:Int)<1) <;> cases decide (8<(l[i].items.length:Int)) <;> exact ⟨_,rfl⟩);cases q with
      | true=>exact .inr ⟨2,by decide,by simp only [kbe,b1,kag,e1,e0,ht,k,qe,qd,qa],by simp only [ka8,b1,kag,e1,e0,ht,k,qe,qd,qa]⟩
      | false=>
       cases hc:(c != 0) with
       | true=>exact .inr ⟨c,by simpa using hc,by simp only [kbe,b1,kag,e1,e0,ht,k,k1,hc,qe,qd,qa],by simp only [ka8,b1,kag,e1,e0,ht,k,k2,hc,qe,qd,qa]⟩
       | false=>exact .inl ⟨by simp only [kbe,b1,kag,e1,e0,ht,k,k1,hc,o,qe,qd,qa],by simp only [ka8,b1,kag,e1,e0,ht,k,k2,hc,o,qe,qd,qa],k3 (by rwa [qa0] at hc)⟩
    obtain ⟨r,e1,e2⟩:=ko6 (kbe l (kau n)) (ka8 l (kam n)) l.length (fun i=>(i:Int)) (fun i hi=>by
     rcases hst i hi with ⟨a1,a2,_⟩ | ⟨c,_,a1,a2⟩;exact .inl ⟨a1,a2⟩
     ·exact .inr ⟨_,a1,a2⟩) (.inl ()) (by simp [kbe]) (by simp [ka8])
    have e1':kab (kbe l (kau n)) fuel 0=some r:=(by simpa using e1);have e2':kab (ka8 l (kam n)) fuel 0=some r:=(by simpa using e2);have j:∀ c:Int,r = .inr c->c≠0:=fun c hr=>by
     obtain ⟨r2,r3,f1,f2,f3⟩:=kjy (step:=kbe l (kau n)) (step':=kbe l (kau n)) l.length (by omega) (fun i=>(i:Int)) (fun i=>(i:Int)) (fun r r'=>∀ c,r = .inr c->c≠0) (fun i hi=>by
      rcases hst i hi with ⟨a1,a2,_⟩ | ⟨c,h0,a1,a2⟩;exact .inl ⟨a1,a1⟩
      ·exact .inr ⟨_,_,a1,a1,fun c' h=>by cases h;exact h0⟩) ⟨.inl (), .inl (),by simp [kbe],by simp [kbe],fun c h=>by cases h⟩
     have f1':kab (kbe l (kau n)) fuel 0=some r2:=(by simpa using f1);rw [e1'] at f1';cases f1';exact f3 c hr
    refine ⟨Sum.elim (fun _=>0) id r,?_,?_,fun h0=>?_⟩;simp only [kjl,qg d,qd,e1',qa];cases r <;> rfl;simp only [kgn,qg d,qd,e2',qa];cases r <;> rfl
    ·cases r with
     | inr c=>exact absurd h0 (j c rfl)
     | inl u=>
      intro x hx;obtain ⟨i,hi,rfl⟩:=qaj.1 hx;have f:=ktl (step:=kbe l (kau n)) l.length (fun i=>(i:Int)) (.inl u) (fun i hi=>by
       rcases hst i hi with ⟨a1,a2,_⟩ | ⟨c,_,a1,a2⟩;exact .inl a1
       ·exact .inr ⟨_,a1,fun h=>by cases h⟩) fuel 0 e1' i (qak _) hi
      rcases hst i hi with ⟨_,_,h⟩ | ⟨c,_,a1,_⟩;exact h
      ·rw [a1] at f;cases f
theorem kac1 (t:Int):rkT t<=3:=by unfold rkT;split <;> (try split) <;> omega
theorem k7r {x:Va} (hx:inV x):∃ c,kau fuel x=some c/\kam fuel x=some c/\(c=0->okV x):=by have a:2*rkT x.type<=fuel:=qay (Nat.mul_le_mul_left 2 (kac1 x.type)) (by decide);obtain ⟨c,h1,b,d⟩:=(k69 fuel).1 x a hx;exact ⟨c,h1,b,fun h=>⟨by have:=d h;have:=kac1 x.type;omega,hx.1⟩⟩
def kzy (r:Ru):Prop:=r.args.length<=9223372036854775807/\inV r.const
theorem k45 {x:Va} (h:eqV x ke2=true):x=ke2:=kahx x ke2 (by simpa [eqV] using h)
theorem kak4 (l:La) (r:Ru) (hr:kzy r):∃ c,kjh l r=some c/\keh l r=some c:=by obtain ⟨c,h1,a,_⟩:=k7r hr.2;exact kae9 l r hr.1 (kuc _) (kaaf _) ⟨c,h1,a⟩
structure GoodR (l:La) (r:Ru):Prop where
 sym0:0<=r.symbol
 sym1:r.symbol<(l.symbols.length:Int)
 kind:r.kind=1\/r.kind=2\/r.kind=3
 noargs:r.kind≠3->r.args=[]
 args:∀ a∈r.args,0<=a/\a<(l.symbols.length:Int)
 few:r.args.length<=5
 fine:okV r.const
theorem kjq {α:Type} {b:Bool} {x y:Option α} {r:α} (h:(bif b then x else y)=some r):(b=true/\x=some r)\/(b=false/\y=some r):=by
 cases b;exact .inr ⟨rfl,h⟩
 ·exact .inl ⟨rfl,h⟩
theorem ki7 {α β:Type} {E:Option α} {K:α->Option β} {r:β} (h:Option.bind E K=some r):∃ v,E=some v/\K v=some r:=qm.1 h
theorem k5o:opNames.all (fun n=>(kdl n).all fun o=>decide (o.1.yd.length<=5))=true:=by kernel_rfl
theorem kadv {s:BA} {o:Sac×Bool} (h:kdl s=some o) (b:o.2=true):o.1.yd.length<=5:=by
 by_cases a:s∈opNames;have:=qu.1 k5o s a;rw [h] at this;simpa using this
 ·rw [(k13 s a).2] at h;cases h;cases b
theorem kaar {l:La} {r:Ru} (ha:r.args.length<=9223372036854775807) (h:kfn l r=some 0):r.args.length<=5/\∀ a∈r.args,0<=a/\a<(l.symbols.length:Int):=by
 unfold kfn at h;obtain ⟨o,h1,h⟩:=ki7 h;rcases kjq h with ⟨_,h⟩ | ⟨g,h⟩;cases h;rcases kjq h with ⟨_,h⟩ | ⟨j,h⟩;cases h;have f:r.args.length=o.1.yd.length:=by have:=qa0.1 j;omega
 have p:=kadv h1 (by simpa using g);obtain ⟨v,k,h⟩:=ki7 h;refine ⟨by omega,fun a d=>?_⟩;have hst:∀ i,i<r.args.length->kaz l r o (i:Int)=some (.inl ((i+1:Nat):Int))/\(∀ x,r.args[i]?=some x->0<=x/\x<(l.symbols.length:Int))\/∃ c,c≠0/\kaz l r o (i:Int)=some (.inr (.inr c)):=fun i hi=>by
  have e1:r.args[i]?=some r.args[i]:=qb hi;have e:i<o.1.yd.length:=by omega
  have e2:o.1.yd[i]?=some o.1.yd[i]:=qb e;have b1:decide ((i:Int)<(r.args.length:Int))=true:=ql (by omega);simp only [kaz,b1,qe,kag,e1,e2,qa,kai i];by_cases h0:0<=r.args[i]
  ·by_cases h1:r.args[i]<(l.symbols.length:Int)
   ·obtain ⟨x,hx,_⟩:=kr7 _ h0 h1;rw [qg (show ¬ r.args[i]<0 by omega),qg (show ¬ (l.symbols.length:Int)<=r.args[i] by omega)];simp only [qd,qa,hx];cases x.type != o.1.yd[i] with
    | true=>exact .inr ⟨3,by decide,rfl⟩
    | false=>exact .inl ⟨rfl,fun y hy=>by cases hy;exact ⟨h0,h1⟩⟩
   ·rw [qg (show ¬ r.args[i]<0 by omega),ql (show (l.symbols.length:Int)<=r.args[i] by omega)];exact .inr ⟨1,by decide,rfl⟩
  ·rw [ql (show r.args[i]<0 by omega)];exact .inr ⟨1,by decide,rfl⟩
 obtain ⟨i,hi,rfl⟩:=qaj.1 d;have hv:∀ c:Int,c≠0->(.inr c:Unit ⊕ Int)≠v:=fun c hc m=>by subst m;cases h;exact hc rfl
 have b:=ktl (step:=kaz l r o) r.args.length (fun i=>(i:Int)) v (fun i hi=>by
  rcases hst i hi with ⟨a1,_⟩ | ⟨c,hc,a1⟩;exact .inl a1
  ·exact .inr ⟨_,a1,hv c hc⟩) fuel 0 k i (qak _) hi
 rcases hst i hi with ⟨_,a2⟩ | ⟨c,_,a1⟩;exact a2 _ (qb hi)
 ·rw [a1] at b;cases b
theorem len0 {α:Type} {xs:List α} (h:((xs.length:Int) == 0)=true):xs=[]:=qax (by have:=eq_of_beq h;omega)
theorem kadh {l:La} {r:Ru} (hr:kzy r) (h:keh l r=some 0):GoodR l r:=by
 unfold keh at h;obtain ⟨b1,h1,h⟩:=ki7 h;rcases kjq h with ⟨_,h⟩ | ⟨k,h⟩;cases h;subst k;have hs:0<=r.symbol/\r.symbol<(l.symbols.length:Int):=by
  rcases kjq h1 with ⟨_,h1⟩ | ⟨q,h1⟩;cases h1
  ·have q:=qbb q;have q2:=qbb (qs h1);omega
 obtain ⟨b2,f,h⟩:=ki7 h;rcases kjq h with ⟨_,h⟩ | ⟨m,h⟩;cases h;subst m;rcases kjq f with ⟨_,f⟩ | ⟨q1,f⟩;cases f;rcases kjq f with ⟨_,f⟩ | ⟨q2,f⟩;cases f;have q1:=qbb q1;have q2:=qbb q2;obtain ⟨z,g,n⟩:=ki7 f;have o:z=true:=by
  cases z with
  | true=>rfl
  | false=>cases n
 subst o;obtain ⟨x,p,h⟩:=ki7 h;unfold kf0 at g;rw [kuc,qa] at g;have hk:r.kind=1\/r.kind=2\/r.kind=3:=by omega
 have okz:eqV r.const ke2=true->okV r.const:=fun h=>by rw [k45 h];exact kyh
 rcases hk with hk | hk | hk
 ·have c1:(r.kind == 1)=true:=by rw [hk];rfl
  rw [c1,qe] at g;obtain ⟨b,d,i⟩:=ki7 g;cases i;rcases kjq d with ⟨e1,d⟩ | ⟨_,d⟩
  ·rcases kjq d with ⟨e2,d⟩ | ⟨_,d⟩;have ha:=len0 (qs d);exact ⟨hs.1,hs.2, .inl hk,fun _=>ha,by rw [ha];intro a h;(cases h),by rw [ha];exact qak _,okz e1⟩
   ·cases d
  ·cases d
 ·have c1:(r.kind == 1)=false:=by rw [hk];rfl
  have c2:(r.kind == 2)=true:=by rw [hk];rfl
  rw [c1,qd,c2,qe] at g;rw [c1,qd,c2,qe] at h;obtain ⟨b,d,i⟩:=ki7 g;cases i;obtain ⟨c,g1,g2⟩:=ki7 h;have hc:c=0:=by
   rcases kjq g2 with ⟨e,g2⟩ | ⟨e,g2⟩;cases g2;rfl
   ·exact qa0.1 e
  obtain ⟨c',f1,f2,f3⟩:=k7r hr.2;have j:c'=0:=by rw [f2] at g1;cases g1;exact hc
  rcases kjq d with ⟨e1,d⟩ | ⟨_,d⟩
  ·rcases kjq d with ⟨e2,d⟩ | ⟨_,d⟩;have ha:=len0 (qs d);exact ⟨hs.1,hs.2, .inr (.inl hk),fun _=>ha,by rw [ha];intro a h;(cases h),by rw [ha];exact qak _,f3 j⟩
   ·cases d
  ·cases d
 ·have c1:(r.kind == 1)=false:=by rw [hk];rfl
  have c2:(r.kind == 2)=false:=by rw [hk];rfl
  rw [c1,qd,c2,qd] at g;rw [c1,qd,c2,qd] at h;obtain ⟨b,d,i⟩:=ki7 g;cases i;obtain ⟨c,g1,g2⟩:=ki7 h;cases g2;obtain ⟨a1,a2⟩:=kaar hr.1 g1;rcases kjq d with ⟨e1,d⟩ | ⟨_,d⟩;exact ⟨hs.1,hs.2, .inr (.inr hk),fun h=>absurd hk h,a2,a1,okz (qs d)⟩
  ·cases d
theorem GoodR.fineR {l:La} {r:Ru} (h:GoodR l r) (hr:kzy r):fineR r:=⟨by have:=h.few;omega,h.fine,hr.2.2⟩
structure koj (l:La):Prop where
 name:l.name.size<=9223372036854775807
 inputs:l.inputs.length<=9223372036854775807
 symbols:l.symbols.length<=9223372036854775807
 rules:l.rules.length<=9223372036854775807
 names:∀ x∈l.symbols,x.name.size<=9223372036854775807
 wide:∀ r∈l.rules,kzy r
structure khu (l:La):Prop where
 inputs:l.inputs.length<=4
 sym1:1<=l.symbols.length
 sym16:l.symbols.length<=16
 rules:l.rules.length<=96
 good:∀ r∈l.rules,GoodR l r
theorem kaie (l:La) (h:koj l):∃ r,kab (kbp l) fuel 0=some r/\kab (kar l) fuel 0=some r/\(r = .inl ()->∀ x∈l.rules,GoodR l x)/\(∀ e,r = .inr e->e≠0):=by
 have hl:=h.rules;have v:∀ n,n<=l.rules.length->(∃ i,i<n/\∃ e,e≠0/\(∀ j,j<i->kbp l (j:Int)=some (.inl ((j+1:Nat):Int))/\kar l (j:Int)=some (.inl ((j+1:Nat):Int)))/\kbp l (i:Int)=some (.inr (.inr e))/\kar l (i:Int)=some (.inr (.inr e))) \/
   ((∀ j,j<n->kbp l (j:Int)=some (.inl ((j+1:Nat):Int))/\kar l (j:Int)=some (.inl ((j+1:Nat):Int)))/\∀ j (a:j<l.rules.length),j<n->GoodR l l.rules[j]):=by
  intro n
  induction n with
  | zero=>intro _;exact .inr ⟨fun j a=>by omega,fun j _ a=>by omega⟩
  | succ n ih=>
   intro hn;rcases ih (by omega) with ⟨i,hi,e,o,hx⟩ | ⟨g1,g2⟩;exact .inl ⟨i,by omega,e,o,hx⟩
   ·have hi:n<l.rules.length:=(by omega);have e1:l.rules[n]?=some l.rules[n]:=qb hi;have b1:decide ((n:Int)<(l.rules.length:Int))=true:=ql (by omega);have p:=h.wide _ (q9 hi);obtain ⟨c,c1,c2⟩:=kak4 l l.rules[n] p;by_cases hc:c=0
    ·subst hc;have u:=kadh p c2;have m:∀ j (a:j<l.rules.length),j<=n->fineR l.rules[j]:=fun j a g=>by
      have q:=h.wide _ (q9 a);by_cases d:j=n;subst d;exact u.fineR p
      ·exact (g2 j a (by omega)).fineR q
     obtain ⟨b,d1,d2⟩:=kafo l n hi hl m;cases b with
     | true=>
      refine .inl ⟨n,by omega,6,by decide,g1,?_,?_⟩;simp only [kbp,b1,qe,kag,e1,qa,c1,kxm l.rules n (by omega),d1];rfl
      ·simp only [kar,b1,qe,kag,e1,qa,c2,d2];rfl
     | false=>
      refine .inr ⟨fun j a=>?_,fun j a g=>?_⟩
      ·by_cases g:j=n
       ·subst g;constructor;simp only [kbp,b1,qe,kag,e1,qa,c1,kxm l.rules j (by omega),d1,kai j];rfl
        ·simp only [kar,b1,qe,kag,e1,qa,c2,d2,kai j];rfl
       ·exact g1 j (by omega)
      ·by_cases d:j=n;subst d;exact u
       ·exact g2 j a (by omega)
    ·refine .inl ⟨n,by omega,c,hc,g1,?_,?_⟩;simp only [kbp,b1,qe,kag,e1,qa,c1,show (c != 0)=true by simpa using hc]
     ·simp only [kar,b1,qe,kag,e1,qa,c2,show (c != 0)=true by simpa using hc]
 have f:kbp l (l.rules.length:Int)=some (.inr (.inl ()))/\kar l (l.rules.length:Int)=some (.inr (.inl ())):=by have b1:decide ((l.rules.length:Int)<(l.rules.length:Int))=false:=qg (by omega);simp only [kbp,kar,b1,qd,and_self]
 rcases v l.rules.length (qx _) with ⟨i,hi,e,o,a,a1,a2⟩ | ⟨g1,g2⟩;obtain ⟨r,r',h1,s,rfl,t⟩:=kjy (step:=kbp l) (step':=kar l) i (by omega) (fun i=>(i:Int)) (fun i=>(i:Int)) (fun r r'=>r=r'/\r = .inr e) (fun j k => .inl (a j k)) ⟨_,_,a1,a2,rfl,rfl⟩;subst t;exact ⟨_,by simpa using h1,by simpa using s,(fun h=>by cases h),fun e' h=>by cases h;exact o⟩
 ·obtain ⟨r,r',h1,s,rfl,t⟩:=kjy (step:=kbp l) (step':=kar l) l.rules.length (by omega) (fun i=>(i:Int)) (fun i=>(i:Int)) (fun r r'=>r=r'/\r = .inl ()) (fun j k => .inl (g1 j k)) ⟨_,_,f.1,f.2,rfl,rfl⟩;subst t;refine ⟨_,by simpa using h1,by simpa using s,fun _ x hx=>?_,fun e' h=>by cases h⟩;obtain ⟨i,hi,rfl⟩:=qaj.1 hx;exact g2 i hi hi
theorem kaay (l:La) (h:koj l):∃ c,kbs l=some c/\kch l=some c/\(c=0->khu l):=by
 obtain ⟨b,n1,n2⟩:=kzl l.name h.name;obtain ⟨r1,i1,i2,i3⟩:=k6t l h.inputs;obtain ⟨r2,s1,s2,s3⟩:=k47 l h.symbols h.names;obtain ⟨r3,t1,t2,t3,t4⟩:=kaie l h;have a:∀ c:Int,c≠0->(c=0->khu l):=fun c hc h=>absurd h hc;unfold kbs kch;rw [n1,n2];simp only [qa];cases b with
 | false=>exact ⟨5,rfl,rfl,a 5 (by decide)⟩
 | true=>
  simp only [qbv,qd];cases f:decide (4<(l.inputs.length:Int)) with
  | true=>exact ⟨2,rfl,rfl,a 2 (by decide)⟩
  | false=>
   have f:=qbb f;simp only [qd,i1,i2,qa];cases r1 with
   | inr e=>exact ⟨e,rfl,rfl,a e (i3 e rfl)⟩
   | inl u=>
    simp only [qan];have hc:(bif decide ((l.symbols.length:Int)<1) then some true else some (decide (16<(l.symbols.length:Int))):Option Bool)=some (decide ((l.symbols.length:Int)<1) || decide (16<(l.symbols.length:Int))):=(by cases decide ((l.symbols.length:Int)<1) <;> rfl);rw [hc,qa,qa];cases d:decide ((l.symbols.length:Int)<1) || decide (16<(l.symbols.length:Int)) with
    | true=>exact ⟨2,rfl,rfl,a 2 (by decide)⟩
    | false=>
     rw [Bool.or_eq_false_iff] at d;have hs1:=qbb d.1;have i:=qbb d.2;simp only [qd,s1,s2,qa];cases r2 with
     | inr e=>exact ⟨e,rfl,rfl,a e (s3 e rfl)⟩
     | inl u=>
      simp only [qan];cases g:decide (96<(l.rules.length:Int)) with
      | true=>exact ⟨2,rfl,rfl,a 2 (by decide)⟩
      | false=>
       have g:=qbb g;simp only [qd,t1,t2,qa];cases r3 with
       | inr e=>exact ⟨e,rfl,rfl,a e (t4 e rfl)⟩
       | inl u=>exact ⟨0,rfl,rfl,fun _=>⟨by omega,by omega,by omega,by omega,t3 rfl⟩⟩
open Go Go.RowKit TV
def kd4 (m s:Nat):Int:=if s<=m then (m:Int) - (s:Int) else -1
theorem kut:∀ (n:Nat) (t:Tm) (m:Nat),m<=10000->m<n->kcr n t (m:Int)=some (kd4 m t.size)/\kge n t (m:Int)=some (kd4 m t.size)
 | 0,t,m,_,h=>by omega
 | n+1,t,m,hm,hn=>by
  show kev (kcr n) t (m:Int)=_/\kj9 (kge n) t (m:Int)=_;obtain ⟨r0,l⟩:=t;have g:(Tm.mk r0 l).size=Tm.sizeL l+1:=rfl;have a:w64 ((m:Int) - 1)=kd4 m (1+Tm.sizeL (l.take 0)):=by rw [kc0];simp only [List.take_zero,Tm.sizeL,kd4];split <;> omega
  obtain ⟨r,r',h1,p,q,o⟩:=kjy (step:=kf3 (Tm.mk r0 l) (kge n)) (step':=kcm (Tm.mk r0 l) (kcr n)) (min l.length m) (by omega)
   (fun i=>(kd4 m (1+Tm.sizeL (l.take i)),(i:Int))) (fun i=>(kd4 m (1+Tm.sizeL (l.take i)),(i:Int))) (fun r r'=>Sum.elim id id r=kd4 m (Tm.sizeL l+1)/\r'=kd4 m (Tm.sizeL l+1)) (fun i hi=>by
   have c:i<l.length:=(by omega);have e1:(Tm.mk r0 l).args[i]?=some l[i]:=qb c;have b1:decide ((i:Int)<((Tm.mk r0 l).args.length:Int))=true:=ql (by show (i:Int)<(l.length:Int);omega);have e:=kpe l i (by omega);simp only [kf3,kcm,b1,qe,qa,kag,e1];by_cases hp:1+Tm.sizeL (l.take i)<=m
   ·have hv:kd4 m (1+Tm.sizeL (l.take i))=((m - (1+Tm.sizeL (l.take i)):Nat):Int):=(by unfold kd4;rw [qo hp];omega);obtain ⟨q1,q2⟩:=kut n l[i] (m - (1+Tm.sizeL (l.take i))) (by omega) (by omega);have d:kd4 (m - (1+Tm.sizeL (l.take i))) l[i].size=kd4 m (1+Tm.sizeL (l.take (i+1))):=(by rw [kzu c];unfold kd4;split <;> split <;> omega);rw [hv,ql (show (0:Int)<=((m - (1+Tm.sizeL (l.take i)):Nat):Int) by omega),qg (show ¬ ((m - (1+Tm.sizeL (l.take i)):Nat):Int)<0 by omega)];simp only [qe,qd,q1,q2,qa,d,kai i]
    first | exact .inl ⟨rfl,rfl⟩ | exact .inl ⟨trivial,trivial⟩
   ·have hv:kd4 m (1+Tm.sizeL (l.take i)) = -1:=(by unfold kd4;rw [qi hp]);have f:kd4 m (Tm.sizeL l+1) = -1:=(by unfold kd4;rw [qi (by omega)]);rw [hv,f];exact .inr ⟨_,_,rfl,rfl,rfl,rfl⟩) (by
   have e:=kpe l (min l.length m) (by omega);by_cases s:l.length<=m;have b:min l.length m=l.length:=(by omega);have b1:decide ((l.length:Int)<((Tm.mk r0 l).args.length:Int))=false:=qg (by show ¬ (l.length:Int)<(l.length:Int);omega);have f:kd4 m (1+Tm.sizeL l)=kd4 m (Tm.sizeL l+1):=(by rw [Nat.add_comm]);simp only [b,kf3,kcm,b1,qd,qa,qbm,f];exact ⟨_,_,rfl,rfl,rfl,rfl⟩
   ·have b:min l.length m=m:=(by omega);rw [b] at e;have b1:decide ((m:Int)<((Tm.mk r0 l).args.length:Int))=true:=ql (by show (m:Int)<(l.length:Int);omega);have c:m<l.length:=(by omega);have e1:(Tm.mk r0 l).args[m]?=some l[m]:=qb c;have hv:kd4 m (1+Tm.sizeL (l.take m)) = -1:=(by unfold kd4;rw [qi (by omega)]);have f:kd4 m (Tm.sizeL l+1) = -1:=(by unfold kd4;rw [qi (by omega)]);simp only [b,kf3,kcm,b1,qe,qa,kag,e1,hv,f];exact ⟨_,_,rfl,rfl,rfl,rfl⟩)
  have j:kab (kf3 (Tm.mk r0 l) (kge n)) fuel (w64 ((m:Int) - 1),0)=some r:=by rw [a];simpa using h1
  have k:kab (kcm (Tm.mk r0 l) (kcr n)) fuel (w64 ((m:Int) - 1),0)=some r':=by rw [a];simpa using p
  unfold kev kj9;rw [j,k,g,<- o];refine ⟨rfl,?_⟩;rw [o,<- q];cases r <;> rfl
theorem k6y {l:List Tm} {i:Nat} (h:i<l.length):Tm.depthL (l.take (i+1))=max (Tm.depthL (l.take i)) l[i].depth:=by rw [qar h,Tm.depthL_snoc]
theorem depth_le_size (t:Tm):t.depth<=t.size:=by
 refine Tm.ind (P:=fun t=>t.depth<=t.size) (fun r l ih=>?_) t;show Tm.depthL l+1<=Tm.sizeL l+1;have:∀ l:List Tm,(∀ t∈l,t.depth<=t.size)->Tm.depthL l<=Tm.sizeL l:=fun l=>by
  induction l with
  | nil=>exact fun _=>qx _
  | cons x l ih=>
   intro h;have h1:=h x (qv ..);have a:=ih fun t ht=>h t (qh _ ht);show max x.depth (Tm.depthL l)<=x.size+Tm.sizeL l;omega
 have:=this l ih;omega
theorem k50:∀ (n:Nat) (t:Tm),t.size<=1000->t.size<=n->kbc n t=some (t.depth:Int)
 | 0,t,_,h=>by have:=Tm.size_pos t;omega
 | n+1,t,ht,hn=>by
  show kdg (kbc n) t=_;obtain ⟨r0,l⟩:=t;have e:(Tm.mk r0 l).size=Tm.sizeL l+1:=rfl;have d:=km1 l;have hl:=kcc (step:=kcd (Tm.mk r0 l) (kbc n)) l.length (fun i=>((Tm.depthL (l.take i):Int),(i:Int))) (Tm.depthL l:Int) (fun i hi=>by
   have e1:(Tm.mk r0 l).args[i]?=some l[i]:=qb hi;have b1:decide ((i:Int)<((Tm.mk r0 l).args.length:Int))=true:=ql (by show (i:Int)<(l.length:Int);omega);have hs:=Tm.sizeL_mem (q9 hi);have q:=k50 n l[i] (by omega) (by omega);have a:imax (Tm.depthL (l.take i):Int) (l[i].depth:Int)=(Tm.depthL (l.take (i+1)):Int):=(by rw [k6y hi];unfold imax;split <;> omega);simp only [kcd,b1,qe,kag,e1,qa,q,a,kai i]) (by
   have b1:decide ((l.length:Int)<((Tm.mk r0 l).args.length:Int))=false:=qg (by show ¬ (l.length:Int)<(l.length:Int);omega);simp only [kcd,b1,qd,qbm])
  have b:kab (kcd (Tm.mk r0 l) (kbc n)) fuel (0,0)=some (Tm.depthL l:Int):=by simpa [Tm.depthL] using hl
  unfold kdg;rw [b,qa];have hd:=depth_le_size (Tm.mk r0 l);have c:(Tm.mk r0 l).depth=Tm.depthL l+1:=rfl;rw [kai _,c]
theorem kxh:∀ (n:Nat) (t:Tm) (k:Nat),k<=1000->t.size<=1000->t.size<=n->kfi n t (k:Int)=some (decide (t.depth<=k))
 | 0,t,k,_,_,h=>by have:=Tm.size_pos t;omega
 | n+1,t,k,hk,ht,hn=>by
  show kjd (kfi n) t (k:Int)=_;obtain ⟨r0,l⟩:=t;have e:(Tm.mk r0 l).size=Tm.sizeL l+1:=rfl;have f:(Tm.mk r0 l).depth=Tm.depthL l+1:=rfl;have d:=km1 l;unfold kjd;by_cases h0:k=0;subst h0;rw [qg (show ¬ (Tm.mk r0 l).depth<=0 by omega)];rfl
  ·have c0:((k:Int) == 0)=false:=(by rw [qas];omega);rw [c0];have hl:=kh5 (kgy (Tm.mk r0 l) (k:Int) (kfi n)) l.length (fun i=>(i:Int)) (fun i=>if (l.drop i).all (fun t=>decide (t.depth<=k - 1))=true then .inl () else .inr false) (fun i hi=>by
    have e1:(Tm.mk r0 l).args[i]?=some l[i]:=qb hi;have b1:decide ((i:Int)<((Tm.mk r0 l).args.length:Int))=true:=ql (by show (i:Int)<(l.length:Int);omega);have hs:=Tm.sizeL_mem (q9 hi);have a:w64 ((k:Int) - 1)=((k - 1:Nat):Int):=(by rw [kc0];omega);have q:=kxh n l[i] (k - 1) (by omega) (by omega) (by omega);have hd:l.drop i=l[i]::l.drop (i+1):=qao hi;simp only [kgy,b1,qe,kag,e1,qa,a,q,hd,List.all_cons,kai i];cases decide (l[i].depth<=k - 1) with
    | true=>exact .inl ⟨rfl,by simp⟩
    | false=>exact .inr rfl) (by
    have b1:decide ((l.length:Int)<((Tm.mk r0 l).args.length:Int))=false:=qg (by show ¬ (l.length:Int)<(l.length:Int);omega);simp only [kgy,b1,qd,List.drop_length,List.all_nil,if_true])
   have c:kab (kgy (Tm.mk r0 l) (k:Int) (kfi n)) fuel 0=some (if l.all (fun t=>decide (t.depth<=k - 1))=true then .inl () else .inr false):=(by simpa using hl);have b:l.all (fun t=>decide (t.depth<=k - 1))=decide ((Tm.mk r0 l).depth<=k):=by
    have gen:∀ l:List Tm,l.all (fun t=>decide (t.depth<=k - 1))=decide (Tm.depthL l<=k - 1):=fun l=>by
     induction l with
     | nil=>simp [Tm.depthL]
     | cons x l ih=>
      rw [List.all_cons,ih,<- Bool.decide_and];exact decide_eq_decide.2 (by show _↔max x.depth (Tm.depthL l)<=k - 1;omega)
    rw [gen];exact decide_eq_decide.2 (by omega)
   simp only [qd];rw [c,b,qa];cases decide ((Tm.mk r0 l).depth<=k) <;> rfl
theorem kum:∀ (n:Nat) (l:La) (s:Int) (t:Tm),t.size<=1000->t.size<=n->(∀ x∈l.rules,x.kind≠3->x.args.length=0)->∃ c,kfm n l s t=some c/\kcs n l s t=some c
 | 0,l,s,t,_,h,_=>by have:=Tm.size_pos t;omega
 | n+1,l,s,t,ht,hn,hr=>by
  show ∃ c,ki2 (kfm n) l s t=some c/\ke1 (kcs n) l s t=some c;obtain ⟨r0,ts⟩:=t;have m:(Tm.mk r0 ts).size=Tm.sizeL ts+1:=rfl;have k:=km1 ts;unfold ki2 ke1;have b:(Tm.mk r0 ts).rule=r0:=rfl;have a:(Tm.mk r0 ts).args=ts:=rfl;simp only [b,a];by_cases h0:r0<0;rw [ql h0];exact ⟨1,rfl,rfl⟩;by_cases h1:(l.rules.length:Int)<=r0;rw [qg h0,ql h1];exact ⟨1,rfl,rfl⟩;rw [qg h0,qg h1];obtain ⟨x,hx,d⟩:=kr7 (i:=r0) l.rules (by omega) (by omega);simp only [qd,qa,hx];cases x.symbol != s with
  | true=>exact ⟨3,rfl,rfl⟩
  | false=>
   have e:kfj x=some (x.args.length:Int):=by
    unfold kfj;by_cases hk:x.kind=3;rw [show (x.kind != 3)=false by rw [qa0];exact hk];rfl
    ·rw [show (x.kind != 3)=true by rw [qbg];exact hk,hr x d hk];rfl
   simp only [qd,e,qa];by_cases hl:(ts.length:Int)=(x.args.length:Int)
   ·rw [show ((ts.length:Int) != (x.args.length:Int))=false by rw [qa0];exact hl];obtain ⟨r,h1,o⟩:=ko6 (kgq l (Tm.mk r0 ts) (kfm n) x) (kcl l (Tm.mk r0 ts) (kcs n) x) ts.length (fun i=>(i:Int)) (fun i hi=>by
     have e1:ts[i]?=some ts[i]:=qb hi;have f:i<x.args.length:=(by omega);have e2:x.args[i]?=some x.args[i]:=qb f;have b1:decide ((i:Int)<(ts.length:Int))=true:=ql (by omega);have hs:=Tm.sizeL_mem (q9 hi);obtain ⟨c,c1,c2⟩:=kum n l x.args[i] ts[i] (by omega) (by omega) hr;simp only [kgq,kcl,a,b1,qe,kag,e1,e2,qa,c1,c2,kai i];cases c != 0 with
     | true=>exact .inr ⟨_,rfl,rfl⟩
     | false=>exact .inl ⟨rfl,rfl⟩) (.inl ()) (by
     have b1:decide ((ts.length:Int)<(ts.length:Int))=false:=qg (by omega);simp only [kgq,a,b1,qd]) (by
     have b1:decide ((ts.length:Int)<(ts.length:Int))=false:=qg (by omega);simp only [kcl,a,b1,qd])
    have g:kab (kgq l (Tm.mk r0 ts) (kfm n) x) fuel 0=some r:=(by simpa using h1);have j:kab (kcl l (Tm.mk r0 ts) (kcs n) x) fuel 0=some r:=(by simpa using o);simp only [qd,g,j,qa];cases r <;> exact ⟨_,rfl,rfl⟩
   ·rw [show ((ts.length:Int) != (x.args.length:Int))=true by rw [qbg];exact hl];exact ⟨4,rfl,rfl⟩
theorem kq3 (t:Tm) (m:Nat) (hm:m<=10000):kbj t (m:Int)=some (decide (t.size<=m)):=by unfold kbj;rw [(kut fuel t m hm (kan (by omega))).1,qa];refine qbc some (decide_eq_decide.2 ?_);unfold kd4;split <;> omega
theorem k0a (l:La) (s:Int) (t:Tm) (hl:koj l) (ht:t.size<=1000):∃ c,khb l s t=some c/\kg9 l s t=some c/\(c=0->khu l/\kfm fuel l s t=some 0):=by
 obtain ⟨c,c1,c2,c3⟩:=kaay l hl;unfold khb kg9;rw [c1,c2];simp only [qa];by_cases hc:c=0
 ·subst hc;have e:((0:Int) != 0)=false:=rfl;rw [e];simp only [qd];by_cases s0:s<0;rw [ql s0];exact ⟨1,rfl,rfl,fun h=>absurd h (by decide)⟩;by_cases s1:(l.symbols.length:Int)<=s;rw [qg s0,ql s1];exact ⟨1,rfl,rfl,fun h=>absurd h (by decide)⟩;have f:kge fuel t 4096=some (kd4 4096 t.size):=(kut fuel t 4096 (by omega) (kan (by omega))).2;have g:kbj t 4096=some (decide (t.size<=4096)):=kq3 t 4096 (by omega);have hs:kfi fuel t 32=some (decide (t.depth<=32)):=kxh fuel t 32 (by omega) (by omega) (qaz (kan (by omega)));have hd:=k50 fuel t (by omega) (qaz (kan (by omega)));have a:decide (kd4 4096 t.size<0)=false:=qg (by unfold kd4;split <;> omega);rw [qg s0,qg s1];simp only [qd,qa,f,g,hs,hd,a,ql (show t.size<=4096 by omega),qbv];have b:(!(decide (t.depth<=32)))=decide ((32:Int)<(t.depth:Int)):=by rw [<- decide_not];exact decide_eq_decide.2 (by omega)
  rw [b];cases decide ((32:Int)<(t.depth:Int)) with
  | true=>exact ⟨2,rfl,rfl,fun h=>absurd h (by decide)⟩
  | false=>
   obtain ⟨d,d1,d2⟩:=kum fuel l s t (by omega) (qaz (kan (by omega))) (fun x hx hk=>by rw [((c3 rfl).good x hx).noargs hk];rfl);simp only [qd,d1,d2,qa];exact ⟨d,rfl,rfl,fun h=>⟨c3 rfl,by rw [h]⟩⟩
 ·rw [show (c != 0)=true by rw [qbg];exact hc];exact ⟨c,rfl,rfl,fun h=>absurd h hc⟩
def mk (s:List Bool) (i:Nat):Bool:=s.getD i false
def hd:List UInt8->Int
 | []=>0
 | c::_=>(c.toNat:Int)
theorem kvp (g:Tm->Int) (r:Tm->Option (List Int)):∀ (xs:List Tm) (acc:List Int),acc.length+Tm.sizeL xs<=1000000->(∀ x∈xs,r x=some (x.pre g))->xs.foldlM (fun s x=>Option.bind (r x) fun v=>app 8 s v) acc=some (acc++Tm.preL g xs)
 | [],acc,_,_=>by simp [Tm.preL]
 | x::xs,acc,hl,h=>by have hs:Tm.sizeL (x::xs)=x.size+Tm.sizeL xs:=rfl;rw [qb3,h x (qv ..),qa,ket (by rw [Tm.pre_length];omega)];have:=kvp g r xs (acc++x.pre g) (by rw [qy,Tm.pre_length];omega) fun y hy=>h y (qh _ hy);show List.foldlM _ (acc++x.pre g) xs=_;rw [this,qbo];rfl
theorem kuz:∀ (n:Nat) (t:Tm),t.size<=n->t.size<=1000->kbt n t=some t.rules
 | 0,t,h,_=>by have:=Tm.size_pos t;omega
 | n+1,t,h,hl=>by
  show ken (kbt n) t=_;have a:=args_len t;have b:=kfo t;unfold ken;rw [kin (step:=kee t (kbt n)) t.args (fun s x=>Option.bind (kbt n x) fun v=>app 8 s v) (fun i s=>(i,s)) (by omega) (fun i x s hx=>by
   have hi:=kbb hx;simp only [kee,kdx hi,qe,kag,hx,qa,kdk hi (show t.args.length<=9223372036854775807 by omega)];cases kbt n x with
   | none=>rfl
   | some v=>simp only [qa];cases app 8 s v <;> rfl) (fun s=>by simp only [kee,kcz,qd])]
  rw [kvp Tm.rule _ t.args _ (by rw [qah];omega) fun x hx=>kuz n x (by have:=kbm hx;omega) (by have:=kbm hx;omega)];show some _=some (t.pre Tm.rule);rw [kqt];rfl
theorem krw:∀ (n:Nat) (t:Tm),t.size<=n->t.size<=1000->ka7 n t=some t.arities
 | 0,t,h,_=>by have:=Tm.size_pos t;omega
 | n+1,t,h,hl=>by
  show kdt (ka7 n) t=_;have a:=args_len t;have b:=kfo t;unfold kdt;rw [kin (step:=kdp t (ka7 n)) t.args (fun s x=>Option.bind (ka7 n x) fun v=>app 8 s v) (fun i s=>(i,s)) (by omega) (fun i x s hx=>by
   have hi:=kbb hx;simp only [kdp,kdx hi,qe,kag,hx,qa,kdk hi (show t.args.length<=9223372036854775807 by omega)];cases ka7 n x with
   | none=>rfl
   | some v=>simp only [qa];cases app 8 s v <;> rfl) (fun s=>by simp only [kdp,kcz,qd])]
  rw [kvp Tm.nargs _ t.args _ (by rw [qah];omega) fun x hx=>krw n x (by have:=kbm hx;omega) (by have:=kbm hx;omega)];show some _=some (t.pre Tm.nargs);rw [kqt];rfl
theorem ksx:∀ (n:Nat) (t:Tm),t.size<=n->t.size<=1000->ka5 n t=some (t.size:Int)
 | 0,t,h,_=>by have:=Tm.size_pos t;omega
 | n+1,t,h,hl=>by show keu (ka5 n) t=_;have a:=args_len t;have b:=kfo t;unfold keu;rw [kin (step:=kem t (ka5 n)) t.args (fun s x=>Option.bind (ka5 n x) fun v=>some (w64 (s+v))) (fun i s=>(s,i)) (by omega) (fun i x s hx=>by have hi:=kbb hx;simp only [kem,kdx hi,qe,kag,hx,qa,kdk hi (show t.args.length<=9223372036854775807 by omega)];cases ka5 n x <;> rfl) (fun s=>by simp only [kem,kcz,qd])];have:=ku3 (ka5 n) t.args 1 (by omega) fun x hx=>ksx n x (by have:=kbm hx;omega) (by have:=kbm hx;omega);rw [show (1:Int)=((1:Nat):Int) from rfl,this,qa];congr 2;omega
theorem k7a (x y:List Int) (hl:x.length=y.length) (hx:x.length<=1000000):kce x y=some (lexC x y):=by
 unfold kce;have h:=kh5 (kb1 x y) x.length (fun i=>(i:Int)) (fun i=>lexO (x.drop i) (y.drop i)) (fun i hi=>by
  have hy:i<y.length:=by omega
  simp only [kb1,kdx hi,kdx hy,qe,kag,qb hi,qb hy,qa,kdk hi (show x.length<=9223372036854775807 by omega),qao hi,qao hy,lexO];by_cases h1:x[i]<y[i];rw [ql h1,qo h1];exact .inr rfl
  ·rw [qg h1,qi h1];by_cases a:y[i]<x[i];rw [ql a,qo a];exact .inr rfl
   ·rw [qg a,qi a];exact .inl ⟨rfl,rfl⟩) (by
  simp only [kb1,kcz,qd,List.drop_length,lexO,qa])
 have b:kab (kb1 x y) fuel 0=some (lexO x y):=by simpa using h
 rw [b,qa,<- k1d];cases lexO x y with
 | inr c=>rfl
 | inl u=>
  simp only [qan];unfold kd2;have e1:decide ((x.length:Int)<(y.length:Int))=false:=qg (by omega);have e2:decide ((y.length:Int)<(x.length:Int))=false:=qg (by omega);simp [e1,e2,hl]
theorem kaio (a b:Tm) (ha:a.size<=1000) (d:b.size<=1000):kej a b=some (cmpT a b):=by
 unfold kej cmpT;rw [ksx fuel a (qaz (kan (by omega))) ha,ksx fuel b (qaz (kan (by omega))) d];simp only [qa,kd2];by_cases h1:a.size<b.size;rw [qo h1,ql (show (a.size:Int)<(b.size:Int) by omega)];rfl;rw [qi h1,qg (show ¬ (a.size:Int)<(b.size:Int) by omega)];by_cases e:b.size<a.size;rw [qo e,ql (show (b.size:Int)<(a.size:Int) by omega)];rfl;rw [qi e,qg (show ¬ (b.size:Int)<(a.size:Int) by omega)];simp only [qd,qa,show ((0:Int) != 0)=false from rfl];rw [kuz fuel a (qaz (kan (by omega))) ha,kuz fuel b (qaz (kan (by omega))) d];simp only [qa];rw [k7a a.rules b.rules (by rw [Tm.rules_length,Tm.rules_length];omega) (by rw [Tm.rules_length];omega),qa];by_cases c:lexC a.rules b.rules=0;rw [qi (by simpa using c),c,show ((0:Int) != 0)=false from rfl,qd];rw [krw fuel a (qaz (kan (by omega))) ha,krw fuel b (qaz (kan (by omega))) d];simp only [qa];rw [k7a a.arities b.arities (by rw [Tm.arities_length,Tm.arities_length];omega) (by rw [Tm.arities_length];omega)];rfl
 ·rw [qo c,show (lexC a.rules b.rules != 0)=true by rw [qbg];exact c];rfl
theorem k6o {α β:Type} {x:Option α} {k:α->Option β} {P:β->Prop} (h:Ev x fun _=>True) (a:∀ v,x=some v->Ev (k v) P):Ev (Option.bind x k) P:=by obtain ⟨v,e,_⟩:=h;rw [e];exact a v e
theorem kwo {β:Type} {step:Int->Option (Int ⊕ (Unit ⊕ β))} {P:Nat->Prop} {B:β->Prop} (n:Nat) (hn:n<=9223372036854775807) (hs:∀ i:Nat,i<n->(∀ k,k<i->P k)->Ev (step (i:Int)) (Sum.elim (fun s=>s=w64 ((i:Int)+1)/\P i) (Sum.elim (fun _=>False) B))) (d:step (n:Int)=some (.inr (.inl ()))):Ev (kab step fuel 0) (Sum.elim (fun _=>∀ i,i<n->P i) B):=
 kmb n (fun i s=>s=(i:Int)/\∀ k,k<i->P k) (by omega) ⟨rfl,fun k h=>by omega⟩ (fun i s hi a=>by
  obtain ⟨rfl,a⟩:=a;refine Ev.mono (hs i hi a) fun r h=>?_;cases r with
  | inl s=>exact ⟨(show s=w64 ((i:Int)+1) from h.1).trans (kai _),fun k hk=>by
    by_cases c:k=i;subst c;exact h.2
    ·exact a k (by omega)⟩
  | inr b=>
   cases b with
   | inl u=>exact h.elim
   | inr b=>exact h) fun s a=>by
  obtain ⟨rfl,a⟩:=a;exact ⟨_,d, .inl (),rfl,a⟩
namespace Dk
mutual
def nodes:Dk->Nat
 | .mk _ _ l=>nodesL l+1
def nodesL:List Dk->Nat
 | []=>0
 | x::l=>x.nodes+nodesL l
end
theorem nodes_pos (x:Dk):1<=x.nodes:=by cases x;simp only [nodes];omega
theorem nodes_eq (x:Dk):x.nodes=nodesL x.args+1:=by cases x;rfl
theorem nodesL_take {l:List Dk} {i:Nat} (h:i<l.length):nodesL (l.take (i+1))=nodesL (l.take i)+l[i].nodes:=by
 induction l generalizing i with
 | nil=>cases h
 | cons x l ih=>
  cases i with
  | zero=>simp [nodesL]
  | succ i=>simp only [List.take_succ_cons,nodesL,List.getElem_cons_succ];rw [ih (by simpa using h)];omega
theorem nodesL_take_le (l:List Dk) (i:Nat):nodesL (l.take i)<=nodesL l:=by
 induction l generalizing i with
 | nil=>simp [nodesL]
 | cons x l ih=>
  cases i with
  | zero=>simp [nodesL]
  | succ i=>simp only [List.take_succ_cons,nodesL];have:=ih i;omega
theorem k9k {l:List Dk} {x:Dk} (h:x∈l):x.nodes<=nodesL l:=by
 induction l with
 | nil=>cases h
 | cons y l ih=>
  simp only [nodesL];rcases qae.1 h with rfl | h;omega
  ·have:=ih h;omega
theorem kyv (l:List Dk):l.length<=nodesL l:=by
 induction l with
 | nil=>simp [nodesL]
 | cons x l ih=>simp only [qag,nodesL];have:=x.nodes_pos;omega
theorem take_nodesL {l:List Dk} {i:Nat} (h:i<=l.length):i<=nodesL (l.take i):=by have:=kyv (l.take i);rw [qad] at this;omega
theorem args_nodes {x y:Dk} (h:y∈x.args):y.nodes<x.nodes:=by have:=k9k h;rw [nodes_eq x];omega
theorem args_len (x:Dk):x.args.length<x.nodes:=by have:=kyv x.args;rw [nodes_eq x];omega
end Dk
theorem k2c:∀ (N m:Nat) (x:Dk),m<N->m<=1000->kc9 N x (m:Int)=some ((min x.nodes (m+1):Nat):Int)
 | 0,_,_,h,_=>by omega
 | N+1,m,x,h,hm=>by
  refine Ev.eq ?_;show Ev (kei (kc9 N) x (m:Int)) _;unfold kei;refine kk6 (Ev.mono (kaej (kfs x (m:Int) (kc9 N)) (fun v=>v=((min x.nodes (m+1):Nat):Int)) (fun s=>∃ i:Nat,s.2=(i:Int)/\i<=x.args.length/\s.1=((min (1+Dk.nodesL (x.args.take i)) (m+1):Nat):Int)) (fun s=>m+1 - s.1.toNat) (by show m+1 - _<_;omega) ⟨0,rfl,qak _,by show (1:Int)=_;rw [List.take_zero];simp only [Dk.nodesL];omega⟩ fun s d=>?_) fun v hv=>⟨_,rfl,hv⟩);obtain ⟨n,j⟩:=s;obtain ⟨i,rfl,hi,hn⟩:=d;simp only at hn;subst hn;have hx:=Dk.nodes_eq x;unfold kfs;by_cases a:i<x.args.length
  ·have b:=Dk.nodesL_take a;have f:=Dk.nodesL_take_le x.args (i+1);have c:=Dk.nodes_pos x.args[i];have g:=Dk.take_nodesL (qaz a);simp only [kdr a,qe,qa,kag,qb a];refine keq (fun hc=>?_) fun hc=>?_
   ·have hc:=qbd hc;have k:1+Dk.nodesL (x.args.take i)<=m:=(by omega);have e:w64 ((m:Int) - ((min (1+Dk.nodesL (x.args.take i)) (m+1):Nat):Int))=((m - (1+Dk.nodesL (x.args.take i)):Nat):Int):=(by rw [kc0];omega);rw [e,k2c N _ _ (by omega) (by omega),qa];refine ⟨_,rfl,⟨i+1,kai _,a,?_⟩,?_⟩;show w64 _=_;rw [kc0,b];omega
    ·show m+1 - (w64 _).toNat<_;rw [kc0];omega
   ·have hc:=qbb hc;exact ⟨_,rfl,by show ((_:Nat):Int)=_;omega⟩
  ·have a:i=x.args.length:=(by omega);subst a;rw [qbm];simp only [kcp,qd,qa];exact ⟨_,rfl,by show ((_:Nat):Int)=_;omega⟩
structure k54 (d:Saa):Prop where
 holes:d.ya.length<=8
 nodes:d.yc.nodes<=40
 terms:∀ h∈d.ya,h.yb.length<=70
 sizes:∀ h∈d.ya,∀ t∈h.yb,t.size<=20
theorem kac4 (d:Saa):Ev (kd5 d) fun b=>b=true->k54 d:=by
 unfold kd5;by_cases g:8<d.ya.length;rw [ql (show (8:Int)<(d.ya.length:Int) by omega)];exact ⟨false,rfl,fun h=>by cases h⟩;rw [qg (show ¬ (8:Int)<(d.ya.length:Int) by omega),qd,show (40:Int)=((40:Nat):Int) from rfl,k2c fuel 40 _ (by decide) (by decide),qa,qa];refine keq (fun _=>⟨false,rfl,fun h=>by cases h⟩) fun hn=>?_;have hn:d.yc.nodes<=40:=by have:=qbb hn;omega
 refine kk6 (Ev.mono (kwo (P:=fun i=>∀ h,d.ya[i]?=some h->h.yb.length<=70/\∀ t∈h.yb,t.size<=20) (B:=fun b=>b=false) d.ya.length (by omega) (fun i hi _=>?_) (by simp only [kft,kcp,qd])) fun q c=>k5y (fun _ e=>?_) fun b e=>?_)
 ·have e1:d.ya[i]?=some d.ya[i]:=qb hi;simp only [kft,kdr hi,qe,kag,e1,qa];refine keq (fun _=>⟨_,rfl,rfl⟩) fun a=>?_;have a:d.ya[i].yb.length<=70:=by have:=qbb a;omega
  refine kk6 (Ev.mono (kwo (P:=fun k=>∀ t,d.ya[i].yb[k]?=some t->t.size<=20) (B:=fun b=>b=false) d.ya[i].yb.length (by omega) (fun k hk _=>?_) (by simp only [kfv,kag,e1,qa,kcp,qd])) fun q c=>k5y (fun _ e=>?_) fun b e=>?_);simp only [kfv,kag,e1,qa,kdr hk,qe,qb hk];rw [show (20:Int)=((20:Nat):Int) from rfl,kq3 _ 20 (by decide),qa];refine keq (fun _=>⟨_,rfl,rfl⟩) fun f=>⟨_,rfl,rfl,fun t ht=>?_⟩;cases ht;exact qbd (by simpa using f);subst e;refine ⟨_,rfl,rfl,fun h hh=>?_⟩;cases hh;exact ⟨a,fun t ht=>by obtain ⟨k,hk,rfl⟩:=qaj.1 ht;exact c k hk _ (qb hk)⟩
  ·subst e;exact ⟨_,rfl,c⟩
 ·subst e;have all:∀ h∈d.ya,h.yb.length<=70/\∀ t∈h.yb,t.size<=20:=fun h hh=>by obtain ⟨k,hk,rfl⟩:=qaj.1 hh;exact c k hk _ (qb hk)
  exact ⟨_,rfl,fun _=>⟨by omega,hn,fun h hh=>(all h hh).1,fun h hh=>(all h hh).2⟩⟩
 ·subst e;exact ⟨_,rfl,fun h=>by rw [show b=false from c] at h;cases h⟩
def kih (r:Ru):Nat:=bif r.kind != 3 then 0 else r.args.length
theorem kaee (r:Ru):kfj r=some (kih r:Int):=by unfold kfj kih;cases r.kind != 3 <;> rfl
theorem k4y (r:Ru):kih r<=r.args.length:=by unfold kih;cases r.kind != 3 <;> simp
inductive Fits (l:La):Int->Tm->Prop
 | mk {s:Int} {t:Tm} {k:Nat} {r:Ru} (hk:t.rule=(k:Int)) (h:l.rules[k]?=some r) (hs:r.symbol=s) (hl:t.args.length=kih r) (ha:∀ (i:Nat) (a:Tm) (b:Int),t.args[i]?=some a->r.args[i]?=some b->Fits l b a):Fits l s t
theorem k4i (l:La):∀ (n:Nat) (t:Tm) (s:Int),t.size<=n->t.size<=1000->Ev (kcs n l s t) fun c=>c=0↔Fits l s t
 | 0,t,_,h,_=>by have:=t.size_pos;omega
 | n+1,t,s,h,E=>by
  show Ev (ke1 (kcs n) l s t) _;unfold ke1;have w:=args_len t;have no:∀ {c:Int},c≠0->¬ Fits l s t->(c=0↔Fits l s t):=fun h1 d=>⟨fun h=>absurd h h1,fun h=>absurd h d⟩;by_cases f:0<=t.rule/\t.rule<(l.rules.length:Int)
  ·obtain ⟨g,v⟩:=f;obtain ⟨k,j⟩:=qbp g;have hk:k<l.rules.length:=(by omega);have e1:l.rules[k]?=some l.rules[k]:=qb hk;have inv:Fits l s t->l.rules[k].symbol=s/\t.args.length=kih l.rules[k]/\∀ (i:Nat) (a:Tm) (b:Int),t.args[i]?=some a->l.rules[k].args[i]?=some b->Fits l b a:=fun h=>by
    cases h with
    | mk h1 d x y z=>
     rename_i k' r;obtain rfl:k'=k:=(by omega);rw [e1] at d;cases d;exact ⟨x,y,z⟩
   rw [j,qg (show ¬ ((k:Nat):Int)<0 by omega),qd,qg (show ¬ (l.rules.length:Int)<=((k:Nat):Int) by omega),qa,qd,kag,e1,qa];refine keq (fun hs=>⟨_,rfl,no (by decide) fun h=>qbg.1 hs (inv h).1⟩) fun hs=>?_;have hs:=qa0.1 hs;rw [kaee,qa];refine keq (fun hl=>⟨_,rfl,no (by decide) fun h=>by have:=qbg.1 hl;have:=(inv h).2.1;omega⟩) fun hl=>?_;have hl:t.args.length=kih l.rules[k]:=(by have:=qa0.1 hl;omega);have A:=k4y l.rules[k];refine kk6 (Ev.mono (kwo (P:=fun i=>∀ a b,t.args[i]?=some a->l.rules[k].args[i]?=some b->Fits l b a) (B:=fun e=>e≠0/\¬ Fits l s t) t.args.length (by omega) (fun i hi _=>?_) (by simp only [kcl,kcp,qd])) fun q m=>k5y (fun _ e=>?_) fun e C=>?_);have o:i<l.rules[k].args.length:=(by omega);have e2:l.rules[k].args[i]?=some l.rules[k].args[i]:=qb o;have e3:t.args[i]?=some t.args[i]:=qb hi;simp only [kcl,kdr hi,qe,kag,e2,e3,qa];have D:=kbm (q9 hi);obtain ⟨c,h1,d⟩:=k4i l n t.args[i] l.rules[k].args[i] (by omega) (by omega);rw [h1,qa];refine keq (fun hc=>⟨_,rfl,qbg.1 hc,fun h=>qbg.1 hc (d.2 ((inv h).2.2 i _ _ e3 e2))⟩) fun hc=>⟨_,rfl,rfl,fun a b ha p=>?_⟩;cases ha;cases p;exact d.1 (qa0.1 hc);subst e;exact ⟨_,rfl,fun _ => .mk j e1 hs hl fun i a b ha p=>m i (kbb ha) a b ha p,fun _=>rfl⟩
   ·subst C;exact ⟨_,rfl,no m.1 m.2⟩
  ·have u:¬ Fits l s t:=fun h=>by
    cases h with
    | mk h1 d _ _ _=>have:=kbb d;exact f ⟨by omega,by omega⟩
   have e:(bif decide (t.rule<0) then some true else some (decide ((l.rules.length:Int)<=t.rule)):Option Bool)=some true:=by
    by_cases h0:t.rule<0;rw [ql h0];rfl
    ·rw [qg h0,ql (show (l.rules.length:Int)<=t.rule by omega)];rfl
   rw [e,qa];exact ⟨_,rfl,no (by decide) u⟩
theorem kafy (a b:Nat):imax (a:Int) (b:Int)=((max a b:Nat):Int):=by unfold imax;split <;> omega
theorem kac8 (t:Tm):t.depth=Tm.depthL t.args+1:=by cases t;rfl
theorem kvf:∀ (n:Nat) (t:Tm),t.size<=n->t.size<=1000->kbc n t=some (t.depth:Int)
 | 0,t,h,_=>by have:=t.size_pos;omega
 | n+1,t,h,f=>by
  refine Ev.eq ?_;show Ev (kdg (kbc n) t) _;unfold kdg;have c:=args_len t;have a:=t.depth_le_size;rw [kac8 t] at a ⊢;refine kk6 (Ev.mono (kmb (Q:=fun v=>v=(Tm.depthL t.args:Int)) t.args.length (fun i s=>s=((Tm.depthL (t.args.take i):Int),(i:Int))) (by omega) rfl (fun i s hi e=>?_) fun s e=>?_) fun v hv=>?_);subst e;have d:=kbm (q9 hi);simp only [kcd,kdr hi,qe,kag,qb hi,qa];rw [kvf n t.args[i] (by omega) (by omega),qa,kafy,kai _,<- Tm.depthL_take_succ hi];exact ⟨_,rfl,rfl⟩;subst e;exact kr4 (Tm.depthL t.args:Int) (by simp only [kcd,kcp,qd];rw [qbm]) rfl
  ·subst hv;exact ⟨_,rfl,by rw [kc0];omega⟩
structure OkT (l:La) (s:Int) (t:Tm):Prop where
 sym0:0<=s
 sym1:s<(l.symbols.length:Int)
 depth:t.depth<=32
 fits:Fits l s t
theorem k2o {l:La} (hc:kch l=some 0) (s:Int) (t:Tm) (b:t.size<=1000):Ev (kg9 l s t) fun c=>c=0↔OkT l s t:=by
 unfold kg9;rw [hc,qa,show ((0:Int) != 0)=false from rfl,qd];by_cases a:0<=s/\s<(l.symbols.length:Int);obtain ⟨h0,h1⟩:=a;rw [qg (show ¬ s<0 by omega),qd,qg (show ¬ (l.symbols.length:Int)<=s by omega),qa,qd];rw [show (4096:Int)=((4096:Nat):Int) from rfl,kq3 t 4096 (by decide),qa,ql (show t.size<=4096 by omega),qbv,qd,kvf fuel t (qaz (kan (by omega))) b,qa,qa];refine keq (fun hd=>⟨_,rfl,fun h=>absurd h (by decide),fun h=>absurd h.depth (by have:=qbd hd;omega)⟩) fun hd=>?_;obtain ⟨c,k1,k2⟩:=k4i l fuel t s (qaz (kan (by omega))) b;rw [k1];exact ⟨c,rfl,fun h=>⟨h0,h1,by have:=qbb hd;omega,k2.1 h⟩,fun h=>k2.2 h.fits⟩
 ·have e:(bif decide (s<0) then some true else some (decide ((l.symbols.length:Int)<=s)):Option Bool)=some true:=by
   by_cases h0:s<0;rw [ql h0];rfl
   ·rw [qg h0,ql (show (l.symbols.length:Int)<=s by omega)];rfl
  rw [e,qa];exact ⟨_,rfl,fun h=>absurd h (by decide),fun h=>absurd ⟨h.sym0,h.sym1⟩ a⟩
structure k9q (l:La) (h:Sab):Prop where
 pos:1<=h.yb.length
 few:h.yb.length<=64
 ok:∀ t∈h.yb,OkT l h.yf t
inductive kpp (l:La) (hs:List Sab):Int->Dk->Prop
 | hole {s:Int} {x:Dk} {k:Nat} {h:Sab} (hx:x.hole=(k:Int)+1) (hk:hs[k]?=some h) (ht:0<=s->h.yf=s):kpp l hs s x
 | node {s:Int} {x:Dk} {k:Nat} {r:Ru} (hx:x.hole=0) (hr:x.rule=(k:Int)) (hk:l.rules[k]?=some r) (ht:0<=s->r.symbol=s) (hl:x.args.length=r.args.length) (ha:∀ (i:Nat) (a:Dk) (b:Int),x.args[i]?=some a->r.args[i]?=some b->kpp l hs b a):kpp l hs s x
structure SR (R:Type) where
 add:R->R->R
 mul:R->R->R
 zero:R
 one:R
 add_assoc:∀ a b c,add (add a b) c=add a (add b c)
 add_comm:∀ a b,add a b=add b a
 zero_add:∀ a,add zero a=a
 mul_assoc:∀ a b c,mul (mul a b) c=mul a (mul b c)
 mul_comm:∀ a b,mul a b=mul b a
 mul_add:∀ a b c,mul a (add b c)=add (mul a b) (mul a c)
 mul_zero:∀ a,mul a zero=zero
 mul_one:∀ a,mul a one=a
namespace SR
variable {R:Type} (S:SR R)
theorem add_zero (a:R):S.add a S.zero=a:=by rw [S.add_comm,S.zero_add]
theorem zero_mul (a:R):S.mul S.zero a=S.zero:=by rw [S.mul_comm,S.mul_zero]
def sum (f:Nat->R):Nat->R
 | 0=>S.zero
 | n+1=>S.add (sum f n) (f n)
theorem sum_congr {f g:Nat->R}:∀ (n:Nat),(∀ i,i<n->f i=g i)->S.sum f n=S.sum g n
 | 0,_=>rfl
 | n+1,h=>by rw [sum,sum,sum_congr n fun i hi=>h i (by omega),h n (by omega)]
theorem sum_zero {f:Nat->R}:∀ (n:Nat),(∀ i,i<n->f i=S.zero)->S.sum f n=S.zero
 | 0,_=>rfl
 | n+1,h=>by rw [sum,sum_zero n fun i hi=>h i (by omega),h n (by omega),S.zero_add]
def rr (V:Int->Nat->R):List Int->Nat->R
 | [],n=>if n=0 then S.one else S.zero
 | a::ys,n=>S.sum (fun k=>S.mul (V a k) (rr V ys (n - k))) (n+1)
theorem rr_congr {V V':Int->Nat->R}:∀ (ys:List Int) (n:Nat),(∀ a∈ys,∀ k,k<=n->V a k=V' a k)->S.rr V ys n=S.rr V' ys n
 | [],n,_=>rfl
 | a::ys,n,h=>by rw [rr,rr];refine S.sum_congr _ fun k hk=>?_;rw [h a (qv ..) k (by omega),rr_congr ys (n - k) fun b c j d=>h b (qh _ c) j (by omega)]
theorem rr_small {V:Int->Nat->R} (h0:∀ a,V a 0=S.zero):∀ (ys:List Int) (n:Nat),n<ys.length->S.rr V ys n=S.zero
 | [],n,h=>by simp at h
 | a::ys,n,h=>by
  rw [qag] at h;rw [rr];refine S.sum_zero _ fun k hk=>?_;by_cases h1:k=0;rw [h1,h0,S.zero_mul]
  ·rw [rr_small h0 ys (n - k) (by omega),S.mul_zero]
theorem rr_one (V:Int->Nat->R) (a:Int) (n:Nat):S.rr V [a] n=S.mul (V a n) S.one:=by rw [rr,sum,S.sum_zero n fun i hi=>by rw [rr,qi (by omega),S.mul_zero],S.zero_add,qb8,rr,qo rfl]
theorem sum_shift (f:Nat->R):∀ n,S.sum f (n+1)=S.add (f 0) (S.sum (fun i=>f (i+1)) n)
 | 0=>by rw [sum,sum,sum,S.zero_add,S.add_zero]
 | n+1=>by rw [sum,sum_shift f n,sum,S.add_assoc]
theorem sum_trunc {f:Nat->R} {m:Nat}:∀ n,m<=n->(∀ i,m<=i->i<n->f i=S.zero)->S.sum f n=S.sum f m
 | 0,h,_=>by rw [show m=0 by omega]
 | n+1,h,a=>by
  by_cases hm:m=n+1;rw [hm]
  ·rw [sum,a n (by omega) (by omega),S.add_zero];exact sum_trunc n (by omega) fun i h1 b=>a i h1 (by omega)
def tab (N:Nat) (sy:Nat->Int) (ar:Nat->List Int) (wt:Nat->R):Nat->Int->Nat->R
 | 0=>fun _ _=>S.zero
 | n+1=>fun s k=>if k=n+1 then S.sum (fun i=>if sy i=s then S.mul (wt i) (S.rr (tab N sy ar wt n) (ar i) n) else S.zero) N else tab N sy ar wt n s k
def val (N:Nat) (sy:Nat->Int) (ar:Nat->List Int) (wt:Nat->R) (s:Int) (k:Nat):R:=S.tab N sy ar wt k s k
theorem tab_eq (N:Nat) (sy:Nat->Int) (ar:Nat->List Int) (wt:Nat->R) (s:Int):∀ (n k:Nat),S.tab N sy ar wt n s k=if k<=n then S.val N sy ar wt s k else S.zero
 | 0,k=>by
  unfold val;by_cases h:k=0;subst h;rw [qo (by omega)]
  ·rw [qi (by omega),tab]
 | n+1,k=>by
  by_cases h:k=n+1;subst h;rw [qo (by omega)];rfl
  ·show (if k=n+1 then _ else S.tab N sy ar wt n s k)=_;rw [qi h,tab_eq N sy ar wt s n k];by_cases a:k<=n;rw [qo a,qo (by omega)]
   ·rw [qi a,qi (by omega)]
theorem val_succ (N:Nat) (sy:Nat->Int) (ar:Nat->List Int) (wt:Nat->R) (s:Int) (n:Nat):S.val N sy ar wt s (n+1)=S.sum (fun i=>if sy i=s then S.mul (wt i) (S.rr (S.val N sy ar wt) (ar i) n) else S.zero) N:=by
 unfold val;show (if n+1=n+1 then _ else _)=_;rw [qo rfl];refine S.sum_congr _ fun i hi=>?_;split
 ·congr 1;exact S.rr_congr _ _ fun a _ k hk=>by rw [S.tab_eq,qo hk];rfl
 ·rfl
end SR
def kagj:Ru:=Ru.mk 0 0 0 ke2 ⟨#[]⟩ []
def kgw (l:La) (k:Nat):Int:=((l.rules[k]?).getD kagj).symbol
def kcu (l:La) (k:Nat):List Int:=((l.rules[k]?).getD kagj).args
def plL (l:La) (s:Int) (n:Nat):List Nat:=(List.range n).filter fun k=>kgw l k == s
theorem k5q (l:La) (s:Int) (n:Nat):plL l s (n+1)=plL l s n++(if (kgw l n == s)=true then [n] else []):=by unfold plL;rw [List.range_succ,List.filter_append];congr 1;cases h:kgw l n == s <;> simp [h]
theorem k1c {l:La} {s:Int} {n k:Nat} (h:k∈plL l s n):k<n/\kgw l k=s:=by unfold plL at h;rw [List.mem_filter,qbq] at h;exact ⟨h.1,by simpa using h.2⟩
theorem k1e (l:La) (s:Int) (n:Nat):(plL l s n).length<=n:=by
 unfold plL;have:=List.length_filter_le (fun k=>kgw l k == s) (List.range n)
 rwa [List.length_range] at this
def natI (k:Nat):Int:=(k:Int)
theorem kn3 (l:La) {k:Nat} (h:k<l.rules.length):∃ y,l.rules[k]?=some y/\y.symbol=kgw l k/\y.args=kcu l k/\y∈l.rules:=
 ⟨l.rules[k],qb h,by unfold kgw;rw [qb h];rfl,by unfold kcu;rw [qb h];rfl,q9 h⟩
theorem app8 {acc:List Int} {v:Int} (h:acc.length<=1000000):app 8 acc [v]=some (acc++[v]):=ket (by rw [qah];omega)
theorem kaf6 (l:La) (s:Int) (h:l.rules.length<=1000000):kjz l s=some ((plL l s l.rules.length).map natI):=by
 unfold kjz;have:=kcc (step:=kh3 l s) l.rules.length (fun i=>((i:Int),(plL l s i).map natI)) ((plL l s l.rules.length).map natI) (fun i hi=>by
  obtain ⟨y,hr,hs,_⟩:=kn3 l hi;have a:=k1e l s i;simp only [kh3,kdx hi,qe,kag,hr,hs,qa,kdk hi (show l.rules.length<=9223372036854775807 by omega),app8 (show ((plL l s i).map natI).length<=1000000 by rw [qt];omega)];rw [k5q];show Option.bind (bif kgw l i == s then _ else _) _=_;cases kgw l i == s with
  | true=>simp only [qe,qa,if_true,List.map_append,qa5,List.map_nil];rfl
  | false=>simp) (by simp only [kh3,kcz,qd])
 have b:kab (kh3 l s) fuel (0,[])=some ((plL l s l.rules.length).map natI):=by simpa [plL] using this
 rw [b,qa]
theorem kak2 (l:La) (s:Int) (h:l.rules.length<=1000000):kjz l s=some ((plL l s l.rules.length).map natI):=kaf6 l s h
def NS:SR Nat:=⟨(·+·),(·*·),0,1,Nat.add_assoc,Nat.add_comm,qb4,Nat.mul_assoc,Nat.mul_comm,Nat.mul_add,Nat.mul_zero,qbk⟩
def en (n:Nat):Int:=((min n 1152921504606846977:Nat):Int)
theorem kagg (n:Nat):0<=en n/\en n<=1152921504606846977:=by unfold en;omega
theorem kahw (a b:Nat):imin (w64 (en a+en b)) 1152921504606846977=en (a+b):=by have h1:=kagg a;have c:=kagg b;rw [kc0];unfold imin en;split <;> omega
theorem kyi (a b:Nat):kg0 (en a) (en b)=some (en (a+b)):=by unfold kg0;rw [kahw]
theorem kaaq (m n:Nat) (hn:0<n) (hm:m<=9223372036854775807:=by omega):quo .i64 (m:Int) (n:Int)=some ((m / n:Nat):Int):=by
 unfold quo;rw [qi (by omega)];have h1:((m:Int).tdiv (n:Int))=((m / n:Nat):Int):=(Int.ofNat_tdiv m n).symm;have a:m / n<=m:=Nat.div_le_self m n;rw [h1];generalize m / n=q at *
 exact qbc some (kc0)
theorem kabd {a b:Nat} (h:min a 1152921504606846977*min b 1152921504606846977<=1152921504606846977):w64 (en a*en b)=((min a 1152921504606846977*min b 1152921504606846977:Nat):Int):=by unfold en;rw [<- Int.natCast_mul];exact kc0
theorem kag6 (a b:Nat):min (min a 1152921504606846977*min b 1152921504606846977) 1152921504606846977=min (a*b) 1152921504606846977:=by
 by_cases ha:a<=1152921504606846977
 ·by_cases c:b<=1152921504606846977;rw [Nat.min_eq_left ha,Nat.min_eq_left c]
  ·rw [Nat.min_eq_left ha,Nat.min_eq_right (show 1152921504606846977<=b by omega)];rcases Nat.eq_zero_or_pos a with h0 | h0;subst h0;simp
   ·have h1:1152921504606846977<=a*1152921504606846977:=Nat.le_mul_of_pos_left _ h0;have d:1152921504606846977<=a*b:=qay (by omega:1152921504606846977<=b) (Nat.le_mul_of_pos_left _ h0);omega
 ·rw [Nat.min_eq_right (by omega:1152921504606846977<=a)];rcases Nat.eq_zero_or_pos b with h0 | h0;subst h0;simp
  ·have e:1<=min b 1152921504606846977:=(by omega);have h1:1152921504606846977<=1152921504606846977*min b 1152921504606846977:=Nat.le_mul_of_pos_right _ e;have d:1152921504606846977<=a*b:=qay (by omega:1152921504606846977<=a) (Nat.le_mul_of_pos_right _ h0);omega
theorem kadr (a b:Nat):kjk (en a) (en b)=some (en (a*b)):=by
 have hc:=kag6 a b;unfold kjk;by_cases h0:0<min a 1152921504606846977
 ·have e0:decide (0<en a)=true:=ql (by unfold en;omega);have f:quo .i64 1152921504606846976 (en a)=some ((1152921504606846976 / min a 1152921504606846977:Nat):Int):=kaaq 1152921504606846976 _ h0;rw [e0,f];simp only [qe,qa];by_cases c:1152921504606846976 / min a 1152921504606846977<min b 1152921504606846977;have e1:decide (((1152921504606846976 / min a 1152921504606846977:Nat):Int)<en b)=true:=ql (by unfold en;omega);rw [e1,qe];have d:=(Nat.div_lt_iff_lt_mul h0).1 c;rw [Nat.mul_comm] at d;unfold en;congr 1;omega
  ·have e1:decide (((1152921504606846976 / min a 1152921504606846977:Nat):Int)<en b)=false:=qg (by unfold en;omega);rw [e1,qd];have d:¬ 1152921504606846976<min b 1152921504606846977*min a 1152921504606846977:=fun h=>c ((Nat.div_lt_iff_lt_mul h0).2 h);rw [Nat.mul_comm] at d;rw [kabd (by omega)];unfold en;congr 1;omega
 ·have e0:decide (0<en a)=false:=qg (by unfold en;omega);rw [e0];simp only [qd,qa];have e:min a 1152921504606846977=0:=by omega
  rw [kabd (by rw [e,Nat.zero_mul];omega)];unfold en;rw [<- hc,e,Nat.zero_mul];rfl
def keyB (ys:List Int) (k:Int):BA:=toBA (wu8 k::ys.map wu8)
theorem k1k:∀ (xs:List Int) (r:BA),(xs.foldl (fun r n=>r.push (UInt8.ofNat n.toNat)) r).data.toList=r.data.toList++xs.map fun n=>UInt8.ofNat n.toNat
 | [],r=>by simp
 | x::xs,r=>by
  rw [List.foldl_cons,k1k xs];have:(r.push (UInt8.ofNat x.toNat)).data.toList=r.data.toList++[UInt8.ofNat x.toNat]:=by cases r;simp [ByteArray.push]
  rw [this,qbo];rfl
def Byt (n:Int):Prop:=0<=n/\n<256
theorem kajk {a b:Int} (ha:Byt a) (c:Byt b) (h:UInt8.ofNat a.toNat=UInt8.ofNat b.toNat):a=b:=by
 unfold Byt at ha c;have h1:(UInt8.ofNat a.toNat).toNat=(UInt8.ofNat b.toNat).toNat:=by rw [h]
 rw [UInt8.toNat_ofNat',UInt8.toNat_ofNat'] at h1;omega
theorem k2w:∀ {xs ys:List Int},(∀ x∈xs,Byt x)->(∀ y∈ys,Byt y)->(xs.map fun n=>UInt8.ofNat n.toNat)=(ys.map fun n=>UInt8.ofNat n.toNat)->xs=ys
 | [],[],_,_,_=>rfl
 | [],y::ys,_,_,h=>by simp at h
 | x::xs,[],_,_,h=>by simp at h
 | x::xs,y::ys,hx,hy,h=>by rw [qa5,qa5] at h;injection h with h1 b;rw [kajk (hx x (qv ..)) (hy y (qv ..)) h1,k2w (fun z a=>hx z (qh _ a)) (fun z a=>hy z (qh _ a)) b]
theorem k4a {n:Int} (h:Byt n):wu8 n=n:=by unfold Byt at h;unfold wu8 IntKind.wrap;simp [IntKind.signed,IntKind.bits];omega
theorem kaeg {ys zs:List Int} {k j:Int} (hy:∀ y∈ys,Byt y) (d:∀ z∈zs,Byt z) (hk:Byt k) (f:Byt j) (h:keyB ys k=keyB zs j):ys=zs/\k=j:=by
 have e:∀ {l:List Int},(∀ x∈l,Byt x)->l.map wu8=l:=fun {l} hl=>by
  induction l with
  | nil=>rfl
  | cons a l ih=>rw [qa5,k4a (hl a (qv ..)),ih fun x hx=>hl x (qh _ hx)]
 unfold keyB at h;rw [e hy,e d,k4a hk,k4a f] at h;have c:=qbc (fun b:BA=>b.data.toList) h;unfold toBA at c;simp only [k1k] at c;have:=k2w (xs:=k::ys) (ys:=j::zs) (fun x hx=>by
  rcases qae.1 hx with rfl | hx;exact hk
  ·exact hy x hx) (fun x hx=>by
  rcases qae.1 hx with rfl | hx;exact f
  ·exact d x hx) (by simpa using c)
 injection this with g i;exact ⟨i,g⟩
theorem kaln (ys:List Int) (k:Int) (hl:ys.length<=1000000):kks ys k=some (keyB ys k):=by
 unfold kks;rw [kin (step:=kif ys) ys (fun (s:List Int) x=>app 1 s [wu8 x]) (fun i s=>(i,s)) (by omega) (fun i x s hx=>by have hi:=kbb hx;simp only [kif,kdx hi,qe,kag,hx,qa,kdk hi (show ys.length<=9223372036854775807 by omega)];cases app 1 s [wu8 x] <;> rfl) (fun s=>by simp only [kif,kcz,qd])];have gen:∀ (ys:List Int) (s:List Int),s.length+ys.length<=2000000->ys.foldlM (fun (s:List Int) x=>app 1 s [wu8 x]) s=some (s++ys.map wu8):=fun ys=>by
  induction ys with
  | nil=>intro s _;simp
  | cons y ys ih=>
   intro s hs;rw [qag] at hs;have ha:app 1 s [wu8 y]=some (s++[wu8 y]):=ket (by rw [qah];omega);rw [qb3,ha];have:=ih (s++[wu8 y]) (by rw [qy,qah];omega);show List.foldlM _ (s++[wu8 y]) ys=_;rw [this,qbo];rfl
 rw [gen ys [wu8 k] (by rw [qah];omega)];rfl
def KI (V:Int->Nat->Nat) (m:List (BA×Int)):Prop:=∀ (ys:List Int) (k:Nat),(∀ y∈ys,Byt y)->k<256->(∀ z,mget m (keyB ys (k:Int)) z=en (NS.rr V ys k))\/∀ z,mget m (keyB ys (k:Int)) z=z
theorem KI.nil (V:Int->Nat->Nat):KI V []:=fun ys k _ _ => .inr fun z=>rfl
theorem kafc {m:List (BA×Int)} {s:BA} (h:mhas m s=true):mget m s 0=mget m s 1:=by
 unfold mhas at h;unfold mget;cases a:ke6 s m 0 with
 | none=>rw [a] at h;cases h
 | some p=>rfl
theorem KI.has {V:Int->Nat->Nat} {m:List (BA×Int)} (h:KI V m) {ys:List Int} {k:Nat} (hy:∀ y∈ys,Byt y) (hk:k<256) (hh:mhas m (keyB ys (k:Int))=true):mget m (keyB ys (k:Int)) 0=en (NS.rr V ys k):=by
 rcases h ys k hy hk with h1 | h1;exact h1 0
 ·have:=kafc hh;rw [h1,h1] at this;cases this
theorem KI.put {V:Int->Nat->Nat} {m:List (BA×Int)} (h:KI V m) {ys:List Int} {k:Nat} (hy:∀ y∈ys,Byt y) (hk:k<256):KI V (mput m (keyB ys (k:Int)) (en (NS.rr V ys k))):=fun zs j c d=>by
 by_cases a:(keyB zs (j:Int)).toList == (keyB ys (k:Int)).toList
 ·rw [kia] at a;have b:keyB zs (j:Int)=keyB ys (k:Int):=by
   have:=MapKept.bytes_beq (keyB zs (j:Int)) (keyB ys (k:Int))
   first
    | exact eq_of_beq a
    | simpa [this] using a
  obtain ⟨e1,e2⟩:=kaeg c hy (by unfold Byt;omega) (by unfold Byt;omega) b;have e3:j=k:=by omega
  subst e1 e3;left;intro z;rw [ko2];simp
 ·rcases h zs j c d with h1 | h1;left;intro z;rw [ko2];simp [a,h1]
  ·right;intro z;rw [ko2];simp [a,h1]
theorem kv7 {σ β:Type} {step:σ->Option (σ ⊕ β)} (n:Nat) (hn:n<18446744073709551616) (P:Nat->σ->Prop) (Q:β->Prop) (hs:∀ i s,i<n->P i s->∃ s',step s=some (.inl s')/\P (i+1) s') (d:∀ s,P n s->∃ b,step s=some (.inr b)/\Q b) (s:σ) (h0:P 0 s):∃ b,kab step fuel s=some b/\Q b:=by
 have key:∀ (k i:Nat) (s:σ),i<=n->n - i<k->P i s->∃ b,kab step k s=some b/\Q b:=by
  intro k
  induction k with
  | zero=>intro i s _ h;omega
  | succ k ih=>
   intro i s hi hk hp;by_cases h:i=n;subst h;obtain ⟨b,h1,a⟩:=d s hp;refine ⟨b,?_,a⟩;unfold kab;rw [h1]
   ·obtain ⟨s',h1,a⟩:=hs i s (by omega) hp;obtain ⟨b,c,e⟩:=ih (i+1) s' (by omega) (by omega) a;refine ⟨b,?_,e⟩;unfold kab;rw [h1];cases k with
    | zero=>cases c
    | succ k=>exact c
 exact key fuel 0 s (by omega) (kan (by omega)) h0
def VN (l:La):Int->Nat->Nat:=NS.val l.rules.length (kgw l) (kcu l) (fun _=>1)
def inR (l:La) (ys:List Int):Prop:=∀ y∈ys,0<=y/\y<(l.symbols.length:Int)
theorem inR.byt {l:La} (a:l.symbols.length<=16) {ys:List Int} (h:inR l ys):∀ y∈ys,Byt y:=fun y hy=>by have:=h y hy;unfold Byt;omega
theorem kae1 (a:Int) (ys:List Int):cutL (a::ys) 0 1=some [a]:=by unfold cutL;rw [qo ⟨by omega,by omega,by rw [qag];omega⟩];rfl
theorem ks1 {α:Type} (a:α) (ys:List α):cutL (a::ys) 1 (((a::ys).length:Nat):Int)=some ys:=by unfold cutL;rw [qo ⟨by omega,by rw [qag];omega,by omega⟩,qa8,qbm];rfl
theorem kxt {l:La} (f:l.symbols.length<=16) {r14:La->List (BA×Int)->Int->Int->Option (Int×List (BA×Int))} {K:Nat} (hK:K<=24) (hr:∀ m s k,KI (VN l) m->0<=s->s<(l.symbols.length:Int)->1<=k->k<=K->∃ m',r14 l m s (k:Int)=some (en (VN l s k),m')/\KI (VN l) m'):
  ∀ (n:Nat) (ys:List Int) (k:Nat) (m:List (BA×Int)),ys.length<n->ys.length<=1000->inR l ys->k<=K->KI (VN l) m->∃ m',kbl r14 n l m ys (k:Int)=some (en (NS.rr (VN l) ys k),m')/\KI (VN l) m'
 | 0,ys,k,m,h,_,_,_,_=>by omega
 | n+1,[],k,m,_,_,_,hk,hm=>by
  refine ⟨m,?_,hm⟩;show kbv r14 (kbl r14 n) l m [] (k:Int)=_;unfold kbv;rw [show ((([]:List Int).length:Int) == 0)=true from rfl];simp only [qe,qa];rw [SR.rr];by_cases h0:k=0;subst h0;rfl
  ·rw [show ((k:Int) == 0)=false by rw [qas];omega,qi h0];rfl
 | n+1,a::ys,k,m,h,d,hy,hk,hm=>by
  have p:=hy.byt f;have ha:=hy a (qv ..);have r:inR l ys:=fun y h=>hy y (qh _ h);show ∃ m',kbv r14 (kbl r14 n) l m (a::ys) (k:Int)=_/\_;unfold kbv;have t:(((a::ys).length:Int) == 0)=false:=by rw [qas,qag];omega
  rw [qag] at h d;rw [t];simp only [qd];by_cases g:k<(a::ys).length;rw [ql (show (k:Int)<((a::ys).length:Int) by omega)];refine ⟨m,?_,hm⟩;rw [NS.rr_small (fun b=>rfl) (a::ys) k g];rfl
  ·rw [qg (show ¬ (k:Int)<((a::ys).length:Int) by omega)];simp only [qd,qa,kaln (a::ys) (k:Int) (by rw [qag];omega)];cases hh:mhas m (keyB (a::ys) (k:Int)) with
   | true=>
    refine ⟨m,?_,hm⟩;rw [hm.has p (by omega) hh];rfl
   | false=>
    simp only [qd];have fin:∀ (m2:List (BA×Int)),KI (VN l) m2->KI (VN l) (mput m2 (keyB (a::ys) (k:Int)) (en (NS.rr (VN l) (a::ys) k))):=fun m2 w=>w.put p (by omega);cases ys with
    | nil=>
     obtain ⟨m2,r1,r2⟩:=hr m a k hm ha.1 ha.2 (by rw [qag] at g;omega) hk;refine ⟨_,?_,fin m2 r2⟩;rw [show ((([a]:List Int).length:Int) == 1)=true from rfl];have h0:idx [a] 0=some a:=rfl;have hv:NS.rr (VN l) [a] k=VN l a k:=(NS.rr_one _ _ _).trans (NS.mul_one _);simp only [qe,h0,qa,r1,hv]
    | cons b zs=>
     have u:(((a::b::zs).length:Int) == 1)=false:=(by rw [qas,qag,qag];omega);rw [u];simp only [qd];rw [qag] at h d;have e:(a::b::zs).length=zs.length+2:=rfl;rw [e] at g;have ew:w64 (w64 ((k:Int) - (((a::b::zs).length:Nat):Int))+1)=((k - (zs.length+2)+1:Nat):Int):=(by rw [e,kc0 (n:=(k:Int) - ((zs.length+2:Nat):Int)),kc0];omega);obtain ⟨b2,q1,q2,q3⟩:=kv7 (step:=kcy l (a::b::zs) (k:Int) (kbl r14 n)) (k - (zs.length+2)+1) (by omega)
      (fun i s=>s.1=en (NS.sum (fun j=>VN l a (j+1)*NS.rr (VN l) (b::zs) (k - (j+1))) i)/\s.2.1=(i:Int)/\KI (VN l) s.2.2)
      (fun v=>v.1=en (NS.sum (fun j=>VN l a (j+1)*NS.rr (VN l) (b::zs) (k - (j+1))) (k - (zs.length+2)+1))/\KI (VN l) v.2)
      (fun i s hi hp=>by
       obtain ⟨acc,j,m3⟩:=s;obtain ⟨p1,p2,p3⟩:=hp;simp only at p1 p2 p3;subst p1 p2;have e1:w64 ((i:Int)+1)=((i+1:Nat):Int):=kdk hi (by omega);have e2:w64 (w64 ((k:Int) - (i:Int)) - 1)=((k - (i+1):Nat):Int):=(by rw [kc0 (n:=(k:Int) - (i:Int)),kc0];omega);obtain ⟨m4,s1,s2⟩:=kxt f hK hr n [a] (i+1) m3 (by rw [qah];omega) (by rw [qah];omega) (fun y o=>hy y (by rcases qae.1 o with rfl | o;exact qv ..; cases o)) (by omega) p3;obtain ⟨m5,s3,s4⟩:=kxt f hK hr n (b::zs) (k - (i+1)) m4 (by rw [qag];omega) (by rw [qag];omega) r (by omega) s2;have hv:NS.rr (VN l) [a] (i+1)=VN l a (i+1):=(NS.rr_one _ _ _).trans (NS.mul_one _);rw [hv] at s1;refine ⟨(en (NS.sum (fun j=>VN l a (j+1)*NS.rr (VN l) (b::zs) (k - (j+1))) (i+1)),((i+1:Nat):Int),m5),?_,rfl,rfl,s4⟩;simp only [kcy,ew,ql (show (i:Int)<((k - (zs.length+2)+1:Nat):Int) by omega),qe,kae1,qa,e1,s1,ks1,e2,s3,kadr,kyi];rfl) (fun s hp=>by
       obtain ⟨acc,j,m3⟩:=s;obtain ⟨p1,p2,p3⟩:=hp;simp only at p1 p2 p3;subst p1 p2;refine ⟨(en (NS.sum (fun j=>VN l a (j+1)*NS.rr (VN l) (b::zs) (k - (j+1))) (k - (zs.length+2)+1)),m3),?_,rfl,p3⟩;simp only [kcy,ew,kcz,qd]) (0,0,m) ⟨rfl,rfl,hm⟩
     have q:NS.sum (fun j=>VN l a (j+1)*NS.rr (VN l) (b::zs) (k - (j+1))) (k - (zs.length+2)+1)=NS.rr (VN l) (a::b::zs) k:=(by have x:NS.sum (fun j=>VN l a (j+1)*NS.rr (VN l) (b::zs) (k - (j+1))) k=NS.sum (fun j=>VN l a (j+1)*NS.rr (VN l) (b::zs) (k - (j+1))) (k - (zs.length+2)+1):=NS.sum_trunc k (by omega) fun i h1 w=>(by show VN l a (i+1)*NS.rr (VN l) (b::zs) (k - (i+1))=0;rw [NS.rr_small (fun c=>rfl) (b::zs) (k - (i+1)) (by rw [qag];omega)];exact Nat.mul_zero _);rw [<- x,SR.rr];refine Eq.trans ?_ (NS.sum_shift _ k).symm;show _=VN l a 0*NS.rr (VN l) (b::zs) (k - 0)+NS.sum (fun j=>VN l a (j+1)*NS.rr (VN l) (b::zs) (k - (j+1))) k;rw [show VN l a 0=0 from rfl,Nat.zero_mul,qb4]);rw [q] at q2;obtain ⟨acc,m6⟩:=b2;simp only at q2 q3;subst q2;refine ⟨_,?_,fin m6 q3⟩;rw [q1];rfl
theorem k7t (l:La) (s:Int) (f:Nat->Nat):∀ n,((plL l s n).map f).sum=NS.sum (fun i=>if kgw l i=s then f i else 0) n
 | 0=>rfl
 | n+1=>by
  rw [k5q,List.map_append,List.sum_append,k7t l s f n,SR.sum];by_cases h:kgw l n=s;rw [qo (by simpa using h),qo h];show _+[f n].sum=_+f n;simp
  ·rw [qi (by simpa using h),qi h];rfl
theorem kaca {l:La} {r:Ru} (hr:GoodR l r):kj8 r=some r.args:=by
 unfold kj8;by_cases a:r.kind=3;rw [a];rfl
 ·rw [show (r.kind != 3)=true by rw [qbg];exact a,hr.noargs a];rfl
theorem kxq {l:La} (c:khu l):∀ (n k:Nat) (s:Int) (m:List (BA×Int)),k<=n->1<=k->k<=24->0<=s->s<(l.symbols.length:Int)->KI (VN l) m->∃ m',ka9 n l m s (k:Int)=some (en (VN l s k),m')/\KI (VN l) m'
 | 0,k,s,m,h,h1,_,_,_,_=>by omega
 | n+1,k+1,s,m,h,h1,t,u,hs1,hm=>by
  have w:=c.rules;have d:=c.sym16;show ∃ m',kdd (ka9 n) l m s ((k+1:Nat):Int)=_/\_;unfold kdd;rw [kak2 l s (by omega),qa];have ew:w64 (((k+1:Nat):Int) - 1)=(k:Int):=by rw [kc0];omega
  have x:=k1e l s l.rules.length;obtain ⟨b2,q1,q2,q3⟩:=kv7 (step:=kc2 l ((k+1:Nat):Int) (ka9 n) ((plL l s l.rules.length).map natI)) (plL l s l.rules.length).length (by omega)
   (fun i st=>st.1=en (((plL l s l.rules.length).take i).map fun q=>NS.rr (VN l) (kcu l q) k).sum/\st.2.1=(i:Int)/\KI (VN l) st.2.2)
   (fun v=>v.1=en ((plL l s l.rules.length).map fun q=>NS.rr (VN l) (kcu l q) k).sum/\KI (VN l) v.2)
   (fun i st hi hp=>by
    obtain ⟨acc,j,m3⟩:=st;obtain ⟨p1,p2,p3⟩:=hp;simp only at p1 p2 p3;subst p1 p2;have z:(plL l s l.rules.length)[i]?=some (plL l s l.rules.length)[i]:=qb hi;have e:=k1c (q9 hi);have f:((plL l s l.rules.length).map natI)[i]?=some ((((plL l s l.rules.length)[i]:Nat)):Int):=(by rw [qn,z];rfl);obtain ⟨y,hy,_,g,a⟩:=kn3 l e.1;have gy:=c.good y a;have r:=gy.few;obtain ⟨m4,s1,s2⟩:=kxt (r14:=ka9 n) (K:=k) d (by omega) (fun m s k' hm h0 h1 o A=>kxq c n k' s m (by omega) o (by omega) h0 h1 hm) fuel y.args k m3 (kan (by omega)) (by omega) gy.args (qx _) p3;have p:(plL l s l.rules.length).take (i+1)=(plL l s l.rules.length).take i++[(plL l s l.rules.length)[i]]:=qar hi;refine ⟨(en (((plL l s l.rules.length).take (i+1)).map fun q=>NS.rr (VN l) (kcu l q) k).sum,((i+1:Nat):Int),m4),?_,rfl,rfl,s2⟩;simp only [kc2,qt,kdx hi,qe,kag,f,qa,hy,kaca gy,ew,s1,kdk hi (show (plL l s l.rules.length).length<=9223372036854775807 by omega),kyi,qa];rw [p,List.map_append,List.sum_append,g];show some _=some _;simp) (fun st hp=>by
    obtain ⟨acc,j,m3⟩:=st;obtain ⟨p1,p2,p3⟩:=hp;simp only at p1 p2 p3;subst p1 p2;refine ⟨(en ((plL l s l.rules.length).map fun q=>NS.rr (VN l) (kcu l q) k).sum,m3),?_,rfl,p3⟩;simp only [kc2,qt,kcz,qd,qbm]) (0,0,m) ⟨rfl,rfl,hm⟩
  have b:((plL l s l.rules.length).map fun q=>NS.rr (VN l) (kcu l q) k).sum=VN l s (k+1):=by
   rw [k7t];unfold VN;rw [NS.val_succ];refine NS.sum_congr _ fun i hi=>?_;split;exact (Nat.one_mul _).symm
   ·rfl
  rw [b] at q2;obtain ⟨acc,m6⟩:=b2;simp only at q2 q3;subst q2;refine ⟨m6,?_,q3⟩;rw [q1];rfl
def ansC (n:Nat):Int×Int:=if (1152921504606846976:Int)<en n then (0,11) else (en n,0)
def badQ (l:La) (s k:Int):Bool:=decide (s<0) || (decide ((l.symbols.length:Int)<=s) || (decide (k<1) || decide (24<k)))
theorem kaiq (l:La) (s k:Int):((bif decide (s<0) then some true else bif decide ((l.symbols.length:Int)<=s) then some true else bif decide (k<1) then some true else some (decide (24<k))):Option Bool)=some (badQ l s k):=by unfold badQ;cases decide (s<0) <;> cases decide ((l.symbols.length:Int)<=s) <;> cases decide (k<1) <;> cases decide (24<k) <;> rfl
theorem k9m {l:La} {s k:Int} (h:badQ l s k=false):0<=s/\s<(l.symbols.length:Int)/\1<=k/\k<=24:=by unfold badQ at h;simp at h;omega
def errC (l:La) (c s k:Int):Int:=if c≠0 then c else if badQ l s k=true then 1 else 0
theorem k7c {l:La} {c:Int} (hc:kbs l=some c) (s k:Int):khm l s k=some (errC l c s k):=by
 unfold khm errC;rw [hc,qa,kaiq];by_cases h:c=0;rw [h,bne_self_eq_false,qi (by simp)];cases badQ l s k <;> rfl
 ·rw [show (c != 0)=true by rw [qbg];exact h,qo h];rfl
theorem kun {l:La} {c s k:Int} (h:errC l c s k=0):c=0/\0<=s/\s<(l.symbols.length:Int)/\1<=k/\k<=24:=by
 unfold errC at h;by_cases hc:c=0
 ·rw [qi (by simpa using hc)] at h;cases a:badQ l s k with
  | true=>rw [a] at h;cases h
  | false=>exact ⟨hc,k9m a⟩
 ·rw [qo hc] at h;exact absurd h hc
theorem kacu (x:Int):kd3 x=some (if 1152921504606846976<x then .inr () else .inl ()):=by
 unfold kd3;by_cases h:1152921504606846976<x;rw [ql h,qo h];rfl
 ·rw [qg h,qi h];rfl
theorem k8h (l:La):kh6 l=some ():=rfl
theorem k9n {l:La} (b:khu l) {c s k:Int} (hc:kbs l=some c):khj l s k=some (if errC l c s k≠0 then (0,errC l c s k) else ansC (VN l s k.toNat)):=by
 unfold khj;rw [k7c hc,qa];by_cases a:errC l c s k=0
 ·obtain ⟨_,h1,d,e,f⟩:=kun a;obtain ⟨n,rfl⟩:=qbp (show 0<=k by omega);obtain ⟨m,t1,_⟩:=kxq b fuel n s [] (qaz (kan (by omega))) (by omega) (by omega) h1 d (KI.nil _);rw [a,bne_self_eq_false,qi (by simp),qa8];unfold kht kic;rw [k8h,qa,t1,qa,kacu];unfold ansC;by_cases hx:1152921504606846976<en (VN l s n);rw [qo hx,qo hx];rfl
  ·rw [qi hx,qi hx];rfl
 ·rw [show (errC l c s k != 0)=true by rw [qbg];exact a,qo a];rfl
theorem kaei {σ β:Type} {st:σ->Option (σ ⊕ β)} {s s':σ} {n:Nat} (h:st s=some (.inl s')):kab st (n+1) s=kab st n s':=by unfold kab;rw [h];cases n <;> rfl
theorem kacq {σ β:Type} {st:σ->Option (σ ⊕ β)} {s:σ} {b:β} {n:Nat} (h:st s=some (.inr b)):kab st (n+1) s=some b:=by unfold kab;rw [h]
theorem k4q {σ β:Type} {step:σ->Option (σ ⊕ β)} (n:Nat) (hn:n<18446744073709551616) (P:Nat->σ->Prop) (Q:β->Prop) (hs:∀ i s,i<n->P i s->(∃ s',step s=some (.inl s')/\P (i+1) s')\/∃ b,step s=some (.inr b)/\Q b) (c:∀ s,P n s->∃ b,step s=some (.inr b)/\Q b) (s:σ) (h0:P 0 s):∃ b,kab step fuel s=some b/\Q b:=by
 have key:∀ (k i:Nat) (s:σ),i<=n->n - i<k->P i s->∃ b,kab step k s=some b/\Q b:=by
  intro k
  induction k with
  | zero=>intro i s _ h;omega
  | succ k ih=>
   intro i s hi hk hp;have out:(∃ b,step s=some (.inr b)/\Q b)->∃ b,kab step (k+1) s=some b/\Q b:=fun ⟨b,h1,a⟩=>⟨b,kacq h1,a⟩;by_cases h:i=n;subst h;exact out (c s hp)
   ·rcases hs i s (by omega) hp with ⟨s',h1,a⟩ | h1;obtain ⟨b,d,e⟩:=ih (i+1) s' (by omega) (by omega) a;exact ⟨b,(kaei h1).trans d,e⟩
    ·exact out h1
 exact key fuel 0 s (by omega) (kan (by omega)) h0
theorem kah0 {a b:Nat} (h:a<=b):en a<=en b:=by unfold en;omega
theorem k39 (f:Nat->Nat) {i n:Nat} (h:i<=n):NS.sum f i<=NS.sum f n:=by
 induction n with
 | zero=>rw [show i=0 by omega];exact qx _
 | succ n ih=>
  by_cases hi:i=n+1;rw [hi];exact qx _
  ·exact qay (ih (by omega)) (Nat.le_add_right (NS.sum f n) (f n))
def totC (l:La) (s:Int) (n:Nat):Nat:=NS.sum (fun j=>VN l s (j+1)) n
theorem k8z {l:La} (e:khu l) {c s k:Int} (hc:kbs l=some c):ki3 l s k=some (if errC l c s k≠0 then (0,errC l c s k) else ansC (totC l s k.toNat)):=by
 unfold ki3;rw [k7c hc,qa];by_cases b:errC l c s k=0
 ·obtain ⟨_,h1,f,g,h⟩:=kun b;obtain ⟨n,rfl⟩:=qbp (show 0<=k by omega);rw [b,bne_self_eq_false,qi (by simp),qa8,qd,k8h,qa];unfold kig kh7;obtain ⟨v7,q1,q2⟩:=k4q (step:=kew (n:Int) l s) n (by omega)
   (fun i st=>st.1=en (totC l s i)/\st.2.1=(i:Int)/\KI (VN l) st.2.2/\¬ 1152921504606846976<en (totC l s i))
   (fun v=>(∃ m,v = .inl (en (totC l s n),m)/\¬ 1152921504606846976<en (totC l s n))\/∃ m,v = .inr m/\1152921504606846976<en (totC l s n))
   (fun i st hi hp=>by
    obtain ⟨acc,j,m3⟩:=st;obtain ⟨p1,p2,p3,p4⟩:=hp;simp only at p1 p2 p3;subst p1 p2;have e1:w64 ((i:Int)+1)=((i+1:Nat):Int):=kdk hi (by omega);obtain ⟨m4,t1,t2⟩:=kxq e fuel (i+1) s m3 (qaz (kan (by omega))) (by omega) (by omega) h1 f p3;have a:totC l s (i+1)=totC l s i+VN l s (i+1):=rfl;have d:en (totC l s (i+1))<=en (totC l s n):=kah0 (k39 _ (by omega));unfold kew;simp only;rw [kdx hi,qe,e1,t1,qa];simp only;rw [kyi,qa,<- a,kacu,qa];by_cases hx:1152921504606846976<en (totC l s (i+1));right;refine ⟨.inr m4,?_, .inr ⟨m4,rfl,by omega⟩⟩;rw [qo hx];rfl
    ·left;refine ⟨(en (totC l s (i+1)),((i+1:Nat):Int),m4),?_,rfl,rfl,t2,hx⟩;rw [qi hx];rfl) (fun st hp=>by
    obtain ⟨acc,j,m3⟩:=st;obtain ⟨p1,p2,p3,p4⟩:=hp;simp only at p1 p2 p3;subst p1 p2;refine ⟨.inl (en (totC l s n),m3),?_, .inl ⟨m3,rfl,p4⟩⟩;unfold kew;simp only;rw [kcz,qd]) (0,0,[]) ⟨rfl,rfl,KI.nil _,by show ¬ (1152921504606846976:Int)<en 0;unfold en;omega⟩
  rw [q1,qa];unfold ansC;rcases q2 with ⟨m,rfl,hx⟩ | ⟨m,rfl,hx⟩;rw [qi hx];rfl
  ·rw [qo hx];rfl
 ·rw [show (errC l c s k != 0)=true by rw [qbg];exact b,qo b];rfl
namespace SR
variable {R:Type} (S:SR R)
theorem add_mul (a b c:R):S.mul (S.add a b) c=S.add (S.mul a c) (S.mul b c):=by rw [S.mul_comm,S.mul_add,S.mul_comm c,S.mul_comm c]
end SR
theorem ktx {α β:Type} {f g:α->List β}:∀ (l:List α),(∀ x∈l,f x=g x)->l.flatMap f=l.flatMap g
 | [],_=>rfl
 | x::l,h=>by rw [qbr,qbr,h x (qv ..),ktx l fun y hy=>h y (qh _ hy)]
def keo (V:Int->Nat->List Tm):List Int->Nat->List (List Tm)
 | [],n=>if n=0 then [[]] else []
 | a::ys,n=>(List.range (n+1)).flatMap fun k=>(V a k).flatMap fun t=>(keo V ys (n - k)).map (t::·)
def tabD (l:La):Nat->Int->Nat->List Tm
 | 0=>fun _ _=>[]
 | n+1=>fun s k=>if k=n+1 then (List.range l.rules.length).flatMap (fun i=>if kgw l i=s then (keo (tabD l n) (kcu l i) n).map (Tm.mk (i:Int)) else []) else tabD l n s k
def dl (l:La) (s:Int) (k:Nat):List Tm:=tabD l k s k
theorem k7b (l:La) (s:Int):∀ (n k:Nat),tabD l n s k=if k<=n then dl l s k else []
 | 0,k=>by
  by_cases h:k=0;subst h;rw [qo (by omega)];rfl
  ·rw [qi (by omega)];rfl
 | n+1,k=>by
  by_cases h:k=n+1;subst h;rw [qo (by omega)];rfl
  ·show (if k=n+1 then _ else tabD l n s k)=_;rw [qi h,k7b l s n k];by_cases a:k<=n;rw [qo a,qo (by omega)]
   ·rw [qi a,qi (by omega)]
theorem kru {V V':Int->Nat->List Tm}:∀ (ys:List Int) (n:Nat),(∀ a k,k<=n->V a k=V' a k)->keo V ys n=keo V' ys n
 | [],n,_=>rfl
 | a::ys,n,h=>by rw [keo,keo];refine ktx _ fun k hk=>?_;rw [qbq] at hk;rw [h a k (by omega),kru ys (n - k) fun b j c=>h b j (by omega)]
theorem k7j (l:La) (s:Int):dl l s 0=[]:=rfl
theorem kain (l:La) (s:Int) (n:Nat):dl l s (n+1)=(List.range l.rules.length).flatMap (fun i=>if kgw l i=s then (keo (dl l) (kcu l i) n).map (Tm.mk (i:Int)) else []):=by
 unfold dl;show (if n+1=n+1 then _ else _)=_;rw [qo rfl];refine ktx _ fun i _=>?_;split;rw [kru (kcu l i) n fun a k hk=>by rw [k7b,qo hk]];rfl
 ·rfl
theorem mem_prodL {V:Int->Nat->List Tm} {a:Int} {ys:List Int} {n:Nat} {ts:List Tm}:ts∈keo V (a::ys) n↔∃ t us k,ts=t::us/\k<=n/\t∈V a k/\us∈keo V ys (n - k):=by
 rw [keo];simp only [qa1,qbq,qai];constructor;rintro ⟨k,hk,t,ht,us,b,rfl⟩;exact ⟨t,us,k,rfl,by omega,ht,b⟩
 ·rintro ⟨t,us,k,rfl,hk,ht,b⟩;exact ⟨k,by omega,t,ht,us,b,rfl⟩
theorem mem_prodN {V:Int->Nat->List Tm} {n:Nat} {ts:List Tm}:ts∈keo V [] n↔ts=[]/\n=0:=by
 rw [keo];split;rename_i h;simp [h]
 ·rename_i h;simp [h]
theorem mem_dl {l:La} {s:Int} {n:Nat} {t:Tm}:t∈dl l s n↔∃ (i:Nat) (ts:List Tm) (m:Nat),n=m+1/\i<l.rules.length/\kgw l i=s/\t=Tm.mk (i:Int) ts/\ts∈keo (dl l) (kcu l i) m:=by
 cases n with
 | zero=>rw [k7j];simp
 | succ m=>
  rw [kain];simp only [qa1,qbq];constructor
  ·rintro ⟨i,hi,h⟩;split at h;rename_i hs;obtain ⟨ts,h1,rfl⟩:=qai.1 h;exact ⟨i,ts,m,rfl,hi,hs,rfl,h1⟩
   ·simp at h
  ·rintro ⟨i,ts,m',hm,hi,hs,rfl,h⟩;obtain rfl:m'=m:=(by omega);exact ⟨i,hi,by rw [qo hs];exact qai.2 ⟨ts,h,rfl⟩⟩
theorem knm {V:Int->Nat->List Tm}:∀ (ys:List Int) (n:Nat) (ts:List Tm),(∀ a k t,t∈V a k->t.size=k)->ts∈keo V ys n->Tm.sizeL ts=n/\ts.length=ys.length
 | [],n,ts,_,h=>by obtain ⟨rfl,rfl⟩:=mem_prodN.1 h;exact ⟨rfl,rfl⟩
 | a::ys,n,ts,b,h=>by obtain ⟨t,us,k,rfl,hk,ht,c⟩:=mem_prodL.1 h;obtain ⟨h1,d⟩:=knm ys (n - k) us b c;rw [Tm.sizeL,b a k t ht,h1,qag,qag,d];exact ⟨by omega,rfl⟩
theorem kmc {l:La}:∀ (n:Nat) (s:Int) (t:Tm),t∈dl l s n->t.size=n:=by
 have key:∀ (N n:Nat),n<=N->∀ (s:Int) (t:Tm),t∈dl l s n->t.size=n:=by
  intro N
  induction N with
  | zero=>
   intro n hn s t h;obtain rfl:n=0:=(by omega);rw [k7j] at h;simp at h
  | succ N ih=>
   intro n hn s t h;obtain ⟨i,ts,m,rfl,hi,hs,rfl,hp⟩:=mem_dl.1 h;have b:ts∈keo (fun a k=>if k<=N then dl l a k else []) (kcu l i) m:=(by rw [kru (V':=dl l) (kcu l i) m fun a k hk=>qo (by omega)];exact hp);have:=(knm _ m ts (fun a k t ht=>by
    split at ht;rename_i hk;exact ih k hk a t ht
    ·simp at ht) b).1
   rw [Tm.size,this]
 exact fun n=>key n n (qx _)
namespace SR
variable {R:Type} (S:SR R)
def lsum {α:Type} (f:α->R):List α->R
 | []=>S.zero
 | x::l=>S.add (f x) (lsum f l)
theorem lsum_append {α:Type} (f:α->R):∀ (xs ys:List α),S.lsum f (xs++ys)=S.add (S.lsum f xs) (S.lsum f ys)
 | [],ys=>(S.zero_add _).symm
 | x::xs,ys=>by rw [List.cons_append,lsum,lsum,lsum_append f xs ys,S.add_assoc]
theorem lsum_map {α β:Type} (f:β->R) (g:α->β):∀ xs:List α,S.lsum f (xs.map g)=S.lsum (fun x=>f (g x)) xs
 | []=>rfl
 | x::xs=>by rw [qa5,lsum,lsum,lsum_map f g xs]
theorem lsum_mul {α:Type} (c:R) (f:α->R):∀ xs:List α,S.lsum (fun x=>S.mul c (f x)) xs=S.mul c (S.lsum f xs)
 | []=>(S.mul_zero c).symm
 | x::xs=>by rw [lsum,lsum,lsum_mul c f xs,S.mul_add]
theorem lsum_mulr {α:Type} (c:R) (f:α->R):∀ xs:List α,S.lsum (fun x=>S.mul (f x) c) xs=S.mul (S.lsum f xs) c
 | []=>(S.zero_mul c).symm
 | x::xs=>by rw [lsum,lsum,lsum_mulr c f xs,S.add_mul]
theorem lsum_flat {α β:Type} (f:β->R) (g:α->List β):∀ xs:List α,S.lsum f (xs.flatMap g)=S.lsum (fun x=>S.lsum f (g x)) xs
 | []=>rfl
 | x::xs=>by rw [qbr,S.lsum_append,lsum,lsum_flat f g xs]
theorem lsum_congr {α:Type} {f g:α->R}:∀ (xs:List α),(∀ x∈xs,f x=g x)->S.lsum f xs=S.lsum g xs
 | [],_=>rfl
 | x::xs,h=>by rw [lsum,lsum,h x (qv ..),lsum_congr xs fun y hy=>h y (qh _ hy)]
theorem lsum_range (f:Nat->R):∀ n,S.lsum f (List.range n)=S.sum f n
 | 0=>rfl
 | n+1=>by rw [List.range_succ,S.lsum_append,lsum_range f n,lsum,lsum,S.add_zero,sum]
end SR
mutual
def wgT {R:Type} (S:SR R) (wt:Nat->R):Tm->R
 | .mk r ts=>S.mul (wt r.toNat) (wgL S wt ts)
def wgL {R:Type} (S:SR R) (wt:Nat->R):List Tm->R
 | []=>S.one
 | t::ts=>S.mul (wgT S wt t) (wgL S wt ts)
end
theorem kzb {R:Type} (S:SR R) (wt:Nat->R) {V:Int->Nat->List Tm} {U:Int->Nat->R}:∀ (ys:List Int) (n:Nat),(∀ a k,k<=n->S.lsum (wgT S wt) (V a k)=U a k)->S.lsum (wgL S wt) (keo V ys n)=S.rr U ys n
 | [],n,_=>by
  rw [keo,SR.rr];split;rw [SR.lsum,SR.lsum,S.add_zero,wgL]
  ·rfl
 | a::ys,n,h=>by rw [keo,SR.rr,S.lsum_flat,S.lsum_range];refine S.sum_congr _ fun k hk=>?_;rw [S.lsum_flat,<- kzb S wt ys (n - k) fun b j c=>h b j (by omega),<- h a k (by omega),<- S.lsum_mulr];refine S.lsum_congr _ fun t _=>?_;rw [S.lsum_map,<- S.lsum_mul];exact S.lsum_congr _ fun us _=>by rw [wgL]
theorem kul {R:Type} (S:SR R) (wt:Nat->R) (l:La):∀ (n:Nat) (s:Int) (k:Nat),S.lsum (wgT S wt) (tabD l n s k)=S.tab l.rules.length (kgw l) (kcu l) wt n s k
 | 0,s,k=>rfl
 | n+1,s,k=>by
  show S.lsum (wgT S wt) (if k=n+1 then _ else tabD l n s k)=(if k=n+1 then _ else S.tab _ _ _ _ n s k);by_cases h:k=n+1
  ·rw [qo h,qo h,S.lsum_flat,S.lsum_range];refine S.sum_congr _ fun i hi=>?_;split
   ·rw [S.lsum_map,<- kzb S wt (kcu l i) n fun a k _=>kul S wt l n a k,<- S.lsum_mul];exact S.lsum_congr _ fun ts _=>by rw [wgT,qa8]
   ·rfl
  ·rw [qi h,qi h];exact kul S wt l n s k
theorem kaiv {R:Type} (S:SR R) (wt:Nat->R) (l:La) (s:Int) (k:Nat):S.lsum (wgT S wt) (dl l s k)=S.val l.rules.length (kgw l) (kcu l) wt s k:=kul S wt l k s k
theorem kag9 (t:Tm):wgT NS (fun _=>1) t=1:=by
 induction t using Tm.ind with
 | h r l ih=>
  rw [wgT];have:wgL NS (fun _=>1) l=1:=by
   induction l with
   | nil=>rfl
   | cons x l ih2=>
    rw [wgL,ih x (qv ..),ih2 fun t ht=>ih t (qh _ ht)];rfl
  rw [this];rfl
theorem kak3 (l:La) (s:Int) (k:Nat):VN l s k=(dl l s k).length:=by
 have h:=kaiv NS (fun _=>1) l s k;have key:∀ xs:List Tm,NS.lsum (wgT NS (fun _=>1)) xs=xs.length:=fun xs=>by
  induction xs with
  | nil=>rfl
  | cons x xs ih=>
   rw [SR.lsum,ih,kag9,qag];show 1+xs.length=_;omega
 rw [key] at h;exact h.symm
def NE (V:Int->Nat->List Tm) (xs:List Int) (n:Nat):Prop:=∃ ts,ts∈keo V xs n
theorem k1f {V:Int->Nat->List Tm} (a:Int):∀ (xs:List Int) (n:Nat),NE V (xs++[a]) n↔∃ i,i<=n/\NE V xs i/\∃ t,t∈V a (n - i)
 | [],n=>by
  constructor;rintro ⟨ts,h⟩;obtain ⟨t,us,k,rfl,hk,ht,b⟩:=mem_prodL.1 h;obtain ⟨rfl,h0⟩:=mem_prodN.1 b;obtain rfl:k=n:=(by omega);exact ⟨0,by omega,⟨[],mem_prodN.2 ⟨rfl,rfl⟩⟩,t,ht⟩
  ·rintro ⟨i,hi,⟨us,b⟩,t,ht⟩;obtain ⟨rfl,rfl⟩:=mem_prodN.1 b;exact ⟨[t],mem_prodL.2 ⟨t,[],n,rfl,qx _,ht,mem_prodN.2 ⟨rfl,by omega⟩⟩⟩
 | x::xs,n=>by
  constructor;rintro ⟨ts,h⟩;obtain ⟨t,us,k,rfl,hk,ht,b⟩:=mem_prodL.1 h;obtain ⟨i,hi,⟨vs,hv⟩,w,c⟩:=(k1f a xs (n - k)).1 ⟨us,b⟩;exact ⟨k+i,by omega,⟨t::vs,mem_prodL.2 ⟨t,vs,k,rfl,by omega,ht,by rw [show k+i - k=i by omega];exact hv⟩⟩,w,by rw [show n - (k+i)=n - k - i by omega];exact c⟩
  ·rintro ⟨i,hi,⟨us,b⟩,w,c⟩;obtain ⟨t,vs,k,rfl,hk,ht,hv⟩:=mem_prodL.1 b;obtain ⟨ts,d⟩:=(k1f a xs (n - k)).2 ⟨i - k,by omega,⟨vs,hv⟩,w,by rw [show n - k - (i - k)=n - i by omega];exact c⟩;exact ⟨t::ts,mem_prodL.2 ⟨t,ts,k,rfl,by omega,ht,d⟩⟩
def rbS (l:La) (xs:List Int) (n:Nat):Bool:=!(keo (dl l) xs n).isEmpty
def hasB (l:La) (s:Int) (n:Nat):Bool:=!(dl l s n).isEmpty
theorem isE {α:Type} {l:List α}:(!l.isEmpty)=true↔∃ x,x∈l:=by
 cases l with
 | nil=>simp
 | cons a l=>simp
theorem rbS_iff {l:La} {xs:List Int} {n:Nat}:rbS l xs n=true↔NE (dl l) xs n:=isE
theorem hasB_iff {l:La} {s:Int} {n:Nat}:hasB l s n=true↔∃ t,t∈dl l s n:=isE
theorem ksf (l:La) (n:Nat):rbS l [] n=decide (n=0):=by rw [Bool.eq_iff_iff,rbS_iff,decide_eq_true_iff];exact ⟨fun ⟨ts,h⟩=>(mem_prodN.1 h).2,fun h=>⟨[],mem_prodN.2 ⟨rfl,h⟩⟩⟩
theorem kaao (l:La) (s:Int):hasB l s 0=false:=rfl
theorem kaf2 (l:La) (xs:List Int) (a:Int) (n:Nat):rbS l (xs++[a]) n=true↔∃ i,i<n/\rbS l xs i=true/\hasB l a (n - i)=true:=by
 rw [rbS_iff,k1f];constructor
 ·rintro ⟨i,hi,h1,b⟩;have b:=hasB_iff.2 b;refine ⟨i,?_,rbS_iff.2 h1,b⟩;rcases qbi i n with h | h;exact h
  ·rw [show n - i=0 by omega,kaao] at b;cases b
 ·rintro ⟨i,hi,h1,b⟩;exact ⟨i,by omega,rbS_iff.1 h1,hasB_iff.1 b⟩
def rowB (n:Nat) (f:Nat->Bool):List Bool:=(List.range n).map f
theorem kj0 {n:Nat} {f:Nat->Bool} {i:Nat} (h:i<n):(rowB n f)[i]?=some (f i):=by simp [rowB,h]
theorem kxv {n:Nat} {f:Nat->Bool} {i:Nat} {b:Bool}:(rowB n f).set i b=rowB n fun j=>if j=i then b else f j:=by
 apply qbw;intro j;rw [List.getElem?_set];by_cases h:i=j
 ·subst h;by_cases hl:i<n;rw [kj0 hl];simp [rowB,hl]
  ·simp [rowB,hl]
 ·rw [qi h];by_cases hl:j<n;rw [kj0 hl,kj0 hl,qi (Ne.symm h)]
  ·simp [rowB,hl]
theorem kii {n:Nat} {f g:Nat->Bool} (h:∀ i,i<n->f i=g i):rowB n f=rowB n g:=by unfold rowB;exact List.map_congr_left fun i hi=>h i (qbq.1 hi)
def HasT (l:La) (h:List (List Bool)) (n:Nat):Prop:=∀ s:Nat,s<l.symbols.length->∃ row,h[s]?=some row/\∀ k,1<=k->k<=n->row[k]?=some (hasB l (s:Int) k)
def upS (F:Nat->Bool) (l:La) (s:Int) (i m:Nat):Bool:=(List.range i).any fun j=>F j && (decide (j<m) && hasB l s (m - j))
theorem k5f (F:Nat->Bool) (l:La) (s:Int) (i m:Nat):upS F l s (i+1) m=(upS F l s i m || (F i && (decide (i<m) && hasB l s (m - i)))):=by unfold upS;rw [List.range_succ,List.any_append];simp
theorem kaen {l:La} {h:List (List Bool)} {n:Nat} (hn:n<=24) (hh:HasT l h n) {s:Nat} (hs:s<l.symbols.length) (F:Nat->Bool) (z:List Bool) {i:Nat} (hi:i<=n):
  kab (kcq ⟨l,h⟩ (n:Int) (s:Int) ((i:Int),z) (F i)) fuel (1,rowB (n+1) (upS F l (s:Int) i))=some (rowB (n+1) (upS F l (s:Int) (i+1))):=by
 cases d:F i with
 | false=>
  have e:rowB (n+1) (upS F l (s:Int) (i+1))=rowB (n+1) (upS F l (s:Int) i):=kii fun m _=>by rw [k5f,d];simp
  rw [e];refine kcc 0 (fun _=>(1,rowB (n+1) (upS F l (s:Int) i))) _ (fun j f=>absurd f (Nat.not_lt_zero _)) ?_;rfl
 | true=>
  obtain ⟨row,a,c⟩:=hh s hs;have key:=kcc (step:=kcq ⟨l,h⟩ (n:Int) (s:Int) ((i:Int),z) true) (n - i) (fun j=>(((j+1:Nat):Int),rowB (n+1) fun m=>upS F l (s:Int) i m || (decide (i<m/\m<=i+j) && hasB l (s:Int) (m - i)))) (rowB (n+1) fun m=>upS F l (s:Int) i m || (decide (i<m/\m<=i+(n - i)) && hasB l (s:Int) (m - i))) (fun j f=>?_) ?_;have e0:rowB (n+1) (upS F l (s:Int) i)=rowB (n+1) fun m=>upS F l (s:Int) i m || (decide (i<m/\m<=i+0) && hasB l (s:Int) (m - i)):=kii fun m _=>(by rw [qg (by omega)];simp);have e1:rowB (n+1) (upS F l (s:Int) (i+1))=rowB (n+1) fun m=>upS F l (s:Int) i m || (decide (i<m/\m<=i+(n - i)) && hasB l (s:Int) (m - i)):=kii fun m hm=>(by rw [k5f,d,show decide (i<m/\m<=i+(n - i))=decide (i<m) from by rw [decide_eq_decide];omega];rfl);rw [e0,e1];exact key
  ·have e1:w64 ((i:Int)+((j+1:Nat):Int))=((i+j+1:Nat):Int):=(by rw [kc0];omega);have e2:w64 (((j+1:Nat):Int)+1)=((j+1+1:Nat):Int):=kai _;unfold kcq;simp only [qe,qa];rw [e1,e2,ql (by omega),qe,kag,kj0 (by omega),qa,kag,a];simp only [qa];rw [kag,c (j+1) (by omega) (by omega)];simp only [qa];rw [qa8,kxv,kxv];have d0:decide (i<i+j+1/\i+j+1<=i+j)=false:=qg (by omega);rw [d0,Bool.false_and,Bool.or_false];have E:∀ b:Bool,b=(upS F l (s:Int) i (i+j+1) || hasB l (s:Int) (j+1))->(rowB (n+1) fun m=>if m=i+j+1 then b else upS F l (s:Int) i m || (decide (i<m/\m<=i+j) && hasB l (s:Int) (m - i)))=rowB (n+1) fun m=>upS F l (s:Int) i m || (decide (i<m/\m<=i+(j+1)) && hasB l (s:Int) (m - i)):=fun b k=>kii fun m _=>by
    by_cases hm:m=i+j+1;subst hm;rw [qo rfl,k,ql (by omega),Bool.true_and,show i+j+1 - i=j+1 by omega]
    ·rw [qi hm,show decide (i<m/\m<=i+(j+1))=decide (i<m/\m<=i+j) from by rw [decide_eq_decide];omega]
   cases g:upS F l (s:Int) i (i+j+1) with
   | true=>rw [qe,qa,E true (by rw [g];rfl)]
   | false=>rw [qd,qa,E _ (by rw [g];rfl)]
  ·have e1:w64 ((i:Int)+((n - i+1:Nat):Int))=((n+1:Nat):Int):=(by rw [kc0];omega);unfold kcq;simp only [qe,qa];rw [e1,qg (by omega),qd]
theorem kah7 (F:Nat->Bool) (l:La) (s:Int) (k m:Nat):upS F l s k m=true↔∃ j,j<k/\F j=true/\j<m/\hasB l s (m - j)=true:=by unfold upS;simp [List.any_eq_true]
theorem kx9 (n:Nat) (f:Nat->Bool):(rowB n f).length=n:=by simp [rowB]
theorem kaco {l:La} {h:List (List Bool)} {n:Nat} (hn:n<=24) (hh:HasT l h n) {s:Nat} (hs:s<l.symbols.length) (F:Nat->Bool) (z:Int) {k:Nat} (hk:k<=n+1):
  kab (kdo ⟨l,h⟩ (n:Int) (rowB k F,z) (s:Int)) fuel (0,List.replicate (n+1) false)=some (rowB (n+1) (upS F l (s:Int) k)):=by
 have e0:List.replicate (n+1) false=rowB (n+1) (upS F l (s:Int) 0):=by
  apply qbw;intro i;by_cases hi:i<n+1;rw [kj0 hi];simp [hi,upS]
  ·simp [rowB,hi]
 rw [e0];refine kcc k (fun i=>((i:Int),rowB (n+1) (upS F l (s:Int) i))) _ (fun i hi=>?_) ?_;unfold kdo;simp only;rw [kx9,kdx hi,qe,kag,kj0 hi,qa,kaen hn hh hs F _ (by omega),qa,kai _]
 ·unfold kdo;simp only;rw [kx9,kcz,qd]
theorem kx4 {l:La} {h:List (List Bool)} {n:Nat} (hn:n<=24) (hh:HasT l h n) {ss:List Int} (hs:inR l ss) (hl:ss.length<=1000000):kb4 ⟨l,h⟩ ss (n:Int)=some (rbS l ss n):=by
 have key:kab (kdn ⟨l,h⟩ ss (n:Int)) fuel ([true],0)=some (rowB (if ss.length=0 then 1 else n+1) (rbS l ss)):=by
  have e0:([true]:List Bool)=rowB (if (0:Nat)=0 then 1 else n+1) (rbS l (ss.take 0)):=by simp [rowB,ksf]
  rw [e0,show rbS l ss=rbS l (ss.take ss.length) by rw [qbm]];refine kcc ss.length (fun j=>(rowB (if j=0 then 1 else n+1) (rbS l (ss.take j)),(j:Int))) _ (fun j d=>?_) ?_
  ·obtain ⟨s,b⟩:∃ s,ss[j]?=some s:=⟨_,qb d⟩;obtain ⟨h0,h1⟩:=hs s (qj b);obtain ⟨m,rfl⟩:=qbp h0;have ew:w64 ((n:Int)+1)=((n+1:Nat):Int):=kai _;unfold kdn;simp only;rw [kdx d,qe,kag,b,qa,ew,k5s _ _ _,qa,kaco hn hh (by omega) _ _ (by split <;> omega),qa,kai _,qi (Nat.succ_ne_zero j)];have e:rowB (n+1) (upS (rbS l (ss.take j)) l (m:Int) (if j=0 then 1 else n+1))=rowB (n+1) (rbS l (ss.take (j+1))):=kii fun i hi=>by
    have ht:ss.take (j+1)=ss.take j++[(m:Int)]:=(by rw [List.take_add_one,b];rfl);rw [ht,Bool.eq_iff_iff,kah7,kaf2];constructor;rintro ⟨k,_,a1,a2,a3⟩;exact ⟨k,a2,a1,a3⟩
    ·rintro ⟨k,a2,a1,a3⟩;refine ⟨k,?_,a1,a2,a3⟩;split;rename_i c;subst c;rw [List.take_zero,ksf,decide_eq_true_iff] at a1;omega
     ·omega
   rw [e]
  ·unfold kdn;simp only;rw [kcz,qd]
 unfold kb4;rw [key,qa,kx9];cases ss with
 | nil=>
  rw [ksf];by_cases h0:n=0;subst h0;rfl
  ·rw [show decide ((n:Int)<(((if ([]:List Int).length=0 then 1 else n+1):Nat):Int))=false from qg (by simp;omega),qd,qg h0];rfl
 | cons a ss=>
  rw [qi (by simp),ql (by omega),qe,kag,kj0 (by omega)];rfl
end Go.Proofs.YtdnfbjahbkpibaaGreatDoor
