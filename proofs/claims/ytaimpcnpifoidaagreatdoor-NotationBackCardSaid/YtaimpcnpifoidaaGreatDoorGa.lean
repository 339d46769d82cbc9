import Derived.Test.YtaimpcnpifoidaaGreatDoorVd
set_option linter.unusedVariables false
set_option linter.unusedSimpArgs false
namespace Go.Proofs.YtaimpcnpifoidaaGreatDoor
open Go Go.RowKit
def badP (c:Int) (z:Bool):Option Bool:=(Option.bind ((bif (decide (97≤(ior .u8 c 32))) then (some ((decide ((ior .u8 c 32)≤122)))) else (some (false))):Option ((Bool))) fun (v6:(Bool))=>((bif (!v6) then (bif z then (some (true)) else (bif (c != 45) then (bif (decide (c<48)) then (some (true)) else (some ((decide (57<c))))) else (some (false)))) else (some (false))):Option ((Bool))))
def badR (c:Int) (z:Bool):Option Bool:=(Option.bind ((bif (decide (97≤c)) then (bif (decide (c≤122)) then (some (true)) else (bif (decide (65≤c)) then (some ((decide (c≤90)))) else (some (false)))) else (bif (decide (65≤c)) then (some ((decide (c≤90)))) else (some (false)))):Option ((Bool))) fun (v9:(Bool))=>((bif (!v9) then (bif z then (some (true)) else (bif (c != 45) then (bif (decide (c<48)) then (some (true)) else (some ((decide (57<c))))) else (some (false)))) else (some (false))):Option ((Bool))))
set_option maxRecDepth 100000 in
theorem kahm:(List.range 256).all (fun k=>[true,false].all fun z=>(badP (k:Int) z == badR (k:Int) z) && (badP (k:Int) z).isSome)=true:=by kernel_rfl
theorem kafg (c:UInt8) (z:Bool):∃ b,badP (c.toNat:Int) z=some b∧badR (c.toNat:Int) z=some b:=by
 have h:=qm.1 kahm c.toNat (List.mem_range.2 (UInt8.toNat_lt c))
 have h2:=qm.1 h z (by cases z <;> simp)
 simp only [qu,beq_iff_eq] at h2
 obtain ⟨h3,h4⟩:=h2
 cases hp:badP (c.toNat:Int) z with
 | none=>rw [hp] at h4;cases h4
 | some b=>exact ⟨b,rfl,by rw [← h3,hp]⟩
theorem kz9 (s:BA) (hs:s.size≤9223372036854775807):∃ b,kjr s=some b∧kd3 s=some b:=by
 have hsz:=ka4 s
 obtain ⟨r,r',h1,h2,rfl,h3⟩:=kjf (step:=kgn s) (step':=kcj s) s.size (by omega) (fun i=>(i:Int)) (fun i=>(i:Int)) (fun r r'=>r=r'∧(r = .inl ()∨r = .inr false)) (fun i hi=>by
  have hi':i<s.data.toList.length:=by rw [← ka4];exact hi
  have e1:byt s (i:Int)=some (s.data.toList[i].toNat:Int):=by rw [km1,List.getElem?_eq_getElem hi'];rfl
  have b1:decide ((i:Int)<(s.size:Int))=true:=qe (by omega)
  obtain ⟨b,p1,p2⟩:=kafg s.data.toList[i] ((i:Int) == 0)
  unfold badP at p1
  unfold badR at p2
  have q1:kgn s (i:Int)=bif b then some (.inr (.inr false)) else some (.inl (w64 ((i:Int)+1))):=by
   simp only [kgn,b1,qd,e1,qa]
   rw [← Option.bind_assoc,p1,qa]
  have q2:kcj s (i:Int)=bif b then some (.inr (.inr false)) else some (.inl (w64 ((i:Int)+1))):=by
   simp only [kcj,b1,qd,e1,qa]
   rw [← Option.bind_assoc,p2,qa]
  rw [q1,q2,kb9 (n:=i) (by omega)]
  cases b with
  | true=>exact .inr ⟨_,_,rfl,rfl,rfl, .inr rfl⟩
  | false=>exact .inl ⟨rfl,rfl⟩) (by
  have b1:decide ((s.size:Int)<(s.size:Int))=false:=qc (by omega)
  simp only [kgn,kcj,b1,qb]
  exact ⟨_,_,rfl,rfl,rfl, .inl rfl⟩)
 have h1':kaa (kgn s) fuel 0=some r:=by simpa using h1
 have h2':kaa (kcj s) fuel 0=some r:=by simpa using h2
 unfold kjr kd3
 rw [h1',h2']
 simp only [qa]
 by_cases hz:(s.size:Int)<1
 ·rw [qe hz,qc (show ¬ (1:Int)≤(s.size:Int) by omega)]
  rcases h3 with rfl | rfl <;> exact ⟨false,rfl,rfl⟩
 ·rw [qc hz,qe (show (1:Int)≤(s.size:Int) by omega)]
  by_cases hg:(24:Int)<(s.size:Int)
  ·rw [qe hg,qc (show ¬ (s.size:Int)≤24 by omega)]
   rcases h3 with rfl | rfl <;> exact ⟨false,rfl,rfl⟩
  ·rw [qc hg,qe (show (s.size:Int)≤24 by omega)]
   rcases h3 with rfl | rfl
   ·exact ⟨true,rfl,rfl⟩
   ·exact ⟨false,rfl,rfl⟩
def tyB (t:Int):Bool:=decide (1≤t) && decide (t≤8)
theorem kyu (t:Int):kjq t=some (tyB t):=by
 unfold kjq tyB
 cases decide (1≤t) <;> rfl
theorem kvi (t:Int):kfu t=some (tyB t):=kyu t
theorem k5v (l:La) (h:l.inputs.length≤9223372036854775807):∃ r,kaa (khl l) fuel 0=some r∧kaa (kcx l) fuel 0=some r∧∀ e,r = .inr e→e≠0:=by
 obtain ⟨r,r',h1,h2,rfl,h3⟩:=kjf (step:=khl l) (step':=kcx l) l.inputs.length (by omega) (fun i=>(i:Int)) (fun i=>(i:Int)) (fun r r'=>r=r'∧∀ e,r = .inr e→e≠0) (fun i hi=>by
  have e1:l.inputs[i]?=some l.inputs[i]:=List.getElem?_eq_getElem hi
  have b1:decide ((i:Int)<(l.inputs.length:Int))=true:=qe (by omega)
  simp only [khl,kcx,b1,qd,kak,e1,qa,kyu,kvi,kb9 (n:=i) (by omega)]
  cases tyB l.inputs[i] with
  | true=>exact .inl ⟨rfl,rfl⟩
  | false=>exact .inr ⟨_,_,rfl,rfl,rfl,fun e h=>by cases h;decide⟩) (by
  have b1:decide ((l.inputs.length:Int)<(l.inputs.length:Int))=false:=qc (by omega)
  simp only [khl,kcx,b1,qb]
  exact ⟨_,_,rfl,rfl,rfl,fun e h=>by cases h⟩)
 exact ⟨r,by simpa using h1,by simpa using h2,h3⟩
theorem ko7 {α:Type} (s:BA):∀ (m:List (BA×α)) (i:Nat),kgw s m i=(kgw s m 0).map fun p=>(p.1+i,p.2)
 | [],i=>rfl
 | (k,v)::l,i=>by
  simp only [kgw]
  cases s.toList == k.toList with
  | true=>simp
  | false=>
   simp only [qb]
   rw [ko7 s l (i+1),ko7 s l (0+1),Option.map_map]
   congr 1
   funext p
   simp only [Function.comp,qad,and_true]
   omega
theorem kpj {α:Type} (k s:BA) (v z:α) (l:List (BA×α)):mget ((k,v)::l) s z=bif s.toList == k.toList then v else mget l s z:=by
 unfold mget
 simp only [kgw]
 cases s.toList == k.toList with
 | true=>rfl
 | false=>
  simp only [qb]
  rw [ko7]
  cases kgw s l 0 <;> rfl
theorem kab2 {α:Type} (k s:BA) (v y:α) (l:List (BA×α)):mput ((k,v)::l) s y=bif s.toList == k.toList then (s,y)::l else (k,v)::mput l s y:=by
 unfold mput
 simp only [kgw]
 cases s.toList == k.toList with
 | true=>rfl
 | false=>
  simp only [qb]
  rw [ko7]
  cases kgw s l 0 <;> rfl
theorem k8y {a b c:BA} (h:(a.toList == b.toList)=true):(c.toList == a.toList)=(c.toList == b.toList):=by rw [beq_iff_eq] at h;rw [h]
theorem k1z {α:Type} (k s:BA) (y z:α):∀ m:List (BA×α),mget (mput m k y) s z=bif s.toList == k.toList then y else mget m s z
 | []=>by
  show mget [(k,y)] s z=_
  rw [kpj]
 | (k',v)::l=>by
  rw [kab2]
  cases h:k.toList == k'.toList with
  | true=>
   simp only [qd]
   rw [kpj,kpj,k8y (c:=s) h]
   cases s.toList == k'.toList <;> rfl
  | false=>
   simp only [qb]
   rw [kpj,kpj,k1z k s y z l]
   cases h1:s.toList == k'.toList with
   | false=>rfl
   | true=>
    cases h2:s.toList == k.toList with
    | false=>rfl
    | true=>
     rw [beq_iff_eq] at h1 h2
     rw [← h1,← h2] at h
     simp at h
def mOf (xs:List Sy):List (BA×Bool):=xs.foldl (fun m x=>mput m x.name true) []
theorem kaez (xs:List Sy) (x:Sy):mOf (xs++[x])=mput (mOf xs) x.name true:=by unfold mOf;rw [List.foldl_append];rfl
theorem k1u (s:BA):∀ (xs:List Sy) (m:List (BA×Bool)),mget (xs.foldl (fun m x=>mput m x.name true) m) s false=(mget m s false || xs.any fun x=>s.toList == x.name.toList)
 | [],m=>by simp
 | x::xs,m=>by
  rw [List.foldl_cons,k1u s xs,k1z,List.any_cons]
  cases s.toList == x.name.toList <;> simp
theorem kade (s:BA) (xs:List Sy):mget (mOf xs) s false=xs.any fun x=>s.toList == x.name.toList:=by
 unfold mOf
 rw [k1u]
 rfl
theorem kahd (l:La) (i:Nat) (hi:i<l.symbols.length) (hl:l.symbols.length≤9223372036854775807):kaa (kcb l (i:Int)) fuel 0=some (if ((l.symbols.take i).any fun x=>l.symbols[i].name.toList == x.name.toList)=true then .inr 6 else .inl ()):=by
 have hlen:(l.symbols.take i).length=i:=by rw [qai];omega
 have:=kkp (step:=kcb l (i:Int)) i (by omega) (fun j=>(j:Int)) (fun j=>if (((l.symbols.take i).drop j).any fun x=>l.symbols[i].name.toList == x.name.toList)=true then .inr 6 else .inl ()) (fun j hj=>by
  have e0:l.symbols[i]?=some l.symbols[i]:=List.getElem?_eq_getElem hi
  have hj':j<l.symbols.length:=by omega
  have e1:l.symbols[j]?=some l.symbols[j]:=List.getElem?_eq_getElem hj'
  have b1:decide ((j:Int)<(i:Int))=true:=qe (by omega)
  have hd:(l.symbols.take i).drop j=l.symbols[j]::(l.symbols.take i).drop (j+1):=by
   rw [qv (by omega)]
   congr 1
   exact List.getElem_take
  have hc:(l.symbols[j].name.toList == l.symbols[i].name.toList)=(l.symbols[i].name.toList == l.symbols[j].name.toList):=by rw [Bool.eq_iff_iff,beq_iff_eq,beq_iff_eq];exact eq_comm
  simp only [kcb,b1,qd,kak,e0,e1,qa,hd,List.any_cons,kb9 (n:=j) (by omega),hc]
  cases hb:l.symbols[i].name.toList == l.symbols[j].name.toList with
  | true=>exact .inr rfl
  | false=>exact .inl ⟨rfl,rfl⟩) (by
  have b1:decide ((i:Int)<(i:Int))=false:=qc (by omega)
  have hd:(l.symbols.take i).drop i=[]:=qaf (by omega)
  simp only [kcb,b1,qb,hd,List.any_nil]
  rfl)
 simpa using this
theorem k5l (l:La) (h:l.symbols.length≤9223372036854775807) (hs:∀ x∈l.symbols,x.name.size≤9223372036854775807):∃ r,kaa (khe l) fuel (0,[])=some r∧kaa (kcv l) fuel 0=some r∧∀ e,r = .inr e→e≠0:=by
 obtain ⟨r,r',h1,h2,rfl,h3⟩:=kjf (step:=khe l) (step':=kcv l) l.symbols.length (by omega) (fun i=>((i:Int),mOf (l.symbols.take i))) (fun i=>(i:Int)) (fun r r'=>r=r'∧∀ e,r = .inr e→e≠0) (fun i hi=>by
  have e1:l.symbols[i]?=some l.symbols[i]:=List.getElem?_eq_getElem hi
  have b1:decide ((i:Int)<(l.symbols.length:Int))=true:=qe (by omega)
  obtain ⟨b,n1,n2⟩:=kz9 l.symbols[i].name (hs _ (qn hi))
  have hd:=kahd l i hi h
  have hm:=kade l.symbols[i].name (l.symbols.take i)
  have hnext:mput (mOf (l.symbols.take i)) l.symbols[i].name true=mOf (l.symbols.take (i+1)):=by
   rw [List.take_add_one,e1,← kaez];rfl
  simp only [khe,kcv,b1,qd,kak,e1,qa,n1,n2,hd,hm,kyu,kvi,kb9 (n:=i) (by omega),hnext]
  cases b with
  | false=>exact .inr ⟨_,_,rfl,rfl,rfl,fun e h=>by cases h;decide⟩
  | true=>
   simp only [qae,qb]
   cases hb:(l.symbols.take i).any fun x=>l.symbols[i].name.toList == x.name.toList with
   | true=>exact .inr ⟨_,_,rfl,rfl,rfl,fun e h=>by cases h;decide⟩
   | false=>
    cases tyB l.symbols[i].type with
    | true=>exact .inl ⟨rfl,rfl⟩
    | false=>exact .inr ⟨_,_,rfl,rfl,rfl,fun e h=>by cases h;decide⟩) (by
  have b1:decide ((l.symbols.length:Int)<(l.symbols.length:Int))=false:=qc (by omega)
  simp only [khe,kcv,b1,qb]
  exact ⟨_,_,rfl,rfl,rfl,fun e h=>by cases h⟩)
 exact ⟨r,by simpa [mOf] using h1,by simpa using h2,h3⟩
end Go.Proofs.YtaimpcnpifoidaaGreatDoor
set_option linter.unusedVariables false
set_option linter.unusedSimpArgs false
set_option maxRecDepth 100000
namespace Go.Proofs.YtaimpcnpifoidaaGreatDoor
open Go Go.RowKit
def opL:List S_operator_entry:=operator_catalog.getD []
theorem k73:operator_catalog.isSome=true:=by kernel_rfl
theorem kake:operator_catalog=some opL:=by
 have h:=k73
 unfold opL
 revert h
 generalize operator_catalog=x
 intro h
 cases x with
 | none=>cases h
 | some x=>rfl
def refFs:List BA:=synthesisref09_families.getD []
theorem kadj:synthesisref09_families=some refFs:=rfl
def catL (f:BA):List S_ar3_str:=(kc6 f).getD []
theorem kafx:refFs.all (fun f=>(kc6 f).isSome)=true:=by kernel_rfl
theorem kah3 {f:BA} (hf:f∈refFs):kc6 f=some (catL f):=by
 have h:=qm.1 kafx f hf
 unfold catL
 revert h
 generalize kc6 f=x
 intro h
 cases x with
 | none=>cases h
 | some x=>rfl
def opNames:List BA:=opL.map fun e=>e.f_Operator.f_Name
theorem k8f:(refFs.flatMap fun f=>(catL f).map fun x=>x.f_0)=opNames:=by kernel_rfl
def eqOp:Option (S_api_Operator×Bool)→Option (S_api_Operator×Bool)→Bool
 | some (a,b),some (c,d)=>(a.f_Name.toList == c.f_Name.toList) && (a.f_Args == c.f_Args) && (a.f_Result == c.f_Result) && (b == d)
 | _,_=>false
theorem kah5 {x y:Option (S_api_Operator×Bool)} (h:eqOp x y=true):∃ r,x=some r∧y=some r:=by
 unfold eqOp at h
 split at h
 ·rename_i a b c d
  simp only [qu,beq_iff_eq] at h
  obtain ⟨⟨⟨h1,h2⟩,h3⟩,rfl⟩:=h
  obtain ⟨n,l,t⟩:=a
  obtain ⟨n',l',t'⟩:=c
  simp only at h1 h2 h3
  have h1:n=n':=by
   have:(n.toList == n'.toList)=true:=by simpa using h1
   rw [kn8,MapKept.bytes_beq] at this
   exact this
  subst h1 h2 h3
  exact ⟨_,rfl,rfl⟩
 ·cases h
theorem kacq:opNames.all (fun n=>eqOp (kg8 n) (kbf n))=true:=by kernel_rfl
def kabp:S_api_Operator:=S_api_Operator.mk ⟨#[]⟩ [] 0
theorem k7q:opL.length<1000:=q9 (by kernel_rfl)
theorem k1x:refFs.length<1000:=q9 (by kernel_rfl)
theorem k3z:refFs.all (fun f=>decide ((catL f).length<1000))=true:=by kernel_rfl
theorem k4g {f:BA} (hf:f∈refFs):(catL f).length<1000:=q9 (qm.1 k3z f hf)
theorem kv6 (s:BA) (hin:¬ s∈opNames):kg8 s=some (kabp,false)∧kbf s=some (kabp,false):=by
 refine ⟨?_,?_⟩
 ·have hl:=kum (step:=khg s opL) opL.length (by have:=k7q;omega) (fun i=>(i:Int)) (.inl ()) (fun i hi=>by
   have e1:opL[i]?=some opL[i]:=List.getElem?_eq_getElem hi
   have b1:decide ((i:Int)<(opL.length:Int))=true:=qe (by omega)
   have hne:(opL[i].f_Operator.f_Name.toList == s.toList)=false:=by
    cases hb:opL[i].f_Operator.f_Name.toList == s.toList with
    | false=>rfl
    | true=>
     rw [kn8,MapKept.bytes_beq] at hb
     exact absurd (qao.2 ⟨opL[i],qn hi,hb⟩) hin
   simp only [khg,b1,qd,kak,e1,qa,hne,qb,kb9 (n:=i) (by have:=k7q;omega)]) (by
   have b1:decide ((opL.length:Int)<(opL.length:Int))=false:=qc (by omega)
   simp only [khg,b1,qb])
  have hl':kaa (khg s opL) fuel 0=some (.inl ()):=by simpa using hl
  simp only [kg8,kmz,kake,qa,hl',qf]
  rfl
 ·have hl:=kum (step:=kd7 s refFs) refFs.length (by have:=k1x;omega) (fun i=>(i:Int)) (.inl ()) (fun i hi=>by
   have e1:refFs[i]?=some refFs[i]:=List.getElem?_eq_getElem hi
   have hf:refFs[i]∈refFs:=qn hi
   have b1:decide ((i:Int)<(refFs.length:Int))=true:=qe (by omega)
   have hl2:=kum (step:=kea s refFs[i] (catL refFs[i])) (catL refFs[i]).length (by have:=k4g hf;omega) (fun i=>(i:Int)) (.inl ()) (fun j hj=>by
    have e2:(catL refFs[i])[j]?=some (catL refFs[i])[j]:=List.getElem?_eq_getElem hj
    have b2:decide ((j:Int)<((catL refFs[i]).length:Int))=true:=qe (by omega)
    have hne:((catL refFs[i])[j].f_0.toList == s.toList)=false:=by
     cases hb:(catL refFs[i])[j].f_0.toList == s.toList with
     | false=>rfl
     | true=>
      rw [kn8,MapKept.bytes_beq] at hb
      refine absurd ?_ hin
      rw [← k8f]
      exact List.mem_flatMap.2 ⟨refFs[i],hf,qao.2 ⟨_,qn hj,hb⟩⟩
    simp only [kea,b2,qd,kak,e2,qa,hne,qb,kb9 (n:=j) (by have:=k4g hf;omega)]) (by
    have b2:decide (((catL refFs[i]).length:Int)<((catL refFs[i]).length:Int))=false:=qc (by omega)
    simp only [kea,b2,qb])
   have hl2':kaa (kea s refFs[i] (catL refFs[i])) fuel 0=some (.inl ()):=by simpa using hl2
   simp only [kd7,b1,qd,kak,e1,qa,kah3 hf,hl2',qf,kb9 (n:=i) (by have:=k1x;omega)]) (by
   have b1:decide ((refFs.length:Int)<(refFs.length:Int))=false:=qc (by omega)
   simp only [kd7,b1,qb])
  have hl':kaa (kd7 s refFs) fuel 0=some (.inl ()):=by simpa using hl
  simp only [kbf,kh6,kadj,qa,hl',qf,qa3,qd]
  rfl
theorem kv2 (s:BA):∃ r,kg8 s=some r∧kbf s=some r:=by
 by_cases hin:s∈opNames
 ·exact kah5 (qm.1 kacq s hin)
 ·exact ⟨_,kv6 s hin⟩
end Go.Proofs.YtaimpcnpifoidaaGreatDoor
set_option linter.unusedVariables false
set_option linter.unusedSimpArgs false
namespace Go.Proofs.YtaimpcnpifoidaaGreatDoor
open Go Go.RowKit
theorem ksl {α:Type} {xs:List α} {i:Int} (h0:0≤i) (h1:i<(xs.length:Int)):∃ x,idx xs i=some x∧x∈xs:=by
 have h:i.toNat<xs.length:=by omega
 refine ⟨xs[i.toNat],?_,qn h⟩
 unfold idx
 rw [if_pos h0,List.getElem?_eq_getElem h]
theorem kaae (x y:List Int):kcu x y=kc1 x y:=rfl
theorem kaar (x y:List Int) (hx:x.length≤9223372036854775807):∃ c,kc1 x y=some c:=by
 unfold kc1
 by_cases hl:(x.length:Int)=(y.length:Int)
 ·obtain ⟨r,h1,_⟩:=kpr (step:=kcw x y) (step':=kcw x y) x.length (by omega) (fun i=>(i:Int)) (fun i hi=>by
   have e1:x[i]?=some x[i]:=List.getElem?_eq_getElem hi
   have hi2:i<y.length:=by omega
   have e2:y[i]?=some y[i]:=List.getElem?_eq_getElem hi2
   have b1:decide ((i:Int)<(x.length:Int))=true:=qe (by omega)
   simp only [kcw,b1,qd,kak,e1,e2,qa,kb9 (n:=i) (by omega)]
   cases x[i] != y[i] with
   | true=>exact .inr ⟨_,rfl,rfl⟩
   | false=>exact .inl ⟨rfl,rfl⟩) (.inl ()) (by
   have b1:decide ((x.length:Int)<(x.length:Int))=false:=qc (by omega)
   simp only [kcw,b1,qb]) (by
   have b1:decide ((x.length:Int)<(x.length:Int))=false:=qc (by omega)
   simp only [kcw,b1,qb])
  have h1':kaa (kcw x y) fuel 0=some r:=by simpa using h1
  rw [h1',show ((x.length:Int) != (y.length:Int))=false by rw [bne_eq_false_iff_eq];omega]
  cases r with
  | inl u=>exact ⟨true,rfl⟩
  | inr b=>exact ⟨b,rfl⟩
 ·rw [show ((x.length:Int) != (y.length:Int))=true by rw [qas];omega]
  exact ⟨false,rfl⟩
theorem kym (x:List Int):kc1 x []=some ((x.length:Int) == 0):=by
 cases x with
 | nil=>kernel_rfl
 | cons a x=>
  unfold kc1
  have h1:((((a::x).length:Nat):Int) != (([]:List Int).length:Int))=true:=by
   rw [qas,qq,qab]
   omega
  have h2:((((a::x).length:Nat):Int) == 0)=false:=by
   rw [qy,qq]
   omega
  rw [h1,h2]
  rfl
def fineR (r:Ru):Prop:=r.args.length≤9223372036854775807∧okV r.const∧ks9 r.const
theorem k2g {a b:Ru} (ha:fineR a) (hb:fineR b):∃ c,ker a b=some c∧kdo a b=some c:=by
 obtain ⟨c,hc⟩:=kaar a.args b.args ha.1
 unfold ker kdo
 simp only [kaae,hc,qa,kok ha.2.1 hb.2.1,kvc ha.2.1 hb.2.1]
 cases a.symbol == b.symbol <;> cases a.kind == b.kind <;> cases a.input == b.input <;> cases a.op.toList == b.op.toList <;> cases c <;> exact ⟨_,rfl,rfl⟩
theorem kaaq (v:Va):Va.mk v.type v.num v.text v.items=v:=by cases v;rfl
def kda:Va:=Va.mk 0 0 ⟨#[]⟩ []
theorem kyj:okV kda:=by refine ⟨?_,?_,trivial⟩ <;> simp [kda,depV,kr7]
theorem kaaf (l:La) (r:Ru) (o:S_api_Operator×Bool) (hr:r.args.length≤9223372036854775807) (hl:r.args.length=o.1.f_Args.length):∃ c,kaa (kh8 l r o) fuel 0=some c∧kaa (ka7 l r o) fuel 0=some c:=by
 obtain ⟨c,h1,h2⟩:=kpr (step:=kh8 l r o) (step':=ka7 l r o) r.args.length (by omega) (fun i=>(i:Int)) (fun i hi=>by
  have e1:r.args[i]?=some r.args[i]:=List.getElem?_eq_getElem hi
  have hi2:i<o.1.f_Args.length:=by omega
  have e2:o.1.f_Args[i]?=some o.1.f_Args[i]:=List.getElem?_eq_getElem hi2
  have b1:decide ((i:Int)<(r.args.length:Int))=true:=qe (by omega)
  simp only [kh8,ka7,ki4,b1,qd,kak,e1,e2,qa,kb9 (n:=i) (by omega)]
  by_cases h0:0≤r.args[i]
  ·by_cases h1:r.args[i]<(l.symbols.length:Int)
   ·obtain ⟨x,hx,_⟩:=ksl h0 h1
    rw [qe h0,qe h1,qc (show ¬ r.args[i]<0 by omega),qc (show ¬ (l.symbols.length:Int)≤r.args[i] by omega)]
    simp only [qd,qb,qa,qae,hx]
    cases x.type != o.1.f_Args[i] with
    | true=>exact .inr ⟨_,rfl,rfl⟩
    | false=>exact .inl ⟨rfl,rfl⟩
   ·rw [qe h0,qc h1,qc (show ¬ r.args[i]<0 by omega),qe (show (l.symbols.length:Int)≤r.args[i] by omega)]
    exact .inr ⟨_,rfl,rfl⟩
  ·rw [qc h0,qe (show r.args[i]<0 by omega)]
   exact .inr ⟨_,rfl,rfl⟩) (.inl ()) (by
  have b1:decide ((r.args.length:Int)<(r.args.length:Int))=false:=qc (by omega)
  simp only [kh8,b1,qb]) (by
  have b1:decide ((r.args.length:Int)<(r.args.length:Int))=false:=qc (by omega)
  simp only [ka7,b1,qb])
 exact ⟨c,by simpa using h1,by simpa using h2⟩
theorem kab3 (a b:Int):(a != b)=(b != a):=by
 rw [Bool.eq_iff_iff,qas,qas]
 exact ⟨fun h e=>h e.symm,fun h e=>h e.symm⟩
theorem kaec (l:La) (r:Ru) (ha:r.args.length≤9223372036854775807) (hz:kch r.const (Va.mk 0 0 ⟨#[]⟩ [])=some (eqV r.const kda)) (hp:kf6 r.const (Va.mk 0 0 ⟨#[]⟩ [])=some (eqV r.const kda)) (hc:∃ c,kah fuel r.const=some c∧ka0 fuel r.const=some c):∃ c,kj9 l r=some c∧kcp l r=some c:=by
 have hpe:kf6 (Va.mk r.const.type r.const.num r.const.text r.const.items) (Va.mk 0 0 ⟨#[]⟩ [])=some (eqV r.const kda):=by rw [kaaq];exact hp
 have hpz:kf6 (Va.mk 0 0 ⟨#[]⟩ []) (Va.mk 0 0 ⟨#[]⟩ [])=some true:=by
  have:=kok kyj kyj
  rw [k32] at this
  exact this
 unfold kj9 kcp ki4
 by_cases h0:0≤r.symbol
 rotate_left
 ·rw [qc h0,qe (show r.symbol<0 by omega)]
  exact ⟨1,rfl,rfl⟩
 by_cases h1:r.symbol<(l.symbols.length:Int)
 rotate_left
 ·rw [qe h0,qc h1,qc (show ¬ r.symbol<0 by omega),qe (show (l.symbols.length:Int)≤r.symbol by omega)]
  exact ⟨1,rfl,rfl⟩
 obtain ⟨x,hx,_⟩:=ksl h0 h1
 rw [qe h0,qe h1,qc (show ¬ r.symbol<0 by omega),qc (show ¬ (l.symbols.length:Int)≤r.symbol by omega)]
 simp only [qd,qb,qa,qae]
 by_cases k1:r.kind<1
 ·rw [qe k1]
  exact ⟨4,rfl,rfl⟩
 by_cases k3:3<r.kind
 ·rw [qc k1,qe k3]
  exact ⟨4,rfl,rfl⟩
 rw [qc k1,qc k3]
 simp only [qb,qa,hx]
 have hk:r.kind=1∨r.kind=2∨r.kind=3:=by omega
 rcases hk with hk | hk | hk
 ·have c1:(r.kind == 1)=true:=by rw [hk];rfl
  simp only [c1,qd,qa,ker,kcq,qa3,kym,hpe,hz]
  have fin:∃ c,(Option.bind ((bif (decide (r.input<0)) then (some (true)) else (some ((decide ((List.length l.inputs:Int)≤r.input))))):Option ((Bool))) fun (v9:(Bool))=>(bif v9 then (some 1) else (Option.bind (idx l.inputs r.input) fun v10=>(Option.bind (kg2 (v10) (x.type)) fun v11=>(some v11)))))=some c ∧
    (Option.bind ((bif (decide (r.input<0)) then (some (true)) else (some ((decide ((List.length l.inputs:Int)≤r.input))))):Option ((Bool))) fun (v8:(Bool))=>(bif v8 then (some 1) else (Option.bind (idx l.inputs r.input) fun v9=>(bif (v9 != x.type) then (some 3) else (some 0)))))=some (c:Int):=by
   by_cases i0:r.input<0
   ·rw [qe i0];exact ⟨1,rfl,rfl⟩
   by_cases i1:(l.inputs.length:Int)≤r.input
   ·rw [qc i0,qe i1];exact ⟨1,rfl,rfl⟩
   obtain ⟨y,hy,_⟩:=ksl (xs:=l.inputs) (i:=r.input) (by omega) (by omega)
   rw [qc i0,qc i1]
   simp only [qb,qa,hy,kg2]
   cases y != x.type <;> exact ⟨_,rfl,rfl⟩
  obtain ⟨c,f1,f2⟩:=fin
  cases r.op.toList == (⟨#[]⟩:BA).toList <;> cases (r.args.length:Int) == 0 <;> cases eqV r.const kda <;> first | exact ⟨4,rfl,rfl⟩ | exact ⟨c,f1,f2⟩
 ·have c1:(r.kind == 1)=false:=by rw [hk];rfl
  have c2:(r.kind == 2)=true:=by rw [hk];rfl
  simp only [c1,c2,qd,qb,qa,ker,kcq,qa3,kym,hpz,hz]
  obtain ⟨c,f1,f2⟩:=hc
  simp only [f1,f2,qa,kg2]
  cases r.input == 0 <;> cases r.op.toList == (⟨#[]⟩:BA).toList <;> cases (r.args.length:Int) == 0 <;> first | exact ⟨4,rfl,rfl⟩ | skip
  cases c != 0 with
  | true=>exact ⟨c,rfl,rfl⟩
  | false=>cases r.const.type != x.type <;> exact ⟨_,rfl,rfl⟩
 ·have c1:(r.kind == 1)=false:=by rw [hk];rfl
  have c2:(r.kind == 2)=false:=by rw [hk];rfl
  have c3:(r.kind == 3)=true:=by rw [hk];rfl
  have en:kc1 [] []=some true:=kym []
  simp only [c1,c2,c3,qd,qb,qa,ker,kcq,qa3,en,hpe,hz]
  obtain ⟨o,f1,f2⟩:=kv2 r.op
  simp only [kcl,f1,f2,qa,kg2]
  cases r.input == 0 <;> cases eqV r.const kda <;> first | exact ⟨4,rfl,rfl⟩ | skip
  simp only [qae,qat,qd,qb,qa]
  cases o.2 with
  | false=>exact ⟨5,rfl,rfl⟩
  | true=>
   simp only [qae,qb]
   by_cases hl:r.args.length=o.1.f_Args.length
   ·rw [show ((r.args.length:Int) != (o.1.f_Args.length:Int))=false by rw [bne_eq_false_iff_eq];omega]
    obtain ⟨c,g1,g2⟩:=kaaf l r o ha hl
    simp only [qb,g1,g2,qa,hx]
    cases c with
    | inl u=>
     simp only [qf,qa]
     rw [kab3]
     cases x.type != o.1.f_Result <;> exact ⟨_,rfl,rfl⟩
    | inr e=>exact ⟨e,rfl,rfl⟩
   ·rw [show ((r.args.length:Int) != (o.1.f_Args.length:Int))=true by rw [qas];omega]
    exact ⟨2,rfl,rfl⟩
end Go.Proofs.YtaimpcnpifoidaaGreatDoor
set_option linter.unusedVariables false
set_option linter.unusedSimpArgs false
namespace Go.Proofs.YtaimpcnpifoidaaGreatDoor
open Go Go.RowKit
theorem kl0 {σ β:Type} {step:σ→Option (σ ⊕ β)} (n:Nat) (S:Nat→σ) (b0:β) (hs:∀ i,i<n→step (S i)=some (.inl (S (i+1)))∨∃ b,step (S i)=some (.inr b)∧b≠b0):
  ∀ (k i:Nat),kaa step k (S i)=some b0→∀ j,i≤j→j<n→step (S j)=some (.inl (S (j+1)))
 | 0,i,h=>by cases h
 | k+1,i,h=>fun j hij hj=>by
  rw [kaa] at h
  rcases hs i (by omega) with h1 | ⟨b,h1,h2⟩
  ·rw [h1] at h
   by_cases he:i=j
   ·subst he;exact h1
   ·exact kl0 n S b0 hs k (i+1) h j (by omega) hj
  ·rw [h1] at h
   injection h with h
   exact absurd h h2
theorem k47 {α:Type} (xs:List α) (i:Nat) (hi:i≤xs.length):cutL xs 0 (i:Int)=some (xs.take i):=by
 unfold cutL
 rw [if_pos (by omega)]
 simp
theorem kadw (l:La) (i:Nat) (hi:i<l.rules.length) (hl:l.rules.length≤9223372036854775807) (hr:∀ j (hj:j<l.rules.length),j≤i→fineR l.rules[j]):∃ b,kb8 (l.rules.take i) l.rules[i]=some b∧kaa (kbw l (i:Int)) fuel 0=some (if b=true then .inr 6 else .inl ()):=by
 have hlen:(l.rules.take i).length=i:=by rw [qai];omega
 obtain ⟨r,r',h1,h2,h3⟩:=kjf (step:=kbq (l.rules.take i) l.rules[i]) (step':=kbw l (i:Int)) i (by omega) (fun j=>(j:Int)) (fun j=>(j:Int))
  (fun r r'=>(r = .inl ()∧r' = .inl ())∨∃ j:Nat,r = .inr (j:Int)∧r' = .inr 6) (fun j hj=>by
  have e0:l.rules[i]?=some l.rules[i]:=List.getElem?_eq_getElem hi
  have hj':j<l.rules.length:=by omega
  have e1:l.rules[j]?=some l.rules[j]:=List.getElem?_eq_getElem hj'
  have e2:(l.rules.take i)[j]?=some l.rules[j]:=by rw [List.getElem?_take_of_lt hj,e1]
  have b1:decide ((j:Int)<(i:Int))=true:=qe (by omega)
  have b2:decide ((j:Int)<((l.rules.take i).length:Int))=true:=by rw [hlen];exact b1
  obtain ⟨c,c1,c2⟩:=k2g (hr j hj' (by omega)) (hr i hi (qw _))
  simp only [kbq,kbw,kj6,b1,b2,qd,kak,e0,e1,e2,qa,c1,c2,kb9 (n:=j) (by omega)]
  cases c with
  | true=>exact .inr ⟨_,_,rfl,rfl, .inr ⟨j,rfl,rfl⟩⟩
  | false=>exact .inl ⟨rfl,rfl⟩) (by
  have b1:decide ((i:Int)<(i:Int))=false:=qc (by omega)
  have b2:decide ((i:Int)<((l.rules.take i).length:Int))=false:=by rw [hlen];exact b1
  simp only [kbq,kbw,b1,b2,qb]
  exact ⟨_,_,rfl,rfl, .inl ⟨rfl,rfl⟩⟩)
 have h1':kaa (kbq (l.rules.take i) l.rules[i]) fuel 0=some r:=by simpa using h1
 have h2':kaa (kbw l (i:Int)) fuel 0=some r':=by simpa using h2
 unfold kb8 kdu
 rw [h1',h2']
 rcases h3 with ⟨rfl,rfl⟩ | ⟨j,rfl,rfl⟩
 ·exact ⟨false,rfl,rfl⟩
 ·refine ⟨true,?_,rfl⟩
  simp only [qa,qg]
  exact congrArg some (qe (by omega))
end Go.Proofs.YtaimpcnpifoidaaGreatDoor
