import Derived.Test.YtaimpcnpifoidaaGreatDoorBc
import Derived.Test.YtaimpcnpifoidaaGreatDoorBx
set_option linter.unusedVariables false
set_option linter.unusedSimpArgs false
set_option maxRecDepth 100000
namespace Go.Proofs.YtaimpcnpifoidaaGreatDoor
open Go Go.RowKit
def ofI (l:La) (s:Int):List Nat:=selN (fun i=>decide ((kad l (i:Int)).symbol=s)) l.rules.length
theorem k9u {l:La} {i:Nat} (h:i<l.rules.length):kad l (i:Int)=l.rules[i]:=by
 unfold kad;rw [show ((i:Int).toNat)=i from rfl,List.getD_eq_getElem?_getD,List.getElem?_eq_getElem h];rfl
theorem of_p {l:La} (s:Int) (hl:l.rules.length≤100000):knj l s=some ((ofI l s).map fun (i:Nat)=>(i:Int)):=by
 unfold knj ofI
 have main:kaa (kk8 l s) fuel (0,[])=some ((selN (fun i=>decide ((kad l (i:Int)).symbol=s)) l.rules.length).map fun (i:Nat)=>(i:Int)):=by
  refine Ev.eq (ki5 l.rules.length (fun k v=>v=((k:Int),(selN (fun i=>decide ((kad l (i:Int)).symbol=s)) k).map fun (i:Nat)=>(i:Int))) (by omega) rfl (fun k v hk hI=>?_) fun v hI=>?_)
  ·subst hI
   refine km0 (s:=(((k+1:Nat):Int),(selN (fun i=>decide ((kad l (i:Int)).symbol=s)) (k+1)).map fun (i:Nat)=>(i:Int))) ?_ rfl
   have hle:=kxg (fun i=>decide ((kad l (i:Int)).symbol=s)) k
   have er:=k9u hk
   simp only [kk8,kbb hk,qd,kak,List.getElem?_eq_getElem hk,qa,kg9 hk (show l.rules.length≤9223372036854775807 by omega)]
   by_cases h:l.rules[k].symbol=s
   ·rw [show (l.rules[k].symbol == s)=true from beq_iff_eq.2 h,qd,kk9 (by simp only [qan,qq,qab];omega),kaeg (by rw [er];exact qe h),List.map_append]
    rfl
   ·rw [show (l.rules[k].symbol == s)=false from beq_false_of_ne h,qb,kahi (by rw [er];exact qc h)]
    rfl
  ·subst hI
   refine klu (b:=_) ?_ rfl
   simp only [kk8,kez,qb]
 rw [main,qa]
def fitB (r:Ru) (x:Ex):Bool:=(r.kind == x.kind) && ((r.op.toList == x.op.toList) && ((r.input == x.input) && eqV r.const x.value))
def kjj (f:Ex→Int→Option Tm):List Int→List Ex→Option (List Tm)
 | [],_=>some []
 | _::_,[]=>none
 | a::bs,x::xs=>match f x a with
  | none=>none
  | some t=>(kjj f bs xs).map (t::·)
def kma (l:La) (f:Ex→Int→Option Tm) (x:Ex):List Nat→Option Tm
 | []=>none
 | i::is=>if fitB (kad l (i:Int)) x=true then (match kjj f (kad l (i:Int)).args x.args with
   | some ys=>some (Tm.mk (i:Int) ys)
   | none=>kma l f x is) else kma l f x is
def drvM (l:La):Nat→Ex→Int→Option Tm
 | 0,_,_=>none
 | n+1,x,s=>kma l (drvM l n) x (ofI l s)
inductive XOk:Ex→Prop
 | mk {k i:Int} {v:Va} {o:BA} {xs:List Ex} (hv:okV v) (h3:k=3→opM (bsOf o)=some xs.length) (hn:k≠3→xs=[]) (ha:∀ a∈xs,XOk a):XOk (.mk k i v o xs)
theorem XOk.args {x:Ex} (h:XOk x):∀ a∈x.args,XOk a:=by
 cases h with
 | @mk _ _ _ _ _ _ _ _ hq=>exact hq
mutual
def szX:Ex→Nat
 | .nil=>1
 | .mk _ _ _ _ xs=>szXs xs+1
def szXs:List Ex→Nat
 | []=>0
 | x::xs=>szX x+szXs xs
end
theorem k66:∀ {xs:List Ex} {x:Ex},x∈xs→szX x≤szXs xs
 | y::xs,x,h=>by
  rw [szXs]
  rcases q8.1 h with rfl | h
  ·omega
  ·have:=k66 h;omega
theorem kaj2 {r:Ru} {x:Ex} (hr:okV r.const) (hx:XOk x):kld r x=some (fitB r x):=by
 cases hx with
 | @mk k i v o xs hv h3 hn ha=>
  unfold kld fitB
  simp only [unEx,qa,Ex.kind,Ex.op,Ex.input,Ex.value]
  rw [kok hr hv]
  generalize (r.kind == k)=b1
  generalize (r.op.toList == o.toList)=b2
  generalize (r.input == i)=b3
  cases b1 <;> cases b2 <;> cases b3 <;> rfl
theorem fit_eq {r:Ru} {x:Ex}:fitB r x=true↔r.kind=x.kind∧r.op=x.op∧r.input=x.input∧r.const=x.value:=by
 unfold fitB
 rw [qu,qu,qu,k0x,beqB_iff,beq_iff_eq,beq_iff_eq]
theorem kyh {l:La} (hv:ValidL l) {r:Ru} (hr:r∈l.rules) {x:Ex} (hx:XOk x) (h:fitB r x=true):r.args.length=x.args.length:=by
 obtain ⟨j,hj,e⟩:=qs.1 hr
 have hV:=(hv.valid j hj).2
 rw [e] at hV
 obtain ⟨f1,f2,f3,f4⟩:=fit_eq.1 h
 cases hx with
 | @mk k i v o xs _ h3 hn ha=>
  simp only [Ex.kind,Ex.op,Ex.args] at f1 f2 ⊢
  rcases hV with ⟨q,_,_,q4,_⟩ | ⟨q,_,_,q4,_⟩ | ⟨q,_,_,o',q4,q5,_⟩
  ·rw [q4,hn (by omega)];rfl
  ·rw [q4,hn (by omega)];rfl
  ·have:=h3 (by omega)
   unfold opM at this
   rw [koj,← f2,q4] at this
   simp only [qh] at this
   omega
def drR:Option Tm→Int×List Tm×Bool
 | some t=>(t.rule,t.args,true)
 | none=>(0,[],false)
theorem k4f {l:La} (hl:khu l) (hv:ValidL l):∀ (n:Nat) (x:Ex) (s:Int),XOk x→szX x≤n→kas n l x s=some (drR (drvM l n x s))
 | 0,x,s,hx,hn=>by cases hx;simp only [szX] at hn;omega
 | n+1,x,s,hx,hn=>by
  have h96:=hv.rules
  have hof:(ofI l s).length≤l.rules.length:=kxg _ _
  show kb2 (kas n) l x s=some (drR (kma l (drvM l n) x (ofI l s)))
  unfold kb2
  rw [of_p s (by omega),qa]
  have hlen:((ofI l s).map fun (i:Nat)=>(i:Int)).length=(ofI l s).length:=qan ..
  have main:kaa (kbx l x (kas n) ((ofI l s).map fun (i:Nat)=>(i:Int))) fuel 0=some (drR (kma l (drvM l n) x (ofI l s))):=by
   refine Ev.eq (ki5 (ofI l s).length (fun k v=>v=(k:Int)∧kma l (drvM l n) x (ofI l s)=kma l (drvM l n) x ((ofI l s).drop k)) (by omega) ⟨rfl,by rw [qar]⟩ (fun k v hk ⟨e,hI⟩=>?_) fun v ⟨e,hI⟩=>?_)
   ·subst e
    have hmem:(ofI l s)[k]<l.rules.length∧_:=mem_selN.1 (qn hk)
    have hd:=qv hk
    generalize hi:(ofI l s)[k]=i at hmem hd
    have hil:=hmem.1
    have e1:((ofI l s).map fun (i:Nat)=>(i:Int))[k]?=some (i:Int):=by rw [List.getElem?_map,List.getElem?_eq_getElem hk,hi];rfl
    obtain ⟨e2,hm⟩:=khj (l:=l) (i:=(i:Int)) (by omega) (by omega)
    have hok:okV (kad l (i:Int)).const:=by
     obtain ⟨j,hj,ej⟩:=qs.1 hm
     have:=hv.valid j hj
     rw [ej] at this
     exact (ValidR.modR (hl.wide _ hm) this).2
    unfold kbx
    rw [hlen]
    simp only [kbb hk,qd,kak,e1,qa,e2,kaj2 hok hx,kg9 hk (show (ofI l s).length≤9223372036854775807 by omega)]
    rw [hd,kma] at hI
    cases hf:fitB (kad l (i:Int)) x with
    | false=>
     rw [hf] at hI
     simp only [qax,if_false] at hI
     exact km0 (s:=((k+1:Nat):Int)) rfl ⟨rfl,hI⟩
    | true=>
     rw [hf,if_pos rfl] at hI
     have hal:=kyh hv hm hx hf
     have har:(kad l (i:Int)).args.length≤1000:=kafq hl hv hm
     have inner:kaa (kbz l x (kas n) (kad l (i:Int))) fuel (0,[])=some (match kjj (drvM l n) (kad l (i:Int)).args x.args with | some ys => .inr ys | none => .inl ()):=by
      refine Ev.eq (ki5 (kad l (i:Int)).args.length (fun j v=>∃ acc,v=((j:Int),acc)∧acc.length=j∧kjj (drvM l n) (kad l (i:Int)).args x.args=(kjj (drvM l n) ((kad l (i:Int)).args.drop j) (x.args.drop j)).map (acc++·)) (by omega) ⟨[],rfl,rfl,by
       rw [qar,qar]
       cases kjj (drvM l n) (kad l (i:Int)).args x.args <;> rfl⟩ (fun j v hj ⟨acc,e,hacc,hJ⟩=>?_) fun v ⟨acc,e,hacc,hJ⟩=>?_)
      ·subst e
       have hj2:j<x.args.length:=by omega
       have hxa:XOk x.args[j]:=by
        cases hx with
        | @mk _ _ _ _ xs _ _ _ ha=>exact ha _ (qn hj2)
       have hsz:szX x.args[j]≤n:=by
        cases hx with
        | @mk _ _ _ _ xs _ _ _ ha=>
         have h1:szX (xs[j])≤szXs xs:=k66 (qn hj2)
         simp only [szX] at hn
         exact qaw h1 (by omega)
       have hun:unEx x=some x:=by cases hx;rfl
       have ih:=k4f hl hv n x.args[j] (kad l (i:Int)).args[j] hxa hsz
       rw [qv hj,qv hj2,kjj] at hJ
       simp only [kbz,kbb hj,qd,kak,List.getElem?_eq_getElem hj,List.getElem?_eq_getElem hj2,hun,qa,ih,kg9 hj (show (kad l (i:Int)).args.length≤9223372036854775807 by omega)]
       cases ht:drvM l n x.args[j] (kad l (i:Int)).args[j] with
       | none=>
        rw [ht] at hJ
        refine kow (b := .inl ()) rfl ?_
        rw [hJ];rfl
       | some t=>
        rw [ht] at hJ
        simp only [drR,qae,qb]
        rw [kk9 (by simp only [qq,qab];omega)]
        refine km0 (s:=(((j+1:Nat):Int),acc++[t])) (by cases t;rfl) ⟨acc++[t],rfl,by simp [hacc],?_⟩
        rw [hJ]
        simp only
        cases kjj (drvM l n) ((kad l (i:Int)).args.drop (j+1)) (x.args.drop (j+1)) with
        | none=>rfl
        | some ys=>simp
      ·subst e
       rw [List.drop_length,kjj] at hJ
       refine klu (b := .inr acc) ?_ (by rw [hJ];simp)
       simp only [kbz,kez,qb]
     rw [qae,qb,inner,qa]
     cases ha:kjj (drvM l n) (kad l (i:Int)).args x.args with
     | none=>
      rw [ha] at hI
      exact km0 (s:=((k+1:Nat):Int)) rfl ⟨rfl,hI⟩
     | some ys=>
      rw [ha] at hI
      refine kow (b:=((i:Int),ys,true)) rfl ?_
      rw [hI];rfl
   ·subst e
    rw [List.drop_length,kma] at hI
    refine klu (b:=(0,[],false)) ?_ (by rw [hI];rfl)
    unfold kbx
    rw [hlen]
    simp only [kez,qb]
  rw [main,qa]
theorem kv9 {l:La} {f:Ex→Int→Option Tm} {x:Ex} {u:Tm}:∀ {is:List Nat},kma l f x is=some u→∃ i ys,i∈is∧u=Tm.mk (i:Int) ys∧fitB (kad l (i:Int)) x=true∧kjj f (kad l (i:Int)).args x.args=some ys
 | i::is,h=>by
  rw [kma] at h
  by_cases hf:fitB (kad l (i:Int)) x=true
  ·rw [if_pos hf] at h
   cases ha:kjj f (kad l (i:Int)).args x.args with
   | none=>
    rw [ha] at h
    obtain ⟨j,ys,h1,h2⟩:=kv9 h
    exact ⟨j,ys,qk _ h1,h2⟩
   | some ys=>
    rw [ha] at h
    cases h
    exact ⟨i,ys,qo ..,rfl,hf,ha⟩
  ·rw [if_neg hf] at h
   obtain ⟨j,ys,h1,h2⟩:=kv9 h
   exact ⟨j,ys,qk _ h1,h2⟩
theorem kv1 {f:Ex→Int→Option Tm}:∀ {bs:List Int} {xs:List Ex} {ys:List Tm},kjj f bs xs=some ys→ys.length=bs.length∧∀ (k:Nat) (h1:k<bs.length) (h2:k<xs.length) (h3:k<ys.length),f xs[k] bs[k]=some ys[k]
 | [],xs,ys,h=>by cases h;exact ⟨rfl,fun k h=>by simp at h⟩
 | a::bs,[],ys,h=>by cases h
 | a::bs,x::xs,ys,h=>by
  rw [kjj] at h
  cases hf:f x a with
  | none=>rw [hf] at h;cases h
  | some t=>
   rw [hf] at h
   obtain ⟨zs,h1,rfl⟩:=qj.1 h
   obtain ⟨h2,h3⟩:=kv1 h1
   refine ⟨by simp [h2],fun k k1 k2 k3=>?_⟩
   cases k with
   | zero=>exact hf
   | succ k=>exact h3 k (by simpa using k1) (by simpa using k2) (by simpa using k3)
theorem k4x {f:Ex→Int→Option Tm}:∀ {bs:List Int} {xs:List Ex},bs.length=xs.length→(∀ (k:Nat) (h1:k<bs.length) (h2:k<xs.length),∃ t,f xs[k] bs[k]=some t)→∃ ys,kjj f bs xs=some ys
 | [],xs,_,_=>⟨[],rfl⟩
 | a::bs,[],h,_=>by simp at h
 | a::bs,x::xs,h,hf=>by
  obtain ⟨t,h1⟩:=hf 0 (by simp) (by simp)
  obtain ⟨ys,h2⟩:=k4x (bs:=bs) (xs:=xs) (by simpa using h) fun k k1 k2=>hf (k+1) (by simpa using k1) (by simpa using k2)
  refine ⟨t::ys,?_⟩
  rw [kjj,show f x a=some t from h1]
  simp only
  rw [h2];rfl
theorem kaho {l:La} (hv:ValidL l) {r:Ru} (hr:r∈l.rules) {x:Ex} (hx:XOk x) (h:fitB r x=true):x=if r.kind=3 then Ex.mk 3 0 kda r.op x.args else if r.kind=1 then Ex.mk 1 r.input kda ⟨#[]⟩ [] else Ex.mk 2 0 r.const ⟨#[]⟩ []:=by
 obtain ⟨j,hj,e⟩:=qs.1 hr
 have hV:=(hv.valid j hj).2
 rw [e] at hV
 obtain ⟨f1,f2,f3,f4⟩:=fit_eq.1 h
 cases hx with
 | @mk k i v o xs _ h3 hn ha=>
  simp only [Ex.kind,Ex.op,Ex.input,Ex.value,Ex.args] at f1 f2 f3 f4 ⊢
  subst f1 f2 f3 f4
  rcases hV with ⟨q,q2,q3,q4,_⟩ | ⟨q,q2,q3,q4,_⟩ | ⟨q,q2,q3,_⟩
  ·rw [if_neg (by omega),if_pos q,hn (by omega),q,q2,q3]
  ·rw [if_neg (by omega),if_neg (by omega),hn (by omega),q,q2,q3]
  ·rw [if_pos q,q,q2,q3]
theorem kv4 {l:La} (hv:ValidL l):∀ (n:Nat) (x:Ex) (s:Int) (u:Tm),XOk x→drvM l n x s=some u→Dr l s u∧exT l u=x
 | 0,x,s,u,hx,h=>by cases h
 | n+1,x,s,u,hx,h=>by
  rw [drvM] at h
  obtain ⟨i,ys,h1,rfl,hf,ha⟩:=kv9 h
  obtain ⟨hil,hsy⟩:=mem_selN.1 h1
  have hsy:=q9 hsy
  obtain ⟨_,hm⟩:=khj (l:=l) (i:=(i:Int)) (by omega) (by omega)
  obtain ⟨a1,a2⟩:=kv1 ha
  have hal:=kyh hv hm hx hf
  have hargs:=hx.args
  have each:∀ (k:Nat) (hk:k<ys.length),Dr l ((kad l (i:Int)).args.getD k 0) ys[k]∧exT l ys[k]=x.args[k]'(by omega):=fun k hk=>by
   have h1:k<(kad l (i:Int)).args.length:=by omega
   have h2:k<x.args.length:=by omega
   have e:(kad l (i:Int)).args.getD k 0=(kad l (i:Int)).args[k]:=by rw [List.getD_eq_getElem?_getD,List.getElem?_eq_getElem h1];rfl
   rw [e]
   exact kv4 hv n _ _ _ (hargs _ (qn h2)) (a2 k h1 h2 hk)
  refine ⟨?_,?_⟩
  ·rw [← hsy]
   exact .mk (by omega) (by omega) a1 fun k hk=>(each k hk).1
  ·have hx':=kaho hv hm hx hf
   unfold exT
   by_cases h3:(kad l (i:Int)).kind=3
   ·rw [if_pos h3] at hx' ⊢
    rw [hx',km8]
    congr 1
    refine List.ext_getElem (by rw [qan];omega) fun k k1 k2=>?_
    rw [List.getElem_map]
    exact (each k (by rw [qan] at k1;exact k1)).2
   ·rw [if_neg h3] at hx' ⊢
    exact hx'.symm
mutual
def shT:Tm→Tm
 | .mk _ ys => .mk 0 (shTs ys)
def shTs:List Tm→List Tm
 | []=>[]
 | y::ys=>shT y::shTs ys
end
mutual
def shX:Ex→Tm
 | .nil => .mk 0 []
 | .mk _ _ _ _ xs => .mk 0 (shXs xs)
def shXs:List Ex→List Tm
 | []=>[]
 | x::xs=>shX x::shXs xs
end
theorem kyr:∀ ys:List Tm,shTs ys=ys.map shT
 | []=>rfl
 | y::ys=>by rw [shTs,kyr ys];rfl
theorem k3w:∀ xs:List Ex,shXs xs=xs.map shX
 | []=>rfl
 | x::xs=>by rw [shXs,k3w xs];rfl
theorem k1b {f:Tm→Tm}:∀ {ys:List Tm},(∀ y∈ys,(f y).size=y.size)→Tm.sizeL (ys.map f)=Tm.sizeL ys
 | [],_=>rfl
 | y::ys,h=>by
  rw [qah,Tm.sizeL,Tm.sizeL,h y (qo ..),k1b fun z hz=>h z (qk _ hz)]
theorem kzo {f:Tm→Tm}:∀ {ys:List Tm},(∀ y∈ys,(f y).depth=y.depth)→Tm.depthL (ys.map f)=Tm.depthL ys
 | [],_=>rfl
 | y::ys,h=>by
  rw [qah,Tm.depthL,Tm.depthL,h y (qo ..),kzo fun z hz=>h z (qk _ hz)]
theorem k23 {f:Tm→Tm} {g:Tm→Int}:∀ {ys:List Tm},(∀ y∈ys,(f y).pre g=y.pre g)→Tm.preL g (ys.map f)=Tm.preL g ys
 | [],_=>rfl
 | y::ys,h=>by
  rw [qah,Tm.preL,Tm.preL,h y (qo ..),k23 fun z hz=>h z (qk _ hz)]
theorem kww:∀ t:Tm,(shT t).size=t.size∧(shT t).depth=t.depth∧(shT t).arities=t.arities:=by
 refine Tm.ind fun i ys ih=>?_
 rw [shT,kyr]
 refine ⟨?_,?_,?_⟩
 ·show Tm.sizeL (ys.map shT)+1=Tm.sizeL ys+1
  rw [k1b fun y hy=>(ih y hy).1]
 ·show Tm.depthL (ys.map shT)+1=Tm.depthL ys+1
  rw [kzo fun y hy=>(ih y hy).2.1]
 ·unfold Tm.arities at ih ⊢
  rw [ktd,ktd]
  show ((ys.map shT).length:Int)::Tm.preL _ (ys.map shT)=(ys.length:Int)::Tm.preL _ ys
  rw [qan,k23 fun y hy=>(ih y hy).2.2]
theorem k2y {l:La} (hv:ValidL l):∀ (t:Tm) (s:Int),Dr l s t→shX (exT l t)=shT t:=by
 refine Tm.ind fun i ys ih=>?_
 intro s h
 cases h with
 | @mk i ys h0 h1 hl ha=>
  obtain ⟨_,hm⟩:=khj h0 h1
  unfold exT
  rw [shT,kyr]
  by_cases h3:(kad l i).kind=3
  ·rw [if_pos h3,shX,k3w,km8,List.map_map]
   congr 1
   refine List.map_congr_left fun y hy=>?_
   obtain ⟨k,hk,rfl⟩:=qs.1 hy
   exact ih _ hy _ (ha k hk)
  ·have hna:(kad l i).args=[]:=by
    obtain ⟨j,hj,e⟩:=qs.1 hm
    have hV:=(hv.valid j hj).2
    rw [e] at hV
    rcases hV with ⟨_,_,_,q4,_⟩ | ⟨_,_,_,q4,_⟩ | ⟨q,_⟩
    ·exact q4
    ·exact q4
    ·exact absurd q h3
   have:ys=[]:=qz (by rw [hl,hna];rfl)
   subst this
   rw [if_neg h3]
   by_cases h1:(kad l i).kind=1
   ·rw [if_pos h1];rfl
   ·rw [if_neg h1];rfl
mutual
def txX:Ex→List UInt8
 | .nil=>[]
 | .mk k i v o xs=>if k=3 then bsOf o++(40::(kba (txXs xs)++[41])) else if k=1 then 105::110::kb7 i else kac v
def txXs:List Ex→List (List UInt8)
 | []=>[]
 | x::xs=>txX x::txXs xs
end
theorem k3i:∀ xs:List Ex,txXs xs=xs.map txX
 | []=>rfl
 | x::xs=>by rw [txXs,k3i xs];rfl
theorem kags (l:La):∀ t:Tm,txX (exT l t)=txT l t:=by
 refine Tm.ind fun i ys ih=>?_
 unfold exT txT
 by_cases h3:(kad l i).kind=3
 ·rw [if_pos h3,if_pos h3,txX,if_pos rfl,k3i,km8,kom,List.map_map]
  congr 4
  exact List.map_congr_left ih
 ·rw [if_neg h3,if_neg h3]
  unfold knr
  by_cases h1:(kad l i).kind=1
  ·rw [if_pos h1,if_pos h1,txX,if_neg (by decide),if_pos rfl]
  ·rw [if_neg h1,if_neg h1,txX,if_neg (by decide),if_neg (by decide)]
theorem k69:∀ (x y a b:List Int),x.length=y.length→lexC (x++a) (y++b)=if lexC x y≠0 then lexC x y else lexC a b
 | [],[],a,b,_=>by simp [lexC]
 | [],_::_,_,_,h=>by simp at h
 | _::_,[],_,_,h=>by simp at h
 | p::x,q::y,a,b,h=>by
  rw [qag,qag,lexC,lexC]
  by_cases h1:p<q
  ·rw [if_pos h1,if_pos h1];simp
  ·rw [if_neg h1,if_neg h1]
   by_cases h2:q<p
   ·rw [if_pos h2,if_pos h2];simp
   ·rw [if_neg h2,if_neg h2]
    exact k69 x y a b (by simpa using h)
theorem k4y:∀ (us ts:List Tm),us.length=ts.length→(∀ (k:Nat) (h1:k<us.length) (h2:k<ts.length),us[k].size=ts[k].size∧lexC us[k].rules ts[k].rules≤0)→lexC (Tm.preL Tm.rule us) (Tm.preL Tm.rule ts)≤0
 | [],[],_,_=>by simp [Tm.preL,lexC]
 | [],_::_,h,_=>by simp at h
 | _::_,[],h,_=>by simp at h
 | u::us,t::ts,h,hk=>by
  obtain ⟨h1,h2⟩:=hk 0 (by simp) (by simp)
  have h1:u.size=t.size:=h1
  have h2:lexC u.rules t.rules≤0:=h2
  rw [Tm.preL,Tm.preL]
  show lexC (u.rules++_) (t.rules++_)≤0
  rw [k69 _ _ _ _ (by rw [Tm.rules_length,Tm.rules_length,h1])]
  split
  ·exact h2
  ·exact k4y us ts (by simpa using h) fun k k1 k2=>hk (k+1) (by simpa using k1) (by simpa using k2)
theorem x_ok {l:La} (hl:khu l) (hv:ValidL l):∀ (t:Tm) (s:Int),Dr l s t→XOk (exT l t)∧szX (exT l t)=t.size:=by
 refine Tm.ind fun i ys ih=>?_
 intro s h
 cases h with
 | @mk i ys h0 h1 hlen ha=>
  obtain ⟨_,hm⟩:=khj h0 h1
  obtain ⟨j,hj,e⟩:=qs.1 hm
  have hV:=hv.valid j hj
  rw [e] at hV
  have hmod:=(ValidR.modR (hl.wide _ hm) hV).2
  have hsz:(Tm.mk i ys).size=Tm.sizeL ys+1:=rfl
  have hnil:(kad l i).args=[]→ys=[]:=fun h=>qz (by rw [hlen,h];rfl)
  unfold exT
  rcases hV.2 with ⟨q,q2,q3,q4,_⟩ | ⟨q,q2,q3,q4,_⟩ | ⟨q,q2,q3,o,q4,q5,_⟩
  ·obtain rfl:=hnil q4
   rw [if_neg (by omega),if_pos q]
   exact ⟨.mk (q2 ▸ hmod) (fun h=>by cases h) (fun _=>rfl) (by simp),rfl⟩
  ·obtain rfl:=hnil q4
   rw [if_neg (by omega),if_neg (by omega)]
   exact ⟨.mk hmod (fun h=>by cases h) (fun _=>rfl) (by simp),rfl⟩
  ·rw [if_pos q,km8]
   have each:∀ y∈ys,XOk (exT l y)∧szX (exT l y)=y.size:=fun y hy=>by
    obtain ⟨k,hk,rfl⟩:=qs.1 hy
    exact ih _ hy _ (ha k hk)
   refine ⟨.mk (q3 ▸ hmod) (fun _=>?_) (fun h=>absurd rfl h) fun a h=>?_,?_⟩
   ·unfold opM
    rw [koj,q4]
    simp only [qan]
    rw [hlen,q5]
   ·obtain ⟨y,hy,rfl⟩:=qao.1 h
    exact (each y hy).1
   ·rw [szX,hsz]
    congr 1
    have:∀ zs:List Tm,(∀ y∈zs,szX (exT l y)=y.size)→szXs (zs.map (exT l))=Tm.sizeL zs:=fun zs=>by
     induction zs with
     | nil=>intro _;rfl
     | cons z zs ihz=>
      intro hz
      rw [qah,szXs,Tm.sizeL,hz z (qo ..),ihz fun y hy=>hz y (qk _ hy)]
    exact this ys fun y hy=>(each y hy).2
theorem ktv {l:La} {f:Ex→Int→Option Tm} {x:Ex} {i:Nat} {ys:List Tm} (hf:fitB (kad l (i:Int)) x=true) (ha:kjj f (kad l (i:Int)).args x.args=some ys):∀ {is:List Nat},is.Pairwise (·<·)→i∈is→∃ (j:Nat) (zs:List Tm),kma l f x is=some (Tm.mk (j:Int) zs)∧(j<i∨(j=i∧zs=ys))
 | j::is,hp,hi=>by
  rw [kma]
  by_cases hj:j=i
  ·subst hj
   rw [if_pos hf,ha]
   exact ⟨j,ys,rfl, .inr ⟨rfl,rfl⟩⟩
  ·have hi':i∈is:=by rcases q8.1 hi with h | h;exact absurd h.symm hj;exact h
   have hlt:=(List.pairwise_cons.1 hp).1 i hi'
   by_cases hfj:fitB (kad l (j:Int)) x=true
   ·rw [if_pos hfj]
    cases haj:kjj f (kad l (j:Int)).args x.args with
    | some zs=>exact ⟨j,zs,rfl, .inl hlt⟩
    | none=>exact ktv hf ha (List.pairwise_cons.1 hp).2 hi'
   ·rw [if_neg hfj]
    exact ktv hf ha (List.pairwise_cons.1 hp).2 hi'
theorem kafc {l:La} (hv:ValidL l) {i:Int} {ys:List Tm} (hm:kad l i∈l.rules):fitB (kad l i) (exT l (.mk i ys))=true:=by
 obtain ⟨j,hj,e⟩:=qs.1 hm
 have hV:=(hv.valid j hj).2
 rw [e] at hV
 unfold exT
 rw [fit_eq]
 rcases hV with ⟨q,q2,q3,q4,_⟩ | ⟨q,q2,q3,q4,_⟩ | ⟨q,q2,q3,_⟩
 ·rw [if_neg (by omega),if_pos q];exact ⟨q,q3,rfl,q2⟩
 ·rw [if_neg (by omega),if_neg (by omega)];exact ⟨q,q3,q2,rfl⟩
 ·rw [if_pos q];exact ⟨q,rfl,q2,q3⟩
theorem kakl {l:La} {i:Int} {ys:List Tm} (h3:(kad l i).kind=3):exT l (.mk i ys)=Ex.mk 3 0 kda (kad l i).op (ys.map (exT l)):=by
 rw [exT,if_pos h3,km8]
theorem kael {l:La} {i:Int} {ys:List Tm} (h3:¬ (kad l i).kind=3):(exT l (.mk i ys)).args=[]:=by
 rw [exT,if_neg h3]
 split <;> rfl
theorem k1h {l:La} (hl:khu l) (hv:ValidL l):∀ (n:Nat) (t:Tm) (s:Int),t.size≤n→Dr l s t→∃ u,drvM l n (exT l t) s=some u∧lexC u.rules t.rules≤0
 | 0,t,s,h,_=>by have:=Tm.size_pos t;omega
 | n+1,t,s,hn,h=>by
  have hok:=x_ok hl hv t s h
  cases h with
  | @mk i ys h0 h1 hlen ha=>
   obtain ⟨k,rfl⟩:∃ k:Nat,i=(k:Int):=⟨i.toNat,by omega⟩
   have hk:k<l.rules.length:=by omega
   obtain ⟨_,hm⟩:=khj h0 h1
   have hsz:(Tm.mk (k:Int) ys).size=Tm.sizeL ys+1:=rfl
   have hf:=kafc hv (ys:=ys) hm
   have hal:=kyh hv hm hok.1 hf
   have hxa:∀ (j:Nat) (h1:j<ys.length) (h2:j<(exT l (.mk (k:Int) ys)).args.length),(exT l (.mk (k:Int) ys)).args[j]=exT l ys[j]:=fun j j1 j2=>by
    by_cases h3:(kad l (k:Int)).kind=3
    ·have e:=kakl h3 (ys:=ys)
     simp only [e,Ex.args] at j2 ⊢
     rw [List.getElem_map]
    ·exfalso
     rw [kael h3] at j2
     simp at j2
   have each:∀ (j:Nat) (h1:j<(kad l (k:Int)).args.length) (h2:j<(exT l (.mk (k:Int) ys)).args.length),∃ u,drvM l n (exT l (.mk (k:Int) ys)).args[j] (kad l (k:Int)).args[j]=some u∧lexC u.rules (ys[j]'(by omega)).rules≤0:=fun j j1 j2=>by
    have j3:j<ys.length:=by omega
    have hmj:=Tm.sizeL_mem (qn j3)
    have e:(kad l (k:Int)).args.getD j 0=(kad l (k:Int)).args[j]:=by rw [List.getD_eq_getElem?_getD,List.getElem?_eq_getElem j1];rfl
    have hd:=ha j j3
    rw [e] at hd
    rw [hxa j j3 j2]
    exact k1h hl hv n ys[j] _ (by omega) hd
   obtain ⟨zs,hzs⟩:=k4x (f:=drvM l n) hal fun j j1 j2=>⟨_,(each j j1 j2).choose_spec.1⟩
   obtain ⟨z1,z2⟩:=kv1 hzs
   have hmem:k∈ofI l (kad l (k:Int)).symbol:=mem_selN.2 ⟨hk,qe rfl⟩
   obtain ⟨j,ws,hp,hj⟩:=ktv hf hzs (k5w _ _) hmem
   refine ⟨_,hp,?_⟩
   show lexC ((Tm.mk (j:Int) ws).pre Tm.rule) ((Tm.mk (k:Int) ys).pre Tm.rule)≤0
   rw [ktd,ktd]
   show lexC ((j:Int)::Tm.preL Tm.rule ws) ((k:Int)::Tm.preL Tm.rule ys)≤0
   rw [lexC]
   rcases hj with hj | ⟨rfl,rfl⟩
   ·rw [if_pos (by omega)];omega
   ·rw [if_neg (by omega),if_neg (by omega)]
    refine k4y ws ys (by omega) fun q q1 q2=>?_
    have q3:q<(kad l (j:Int)).args.length:=by omega
    have q4:q<(exT l (.mk (j:Int) ys)).args.length:=by omega
    obtain ⟨u,u1,u2⟩:=each q q3 q4
    have e:=z2 q q3 q4 q1
    rw [u1] at e
    obtain rfl:=qp e
    refine ⟨?_,u2⟩
    have hxq:XOk (exT l (.mk (j:Int) ys)).args[q]:=by
     exact hok.1.args _ (qn q4)
    obtain ⟨d1,d2⟩:=kv4 hv n _ _ _ hxq u1
    have hd:=ha q q2
    have s1:=k2y hv _ _ d1
    have s2:=k2y hv _ _ hd
    rw [d2,hxa q q2 q4,s2] at s1
    rw [← (kww ws[q]).1,← (kww ys[q]).1,s1]
end Go.Proofs.YtaimpcnpifoidaaGreatDoor
