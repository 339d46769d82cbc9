import Derived.Test.YtaimpcnpifoidaaGreatDoorNi
set_option linter.unusedVariables false
set_option linter.unusedSimpArgs false
set_option maxRecDepth 100000
namespace Go.Proofs.YtaimpcnpifoidaaGreatDoor
open Go Go.RowKit
theorem k5i {s:BA} {i:Nat} (h:i<s.data.toList.length):byt s (i:Int)=some ((s.data.toList[i]).toNat:Int):=by
 rw [kmo,List.getElem?_eq_getElem h];rfl
theorem kxv {s:BA} {a b:List UInt8} (h:s.data.toList=a++b):cutS s 0 (a.length:Int)=some (mkB a):=by
 have hl:s.size=a.length+b.length:=by rw [kar,h,ql]
 have:=kzx (s:=s) (i:=0) (w:=a.length) (by omega)
 rw [Nat.zero_add] at this
 rw [show ((0:Int))=((0:Nat):Int) from rfl,this,h,List.drop_zero,List.take_left]
theorem k4m {s:BA} {a b:List UInt8} (h:s.data.toList=a++b):cutS s (a.length:Int) (s.size:Int)=some (mkB b):=by
 have hl:s.size=a.length+b.length:=by rw [kar,h,ql]
 have:=kzx (s:=s) (i:=a.length) (w:=b.length) (by omega)
 rw [hl,this,h,List.drop_left,qas]
theorem ks3 (a b:List UInt8):((mkB a).toList == (⟨b.toArray⟩:BA).toList)=decide (a=b):=by
 rw [Bool.eq_iff_iff,decide_eq_true_iff,beqB_iff]
 constructor
 ·intro h
  have:=congrArg bsOf h
  exact (kbh a).symm.trans (this.trans (kbh b))
 ·intro h;rw [h];rfl
theorem ixB {c:UInt8}:∀ l:List UInt8,Lib.indexByte l c=match cutW [c] l with | none => -1 | some p=>(p.1.length:Int)
 | []=>rfl
 | b::l=>by
  rw [Lib.indexByte,kv6]
  by_cases h:b=c
  ·subst h;simp
  ·rw [if_neg h,if_neg (by simpa using h),ixB l]
   cases cutW [c] l with
   | none=>rfl
   | some p=>
    simp only [qa6,qi]
    rw [if_neg (by rw [beq_iff_eq];omega)]
    push_cast
    rfl
theorem kajs {s:BA} {c:UInt8}:ke9 s (⟨#[c]⟩:BA)=some (match cutW [c] s.data.toList with | none => -1 | some p=>(p.1.length:Int)):=by
 unfold ke9
 rw [show (((⟨#[c]⟩:BA).size:Int) == 0)=false from rfl,qb,qa]
 by_cases h:s=⟨#[c]⟩
 ·subst h
  rw [show ((⟨#[c]⟩:BA).toList == (⟨#[c]⟩:BA).toList)=true from beqB_iff.2 rfl,qd]
  rw [show (⟨#[c]⟩:BA).data.toList=[c] from rfl,kv6,if_pos rfl]
  rfl
 ·have hb:((⟨#[c]⟩:BA).toList == s.toList)=false:=by
   rw [Bool.eq_false_iff];intro e;exact h (beqB_iff.1 e).symm
  rw [hb,qb,show (((⟨#[c]⟩:BA).size:Int) == 1)=true from rfl,qd]
  rw [show byt (⟨#[c]⟩:BA) 0=some (c.toNat:Int) from k5i (s:=⟨#[c]⟩) (i:=0) Nat.zero_lt_one,qa]
  unfold kdw
  rw [qa,show ((c.toNat:Int).toNat).toUInt8=c by rw [Int.toNat_natCast];exact UInt8.ofNat_toNat,ixB]
def cutR (s:BA):Option (List UInt8×List UInt8)→BA×BA×Bool
 | none=>(s,⟨#[]⟩,false)
 | some (a,b)=>(mkB a,mkB b,true)
theorem k5q {s:BA} {c:UInt8} (hs:s.size≤4000000):strings_Cut s (⟨#[c]⟩:BA)=some (cutR s (cutW [c] s.data.toList)):=by
 unfold strings_Cut kg0
 rw [kajs,qa]
 cases h:cutW [c] s.data.toList with
 | none=>rfl
 | some p=>
  obtain ⟨a,b⟩:=p
  obtain ⟨e,_⟩:=cut1_some.1 h
  simp only
  have hl:s.size=a.length+(b.length+1):=by rw [kar,e,ql,qi]
  rw [qf (show (0:Int)≤(a.length:Int) by omega),qd,kxv e,qa]
  have e2:s.data.toList=(a++[c])++b:=by rw [e];simp
  have:=k4m e2
  rw [ql,qi,qn] at this
  rw [show (((⟨#[c]⟩:BA).size:Int))=1 from rfl,kc0 (n:=a.length) (by omega),this]
  rfl
theorem k8g:∀ n:Fin 256,kgy ((n.val:Nat):Int)=some (decide ((97≤n.val∧n.val≤122)∨(65≤n.val∧n.val≤90))):=by decide +kernel
theorem kaal (c:UInt8):kgy (c.toNat:Int)=some (decide (letC c)):=k8g ⟨c.toNat,c.toNat_lt⟩
theorem kaes (c:UInt8):ki2 (c.toNat:Int)=some (decide (digC c)):=by
 have:∀ n:Fin 256,ki2 ((n.val:Nat):Int)=some (decide (48≤n.val∧n.val≤57)):=by decide +kernel
 exact this ⟨c.toNat,c.toNat_lt⟩
theorem kq3 {s:BA} (hs:s.size≤4000000):kf3 s=some (decide (kbt s)):=by
 have hlen:s.data.toList.length=s.size:=by rw [← kar]
 unfold kf3
 by_cases h1:s.size<1
 ·rw [qf (show (s.size:Int)<1 by omega),qe (fun h:kbt s=>by have:=h.1.1;omega)]
  rfl
 rw [qe (show ¬ (s.size:Int)<1 by omega),qb,qa]
 by_cases h2:24<s.size
 ·rw [qf (show 24<(s.size:Int) by omega),qe (fun h:kbt s=>by have:=h.1.2;omega)]
  rfl
 rw [qe (show ¬ 24<(s.size:Int) by omega),qb]
 have main:=km5 (step:=kii s) (b0 := .inl ()) s.size (by omega) (fun i=>∀ h:i<s.data.toList.length,letC s.data.toList[i]∨(0<i∧(s.data.toList[i]=45∨digC s.data.toList[i]))) (fun b=>b = .inr false) (fun i hi _=>?_) (by simp only [kii,ket,qb])
 ·obtain ⟨r,e,hr⟩:=main
  rw [e,qa]
  rcases hr with ⟨rfl,hr⟩ | ⟨rfl,hr⟩
  ·rw [qg,qf (show kbt s from ⟨⟨by omega,by omega⟩,fun i hi=>hr i (by omega) hi⟩)]
  ·rw [qh,qe (fun h:kbt s=>hr fun i _ hi=>h.2 i hi)]
 ·have hi':i<s.data.toList.length:=by omega
  have hb:=k5i hi'
  generalize hc:s.data.toList[i]'hi'=c at hb
  have h45:(((c.toNat:Int) != 45)=true)↔c≠45:=by
   rw [qa0]
   refine ⟨fun h e=>h (by rw [e];rfl),fun h e=>h (qav.1 (show c.toNat=45 by omega))⟩
  unfold kii
  simp only [kbe hi,qd,hb,qa,kaal,kaes]
  by_cases hl:letC c
  ·rw [qf hl]
   exact kac (.inl ⟨rfl,fun _=>by rw [hc];exact .inl hl⟩)
  ·rw [qe hl]
   simp only [qat,qd]
   by_cases h0:i=0
   ·subst h0
    simp only [Int.natCast_zero,qa2,qd,qa]
    refine kac (.inr ⟨_,rfl,rfl,fun hh=>?_⟩)
    have:=hh hi'
    rw [hc] at this
    rcases this with h | ⟨h,_⟩
    ·exact hl h
    ·omega
   ·have hb0:((i:Int) == 0)=false:=by rw [qz];omega
    simp only [hb0,qb]
    by_cases h4:c=45
    ·have:((c.toNat:Int) != 45)=false:=by rw [h4];rfl
     simp only [this,qb,qa]
     exact kac (.inl ⟨rfl,fun _=>by rw [hc];exact .inr ⟨by omega, .inl h4⟩⟩)
    ·simp only [h45.2 h4,qd]
     by_cases hd:digC c
     ·rw [qf hd]
      exact kac (.inl ⟨rfl,fun _=>by rw [hc];exact .inr ⟨by omega, .inr hd⟩⟩)
     ·rw [qe hd]
      refine kac (.inr ⟨_,rfl,rfl,fun hh=>?_⟩)
      have:=hh hi'
      rw [hc] at this
      rcases this with h | ⟨_,h | h⟩
      ·exact hl h
      ·exact h4 h
      ·exact hd h
theorem kac0 {step:Int→Option (Int ⊕ (Unit ⊕ (Int×Bool)))} {w:List UInt8} (hs:∀ k:Int,1≤k→k≤8→step k=some (if tyW k=w then .inr (.inr (k,true)) else .inl (k+1))) (he:step 9=some (.inr (.inl ()))):
  kaa step fuel 1=some (match kfq w with | some t => .inr (t,true) | none => .inl ()):=by
 have key:∀ (k:Int) (n:Nat) (r:Unit ⊕ (Int×Bool)),1≤k→k≤8→(tyW k≠w→kaa step n (k+1)=some r)→(tyW k=w→r = .inr (k,true))→kaa step (n+1) k=some r:=fun k n r h1 h2 h3 h4=>by
  by_cases h:tyW k=w
  ·rw [kdm (b := .inr (k,true)) (by rw [hs k h1 h2,if_pos h]),h4 h]
  ·rw [kh9 (s':=k+1) (by rw [hs k h1 h2,if_neg h]),h3 h]
 rw [show fuel=18446744073709551607+1+1+1+1+1+1+1+1+1 from rfl]
 unfold kfq
 by_cases h1:tyW 1=w
 ·exact key 1 _ _ (by omega) (by omega) (fun h=>absurd h1 h) fun _=>by rw [if_pos h1]
 rw [if_neg h1]
 refine key 1 _ _ (by omega) (by omega) (fun _=>?_) fun h=>absurd h h1
 by_cases h2:tyW 2=w
 ·exact key 2 _ _ (by omega) (by omega) (fun h=>absurd h2 h) fun _=>by rw [if_pos h2]
 rw [if_neg h2]
 refine key 2 _ _ (by omega) (by omega) (fun _=>?_) fun h=>absurd h h2
 by_cases h3:tyW 3=w
 ·exact key 3 _ _ (by omega) (by omega) (fun h=>absurd h3 h) fun _=>by rw [if_pos h3]
 rw [if_neg h3]
 refine key 3 _ _ (by omega) (by omega) (fun _=>?_) fun h=>absurd h h3
 by_cases h4:tyW 4=w
 ·exact key 4 _ _ (by omega) (by omega) (fun h=>absurd h4 h) fun _=>by rw [if_pos h4]
 rw [if_neg h4]
 refine key 4 _ _ (by omega) (by omega) (fun _=>?_) fun h=>absurd h h4
 by_cases h5:tyW 5=w
 ·exact key 5 _ _ (by omega) (by omega) (fun h=>absurd h5 h) fun _=>by rw [if_pos h5]
 rw [if_neg h5]
 refine key 5 _ _ (by omega) (by omega) (fun _=>?_) fun h=>absurd h h5
 by_cases h6:tyW 6=w
 ·exact key 6 _ _ (by omega) (by omega) (fun h=>absurd h6 h) fun _=>by rw [if_pos h6]
 rw [if_neg h6]
 refine key 6 _ _ (by omega) (by omega) (fun _=>?_) fun h=>absurd h h6
 by_cases h7:tyW 7=w
 ·exact key 7 _ _ (by omega) (by omega) (fun h=>absurd h7 h) fun _=>by rw [if_pos h7]
 rw [if_neg h7]
 refine key 7 _ _ (by omega) (by omega) (fun _=>?_) fun h=>absurd h h7
 by_cases h8:tyW 8=w
 ·exact key 8 _ _ (by omega) (by omega) (fun h=>absurd h8 h) fun _=>by rw [if_pos h8]
 rw [if_neg h8]
 refine key 8 _ _ (by omega) (by omega) (fun _=>?_) fun h=>absurd h h8
 exact kdm he
def ptR:Option Int→Int×Bool
 | some t=>(t,true)
 | none=>(0,false)
theorem pt_p (b:List UInt8):kh3 (mkB b)=some (ptR (kfq b)):=by
 unfold kh3
 rw [kac0 (w:=b) (fun k h1 h2=>?_) rfl,qa]
 ·cases kfq b <;> rfl
 ·have hk:kin k:=⟨h1,h2⟩
  unfold klh
  rw [qf h2,qd,(kvq hk).1,qa,show mkB b=⟨b.toArray⟩ from rfl,ks3,kf0 (by omega) (by omega)]
  by_cases h:tyW k=b
  ·rw [qf h,if_pos h];rfl
  ·rw [qe h,if_neg h];rfl
def inpR:Option Nat→Int×Bool
 | some k=>((k:Int),true)
 | none=>(0,false)
theorem kadv {b:List UInt8} (h:b.length=3):∃ x y z,b=[x,y,z]:=by
 match b,h with
 | [x,y,z],_=>exact ⟨x,y,z,rfl⟩
theorem kafg {b:List UInt8} (h:b.length≠3):inpL b=none:=by
 unfold inpL
 split
 ·exact absurd rfl h
 ·rfl
theorem k93 (x y z:UInt8):inpL [x,y,z]=if x=105∧y=110∧48≤z.toNat∧z.toNat<52 then some (z.toNat - 48) else none:=by
 by_cases h1:x=105
 ·by_cases h2:y=110
  ·subst h1 h2
   show (if 48≤z.toNat∧z.toNat<52 then some (z.toNat - 48) else none)=_
   by_cases h:48≤z.toNat∧z.toNat<52
   ·rw [if_pos h,if_pos ⟨rfl,rfl,h⟩]
   ·rw [if_neg h,if_neg fun q=>h q.2.2]
  ·rw [if_neg fun q=>h2 q.2.1]
   unfold inpL
   split
   ·rename_i e;simp at e;exact absurd e.2.1 h2
   ·rfl
 ·rw [if_neg fun q=>h1 q.1]
  unfold inpL
  split
  ·rename_i e;simp at e;exact absurd e.1 h1
  ·rfl
theorem kaev {z:UInt8} (h:48≤z.toNat):w64 (wu8 ((z.toNat:Int) - 48))=((z.toNat - 48:Nat):Int):=by
 have:∀ n:Fin 256,48≤n.val→w64 (wu8 (((n.val:Nat):Int) - 48))=((n.val - 48:Nat):Int):=by decide +kernel
 exact this ⟨z.toNat,z.toNat_lt⟩ h
theorem inp_p (b:List UInt8):kiy (mkB b)=some (inpR (inpL b)):=by
 unfold kiy
 by_cases h3:b.length=3
 ·obtain ⟨x,y,z,rfl⟩:=kadv h3
  rw [show (((mkB [x,y,z]).size:Int) == 3)=true from rfl,qd,k93]
  have c1:cutS (mkB [x,y,z]) 0 2=some (mkB [x,y]):=kxv (s:=mkB [x,y,z]) (a:=[x,y]) (b:=[z]) (kbh _)
  have c2:byt (mkB [x,y,z]) 2=some (z.toNat:Int):=by
   have:=k5i (s:=mkB [x,y,z]) (i:=2) (by rw [kbh];simp)
   simpa [kbh] using this
  rw [c1,qa,ks3,c2]
  simp only [qa]
  by_cases h1:x=105∧y=110
  ·rw [qf (show [x,y]=[105,110] by rw [h1.1,h1.2]),qd]
   by_cases h4:48≤z.toNat
   ·rw [qf (show (48:Int)≤(z.toNat:Int) by omega),qd]
    by_cases h5:z.toNat<52
    ·rw [qf (show (z.toNat:Int)<52 by omega),qa,qd,if_pos ⟨h1.1,h1.2,h4,h5⟩,kaev h4]
     rfl
    ·rw [qe (show ¬ (z.toNat:Int)<52 by omega),qa,qb,if_neg fun q=>h5 q.2.2.2]
     rfl
   ·rw [qe (show ¬ (48:Int)≤(z.toNat:Int) by omega),qb,qa,qb,if_neg fun q=>h4 q.2.2.1]
    rfl
  ·rw [qe (fun e:[x,y]=[105,110]=>by simp at e;exact h1 e),qb,qa,qb,if_neg fun q=>h1 ⟨q.1,q.2.1⟩]
   rfl
 ·rw [kafg h3,show (((mkB b).size:Int) == 3)=false by rw [qz,kbm];omega]
  rfl
theorem kacg (r:List UInt8) (c:UInt8) (h:r.length≤4000000):kcm (mkB r) (⟨#[c]⟩:BA)=some (decide (r.getLast?=some c)):=by
 unfold kcm
 rw [show (((⟨#[c]⟩:BA).size:Int))=1 from rfl,kbm]
 rcases List.eq_nil_or_concat r with rfl | ⟨q,x,rfl⟩
 ·rfl
 ·rw [List.concat_eq_append] at h ⊢
  rw [ql,qi,qn] at h
  rw [ql,qi,qn,qf (by omega),qd,kf0 (by omega) (by omega)]
  have e:(mkB (q++[x])).data.toList=q++[x]:=kbh _
  have:=k4m e
  rw [kbm,ql,qi,qn] at this
  rw [show (((q.length+(0+1):Nat):Int) - 1)=(q.length:Int) by omega,this,qa,qa,ks3,List.getLast?_concat]
  congr 1
  rw [decide_eq_decide]
  simp
theorem kacv (r:List UInt8) (c:UInt8) (h:r.length≤4000000):kik (mkB r) (⟨#[c]⟩:BA)=some (decide (r.getLast?=some c)):=by
 unfold kik
 rw [kacg r c h]
 rfl
theorem kajy {r:List UInt8} {c:UInt8} (h:r.length≤4000000) (hl:r.getLast?=some c):kh1 (mkB r) (⟨#[c]⟩:BA)=some (mkB r.dropLast):=by
 unfold kh1 kfa
 rw [kacg r c h,qf hl,qa,qd,show (((⟨#[c]⟩:BA).size:Int))=1 from rfl,kbm]
 have e:=k1p hl
 have e2:(mkB r).data.toList=r.dropLast++[c]:=by rw [kbh];exact e
 have hlen:r.length=r.dropLast.length+1:=by
   conv=>lhs;rw [e]
   simp
 rw [kf0 (by omega) (by omega),show ((r.length:Int) - 1)=(r.dropLast.length:Int) by omega,kxv e2]
 rfl
theorem kos {w s:List UInt8} (hw:w≠[]) (h:s.length≤70000):(kdk w s).length≤70001∧∀ x∈kdk w s,x.length≤70000:=by
 have:=kzl hw s.length s (qw _)
 exact ⟨by omega,fun x hx=>by have:=this.2 x hx;omega⟩
theorem k29 {s w:List UInt8} (hw:w≠[]) (h:s.length≤4000000):koh (mkB s) (⟨w.toArray⟩:BA)=some ((kdk w s).map mkB):=by
 have:=kabo (s:=mkB s) (sep:=mkB w) (by rw [kbm];exact List.length_pos_iff.2 hw) (by rw [kbm];omega)
 rw [kbh,kbh] at this
 exact this
theorem kaiy {s w:List UInt8} (hw:w≠[]) (h:s.length≤4000000):kwp (mkB s) (⟨w.toArray⟩:BA)=some (cutR (mkB s) (cutW w s)):=by
 have:=kaht (s:=mkB s) (sep:=mkB w) (by rw [kbh];exact hw) (by rw [kbm];omega)
 rw [kbh,kbh] at this
 rw [show (⟨w.toArray⟩:BA)=mkB w from rfl,this]
 cases cutW w s <;> rfl
theorem k8t {ws:List (List UInt8)} (h1:ws.length≤70001) (h2:∀ x∈ws,x.length≤70000):kaa (kfn (ws.map mkB)) fuel 0=some (if ∀ a∈ws,kbt (mkB a) then .inl () else .inr ()):=by
 have hl:(ws.map mkB).length=ws.length:=qaa ..
 obtain ⟨r,e,hr⟩:=km5 (step:=kfn (ws.map mkB)) (b0 := .inl ()) ws.length (by omega) (fun i=>∀ h:i<ws.length,kbt (mkB ws[i])) (fun b=>b = .inr ()) (fun i hi _=>by
  have hx:=h2 _ (qr hi)
  have e1:(ws.map mkB)[i]?=some (mkB ws[i]):=by rw [List.getElem?_map,List.getElem?_eq_getElem hi];rfl
  unfold kfn
  rw [hl]
  simp only [kbe hi,qd,kal,e1,qa,kq3 (s:=mkB ws[i]) (by rw [kbm];omega)]
  by_cases h:kbt (mkB ws[i])
  ·rw [qf h]
   exact kac (.inl ⟨rfl,fun _=>h⟩)
  ·rw [qe h]
   exact kac (.inr ⟨_,rfl,rfl,fun hh=>h (hh hi)⟩)) (by simp only [kfn,hl,ket,qb])
 rw [e]
 rcases hr with ⟨rfl,hr⟩ | ⟨rfl,hr⟩
 ·rw [if_pos]
  intro a ha
  obtain ⟨i,hi,rfl⟩:=qu.1 ha
  exact hr i hi hi
 ·rw [if_neg]
  exact fun h=>hr fun i hi _=>h _ (qr hi)
def appR:Option (List UInt8×List (List UInt8))→BA×List BA×Bool
 | some (op,ws)=>(mkB op,ws.map mkB,true)
 | none=>(⟨#[]⟩,[],false)
theorem app_p {b:List UInt8} (h:b.length≤70000):khx (mkB b)=some (appR (appL b)):=by
 unfold khx appL
 rw [k5q (by rw [kbm];omega),kbh,qa]
 cases hc:cutW [40] b with
 | none=>rfl
 | some p=>
  obtain ⟨op,rest⟩:=p
  have hlen:=kfh (by simp) hc
  simp only [cutR]
  rw [kq3 (by rw [kbm];omega),qa,kacv rest 41 (by omega),qa]
  simp only [q9,qb]
  by_cases h1:kbt (mkB op)
  ·by_cases h2:rest.getLast?=some 41
   ·rw [qf h1,qf h2,if_pos ⟨h1,h2⟩]
    simp only [q9,qb,qa]
    have hd:rest.dropLast.length≤70000:=by rw [List.length_dropLast];omega
    rw [kajy (by omega) h2,qa,ks3]
    by_cases h3:rest.dropLast=[]
    ·rw [qf h3,if_pos h3];rfl
    ·obtain ⟨q1,q2⟩:=kos (w:=[44,32]) (by simp) hd
     rw [qe h3,if_neg h3,qb,k29 (by simp) (by omega),qa,k8t q1 q2]
     by_cases h4:∀ a∈kdk [44,32] rest.dropLast,kbt (mkB a)
     ·rw [if_pos h4,if_pos h4];rfl
     ·rw [if_neg h4,if_neg h4];rfl
   ·rw [qf h1,qe h2,if_neg fun q=>h2 q.2];rfl
  ·rw [qe h1,if_neg fun q=>h1 q.1];rfl
end Go.Proofs.YtaimpcnpifoidaaGreatDoor
