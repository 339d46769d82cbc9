import Derived.Test.YtaimpcnpifoidaaGreatDoorNi
set_option linter.unusedVariables false
set_option linter.unusedSimpArgs false
set_option maxRecDepth 100000
namespace Go.Proofs.YtaimpcnpifoidaaGreatDoor
open Go Go.RowKit
theorem ktl {s:BA} {i:Nat} (h:i<s.data.toList.length):byt s (i:Int)=some ((s.data.toList[i]).toNat:Int):=by
 rw [kmy,List.getElem?_eq_getElem h];rfl
theorem km2 {s:BA} {a b:List UInt8} (h:s.data.toList=a++b):cutS s 0 (a.length:Int)=some (mkB a):=by
 have hl:s.size=a.length+b.length:=by rw [kar,h,qn]
 have:=ks6 (s:=s) (i:=0) (w:=a.length) (by omega)
 rw [Nat.zero_add] at this
 rw [show ((0:Int))=((0:Nat):Int) from rfl,this,h,qav,List.take_left]
theorem kmz {s:BA} {a b:List UInt8} (h:s.data.toList=a++b):cutS s (a.length:Int) (s.size:Int)=some (mkB b):=by
 have hl:s.size=a.length+b.length:=by rw [kar,h,qn]
 have:=ks6 (s:=s) (i:=a.length) (w:=b.length) (by omega)
 rw [hl,this,h,List.drop_left,List.take_length]
theorem kmg (a b:List UInt8):((mkB a).toList == (⟨b.toArray⟩:BA).toList)=decide (a=b):=by
 rw [Bool.eq_iff_iff,decide_eq_true_iff,beqB_iff]
 constructor
 ·intro h
  have:=congrArg bsOf h
  exact (kay a).symm.trans (this.trans (kay b))
 ·intro h;rw [h];rfl
theorem ixB {c:UInt8}:∀ l:List UInt8,Lib.indexByte l c=match cutW [c] l with | none => -1 | some p=>(p.1.length:Int)
 | []=>rfl
 | b::l=>by
  rw [Lib.indexByte,krz]
  by_cases h:b=c
  ·subst h;simp
  ·rw [if_neg h,if_neg (by simpa using h),ixB l]
   cases cutW [c] l with
   | none=>rfl
   | some p=>
    simp only [qaw,qk]
    rw [if_neg (by rw [beq_iff_eq];omega)]
    push_cast
    rfl
theorem kai6 {s:BA} {c:UInt8}:ke4 s (⟨#[c]⟩:BA)=some (match cutW [c] s.data.toList with | none => -1 | some p=>(p.1.length:Int)):=by
 unfold ke4
 rw [show (((⟨#[c]⟩:BA).size:Int) == 0)=false from rfl,qb,qa]
 by_cases h:s=⟨#[c]⟩
 ·subst h
  rw [show ((⟨#[c]⟩:BA).toList == (⟨#[c]⟩:BA).toList)=true from beqB_iff.2 rfl,qd]
  rw [show (⟨#[c]⟩:BA).data.toList=[c] from rfl,krz,if_pos rfl]
  rfl
 ·have hb:((⟨#[c]⟩:BA).toList == s.toList)=false:=by
   rw [Bool.eq_false_iff];intro e;exact h (beqB_iff.1 e).symm
  rw [hb,qb,show (((⟨#[c]⟩:BA).size:Int) == 1)=true from rfl,qd]
  rw [show byt (⟨#[c]⟩:BA) 0=some (c.toNat:Int) from ktl (s:=⟨#[c]⟩) (i:=0) Nat.zero_lt_one,qa]
  unfold kdy
  rw [qa,show ((c.toNat:Int).toNat).toUInt8=c by rw [Int.toNat_natCast];exact UInt8.ofNat_toNat,ixB]
def cutR (s:BA):Option (List UInt8×List UInt8)→BA×BA×Bool
 | none=>(s,⟨#[]⟩,false)
 | some (a,b)=>(mkB a,mkB b,true)
theorem k33 {s:BA} {c:UInt8} (hs:s.size≤4000000):strings_Cut s (⟨#[c]⟩:BA)=some (cutR s (cutW [c] s.data.toList)):=by
 unfold strings_Cut kg4
 rw [kai6,qa]
 cases h:cutW [c] s.data.toList with
 | none=>rfl
 | some p=>
  obtain ⟨a,b⟩:=p
  obtain ⟨e,_⟩:=cut1_some.1 h
  simp only
  have hl:s.size=a.length+(b.length+1):=by rw [kar,e,qn,qk]
  rw [qe (show (0:Int)≤(a.length:Int) by omega),qd,km2 e,qa]
  have e2:s.data.toList=(a++[c])++b:=by rw [e];simp
  have:=kmz e2
  rw [qn,qk,qt] at this
  rw [show (((⟨#[c]⟩:BA).size:Int))=1 from rfl,kdr (n:=a.length) (by omega),this]
  rfl
theorem k7s:∀ n:Fin 256,kg0 ((n.val:Nat):Int)=some (decide ((97≤n.val∧n.val≤122)∨(65≤n.val∧n.val≤90))):=by decide +kernel
theorem kaae (c:UInt8):kg0 (c.toNat:Int)=some (decide (letC c)):=k7s ⟨c.toNat,c.toNat_lt⟩
theorem kadu (c:UInt8):ki0 (c.toNat:Int)=some (decide (digC c)):=by
 have:∀ n:Fin 256,ki0 ((n.val:Nat):Int)=some (decide (48≤n.val∧n.val≤57)):=by decide +kernel
 exact this ⟨c.toNat,c.toNat_lt⟩
theorem kqv {s:BA} (hs:s.size≤4000000):kf6 s=some (decide (kb3 s)):=by
 have hlen:s.data.toList.length=s.size:=by rw [← kar]
 unfold kf6
 by_cases h1:s.size<1
 ·rw [qe (show (s.size:Int)<1 by omega),qc (fun h:kb3 s=>by have:=h.1.1;omega)]
  rfl
 rw [qc (show ¬ (s.size:Int)<1 by omega),qb,qa]
 by_cases h2:24<s.size
 ·rw [qe (show 24<(s.size:Int) by omega),qc (fun h:kb3 s=>by have:=h.1.2;omega)]
  rfl
 rw [qc (show ¬ 24<(s.size:Int) by omega),qb]
 have main:=knt (step:=kim s) (b0 := .inl ()) s.size (by omega) (fun i=>∀ h:i<s.data.toList.length,letC s.data.toList[i]∨(0<i∧(s.data.toList[i]=45∨digC s.data.toList[i]))) (fun b=>b = .inr false) (fun i hi _=>?_) (by simp only [kim,kho,qb])
 ·obtain ⟨r,e,hr⟩:=main
  rw [e,qa]
  rcases hr with ⟨rfl,hr⟩ | ⟨rfl,hr⟩
  ·rw [qf,qe (show kb3 s from ⟨⟨by omega,by omega⟩,fun i hi=>hr i (by omega) hi⟩)]
  ·rw [qh,qc (fun h:kb3 s=>hr fun i _ hi=>h.2 i hi)]
 ·have hi':i<s.data.toList.length:=by omega
  have hb:=ktl hi'
  generalize hc:s.data.toList[i]'hi'=c at hb
  have h45:(((c.toNat:Int) != 45)=true)↔c≠45:=by
   rw [qaz]
   refine ⟨fun h e=>h (by rw [e];rfl),fun h e=>h (qay.1 (show c.toNat=45 by omega))⟩
  unfold kim
  simp only [kb6 hi,qd,hb,qa,kaae,kadu]
  by_cases hl:letC c
  ·rw [qe hl]
   exact kaa (.inl ⟨rfl,fun _=>by rw [hc];exact .inl hl⟩)
  ·rw [qc hl]
   simp only [qam,qd]
   by_cases h0:i=0
   ·subst h0
    simp only [Int.natCast_zero,beq_self_eq_true,qd,qa]
    refine kaa (.inr ⟨_,rfl,rfl,fun hh=>?_⟩)
    have:=hh hi'
    rw [hc] at this
    rcases this with h | ⟨h,_⟩
    ·exact hl h
    ·omega
   ·have hb0:((i:Int) == 0)=false:=by rw [qq];omega
    simp only [hb0,qb]
    by_cases h4:c=45
    ·have:((c.toNat:Int) != 45)=false:=by rw [h4];rfl
     simp only [this,qb,qa]
     exact kaa (.inl ⟨rfl,fun _=>by rw [hc];exact .inr ⟨by omega, .inl h4⟩⟩)
    ·simp only [h45.2 h4,qd]
     by_cases hd:digC c
     ·rw [qe hd]
      exact kaa (.inl ⟨rfl,fun _=>by rw [hc];exact .inr ⟨by omega, .inr hd⟩⟩)
     ·rw [qc hd]
      refine kaa (.inr ⟨_,rfl,rfl,fun hh=>?_⟩)
      have:=hh hi'
      rw [hc] at this
      rcases this with h | ⟨_,h | h⟩
      ·exact hl h
      ·exact h4 h
      ·exact hd h
theorem kqa {s:BA} (hs:s.size≤4000000):kbo s=some (decide (kb3 s)):=by
 obtain ⟨b,h1,h2⟩:=kyc (s:=s) (by omega)
 rw [h1]
 congr 1
 rw [Bool.eq_iff_iff,decide_eq_true_iff]
 exact h2
theorem k3i {step:Int→Option (Int ⊕ (Unit ⊕ (Int×Bool)))} {w:List UInt8} (hs:∀ k:Int,1≤k→k≤8→step k=some (if tyW k=w then .inr (.inr (k,true)) else .inl (k+1))) (he:step 9=some (.inr (.inl ()))):
  kab step fuel 1=some (match kd4 w with | some t => .inr (t,true) | none => .inl ()):=by
 have key:∀ (k:Int) (n:Nat) (r:Unit ⊕ (Int×Bool)),1≤k→k≤8→(tyW k≠w→kab step n (k+1)=some r)→(tyW k=w→r = .inr (k,true))→kab step (n+1) k=some r:=fun k n r h1 h2 h3 h4=>by
  by_cases h:tyW k=w
  ·rw [kbv (b := .inr (k,true)) (by rw [hs k h1 h2,if_pos h]),h4 h]
  ·rw [kgw (s':=k+1) (by rw [hs k h1 h2,if_neg h]),h3 h]
 rw [show fuel=18446744073709551607+1+1+1+1+1+1+1+1+1 from rfl]
 unfold kd4
 by_cases h1:tyW 1=w
 ·exact key 1 _ _ (by omega) (by omega) (fun h=>absurd h1 h) fun _=>by rw [if_pos h1]
 rw [if_neg h1]
 refine key 1 _ _ (by omega) (by omega) (fun _=>?_) fun h=>absurd h h1
 by_cases h2:tyW 2=w
 ·exact key 2 _ _ (by omega) (by omega) (fun h=>absurd h2 h) fun _=>by rw [if_pos h2]
 rw [if_neg h2]
 refine key 2 _ _ (by omega) (by omega) (fun _=>?_) fun h=>absurd h h2
 by_cases h3:tyW 3=w
 ·exact key 3 _ _ (by omega) (by omega) (fun h=>absurd h3 h) fun _=>by rw [if_pos h3]
 rw [if_neg h3]
 refine key 3 _ _ (by omega) (by omega) (fun _=>?_) fun h=>absurd h h3
 by_cases h4:tyW 4=w
 ·exact key 4 _ _ (by omega) (by omega) (fun h=>absurd h4 h) fun _=>by rw [if_pos h4]
 rw [if_neg h4]
 refine key 4 _ _ (by omega) (by omega) (fun _=>?_) fun h=>absurd h h4
 by_cases h5:tyW 5=w
 ·exact key 5 _ _ (by omega) (by omega) (fun h=>absurd h5 h) fun _=>by rw [if_pos h5]
 rw [if_neg h5]
 refine key 5 _ _ (by omega) (by omega) (fun _=>?_) fun h=>absurd h h5
 by_cases h6:tyW 6=w
 ·exact key 6 _ _ (by omega) (by omega) (fun h=>absurd h6 h) fun _=>by rw [if_pos h6]
 rw [if_neg h6]
 refine key 6 _ _ (by omega) (by omega) (fun _=>?_) fun h=>absurd h h6
 by_cases h7:tyW 7=w
 ·exact key 7 _ _ (by omega) (by omega) (fun h=>absurd h7 h) fun _=>by rw [if_pos h7]
 rw [if_neg h7]
 refine key 7 _ _ (by omega) (by omega) (fun _=>?_) fun h=>absurd h h7
 by_cases h8:tyW 8=w
 ·exact key 8 _ _ (by omega) (by omega) (fun h=>absurd h8 h) fun _=>by rw [if_pos h8]
 rw [if_neg h8]
 refine key 8 _ _ (by omega) (by omega) (fun _=>?_) fun h=>absurd h h8
 exact kbv he
def ptR:Option Int→Int×Bool
 | some t=>(t,true)
 | none=>(0,false)
theorem pt_p (b:List UInt8):kif (mkB b)=some (ptR (kd4 b)):=by
 unfold kif
 rw [k3i (w:=b) (fun k h1 h2=>?_) rfl,qa]
 ·cases kd4 b <;> rfl
 ·have hk:kjw k:=⟨h1,h2⟩
  unfold klp
  rw [qe h2,qd,(kaam hk).1,qa,show mkB b=⟨b.toArray⟩ from rfl,kmg,kcd (by omega) (by omega)]
  by_cases h:tyW k=b
  ·rw [qe h,if_pos h];rfl
  ·rw [qc h,if_neg h];rfl
theorem pt_r (b:List UInt8):keg (mkB b)=some (ptR (kd4 b)):=by
 unfold keg
 rw [k3i (w:=b) (fun k h1 h2=>?_) rfl,qa]
 ·cases kd4 b <;> rfl
 ·have hk:kjw k:=⟨h1,h2⟩
  unfold kib
  rw [qe h2,qd,(kaam hk).2,qa,show mkB b=⟨b.toArray⟩ from rfl,kmg,kcd (by omega) (by omega)]
  by_cases h:tyW k=b
  ·rw [qe h,if_pos h];rfl
  ·rw [qc h,if_neg h];rfl
def inpR:Option Nat→Int×Bool
 | some k=>((k:Int),true)
 | none=>(0,false)
theorem k4w {b:List UInt8} (h:b.length=3):∃ x y z,b=[x,y,z]:=by
 match b,h with
 | [x,y,z],_=>exact ⟨x,y,z,rfl⟩
theorem k3v {b:List UInt8} (h:b.length≠3):inpL b=none:=by
 unfold inpL
 split
 ·exact absurd rfl h
 ·rfl
theorem kyr (x y z:UInt8):inpL [x,y,z]=if x=105∧y=110∧48≤z.toNat∧z.toNat<52 then some (z.toNat - 48) else none:=by
 by_cases h1:x=105
 ·by_cases h2:y=110
  ·subst h1 h2
   show (if 48≤z.toNat∧z.toNat<52 then some (z.toNat - 48) else none)=_
   by_cases h:48≤z.toNat∧z.toNat<52
   ·rw [if_pos h,if_pos ⟨rfl,rfl,h⟩]
   ·rw [if_neg h,if_neg fun q=>h q.2.2]
  ·rw [if_neg fun q=>h2 q.2.1]
   unfold inpL
   split
   ·rename_i e;simp at e;exact absurd e.2.1 h2
   ·rfl
 ·rw [if_neg fun q=>h1 q.1]
  unfold inpL
  split
  ·rename_i e;simp at e;exact absurd e.1 h1
  ·rfl
theorem k4e {z:UInt8} (h:48≤z.toNat):w64 (wu8 ((z.toNat:Int) - 48))=((z.toNat - 48:Nat):Int):=by
 have:∀ n:Fin 256,48≤n.val→w64 (wu8 (((n.val:Nat):Int) - 48))=((n.val - 48:Nat):Int):=by decide +kernel
 exact this ⟨z.toNat,z.toNat_lt⟩ h
theorem inp_p (b:List UInt8):ki2 (mkB b)=some (inpR (inpL b)):=by
 unfold ki2
 by_cases h3:b.length=3
 ·obtain ⟨x,y,z,rfl⟩:=k4w h3
  rw [show (((mkB [x,y,z]).size:Int) == 3)=true from rfl,qd,kyr]
  have c1:cutS (mkB [x,y,z]) 0 2=some (mkB [x,y]):=km2 (s:=mkB [x,y,z]) (a:=[x,y]) (b:=[z]) (kay _)
  have c2:byt (mkB [x,y,z]) 2=some (z.toNat:Int):=by
   have:=ktl (s:=mkB [x,y,z]) (i:=2) (by rw [kay];simp)
   simpa [kay] using this
  rw [c1,qa,kmg,c2]
  simp only [qa]
  by_cases h1:x=105∧y=110
  ·rw [qe (show [x,y]=[105,110] by rw [h1.1,h1.2]),qd]
   by_cases h4:48≤z.toNat
   ·rw [qe (show (48:Int)≤(z.toNat:Int) by omega),qd]
    by_cases h5:z.toNat<52
    ·rw [qe (show (z.toNat:Int)<52 by omega),qa,qd,if_pos ⟨h1.1,h1.2,h4,h5⟩,k4e h4]
     rfl
    ·rw [qc (show ¬ (z.toNat:Int)<52 by omega),qa,qb,if_neg fun q=>h5 q.2.2.2]
     rfl
   ·rw [qc (show ¬ (48:Int)≤(z.toNat:Int) by omega),qb,qa,qb,if_neg fun q=>h4 q.2.2.1]
    rfl
  ·rw [qc (fun e:[x,y]=[105,110]=>by simp at e;exact h1 e),qb,qa,qb,if_neg fun q=>h1 ⟨q.1,q.2.1⟩]
   rfl
 ·rw [k3v h3,show (((mkB b).size:Int) == 3)=false by rw [qq,kaj];omega]
  rfl
theorem inp_r (b:List UInt8):kg8 (mkB b)=some (match inpL b with | some k=>(k:Int) | none => -1):=by
 unfold kg8
 by_cases h3:b.length=3
 ·obtain ⟨x,y,z,rfl⟩:=k4w h3
  rw [show (((mkB [x,y,z]).size:Int) == 3)=true from rfl,qd,kyr]
  have c1:cutS (mkB [x,y,z]) 0 2=some (mkB [x,y]):=km2 (s:=mkB [x,y,z]) (a:=[x,y]) (b:=[z]) (kay _)
  have c2:byt (mkB [x,y,z]) 2=some (z.toNat:Int):=by
   have:=ktl (s:=mkB [x,y,z]) (i:=2) (by rw [kay];simp)
   simpa [kay] using this
  rw [c1,qa,kmg,c2]
  simp only [qa]
  by_cases h1:x=105∧y=110
  ·rw [qe (show [x,y]=[105,110] by rw [h1.1,h1.2]),qd]
   by_cases h4:48≤z.toNat
   ·rw [qe (show (48:Int)≤(z.toNat:Int) by omega),qd,k4e h4]
    by_cases h5:z.toNat<52
    ·rw [qe (show ((z.toNat - 48:Nat):Int)<4 by omega),qa,qd,if_pos ⟨h1.1,h1.2,h4,h5⟩]
    ·rw [qc (show ¬ ((z.toNat - 48:Nat):Int)<4 by omega),qa,qb,if_neg fun q=>h5 q.2.2.2]
   ·rw [qc (show ¬ (48:Int)≤(z.toNat:Int) by omega),qb,qa,qb,if_neg fun q=>h4 q.2.2.1]
  ·rw [qc (fun e:[x,y]=[105,110]=>by simp at e;exact h1 e),qb,qa,qb,if_neg fun q=>h1 ⟨q.1,q.2.1⟩]
 ·rw [k3v h3,show (((mkB b).size:Int) == 3)=false by rw [qq,kaj];omega]
  rfl
theorem k9j (r:List UInt8) (c:UInt8) (h:r.length≤4000000):kcq (mkB r) (⟨#[c]⟩:BA)=some (decide (r.getLast?=some c)):=by
 unfold kcq
 rw [show (((⟨#[c]⟩:BA).size:Int))=1 from rfl,kaj]
 rcases List.eq_nil_or_concat r with rfl | ⟨q,x,rfl⟩
 ·rfl
 ·rw [List.concat_eq_append] at h ⊢
  rw [qn,qk,qt] at h
  rw [qn,qk,qt,qe (by omega),qd,kcd (by omega) (by omega)]
  have e:(mkB (q++[x])).data.toList=q++[x]:=kay _
  have:=kmz e
  rw [kaj,qn,qk,qt] at this
  rw [show (((q.length+(0+1):Nat):Int) - 1)=(q.length:Int) by omega,this,qa,qa,kmg,List.getLast?_concat]
  congr 1
  rw [decide_eq_decide]
  simp
theorem kaep (r:List UInt8) (c:UInt8) (h:r.length≤4000000):kin (mkB r) (⟨#[c]⟩:BA)=some (decide (r.getLast?=some c)):=by
 unfold kin
 rw [k9j r c h]
 rfl
theorem kah0 {r:List UInt8} {c:UInt8} (h:r.length≤4000000) (hl:r.getLast?=some c):kid (mkB r) (⟨#[c]⟩:BA)=some (mkB r.dropLast):=by
 unfold kid ke8
 rw [k9j r c h,qe hl,qa,qd,show (((⟨#[c]⟩:BA).size:Int))=1 from rfl,kaj]
 have e:=kvk hl
 have e2:(mkB r).data.toList=r.dropLast++[c]:=by rw [kay];exact e
 have hlen:r.length=r.dropLast.length+1:=by
   conv=>lhs;rw [e]
   simp
 rw [kcd (by omega) (by omega),show ((r.length:Int) - 1)=(r.dropLast.length:Int) by omega,km2 e2]
 rfl
theorem kmn {w s:List UInt8} (hw:w≠[]) (h:s.length≤70000):(kb7 w s).length≤70001∧∀ x∈kb7 w s,x.length≤70000:=by
 have:=kzi hw s.length s (qw _)
 exact ⟨by omega,fun x hx=>by have:=this.2 x hx;omega⟩
theorem k41 {s w:List UInt8} (hw:w≠[]) (h:s.length≤4000000):koe (mkB s) (⟨w.toArray⟩:BA)=some ((kb7 w s).map mkB):=by
 have:=kabd (s:=mkB s) (sep:=mkB w) (by rw [kaj];exact qau.2 hw) (by rw [kaj];omega)
 rw [kay,kay] at this
 exact this
theorem kag6 {s w:List UInt8} (hw:w≠[]) (h:s.length≤4000000):kwr (mkB s) (⟨w.toArray⟩:BA)=some (cutR (mkB s) (cutW w s)):=by
 have:=kahk (s:=mkB s) (sep:=mkB w) (by rw [kay];exact hw) (by rw [kaj];omega)
 rw [kay,kay] at this
 rw [show (⟨w.toArray⟩:BA)=mkB w from rfl,this]
 cases cutW w s <;> rfl
theorem k60 {ws:List (List UInt8)} (h1:ws.length≤70001) (h2:∀ x∈ws,x.length≤70000):kab (kfs (ws.map mkB)) fuel 0=some (if ∀ a∈ws,kb3 (mkB a) then .inl () else .inr ()):=by
 have hl:(ws.map mkB).length=ws.length:=q8 ..
 obtain ⟨r,e,hr⟩:=knt (step:=kfs (ws.map mkB)) (b0 := .inl ()) ws.length (by omega) (fun i=>∀ h:i<ws.length,kb3 (mkB ws[i])) (fun b=>b = .inr ()) (fun i hi _=>by
  have hx:=h2 _ (qx hi)
  have e1:(ws.map mkB)[i]?=some (mkB ws[i]):=by rw [List.getElem?_map,List.getElem?_eq_getElem hi];rfl
  unfold kfs
  rw [hl]
  simp only [kb6 hi,qd,kaz,e1,qa,kqv (s:=mkB ws[i]) (by rw [kaj];omega)]
  by_cases h:kb3 (mkB ws[i])
  ·rw [qe h]
   exact kaa (.inl ⟨rfl,fun _=>h⟩)
  ·rw [qc h]
   exact kaa (.inr ⟨_,rfl,rfl,fun hh=>h (hh hi)⟩)) (by simp only [kfs,hl,kho,qb])
 rw [e]
 rcases hr with ⟨rfl,hr⟩ | ⟨rfl,hr⟩
 ·rw [if_pos]
  intro a ha
  obtain ⟨i,hi,rfl⟩:=qag.1 ha
  exact hr i hi hi
 ·rw [if_neg]
  exact fun h=>hr fun i hi _=>h _ (qx hi)
def appR:Option (List UInt8×List (List UInt8))→BA×List BA×Bool
 | some (op,ws)=>(mkB op,ws.map mkB,true)
 | none=>(⟨#[]⟩,[],false)
theorem app_p {b:List UInt8} (h:b.length≤70000):kh8 (mkB b)=some (appR (appL b)):=by
 unfold kh8 appL
 rw [k33 (by rw [kaj];omega),kay,qa]
 cases hc:cutW [40] b with
 | none=>rfl
 | some p=>
  obtain ⟨op,rest⟩:=p
  have hlen:=kcm (by simp) hc
  simp only [cutR]
  rw [kqv (by rw [kaj];omega),qa,kaep rest 41 (by omega),qa]
  simp only [qv,qb]
  by_cases h1:kb3 (mkB op)
  ·by_cases h2:rest.getLast?=some 41
   ·rw [qe h1,qe h2,if_pos ⟨h1,h2⟩]
    simp only [qv,qb,qa]
    have hd:rest.dropLast.length≤70000:=by rw [List.length_dropLast];omega
    rw [kah0 (by omega) h2,qa,kmg]
    by_cases h3:rest.dropLast=[]
    ·rw [qe h3,if_pos h3];rfl
    ·obtain ⟨q1,q2⟩:=kmn (w:=[44,32]) (by simp) hd
     rw [qc h3,if_neg h3,qb,k41 (by simp) (by omega),qa,k60 q1 q2]
     by_cases h4:∀ a∈kb7 [44,32] rest.dropLast,kb3 (mkB a)
     ·rw [if_pos h4,if_pos h4];rfl
     ·rw [if_neg h4,if_neg h4];rfl
   ·rw [qe h1,qc h2,if_neg fun q=>h2 q.2];rfl
  ·rw [qc h1,if_neg fun q=>h1 q.1];rfl
end Go.Proofs.YtaimpcnpifoidaaGreatDoor
