import Derived.Test.YtaimpcnpifoidaaGreatDoorNm
set_option linter.unusedVariables false
set_option linter.unusedSimpArgs false
set_option maxRecDepth 100000
namespace Go.Proofs.YtaimpcnpifoidaaGreatDoor
open Go Go.RowKit
def ixW (w s:List UInt8):Int:=match cutW w s with
 | none => -1
 | some p=>(p.1.length:Int)
theorem kzv {w:List UInt8}:∀ {s:List UInt8},s.length<w.length→cutW w s=none
 | [],_=>rfl
 | b::l,h=>by
  rw [cutW,if_neg (fun q=>by have:=List.IsPrefix.length_le (List.isPrefixOf_iff_prefix.1 q);omega),kzv (by simp only [qk] at h;omega)]
  rfl
theorem pre_take {w l:List UInt8}:w.isPrefixOf l=true↔l.take w.length=w:=by
 rw [List.isPrefixOf_iff_prefix,List.prefix_iff_eq_take]
 exact ⟨fun h=>h.symm,fun h=>h.symm⟩
theorem ktg {s w:List UInt8} (hw:w≠[]) (hs:s.length≤4000000) (hwl:w.length≤100):kcs (mkB s) (⟨w.toArray⟩:BA)=some (ixW w s):=by
 have hw1:1≤w.length:=qau.2 hw
 have hsw:((⟨w.toArray⟩:BA)).size=w.length:=by show (mkB w).size=_;rw [kaj]
 unfold kcs
 have main:Ev (kab (khw (mkB s) ⟨w.toArray⟩) fuel 0) fun r=>(match r with | .inl _=>(-1:Int) | .inr k=>k)=ixW w s:=by
  refine kqw (fun v=>∃ i:Nat,v=(i:Int)∧i≤s.length∧cutW w s=(cutW w (s.drop i)).map fun p=>(s.take i++p.1,p.2)) (fun v=>s.length+1 - v.toNat) (by omega) ⟨0,rfl,by omega,by rw [qav,List.take_zero];cases cutW w s with
   | none=>rfl
   | some p=>rfl⟩ ?_
  rintro v ⟨i,rfl,hi,hI⟩
  unfold khw
  rw [hsw,kaj,kcd (by omega) (by omega)]
  by_cases hl:i+w.length≤s.length
  ·rw [qe (show (i:Int)+(w.length:Int)≤(s.length:Int) by omega),qd]
   have hc:cutS (mkB s) (i:Int) ((i:Int)+(w.length:Int))=some (mkB ((s.drop i).take w.length)):=by
    have:=ks6 (s:=mkB s) (i:=i) (w:=w.length) (by rw [kaj];omega)
    rw [kay] at this
    rw [← this]
    congr 1
   rw [hc,qa,kmg]
   by_cases hp:(s.drop i).take w.length=w
   ·rw [qe hp]
    refine kd2 (b := .inr (i:Int)) rfl ?_
    have hd:s.drop i≠[]:=fun e=>by have:=congrArg List.length e;rw [qar,qt] at this;omega
    obtain ⟨x,l,e⟩:=List.exists_cons_of_ne_nil hd
    have h1:cutW w (s.drop i)=some ([],(s.drop i).drop w.length):=by
     rw [e] at hp ⊢
     rw [cutW,if_pos (pre_take.2 hp)]
    rw [h1] at hI
    unfold ixW
    rw [hI]
    simp only [qaw,List.append_nil,qah]
    omega
   ·rw [qc hp]
    have hlt:i<s.length:=by omega
    have e:=qac hlt
    refine kmp (s:=((i+1:Nat):Int)) (by rw [qb,w64s i (by omega)]) ⟨⟨i+1,rfl,by omega,?_⟩,?_⟩
    ·rw [hI,e,cutW,if_neg (fun q=>hp (pre_take.1 (by rw [e];exact q))),List.take_succ_eq_append_getElem hlt]
     cases cutW w (s.drop (i+1)) with
     | none=>rfl
     | some p=>simp only [qaw,qal];rfl
    ·show s.length+1 - (i+1)<s.length+1 - i
     omega
  ·rw [qc (show ¬ (i:Int)+(w.length:Int)≤(s.length:Int) by omega),qb]
   refine kd2 (b := .inl ()) rfl ?_
   unfold ixW
   rw [hI,kzv (by rw [qar];omega)]
   rfl
 obtain ⟨r,e,hr⟩:=main
 rw [e,qa,← hr]
 cases r <;> rfl
theorem kp9 {w s:List UInt8} (h:cutW w s=none):ixW w s = -1:=by unfold ixW;rw [h]
theorem kp8 {w s a b:List UInt8} (h:cutW w s=some (a,b)):ixW w s=(a.length:Int):=by unfold ixW;rw [h]
theorem kwt {w s a b:List UInt8} (hw:w≠[]) (h:cutW w s=some (a,b)):cutS (mkB s) 0 (a.length:Int)=some (mkB a):=km2 (s:=mkB s) (b:=w++b) (by rw [kay];exact (kqb hw h).1)
theorem k2a {w s a b:List UInt8} (hw:w≠[]) (h:cutW w s=some (a,b)):cutS (mkB s) ((a.length+w.length:Nat):Int) ((mkB s).size:Int)=some (mkB b):=by
 have:=kmz (s:=mkB s) (a:=a++w) (b:=b) (by rw [kay,qal];exact (kqb hw h).1)
 rw [qn] at this
 exact this
theorem k5u (s:List UInt8):cutS (mkB s) 0 ((mkB s).size:Int)=some (mkB s):=by
 have:=km2 (s:=mkB s) (a:=s) (b:=[]) (by rw [kay,List.append_nil])
 rw [kaj];exact this
theorem k57 (s:List UInt8):cutS (mkB s) ((s.length:Nat):Int) ((mkB s).size:Int)=some (mkB []):=kmz (s:=mkB s) (a:=s) (b:=[]) (by rw [kay,List.append_nil])
def aftR:Option (List UInt8)→BA×Bool
 | some r=>(mkB r,true)
 | none=>(⟨#[]⟩,false)
def aftW (w s:List UInt8):Option (List UInt8):=if s.take w.length=w then some (s.drop w.length) else none
theorem kwa {s w:List UInt8} (hs:s.length≤4000000):kdz (mkB s) (⟨w.toArray⟩:BA)=some (aftR (aftW w s)):=by
 have hsw:((⟨w.toArray⟩:BA)).size=w.length:=by show (mkB w).size=_;rw [kaj]
 unfold kdz aftW
 rw [hsw,kaj]
 by_cases hl:s.length<w.length
 ·rw [qe (show (s.length:Int)<(w.length:Int) by omega),qd,qa,qd,if_neg]
  ·rfl
  ·intro h
   have:=congrArg List.length h
   rw [qah] at this
   omega
 ·rw [qc (show ¬ (s.length:Int)<(w.length:Int) by omega),qb]
  have h1:cutS (mkB s) 0 (w.length:Int)=some (mkB (s.take w.length)):=by
   have:=km2 (s:=mkB s) (a:=s.take w.length) (b:=s.drop w.length) (by rw [kay,List.take_append_drop])
   rw [qah,Nat.min_eq_left (by omega)] at this
   exact this
  have h2:cutS (mkB s) (w.length:Int) (s.length:Int)=some (mkB (s.drop w.length)):=by
   have:=kmz (s:=mkB s) (a:=s.take w.length) (b:=s.drop w.length) (by rw [kay,List.take_append_drop])
   rw [qah,Nat.min_eq_left (by omega),kaj] at this
   exact this
  rw [h1,qa,kmg]
  by_cases hp:s.take w.length=w
  ·rw [qe hp,if_pos hp,qv,qa,qb,h2];rfl
  ·rw [qc hp,if_neg hp,qam,qa];rfl
theorem kya {k w s:List UInt8} (hw:w=k++[32]) (hk:(32:UInt8)∉k):aftW w s=match cutW [32] s with
  | none=>none
  | some (a,r)=>if a=k then some r else none:=by
 subst hw
 unfold aftW
 have hlen:(k++[32]:List UInt8).length=k.length+1:=by simp
 cases hc:cutW [32] s with
 | none=>
  have hn:=cut1_none.1 hc
  rw [if_neg]
  intro h
  apply hn
  have h2:(32:UInt8)∈s.take (k++[32]).length:=by rw [h];simp
  exact List.mem_of_mem_take h2
 | some p=>
  obtain ⟨a,r⟩:=p
  obtain ⟨e,hn⟩:=cut1_some.1 hc
  simp only
  by_cases ha:a=k
  ·subst ha
   rw [if_pos rfl,e]
   rw [show a++32::r=(a++[32])++r by simp,List.take_left,if_pos rfl,List.drop_left]
  ·rw [if_neg ha,if_neg]
   intro h
   have h2:s=(k++[32])++s.drop (k++[32]).length:=by conv=>lhs;rw [← List.take_append_drop (k++[32]).length s,h]
   have h3:cutW [32] s=some (k,s.drop (k++[32]).length):=cut1_some.2 ⟨by rw [qal] at h2;exact h2,hk⟩
   rw [hc] at h3
   cases h3
   exact ha rfl
theorem byt0 (c:UInt8) (s:List UInt8):byt (mkB (c::s)) 0=some (c.toNat:Int):=by
 have:=ktl (s:=mkB (c::s)) (i:=0) (by rw [kay];simp)
 simpa [kay] using this
theorem kait (c:UInt8) (s:List UInt8):cutS (mkB (c::s)) 1 ((mkB (c::s)).size:Int)=some (mkB s):=kmz (s:=mkB (c::s)) (a:=[c]) (b:=s) (by rw [kay];rfl)
def kkt:List UInt8→Option (List Int)
 | []=>some []
 | c::s=>if c=32 then tysL (kb7 [32] s) else none
def tyR:Option (List Int)→List Int×Bool
 | some ts=>(ts,true)
 | none=>([],false)
theorem k54 {s:List UInt8} (hs:s.length≤70000):kgz (mkB s)=some (tyR (kkt s)):=by
 unfold kgz
 have main:Ev (kab khc fuel (mkB s,[])) fun r=>(match r with | .inl v=>(v,true) | .inr v=>v)=tyR (kkt s):=by
  refine kqw (fun v=>∃ r acc,v=(mkB r,acc)∧acc.length+r.length≤s.length∧kkt s=(kkt r).map (acc++·)) (fun v=>v.1.size) (by rw [kaj];omega) ⟨s,[],rfl,by simp,by cases kkt s <;> rfl⟩ ?_
  rintro v ⟨r,acc,rfl,hl,hI⟩
  unfold khc
  simp only [k2d]
  cases r with
  | nil=>
   refine kd2 (b := .inl acc) rfl ?_
   rw [hI]
   simp [kkt,tyR]
  | cons c t=>
   rw [qc (by simp),qam,qd,byt0,qa]
   by_cases h32:c=32
   ·subst h32
    rw [show (((32:UInt8).toNat:Int) != 32)=false from rfl,qb,kait,qa,ktg (by simp) (by simp only [qk] at hl;omega) (by simp),qa]
    simp only [qk] at hl
    rw [kkt,if_pos rfl] at hI
    cases hc:cutW [32] t with
    | none=>
     rw [kp9 hc,show decide ((-1:Int)<0)=true from rfl,qd,qa,k5u,qa,pt_r,qa]
     rw [kh3 hc] at hI
     cases hp:kd4 t with
     | none=>
      refine kd2 (b := .inr ([],false)) rfl ?_
      rw [hI,tysL,hp];rfl
     | some y=>
      simp only [ptR,qv,qb]
      rw [kfx (by simp only [qk,qt];omega),qa,show cutS (mkB t) ((mkB t).size:Int) ((mkB t).size:Int)=some (mkB []) by have:=k57 t;rw [kaj] at this ⊢; exact this,qa]
      refine kmp (s:=(mkB [],acc++[y])) rfl ⟨⟨[],acc++[y],rfl,by simp only [qn,qk,qt];omega,?_⟩,?_⟩
      ·rw [hI,tysL,hp];simp [tysL,kkt]
      ·show (mkB []).size<(mkB (32::t)).size
       rw [kaj,kaj];simp
    | some p=>
     obtain ⟨a,b⟩:=p
     have h1:=kcm (by simp) hc
     have e:=(cut1_some.1 hc).1
     rw [kp8 hc,qc (show ¬ (a.length:Int)<0 by omega),qb,qa,kwt (by simp) hc,qa,pt_r,qa]
     rw [kiw (by simp) hc] at hI
     cases hp:kd4 a with
     | none=>
      refine kd2 (b := .inr ([],false)) rfl ?_
      rw [hI,tysL,hp];rfl
     | some y=>
      simp only [ptR,qv,qb]
      rw [kfx (by simp only [qk,qt];omega),qa,kmz (s:=mkB t) (a:=a) (b:=32::b) (by rw [kay];exact e),qa]
      refine kmp (s:=(mkB (32::b),acc++[y])) rfl ⟨⟨32::b,acc++[y],rfl,by simp only [qn,qk,qt];omega,?_⟩,?_⟩
      ·rw [hI,tysL,hp,kkt,if_pos rfl]
       simp only
       cases tysL (kb7 [32] b) with
       | none=>rfl
       | some ts=>simp
      ·show (mkB (32::b)).size<(mkB (32::t)).size
       rw [kaj,kaj];simp only [qk];omega
   ·have hb:((c.toNat:Int) != 32)=true:=by rw [qaz];intro e;exact h32 (cEq (d:=32) e)
    rw [hb]
    refine kd2 (b := .inr ([],false)) rfl ?_
    rw [hI,kkt,if_neg h32];rfl
 obtain ⟨r,e,hr⟩:=main
 rw [e,qa,← hr]
 cases r <;> rfl
def plI (sy:List Sy) (w:List UInt8):Int:=match kbi sy w with
 | some i=>(i:Int)
 | none => -1
theorem k5m (l:La) (w:List UInt8) (h:l.symbols.length≤4000000):ke3 l (mkB w)=some (plI l.symbols w):=by
 unfold ke3
 have main:Ev (kab (kgd l (mkB w)) fuel 0) fun r=>(match r with | .inl _=>(-1:Int) | .inr k=>k)=plI l.symbols w:=by
  refine kqf l.symbols.length (fun i v=>v=(i:Int)∧kbi l.symbols w=(kbi (l.symbols.drop i) w).map (·+i)) (by omega) ⟨rfl,by rw [qav];cases kbi l.symbols w <;> rfl⟩ (fun i v hi ⟨e,hI⟩=>?_) fun v ⟨e,hI⟩=>?_
  ·subst e
   have ed:=qac hi
   have eb:(l.symbols[i].name.toList == (mkB w).toList)=decide (bsOf l.symbols[i].name=w):=by
    rw [Bool.eq_iff_iff,decide_eq_true_iff,beqB_iff]
    exact ⟨fun h=>by rw [h];exact kay w,fun h=>by rw [← h,kyd]⟩
   simp only [kgd,kb6 hi,qd,kaz,List.getElem?_eq_getElem hi,qa,eb,kvq hi (show l.symbols.length≤9223372036854775807 by omega)]
   by_cases hw:bsOf l.symbols[i].name=w
   ·rw [qe hw]
    refine kd2 (b := .inr (i:Int)) rfl ?_
    unfold plI
    rw [hI,ed,kbi,if_pos hw]
    simp
   ·rw [qc hw]
    refine kmp (s:=((i+1:Nat):Int)) rfl ⟨rfl,?_⟩
    rw [hI,ed,kbi,if_neg hw]
    cases kbi (l.symbols.drop (i+1)) w with
    | none=>rfl
    | some j=>simp;omega
  ·subst e
   refine kzg (b := .inl ()) (by simp only [kgd,kho,qb]) ?_
   unfold plI
   rw [hI,List.drop_length]
   rfl
 obtain ⟨r,e,hr⟩:=main
 rw [e,qa,← hr]
 cases r <;> rfl
def kjo (x:List UInt8):Option (List (List UInt8)):=if x=[] then some [] else if ∀ a∈kb7 [44,32] x,kb3 (mkB a) then some (kb7 [44,32] x) else none
def nmR:Option (List (List UInt8))→List BA×Bool
 | some ws=>(ws.map mkB,true)
 | none=>([],false)
theorem kaci {x:List UInt8} (hx:x.length≤70000):kg1 (mkB x)=some (nmR (kjo x)):=by
 unfold kg1
 have main:Ev (kab khg fuel (mkB x,[])) fun r=>(match r with | .inl v=>(v,true) | .inr v=>v)=nmR (kjo x):=by
  refine kqw (fun v=>∃ r acc,v=(mkB r,acc.map mkB)∧acc.length+r.length≤x.length∧((r=[]∧kjo x=some acc)∨(r≠[]∧x≠[]∧(∀ a∈acc,kb3 (mkB a))∧kb7 [44,32] x=acc++kb7 [44,32] r))) (fun v=>v.1.size) (by rw [kaj];omega) ?_ ?_
  ·by_cases h0:x=[]
   ·exact ⟨x,[],rfl,by simp, .inl ⟨h0,by unfold kjo;rw [if_pos h0]⟩⟩
   ·exact ⟨x,[],rfl,by simp, .inr ⟨h0,h0,by simp,by simp⟩⟩
  rintro v ⟨r,acc,rfl,hl,hI⟩
  unfold khg
  simp only [k2d]
  rcases hI with ⟨rfl,hI⟩ | ⟨hr,h0,hok,hI⟩
  ·refine kd2 (b := .inl (acc.map mkB)) rfl ?_
   rw [hI];rfl
  ·have hrl:1≤r.length:=qau.2 hr
   rw [qc hr,qam,qd,ktg (by simp) (by omega) (by simp),qa]
   cases hc:cutW [44,32] r with
   | none=>
    rw [kp9 hc,show decide ((-1:Int)<0)=true from rfl,qd,qa,k5u,qa,kqa (by rw [kaj];omega),qa]
    rw [kh3 hc] at hI
    by_cases hn:kb3 (mkB r)
    ·rw [qe hn,qv,qb,kaj,kcd (by omega) (by omega),show (((r.length:Int)+2) == (r.length:Int))=false by rw [qq];omega,qa,qb]
     rw [qa,kfx (by simp only [qk,qt,q8];omega),qa,show imin ((r.length:Int)+2) (r.length:Int)=(r.length:Int) by unfold imin;split <;> omega,
      show cutS (mkB r) (r.length:Int) (r.length:Int)=some (mkB []) by have:=k57 r;rw [kaj] at this;exact this,qa]
     refine kmp (s:=(mkB [],(acc++[r]).map mkB)) (by rw [List.map_append];rfl) ⟨⟨[],acc++[r],rfl,by simp only [qn,qk,qt];omega, .inl ⟨rfl,?_⟩⟩,?_⟩
     ·unfold kjo
      rw [if_neg h0,hI,if_pos]
      intro a ha
      rcases qab.1 ha with ha | ha
      ·exact hok a ha
      ·rw [qak.1 ha];exact hn
     ·show (mkB []).size<(mkB r).size
      rw [kaj,kaj];simp;omega
    ·rw [qc hn]
     refine kd2 (b := .inr ([],false)) rfl ?_
     unfold kjo
     rw [if_neg h0,hI,if_neg]
     ·rfl
     ·exact fun h=>hn (h r (by simp))
   | some p=>
    obtain ⟨a,b⟩:=p
    have h1:=kcm (by simp) hc
    have e:=(kqb (by simp) hc).1
    have el:=congrArg List.length e
    simp only [qn,qk,qt] at el
    rw [kp8 hc,qc (show ¬ (a.length:Int)<0 by omega),qb,qa,kwt (by simp) hc,qa,kqa (by rw [kaj];omega),qa]
    rw [kiw (by simp) hc] at hI
    rw [kaj,kcd (by omega) (by omega)]
    by_cases hn:kb3 (mkB a)
    ·rw [qe hn,qv,qb,qa]
     by_cases hb:b=[]
     ·subst hb
      simp only [qt] at el
      rw [show (((a.length:Int)+2) == (r.length:Int))=true by rw [beq_iff_eq];omega]
      refine kd2 (b := .inr ([],false)) rfl ?_
      unfold kjo
      rw [if_neg h0,hI,if_neg]
      ·rfl
      ·intro h
       have:=h [] (by rw [show kb7 [44,32] ([]:List UInt8)=[[]] from rfl];simp)
       exact absurd this.1.1 (by decide)
     ·have hbl:1≤b.length:=qau.2 hb
      rw [show (((a.length:Int)+2) == (r.length:Int))=false by rw [qq];omega,qb]
      rw [qa,kfx (by simp only [qk,qt,q8];omega),qa,show imin ((a.length:Int)+2) (r.length:Int)=((a.length+([44,32]:List UInt8).length:Nat):Int) by unfold imin;simp only [qk,qt];split <;> omega,
       show cutS (mkB r) ((a.length+([44,32]:List UInt8).length:Nat):Int) (r.length:Int)=some (mkB b) by have:=k2a (by simp) hc;rw [kaj] at this;exact this,qa]
      refine kmp (s:=(mkB b,(acc++[a]).map mkB)) (by rw [List.map_append];rfl) ⟨⟨b,acc++[a],rfl,by simp only [qn,qk,qt];omega, .inr ⟨hb,h0,?_,?_⟩⟩,?_⟩
      ·intro y hy
       rcases qab.1 hy with hy | hy
       ·exact hok y hy
       ·rw [qak.1 hy];exact hn
      ·rw [hI];simp
      ·show (mkB b).size<(mkB r).size
       rw [kaj,kaj];omega
    ·rw [qc hn]
     refine kd2 (b := .inr ([],false)) rfl ?_
     unfold kjo
     rw [if_neg h0,hI,if_neg]
     ·rfl
     ·exact fun h=>hn (h a (by simp))
 obtain ⟨r,e,hr⟩:=main
 rw [e,qa,← hr]
 cases r <;> rfl
end Go.Proofs.YtaimpcnpifoidaaGreatDoor
