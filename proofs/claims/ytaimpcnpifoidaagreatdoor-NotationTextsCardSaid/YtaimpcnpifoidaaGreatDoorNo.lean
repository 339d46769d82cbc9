import Derived.Test.YtaimpcnpifoidaaGreatDoorNn
set_option linter.unusedVariables false
set_option linter.unusedSimpArgs false
set_option maxRecDepth 100000
namespace Go.Proofs.YtaimpcnpifoidaaGreatDoor
open Go Go.RowKit
theorem kaea {α:Type} {b:Nat} {y:α} (h:b+1≤140737488355328):appN b ([]:List α) [y]=some [y]:=by
 unfold appN
 rw [show ([y]:List α).isEmpty=false from rfl,qb,kfx (by simp only [qt,qk];omega)]
 rfl
theorem kab8 {α:Type} {b:Nat} {ys:List α} (hy:ys≠[]) (h:ys.length*(b+1)≤140737488355328):appN b ([]:List α) ys=some ys:=by
 unfold appN
 rw [show ys.isEmpty=false by cases ys with | nil=>exact absurd rfl hy | cons=>rfl,qb,kfx (by simpa using h)]
 rfl
theorem kabq {α:Type} {b:Nat} {xs:List α} {x:Option α} {y:α} (hx:x=some y) (h:(xs.length+1)*(b+1)≤140737488355328) (hb:b+1≤140737488355328):
  (bif xs.isEmpty then (Option.bind x fun v22=>(Option.bind (appN b ([]:List α) ([v22]:List α)) fun v23=>(some (v23)))) else (Option.bind (appN b ([]:List α) xs) fun v19=>(Option.bind x fun v20=>(Option.bind (app b v19 ([v20]:List α)) fun v21=>(some (v21))))))=some (xs++[y]):=by
 subst hx
 by_cases hn:xs=[]
 ·subst hn
  rw [show ([]:List α).isEmpty=true from rfl,qd,qa,kaea hb]
  rfl
 ·rw [show xs.isEmpty=false by cases xs with | nil=>exact absurd rfl hn | cons=>rfl,qb,kab8 hn (by rw [qa0] at h;omega),qa,qa,kfx (by simpa using h)]
  rfl
theorem kajf {l:La} (hsy:l.symbols.length≤70000) {ws:List (List UInt8)} (hl:ws.length≤70001) {v:List BA×Bool} (hv:v.1=ws.map mkB):Ev (kab (kfg l v) fuel (0,[])) fun r=>match kc4 l.symbols ws with
  | some is=>r = .inl is
  | none=>∃ q,r = .inr (q,5):=by
 have hlen:v.1.length=ws.length:=by rw [hv,q8]
 refine kqf ws.length (fun k s=>∃ is,kc4 l.symbols (ws.take k)=some is∧s=((k:Int),is)) (by omega) ⟨[],rfl,rfl⟩ (fun k s hk ⟨is,h1,e⟩=>?_) fun s ⟨is,h1,e⟩=>?_
 ·subst e
  have e1:v.1[k]?=some (mkB ws[k]):=by rw [hv,List.getElem?_map,List.getElem?_eq_getElem hk];rfl
  have hil:is.length≤70001:=by
   have:=congrArg List.length (kmm h1).1
   rw [q8,qah] at this
   omega
  unfold kfg
  rw [hlen]
  simp only [kb6 hk,qd,kaz,e1,qa,k5m l ws[k] (by omega),kfx (b:=8) (xs:=is) (ys:=[plI l.symbols ws[k]]) (by simp only [qk,qt];omega),kvq hk (show ws.length≤9223372036854775807 by omega)]
  unfold plI
  cases hp:kbi l.symbols ws[k] with
  | none=>
   refine kd2 (b := .inr (_,5)) rfl ?_
   rw [kxe hk hp]
   exact ⟨_,rfl⟩
  | some i=>
   simp only
   rw [qc (show ¬ (i:Int)<0 by omega)]
   exact kmp (s:=(((k+1:Nat):Int),is++[(i:Int)])) rfl ⟨_,kxf hk h1 hp,rfl⟩
 ·subst e
  rw [List.take_length] at h1
  rw [h1]
  refine kzg (b := .inl is) ?_ rfl
  unfold kfg
  rw [hlen]
  simp only [kho,qb]
def RuQ:Int ⊕ Ru→Ru×Int→Prop
 | .inl e,r=>r.2=e
 | .inr u,r=>r=(u,0)
theorem k9g {s:List UInt8} (h:s≠[]) (hs:s.length≤4000000):byt (mkB s) (w64 (((mkB s).size:Int) - 1))=some ((s.getLast h).toNat:Int):=by
 have h1:1≤s.length:=qau.2 h
 rw [kaj,kcd (by omega) (by omega),show (s.length:Int) - 1=((s.length - 1:Nat):Int) by omega,ktl (by rw [kay];omega)]
 congr 2
 simp only [kay]
 rw [List.getLast_eq_getElem]
theorem k96 {b op d:List UInt8} {c1 c2:UInt8} (e:b=op++c1::(d++[c2])) (h:b.length≤4000000):cutS (mkB b) (w64 ((op.length:Int)+1)) (w64 (((mkB b).size:Int) - 1))=some (mkB d):=by
 have hl:b.length=op.length+1+(d.length+1):=by
  rw [e]
  simp only [qn,qk,qt];omega
 have:=ks6 (s:=mkB b) (i:=op.length+1) (w:=d.length) (by rw [kaj];omega)
 rw [kaj,kcd (by omega) (by omega),kcd (by omega) (by omega),show (op.length:Int)+1=((op.length+1:Nat):Int) by omega,show (b.length:Int) - 1=((op.length+1+d.length:Nat):Int) by omega,this,kay,e]
 congr 2
 rw [show op++c1::(d++[c2])=(op++[c1])++(d++[c2]) by simp,show op.length+1=(op++[c1]).length by simp,List.drop_left,List.take_left]
theorem kag4 {l:La} (hsy:l.symbols.length≤70000) {s:List UInt8} (hs:s.length≤70000):Ev (khk l (mkB s)) (RuQ (ruL l.symbols s)):=by
 unfold khk ruL
 rw [ktg (by simp) (by omega) (by simp),qa]
 cases hc:cutW [32,61,32] s with
 | none=>rw [kp9 hc];exact kaa rfl
 | some p=>
  obtain ⟨w,b⟩:=p
  have hlen:=kcm (by simp) hc
  simp only [kp8 hc]
  rw [qc (show ¬ (w.length:Int)<0 by omega),qb,kwt (by simp) hc,qa,kqa (by rw [kaj];omega),qa,qa]
  by_cases h1:kb3 (mkB w)
  ·have hw3:w64 ((w.length:Int)+3)=((w.length+([32,61,32]:List UInt8).length:Nat):Int):=by rw [kcd (by omega) (by omega)];simp
   rw [qe h1,if_pos h1,qv,qb,qa,k5m l w (by omega),qa,hw3,k2a (by simp) hc,qa,kabp (by rw [kaj];omega),qa]
   have fin:∀ (k i:Int) (v:Va) (op:BA) (is:List Int),Ev (bif (decide (plI l.symbols w<0)) then (some ((Ru.mk (0) (0) (0) ((Va.mk (0) (0) ((⟨#[]⟩:BA)) (([]:List Va)))) ((⟨#[]⟩:BA)) (([]:List Int))),(5:Int))) else (some ((Ru.mk (plI l.symbols w) k i v op is),(0:Int)))) (RuQ (match kbi l.symbols w with | some y => .inr (Ru.mk (y:Int) k i v op is) | none => .inl 5)):=fun k i v op is=>by
    unfold plI
    cases kbi l.symbols w with
    | none=>exact kaa rfl
    | some y=>
     simp only
     rw [qc (show ¬ (y:Int)<0 by omega)]
     exact kaa rfl
   unfold rhsL
   by_cases hp:(prV (mkB b)).2.2=0
   ·have hi:inpL b=none:=by
     cases hi:inpL b with
     | none=>rfl
     | some k=>exact absurd hp (kagv hi)
    rw [hi,if_pos hp,show ((prV (mkB b)).2.2 == 0)=true by rw [hp];rfl,qd,qa,qf]
    have:=fin 2 0 (prV (mkB b)).1 ⟨#[]⟩ []
    simp only [kc4,k3z]
    cases hpl:kbi l.symbols w with
    | none=>rw [hpl] at this;exact this
    | some y=>rw [hpl] at this;exact this
   ·rw [show ((prV (mkB b)).2.2 == 0)=false from beq_false_of_ne hp,qb,inp_r,qa]
    cases hi:inpL b with
    | some k=>
     simp only
     rw [qe (show (0:Int)≤(k:Int) by omega),qd,qa,qf]
     have:=fin 1 (k:Int) kc1 ⟨#[]⟩ []
     simp only [kc4]
     cases hpl:kbi l.symbols w with
     | none=>rw [hpl] at this;exact this
     | some y=>rw [hpl] at this;exact this
    | none=>
     simp only
     rw [if_neg hp,show decide ((0:Int) ≤ -1)=false from rfl,qb,ktg (by simp) (by omega) (by simp),qa]
     unfold appL
     cases hc2:cutW [40] b with
     | none=>rw [kp9 hc2];exact kaa rfl
     | some q=>
      obtain ⟨op,rest⟩:=q
      have hlen2:=kcm (by simp) hc2
      have e2:=(cut1_some.1 hc2).1
      have hbn:b≠[]:=fun e=>by rw [e] at hc2;cases hc2
      have hbl:1≤b.length:=qau.2 hbn
      rw [kp8 hc2,qc (show ¬ (op.length:Int)<0 by omega),qb,k9g hbn (by omega),qa]
      simp only
      by_cases h41:b.getLast hbn=41
      ·have hrn:rest≠[]:=fun e=>by
        subst e
        have:b.getLast?=some 40:=by rw [e2];simp
        rw [List.getLast?_eq_some_getLast hbn,h41] at this
        exact absurd (qm this) (by decide)
       have hr41:rest.getLast?=some 41:=by
        have:b.getLast?=some 41:=by rw [List.getLast?_eq_some_getLast hbn,h41]
        rw [e2,List.getLast?_append,List.getLast?_cons] at this
        rw [List.getLast?_eq_some_getLast hrn] at this ⊢
        simpa using this
       have er:=kvk hr41
       rw [show (((b.getLast hbn).toNat:Int) != 41)=false by rw [h41];rfl,qb,kwt (by simp) hc2,qa,kqa (by rw [kaj];omega),qa,qa]
       by_cases hn:kb3 (mkB op)
       ·rw [qe hn,qv,qb,if_pos ⟨hn,hr41⟩]
        have hcut:=k96 (b:=b) (op:=op) (d:=rest.dropLast) (c1:=40) (c2:=41) (by rw [← er];exact e2) (by omega)
        rw [hcut,qa]
        have hd:rest.dropLast.length≤70000:=by rw [List.length_dropLast];omega
        rw [kaci hd,qa]
        have key:∀ ws:List (List UInt8),ws.length≤70001→kjo rest.dropLast=some ws→Ev (Option.bind (bif !(nmR (kjo rest.dropLast)).2 then some (.inr ((Ru.mk (0) (0) (0) ((Va.mk (0) (0) ((⟨#[]⟩:BA)) (([]:List Va)))) ((⟨#[]⟩:BA)) (([]:List Int))),8)) else (Option.bind (some (mkB op)) fun v19=>(Option.bind (kab (kfg l (nmR (kjo rest.dropLast))) fuel (0,([]:List (Int)))) fun (v26:(((List Int)) ⊕ ((Ru)×(Int))))=>Sum.elim (fun v27=>(some (.inl (3,0,0,0,(⟨#[]⟩:BA),([]:List Va),v19,v27)))) (fun v28=>(some (.inr v28))) v26)):Option ((((Int)×(Int)×(Int)×(Int)×(BA)×(List Va)×(BA)×(List Int)) ⊕ ((Ru)×(Int))))) fun (v29:(((Int)×(Int)×(Int)×(Int)×(BA)×(List Va)×(BA)×(List Int)) ⊕ ((Ru)×(Int))))=>Sum.elim (fun v30=>(bif (decide (plI l.symbols w<0)) then (some ((Ru.mk (0) (0) (0) ((Va.mk (0) (0) ((⟨#[]⟩:BA)) (([]:List Va)))) ((⟨#[]⟩:BA)) (([]:List Int))),5)) else (some ((Ru.mk (plI l.symbols w) (v30.1) (v30.2.1) ((Va.mk (v30.2.2.1) (v30.2.2.2.1) (v30.2.2.2.2.1) (v30.2.2.2.2.2.1))) (v30.2.2.2.2.2.2.1) (v30.2.2.2.2.2.2.2)),0)))) (fun v31=>(some v31)) v29)
          (RuQ (match kbi l.symbols w,kc4 l.symbols ws with | some y,some ys => .inr (Ru.mk (y:Int) 3 0 kc1 (mkB op) ys) | _,_ => .inl 5)):=fun ws hws hnm=>by
         rw [hnm]
         simp only [nmR,qv,qb,qa]
         obtain ⟨r,e,hr⟩:=kajf hsy hws (v:=(ws.map mkB,true)) rfl
         rw [e,qa]
         cases hpp:kc4 l.symbols ws with
         | none=>
          rw [hpp] at hr
          obtain ⟨q,rfl⟩:=hr
          have:(match kbi l.symbols w,(none:Option (List Int)) with | some y,some ys=>(.inr (Ru.mk (y:Int) 3 0 kc1 (mkB op) ys):Int ⊕ Ru) | _,_ => .inl 5) = .inl 5:=by cases kbi l.symbols w <;> rfl
          rw [this]
          exact kaa rfl
         | some ys=>
          rw [hpp] at hr
          simp only at hr
          subst hr
          have:=fin 3 0 kc1 (mkB op) ys
          rw [qf,qa,qf]
          cases hpl:kbi l.symbols w with
          | none=>rw [hpl] at this;exact this
          | some y=>rw [hpl] at this;exact this
        by_cases hz:rest.dropLast=[]
        ·rw [if_pos hz]
         exact key [] (by simp) (by unfold kjo;rw [if_pos hz])
        ·rw [if_neg hz]
         by_cases ha:∀ a∈kb7 [44,32] rest.dropLast,kb3 (mkB a)
         ·rw [if_pos ha]
          exact key _ (kmn (by simp) hd).1 (by unfold kjo;rw [if_neg hz,if_pos ha])
         ·rw [if_neg ha,show kjo rest.dropLast=none from (if_neg hz).trans (if_neg ha)]
          exact kaa rfl
       ·rw [qc hn,if_neg fun h=>hn h.1]
        exact kaa rfl
      ·have hr:¬ rest.getLast?=some 41:=fun h=>by
        have:b.getLast?=some 41:=by rw [e2,List.getLast?_append,List.getLast?_cons,h];rfl
        rw [List.getLast?_eq_some_getLast hbn] at this
        exact h41 (qm this)
       rw [show (((b.getLast hbn).toNat:Int) != 41)=true by rw [qaz];intro e;exact h41 (cEq (d:=41) e),qd,qa,qd,if_neg fun h=>hr h.2]
       exact kaa rfl
  ·rw [qc h1,if_neg h1]
   exact kaa rfl
def LnQ:Int ⊕ La→La×Int→Prop
 | .inl e,r=>r.2=e∧e≠0
 | .inr l,r=>r=(l,0)
theorem k4x (l:La):La.mk l.name l.inputs l.symbols l.rules=l:=rfl
theorem kaic {n:Nat} {l:La} {s:List UInt8} (h1:l.symbols.length≤70000) (h2:l.rules.length≤70000) (hs:s.length≤70000):Ev (khj l (mkB s) (n:Int)) (LnQ (kjv n l s)):=by
 unfold khj kjv
 by_cases n1:n=1
 ·subst n1
  rw [if_pos rfl,show (((1:Nat):Int) == 1)=true from rfl,qd,kwa (by omega),qa,kya (k:=[108,97,110,103,117,97,103,101]) (w:=[108,97,110,103,117,97,103,101,32]) rfl (by decide)]
  cases hc:cutW [32] s with
  | none=>exact kaa ⟨rfl,by decide⟩
  | some p=>
   obtain ⟨k,r⟩:=p
   have hlen:=kcm (by simp) hc
   simp only
   by_cases k1:k=[108,97,110,103,117,97,103,101]
   ·rw [if_pos k1]
    simp only [aftR,qv,qb]
    rw [kqa (by rw [kaj];omega),qa,qa]
    by_cases k2:kb3 (mkB r)
    ·rw [qe k2,if_pos ⟨k1,k2⟩];exact kaa rfl
    ·rw [qc k2,if_neg fun h=>k2 h.2];exact kaa ⟨rfl,by decide⟩
   ·rw [if_neg k1,if_neg fun h=>k1 h.1]
    exact kaa ⟨rfl,by decide⟩
 rw [if_neg n1,show (((n:Nat):Int) == 1)=false by rw [qq];omega,qb]
 by_cases n2:n=2
 ·subst n2
  rw [if_pos rfl,show (((2:Nat):Int) == 2)=true from rfl,qd,kwa (by omega),qa]
  by_cases hp:s.take 6=[105,110,112,117,116,115]
  ·have ha:aftW [105,110,112,117,116,115] s=some (s.drop 6):=by unfold aftW;exact if_pos hp
   rw [ha]
   simp only [aftR]
   rw [k54 (by rw [qar];omega),qa]
   have e:s=[105,110,112,117,116,115]++s.drop 6:=by conv=>lhs;rw [← List.take_append_drop 6 s,hp]
   generalize s.drop 6=q at e ⊢
   subst e
   cases q with
   | nil=>
    rw [show kkt []=some [] from rfl,List.append_nil,kh3 (k6e (by decide)),List.head?_cons,List.tail_cons,if_pos (show some ([105,110,112,117,116,115]:List UInt8)=some bInp from rfl)]
    exact kaa rfl
   | cons c t=>
    rw [kkt]
    by_cases h32:c=32
    ·subst h32
     rw [if_pos rfl,kiw (a:=[105,110,112,117,116,115]) (b:=t) (by simp) (cut1_some.2 ⟨rfl,by decide⟩),List.head?_cons,List.tail_cons,if_pos (show some ([105,110,112,117,116,115]:List UInt8)=some bInp from rfl)]
     cases tysL (kb7 [32] t) with
     | none=>exact kaa ⟨rfl,by decide⟩
     | some ts=>exact kaa rfl
    ·rw [if_neg h32]
     have hd:(kb7 [32] ([105,110,112,117,116,115]++c::t)).head?≠some bInp:=by
      rw [kur (by simp)]
      cases hc:cutW [32] ([105,110,112,117,116,115]++c::t) with
      | none=>
       simp only [List.head?_cons]
       intro h
       have:=congrArg List.length (qm h)
       simp [bInp] at this
      | some p=>
       obtain ⟨a,b⟩:=p
       simp only [List.head?_cons]
       intro h
       have h:=qm h
       subst h
       have e:=(cut1_some.1 hc).1
       have:c::t=32::b:=by simpa [bInp] using e
       exact h32 (List.cons.inj this).1
     rw [if_neg hd]
     exact kaa ⟨rfl,by decide⟩
  ·have ha:aftW [105,110,112,117,116,115] s=none:=by unfold aftW;exact if_neg hp
   rw [ha]
   simp only [aftR]
   have hd:(kb7 [32] s).head?≠some bInp:=by
    intro h
    apply hp
    rw [kur (by simp)] at h
    cases hc:cutW [32] s with
    | none=>
     rw [hc] at h
     simp only [List.head?_cons] at h
     have h:=qm h
     rw [h];rfl
    | some p=>
     obtain ⟨a,b⟩:=p
     rw [hc] at h
     simp only [List.head?_cons] at h
     have h:=qm h
     rw [(cut1_some.1 hc).1,h]
     rfl
   rw [if_neg hd,show ((⟨#[]⟩:BA))=mkB [] from rfl,k54 (by simp),qa]
   exact kaa ⟨rfl,by decide⟩
 rw [if_neg n2,show (((n:Nat):Int) == 2)=false by rw [qq];omega,qb]
 rw [kwa (by omega),qa,kwa (by omega),kya (k:=[115,121,109,98,111,108]) (w:=[115,121,109,98,111,108,32]) rfl (by decide),kya (k:=[114,117,108,101]) (w:=[114,117,108,101,32]) rfl (by decide)]
 cases hc:cutW [32] s with
 | none=>exact kaa ⟨rfl,by decide⟩
 | some p=>
  obtain ⟨k,r⟩:=p
  have hlen:=kcm (by simp) hc
  simp only
  by_cases kr:k=bSym∧l.rules=[]
  ·obtain ⟨k1,k2⟩:=kr
   rw [if_pos (show k=[115,121,109,98,111,108] from k1),if_pos (show k=bSym∧l.rules=[] from ⟨k1,k2⟩)]
   simp only [aftR,qd]
   rw [show ((l.rules.length:Int) == 0)=true by rw [k2];rfl,qa,qd,ktg (by simp) (by omega) (by simp),qa]
   cases hc2:cutW [32] r with
   | none=>rw [kp9 hc2];exact kaa ⟨rfl,by decide⟩
   | some q=>
    obtain ⟨w,t⟩:=q
    have hlen2:=kcm (by simp) hc2
    simp only
    rw [kp8 hc2,qc (show ¬ (w.length:Int)<0 by omega),qb,kwt (by simp) hc2,qa,kqa (by rw [kaj];omega),qa,qa]
    by_cases k3:kb3 (mkB w)
    ·rw [qe k3,if_pos k3,qv,qb,w64s w.length (by omega),show cutS (mkB r) ((w.length+1:Nat):Int) ((mkB r).size:Int)=some (mkB t) from k2a (by simp) hc2,qa,pt_r,qa]
     cases ht:kd4 t with
     | none=>exact kaa ⟨rfl,by decide⟩
     | some ty=>
      simp only [ptR,qv,qb]
      have sn:=kabq (b:=24) (xs:=l.symbols) (x:=some (Sy.mk (mkB w) ty)) rfl (by omega) (by omega)
      simp only [qa] at sn ⊢
      rw [sn]
      exact kaa rfl
    ·rw [qc k3,if_neg k3]
     exact kaa ⟨rfl,by decide⟩
  ·rw [if_neg kr]
   have hv:(bif (aftR (if k=[115,121,109,98,111,108] then some r else none)).2 then some ((l.rules.length:Int) == 0) else some false)=some false:=by
    by_cases k1:k=[115,121,109,98,111,108]
    ·rw [if_pos k1]
     have hz:((l.rules.length:Int) == 0)=false:=by
      rw [qq]
      intro e
      exact kr ⟨k1,qu (by omega)⟩
     simp only [aftR,qd,hz]
    ·rw [if_neg k1];rfl
   rw [hv,qa,qb]
   by_cases k3:k=[114,117,108,101]
   ·rw [if_pos k3,if_pos (show k=kse from k3),qa]
    simp only [aftR,qv,qb]
    obtain ⟨q,e,hq⟩:=kag4 (l:=l) (s:=r) h1 (by omega)
    rw [e,qa]
    have sn:=kabq (b:=120) (xs:=l.rules) (x:=some q.1) rfl (by omega) (by omega)
    simp only [qa] at sn ⊢
    rw [sn]
    cases hr:ruL l.symbols r with
    | inl c=>
     rw [hr] at hq
     exact kaa ⟨hq,k9e hr⟩
    | inr u=>
     rw [hr] at hq
     have hq:q=(u,0):=hq
     subst hq
     exact kaa rfl
   ·rw [if_neg k3,if_neg (show ¬ k=kse from k3),qa]
    exact kaa ⟨rfl,by decide⟩
theorem kaft (s:List UInt8):keo (mkB s)=some (outL s):=by
 unfold keo outL
 rw [kaj]
 by_cases h0:65536<s.length
 ·rw [if_pos h0,qe (show 65536<(s.length:Int) by omega)];rfl
 rw [if_neg h0,qc (show ¬ 65536<(s.length:Int) by omega),qb]
 have main:Ev (kab ke7 fuel (mkB s,1,⟨#[]⟩,[],[],[])) fun r=>match kjk 0 laD s with
   | .inl (k,e)=>r = .inr (laD,k,e)
   | .inr (n,l)=>r = .inl (((n+1:Nat):Int),l.name,l.inputs,l.symbols,l.rules):=by
  refine kqw (fun st=>∃ n l t,st=(mkB t,((n+1:Nat):Int),l.name,l.inputs,l.symbols,l.rules)∧Mid s n l t) (fun st=>st.1.size) (by rw [kaj];omega) ⟨0,laD,s,rfl,Mid.zero (by omega)⟩ ?_
  rintro st ⟨n,l,t,rfl,hM⟩
  have hl:=hM.len
  have hb:=hM.bd
  unfold ke7
  simp only [k2d,k4x]
  by_cases ht:t=[]
  ·subst ht
   refine kd2 (b := .inl (((n+1:Nat):Int),l.name,l.inputs,l.symbols,l.rules)) rfl ?_
   rw [← hM.same,k12]
  ·rw [qc ht,qam,qd,ktg (by simp) (by omega) (by simp),qa]
   cases hc:cutW [10] t with
   | none=>
    rw [kp9 hc]
    refine kd2 (b := .inr (laD,((n+1:Nat):Int),8)) rfl ?_
    rw [← hM.same,ktq n l ht hc]
   | some p=>
    obtain ⟨a,b⟩:=p
    have h1:=kcm (by simp) hc
    rw [kp8 hc,qc (show ¬ (a.length:Int)<0 by omega),qb,kwt (by simp) hc,qa]
    obtain ⟨r,e,hr⟩:=kaic (n:=n+1) (l:=l) (s:=a) (by have:=hb.syms;omega) (by have:=hb.ruls;omega) (by omega)
    rw [e,qa]
    cases hl2:kjv (n+1) l a with
    | inl e=>
     rw [hl2] at hr
     obtain ⟨rfl,hne⟩:=hr
     rw [show (r.2 != 0)=true by rw [qaz];exact hne]
     refine kd2 (b := .inr (laD,((n+1:Nat):Int),r.2)) rfl ?_
     rw [← hM.same,kp0 n l hc,hl2]
    | inr l'=>
     rw [hl2] at hr
     have hr:r=(l',0):=hr
     subst hr
     rw [show (((l',(0:Int)):La×Int).2 != 0)=false from rfl,qb,w64s a.length (by omega),show cutS (mkB t) ((a.length+1:Nat):Int) ((mkB t).size:Int)=some (mkB b) from k2a (by simp) hc,qa,w64s (n+1) (by omega)]
     refine kmp (s:=(mkB b,((n+1+1:Nat):Int),l'.name,l'.inputs,l'.symbols,l'.rules)) rfl ⟨⟨n+1,l',b,rfl,hM.next hc hl2⟩,?_⟩
     show (mkB b).size<(mkB t).size
     rw [kaj,kaj]
     omega
 obtain ⟨r,e,hr⟩:=main
 rw [e,qa]
 cases hR:kjk 0 laD s with
 | inl p=>
  obtain ⟨k,c⟩:=p
  rw [hR] at hr
  simp only at hr
  subst hr
  rfl
 | inr p=>
  obtain ⟨n,l⟩:=p
  rw [hR] at hr
  simp only at hr
  subst hr
  obtain ⟨hB,hn⟩:=kxq (by omega) hR
  simp only [qf,finL]
  by_cases h2:n<2
  ·rw [if_pos h2,qe (show ((n+1:Nat):Int)<3 by omega),qd];rfl
  ·rw [if_neg h2,qc (show ¬ ((n+1:Nat):Int)<3 by omega),qb]
   have hc:=(kabm (hB.wide (by omega))).2.1
   rw [k4x,hc,qa]
   by_cases hz:chk l=0
   ·rw [if_neg fun h=>h hz,hz];rfl
   ·rw [if_pos hz,show (chk l != 0)=true by rw [qaz];exact hz];rfl
theorem kwc:ModL laD:=⟨by simp [laD],by simp [laD],by simp [laD],by simp [laD]⟩
theorem kafs (s:List UInt8):ModL (outL s).1:=by
 unfold outL
 split
 ·exact kwc
 ·rename_i h0
  cases hR:kjk 0 laD s with
  | inl p=>obtain ⟨k,c⟩:=p;exact kwc
  | inr p=>
   obtain ⟨n,l⟩:=p
   obtain ⟨hB,hn⟩:=kxq (by omega) hR
   simp only [finL]
   split
   ·exact kwc
   ·split
    ·exact kwc
    ·exact hB.mod (by omega)
theorem kabe {l:La} (h:ModL l):kfj l l=some true:=by
 obtain ⟨c,h1,h2⟩:=kads h h
 rw [h1,h2.2 rfl]
theorem kxb (s:BA) (_:s.size≤9223372036854775807):kfl s=some true:=by
 unfold kfl
 rw [kahu]
 cases decide (2000<(s.size:Int)) with
 | true=>rfl
 | false=>
  have hp:=kagx (bsOf s)
  have hr:=kaft (bsOf s)
  rw [kyd] at hp hr
  rw [qb,hp,hr]
  simp only [qa,k4x,kabe (kafs (bsOf s)),qd,beq_self_eq_true]
end Go.Proofs.YtaimpcnpifoidaaGreatDoor
