import Derived.Test.YtaimpcnpifoidaaGreatDoorBa
set_option linter.unusedVariables false
set_option linter.unusedSimpArgs false
set_option maxRecDepth 100000
namespace Go.Proofs.YtaimpcnpifoidaaGreatDoor
open Go Go.RowKit
theorem kadm {v:Va} (h:kgh v):kac v≠[]:=fun e=>by
 have h1:=k0b h (m:=[]) ⟨.inl (by decide),by decide⟩
 rw [e] at h1
 have h2:oneP.run ([]:List UInt8)=(none,[]):=rfl
 rw [List.append_nil,h2] at h1
 cases h1
def k8s (r:List UInt8):(Ex×List UInt8) ⊕ List UInt8→Prop
 | .inl (_,m)=>m <:+ r∧m.length<r.length
 | .inr m=>m <:+ r
theorem kaf3 {r m:List UInt8} {v:Va} (h:litM r = .inl (v,m)):m.length<r.length:=by
 obtain ⟨o,j,h1,h2,_⟩:=kpe r
 unfold litM at h
 rw [h1] at h
 cases o with
 | some u=>
  cases h
  obtain ⟨e1,e2⟩:=k0m h1
  have:=congrArg List.length e1
  have h3:=List.length_pos_iff.2 (kadm e2)
  rw [ql] at this
  omega
 | none=>
  simp only at h
  by_cases h48:r.head?=some 48
  ·rw [if_pos h48] at h
   cases h
   cases r with
   | nil=>cases h48
   | cons c t=>simp
  ·rw [if_neg h48] at h;cases h
theorem k0v {f:List UInt8→(Ex×List UInt8) ⊕ List UInt8} (hf:∀ q,k8s q (f q)):∀ (left k:Nat) (acc:List Ex) (r:List UInt8),match argL f left k acc r with
  | .inl (_,m)=>m <:+ r
  | .inr m=>m <:+ r
 | 0,_,_,r=>List.suffix_refl r
 | left+1,k,acc,r=>by
  rw [argL]
  have h1:=ktp (sepW k) r
  cases hm:kic (sepW k) r with
  | inr m=>rw [hm] at h1;exact h1
  | inl m=>
   rw [hm] at h1
   simp only at h1 ⊢
   have hmr:m <:+ r:=by rw [h1];exact List.suffix_append _ _
   have h2:=hf m
   cases hx:f m with
   | inr q=>rw [hx] at h2;exact h2.trans hmr
   | inl p=>
    obtain ⟨x,q⟩:=p
    rw [hx] at h2
    simp only
    have h3:=k0v hf left (k+1) (acc++[x]) q
    cases ha:argL f left (k+1) (acc++[x]) q with
    | inl p=>obtain ⟨a,m2⟩:=p;rw [ha] at h3;exact h3.trans (h2.1.trans hmr)
    | inr m2=>rw [ha] at h3;exact h3.trans (h2.1.trans hmr)
theorem kzn:∀ (n:Nat) (r:List UInt8),k8s r (exM n r)
 | 0,r=>List.suffix_refl r
 | n+1,r=>by
  rw [exM]
  have hd:r.drop (wdL r).length <:+ r:=List.drop_suffix _ r
  by_cases hw:litW (wdL r) r
  ·rw [if_pos hw]
   have h1:=kaih r
   cases hl:litM r with
   | inl p=>obtain ⟨v,m⟩:=p;rw [hl] at h1;exact ⟨h1,kaf3 hl⟩
   | inr m=>rw [hl] at h1;exact h1
  ·rw [if_neg hw]
   have hne:wdL r≠[]:=fun e=>hw (.inl e)
   have hlt:(r.drop (wdL r).length).length<r.length:=by
    have h1:=congrArg List.length (kvs r)
    have h2:=List.length_pos_iff.2 hne
    rw [ql] at h1
    omega
   cases inpL (wdL r) with
   | some k=>exact ⟨hd,hlt⟩
   | none=>
    simp only
    cases opM (wdL r) with
    | none=>exact List.suffix_refl r
    | some c=>
     simp only
     have h1:=k0v (f:=exM n) (kzn n) c 0 [] (r.drop (wdL r).length)
     cases ha:argL (exM n) c 0 [] (r.drop (wdL r).length) with
     | inr m=>rw [ha] at h1;exact h1.trans hd
     | inl p=>
      obtain ⟨acc,m⟩:=p
      rw [ha] at h1
      simp only at h1 ⊢
      have h2:=ktp [41] m
      cases hm:kic [41] m with
      | inl q=>
       rw [hm] at h2
       simp only at h2
       have hq:q <:+ m:=by rw [h2];exact List.suffix_append _ _
       have h3:=kmb (hq.trans h1)
       exact ⟨(hq.trans h1).trans hd,by omega⟩
      | inr q=>rw [hm] at h2;exact (h2.trans h1).trans hd
def ExQ (s:List UInt8):(Ex×List UInt8) ⊕ List UInt8→((Ex×Int) ⊕ (Int×Int))→Prop
 | .inl (x,m),q=>q = .inl (x,pos s m)
 | .inr m,q=>∃ z,q = .inr (pos s m,z)
theorem kah2 (i:Nat):idx ([(⟨#[40]⟩:BA),(⟨#[44,32]⟩:BA)]:List BA) (imin (i:Int) 1)=some (⟨(sepW i).toArray⟩:BA):=by
 unfold sepW
 by_cases h:i=0
 ·subst h;rfl
 ·rw [if_neg h,show imin (i:Int) 1=1 by unfold imin;split <;> omega];rfl
theorem kaje (i:Nat):(sepW i).length≤100:=by unfold sepW;split <;> simp
theorem kaj1 {s r:List UInt8} {n:Nat} (hs:s.length≤4000000) (hr:r <:+ s) (hn:r.length<n) {f:List UInt8→(Ex×List UInt8) ⊕ List UInt8} {rec:S_notation_parser→Option ((Ex×Int) ⊕ (Int×Int))}
  (hf:∀ q,k8s q (f q)) (hrec:∀ q,q <:+ s→q.length<n→Ev (rec ⟨mkB s,pos s q⟩) (ExQ s (f q))) {p0:Int} {v:S_api_Operator×Bool} (hc:v.1.f_Args.length≤5):
  Ev (kaa (kdj ⟨mkB s,p0⟩ rec v) fuel (0,pos s r,[])) fun res=>match argL f v.1.f_Args.length 0 [] r with
   | .inl (acc,m)=>res = .inl (pos s m,acc)
   | .inr m=>∃ z,res = .inr (pos s m,z):=by
 refine ki5 v.1.f_Args.length (fun i st=>∃ acc q,st=((i:Int),pos s q,acc)∧argL f v.1.f_Args.length 0 [] r=argL f (v.1.f_Args.length - i) i acc q∧acc.length=i∧q <:+ s∧q.length<n) (by omega) ⟨[],r,rfl,rfl,rfl,hr,hn⟩ (fun i st hi ⟨acc,q,e,hI,hl,hq,hqn⟩=>?_) fun st ⟨acc,q,e,hI,hl,hq,hqn⟩=>?_
 ·subst e
  obtain ⟨k,hk⟩:∃ k,v.1.f_Args.length - i=k+1:=⟨v.1.f_Args.length - i - 1,by omega⟩
  rw [hk,argL] at hI
  unfold kdj
  simp only [kbb hi,qd,kah2,qa,kacb hs (kaje i) hq]
  have h1:=ktp (sepW i) q
  cases hm:kic (sepW i) q with
  | inr m=>
   rw [hm] at hI
   refine kow (b := .inr (pos s m,pos s m)) rfl ?_
   rw [hI]
   exact ⟨_,rfl⟩
  | inl m=>
   rw [hm] at hI h1
   simp only at hI h1
   have hms:m <:+ s:=k7k (by rw [← h1];exact hq)
   have hml:m.length≤q.length:=by rw [h1,ql];omega
   simp only [muR,qf]
   obtain ⟨res,e1,e2⟩:=hrec m hms (by omega)
   have h2:=hf m
   rw [e1,qa]
   cases hx:f m with
   | inr z=>
    rw [hx] at hI e2
    obtain ⟨y,rfl⟩:=e2
    refine kow (b := .inr (pos s z,y)) rfl ?_
    rw [hI]
    exact ⟨_,rfl⟩
   | inl p=>
    obtain ⟨x,z⟩:=p
    rw [hx] at hI e2 h2
    have e2:res = .inl (x,pos s z):=e2
    subst e2
    have h3:=h2.2
    simp only [qf]
    rw [kk9 (by simp only [qq,qab];omega),qa,w64s i (by omega)]
    refine km0 (s:=(((i+1:Nat):Int),pos s z,acc++[x])) rfl ⟨acc++[x],z,rfl,?_,by simp [hl],h2.1.trans hms,by omega⟩
    rw [hI,show v.1.f_Args.length - (i+1)=k by omega]
 ·subst e
  rw [Nat.sub_self,argL] at hI
  refine klu (b := .inl (pos s q,acc)) ?_ (by rw [hI])
  unfold kdj
  simp only [kez,qb]
theorem kaji (c:UInt8) (r:List UInt8) (h:r.length≤4000000):kcg (mkB r) (⟨#[c]⟩:BA)=some (decide (r.head?=some c)):=by
 unfold kcg kco
 rw [show (((⟨#[c]⟩:BA).size:Int))=1 from rfl,kcr]
 cases r with
 | nil=>rfl
 | cons d t=>
  rw [qe (by simp only [qq];omega),qd,show cutS (mkB (d::t)) 0 1=some (mkB [d]) from koy (s:=mkB (d::t)) (a:=[d]) (b:=t) (kct _),qa,qa,ksn]
  show some (decide ([d]=[c]))=_
  congr 1
  rw [qa0]
  simp
theorem k48 {k:Int} {w r:List UInt8} (hk:k=0∨k=1) (hw:kac (Va.mk 1 k ⟨#[]⟩ [])=w) (h:wdL r=w):litM r = .inl (Va.mk 1 k ⟨#[]⟩ [],r.drop w.length):=by
 have hv:kgh (Va.mk 1 k ⟨#[]⟩ []):=by rcases hk with rfl | rfl;exact .inl (.inl rfl);exact .inl (.inr rfl)
 have e:=kvs r
 rw [h] at e
 have:=kyi hv (m:=r.drop w.length) fun ⟨n,hn,_⟩=>by cases hn
 rw [hw,e] at this
 unfold litM
 rw [this]
theorem k6e:kac (Va.mk 1 1 ⟨#[]⟩ [])=kwy:=by simp [kac,kwy]
theorem k5m:kac (Va.mk 1 0 ⟨#[]⟩ [])=ktf:=by simp [kac,ktf]
theorem kaca {s:List UInt8} (hs:s.length≤4000000):∀ (n:Nat) (r:List UInt8),r <:+ s→r.length<n→Ev (kcd n ⟨mkB s,pos s r⟩) (ExQ s (exM n r))
 | 0,r,_,hn=>by omega
 | n+1,r,hr,hn=>by
  show Ev (kdw (kcd n) ⟨mkB s,pos s r⟩) _
  unfold kdw
  rw [exM]
  simp only [kaax hr]
  have lit:∀ {P:Prop} [Decidable P] (hP:P) (B:(Ex×List UInt8) ⊕ List UInt8),Ev (Option.bind (kc3 ⟨mkB s,pos s r⟩) fun v6=>Sum.elim (fun v5=>some (.inl (v5.1,v5.2))) (fun v7=>some (.inr (v7,pos s r))) v6) (ExQ s (if P then (match litM r with
   | .inl (v,m) => .inl (Ex.mk 2 0 v ⟨#[]⟩ [],m)
   | .inr m => .inr m) else B)):=fun {P} _ hP B=>by
   rw [if_pos hP,kaba hs hr,qa]
   cases litM r with
   | inl p=>obtain ⟨v,m⟩:=p;exact kaf rfl
   | inr m=>exact kaf ⟨_,rfl⟩
  cases r with
  | nil=>
   rw [qe rfl,qd,qa,qd]
   exact lit (.inl rfl) _
  | cons c t=>
   rw [qc (by simp),qb,k0o hr,qa,k13,qa,qa]
   by_cases hc:letC c
   ·have hwd:wdL (c::t)=(c::t).takeWhile wc:=by rw [wdL,if_pos hc]
    rw [qe hc,qae,qb,kaj7 hs hr,qa,← hwd]
    have hwne:wdL (c::t)≠[]:=by
     rw [hwd,List.takeWhile_cons,if_pos (by unfold wc;rw [qe hc];rfl)];simp
    have eq34:(bif ((mkB (wdL (c::t))).toList == (⟨#[114]⟩:BA).toList) then (Option.bind (cutS (mkB s) (w64 (pos s (c::t)+1)) ((mkB s).size:Int)) fun v9=>(Option.bind (kcg (v9) ((⟨#[34]⟩:BA))) fun v10=>(some (v10)))) else (some (false)))=some (decide (wdL (c::t)=[114]∧t.head?=some 34)):=by
     rw [ksn]
     by_cases hw:wdL (c::t)=[114]
     ·rw [qe hw,qd,kwi hs hr,k6y (k40 hr),qa,kaji 34 t (by have:=kmb hr;simp only [qq] at this;omega),qa]
      congr 1
      rw [qa0]
      exact ⟨fun h=>⟨hw,h⟩,fun h=>h.2⟩
     ·rw [qc hw,qc fun h=>hw h.1];rfl
    rw [eq34,qa,ksn,ksn]
    have happ:(wdL (c::t)++(c::t).drop (wdL (c::t)).length) <:+ s:=by rw [kvs];exact hr
    have hpos:w64 (pos s (c::t)+((mkB (wdL (c::t))).size:Int))=pos s ((c::t).drop (wdL (c::t)).length):=by
     have:=k0u hs happ
     rw [kvs] at this
     rw [kcr];exact this
    by_cases hT:wdL (c::t)=[116,114,117,101]
    ·rw [qe hT,qd,qa,qd,if_pos (show litW _ _ from .inr (.inl hT)),k48 (.inr rfl) k6e hT,hpos,hT]
     exact kaf rfl
    rw [qc hT,qb,qa]
    by_cases hF:wdL (c::t)=[102,97,108,115,101]
    ·rw [qe hF,qd,if_pos (show litW _ _ from .inr (.inr (.inl hF))),k48 (.inl rfl) k5m hF,hpos,hF]
     exact kaf rfl
    rw [qc hF,qb]
    by_cases hq:wdL (c::t)=[114]∧t.head?=some 34
    ·rw [qe hq,qd]
     exact lit (.inr (.inr (.inr hq))) _
    rw [qc hq,qb,inp_p,qa]
    have hL:¬ litW (wdL (c::t)) (c::t):=by
     rintro (h | h | h | h)
     ·exact hwne h
     ·exact hT h
     ·exact hF h
     ·exact hq h
    rw [if_neg hL]
    cases hi:inpL (wdL (c::t)) with
    | some k=>
     simp only [inpR,qd,hpos]
     exact kaf rfl
    | none=>
     simp only [inpR,qb]
     obtain ⟨o,o1,o2⟩:=kv2 (mkB (wdL (c::t)))
     rw [o1,qa]
     obtain ⟨o,b⟩:=o
     cases b with
     | false=>
      have:opM (wdL (c::t))=none:=by unfold opM;rw [o2]
      rw [this]
      exact kaf ⟨_,rfl⟩
     | true=>
      have hop:opM (wdL (c::t))=some o.f_Args.length:=by unfold opM;rw [o2]
      rw [hop]
      simp only [qae,qb,hpos]
      have hds:(c::t).drop (wdL (c::t)).length <:+ s:=(List.drop_suffix _ _).trans hr
      have hdl:((c::t).drop (wdL (c::t)).length).length<n:=by
       have h1:=congrArg List.length (kvs (c::t))
       have h2:=List.length_pos_iff.2 hwne
       rw [ql] at h1
       omega
      obtain ⟨res,e1,e2⟩:=kaj1 (n:=n) hs hds hdl (f:=exM n) (rec:=kcd n) (kzn n) (fun q h1 h2=>kaca hs n q h1 h2) (p0:=pos s (c::t)) (v:=(o,true)) (ktw o2 rfl)
      rw [e1,qa]
      simp only at e2
      have h3:=k0v (f:=exM n) (kzn n) o.f_Args.length 0 [] ((c::t).drop (wdL (c::t)).length)
      cases ha:argL (exM n) o.f_Args.length 0 [] ((c::t).drop (wdL (c::t)).length) with
      | inr m=>
       rw [ha] at e2
       obtain ⟨z,rfl⟩:=e2
       exact kaf ⟨_,rfl⟩
      | inl p=>
       obtain ⟨acc,m⟩:=p
       rw [ha] at e2 h3
       simp only at e2 h3
       subst e2
       simp only [qf]
       rw [kacb hs (by simp) (h3.trans hds),qa]
       cases kic [41] m with
       | inl q=>exact kaf rfl
       | inr q=>exact kaf ⟨_,rfl⟩
   ·have hwd:wdL (c::t)=[]:=by rw [wdL,if_neg hc]
    rw [qc hc,qat,qd]
    exact lit (.inl hwd) _
def k9n (s:List UInt8):Ex ⊕ List UInt8:=match exM fuel s with
 | .inl (x,[]) => .inl x
 | .inl (_,m) => .inr m
 | .inr m => .inr m
theorem kak4 {s:List UInt8} (hs:s.length≤4000000):kib (mkB s)=some (match k9n s with
  | .inl x=>(x,0,0)
  | .inr m=>(Ex.nil,pos s m,8)):=by
 unfold kib k9n
 obtain ⟨res,e1,e2⟩:=kaca hs fuel s (List.suffix_refl s) (kbg (by omega))
 have h0:pos s s=0:=by unfold pos;simp
 rw [h0] at e1
 rw [e1,qa]
 have hsu:=kzn fuel s
 cases hx:exM fuel s with
 | inr m=>
  rw [hx] at e2
  obtain ⟨z,rfl⟩:=e2
  rfl
 | inl p=>
  obtain ⟨x,m⟩:=p
  rw [hx] at e2 hsu
  have e2:res = .inl (x,pos s m):=e2
  subst e2
  simp only [qf,kaa3 hsu.1]
  cases m with
  | nil=>rfl
  | cons c t=>rfl
end Go.Proofs.YtaimpcnpifoidaaGreatDoor
