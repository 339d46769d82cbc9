import Derived.Test.YtaimpcnpifoidaaGreatDoorOpi
import Derived.Recover
set_option linter.unusedVariables false
set_option linter.unusedSimpArgs false
namespace Go.Proofs.YtaimpcnpifoidaaGreatDoor
open Go Go.RowKit
def dfn (f:FuncId) (cs:List Value):Deferred:={ target := .fn (.func f) cs.toArray,args:=#[] }
def kqm (fn:Func):Option (Nat×Nat×Code):=match fn.body with
 | some (.seq (.region _ os false) c)=>match os.toList with
  | [o1,o2]=>match o1.op,o1.dst,o1.guard with
   | .call c1,some t1,none=>match o2.op,o2.dst,o2.guard with
    | .assign (.tmp t),some t2,none=>match c1.callee,c1.args.toList with
     | .builtin .recover,[]=>bif Nat.beq t t1 && (Nat.blt t1 fn.ntmps && (Nat.blt t2 fn.ntmps && fn.results.isEmpty)) then some (t1,t2,c) else none
     | _,_=>none
    | _,_,_=>none
   | _,_,_=>none
  | [o1]=>match o1.op,o1.dst,o1.guard with
   | .call c1,some t1,none=>match c1.callee,c1.args.toList with
    | .builtin .recover,[]=>bif Nat.blt t1 fn.ntmps && fn.results.isEmpty then some (t1,t1,c) else none
    | _,_=>none
   | _,_,_=>none
  | _=>none
 | _=>none
def recV:Exit→Option Value
 | .normal=>some .nilIface
 | .ret=>some .nilIface
 | .panic [⟨v,false,false⟩]=>bif v.oneCell' then some v else none
 | _=>none
def dst0 (keep:List Nat) (n t1 t2:Nat) (pv:Value) (vs:List AV) (gi:Nat) (ocs:List Value) (st:St):St:=
 { n:=n,tmps:=(t2, .fz (.atom pv))::(t1, .fz (.atom pv))::argT 0 vs,heap:=(gi, .gho ocs (keep.map st.get))::st.heap,ids:=gi::st.ids }
def dstB (keep:List Nat) (gi:Nat) (vs:List AV) (st st2:St):St:={ n:=st.n,tmps:=zipS (keep.map fun t=>(t, .any)) vs,heap:=kc2 gi st2.heap,ids:=st2.ids }
def hdQ (P:Program) (T:List (TypeId×TD)) (rs:List ResultVar) (g:Nat) (ids:List Nat) (E:HEnd) (post:List (Nat×AObj)) (ids':List Nat) (ψ0:Env) (S1:Nat→Prop) (w0:World) (e:Exit) (st:St):Prop:=
 hQ T rs g ids E post ids' ψ0 S1 w0 e st ∨ ∃ keep f fn2 t1 t2 c2 gi cvals vs pv gi2, st.dfr = [dfn f cvals] ∧ kab st.heap gi = some (.gho cvals vs) ∧ cvals.length = vs.length ∧ P.funcs[f]? = some fn2 ∧ kqm fn2 = some (t1, t2, c2) ∧ (fn2.name == "runtime.NumGoroutine") = false ∧
  Nat.ble vs.length fn2.ntmps=true∧recV e=some pv∧st.ids.contains gi2=false ∧
  ∀ ocs,awp P c2 (dst0 keep fn2.ntmps t1 t2 pv vs gi2 ocs st) fun e2 st2=>(e2 = .normal∨e2 = .ret)∧st2.dfr=[]∧∃ vs',kab st2.heap gi2=some (.gho ocs vs')∧hQ T rs g ids E post ids' ψ0 S1 w0 .ret (dstB keep gi2 vs' st st2)
section
variable {P:Program} {F S0:Nat→Prop} {N0:Nat} {w w':World} {S S':Nat→Prop} {ψ ψ':Env} {T:List (TypeId×TD)} {st:St} {ids:List Nat} {a:Act}
theorem k1o (hT:TOk P T) {fn:Func} {pre post:List (Nat×AObj)} {ids':List Nat} {E:HEnd} {g:Nat} {ψ0:Env} {w0:World} {e:Exit} (hg:g∉ids) (hg':g∉ids') (hp':(post.all fun p=>okO ids' p.2)=true) (hE:E.ok ids'=true)
  (hk:(post.all fun p=>ids'.contains p.1)=true) (h:kn7 T fn.results.toList g ids E post ids' ψ0 S w0 e st) (h2:Sim F S0 N0 st ψ' S' a w') (h3:Fr F w w'):
  a.defers=[]∧((e = .normal∨e = .ret)∧(∃ v,(results fn a.tmps).run P w' = .ok v w'∧∃ ψ'' S'',E.is (.returned v) ψ'' (·∈ids') S'' w'∧Core F S0 N0 post ids' ψ'' S'' w'∧Fr F w w'∧Ext (·∈ids) ψ0 ψ''∧(∀ i,i∈ids→i∈ids')∧(∀ b,S b→S'' b)∧Same S w0 w') ∨
   ∃ v,e = .panic [{ v:=v,recovered:=false }]∧∃ ψ'' S'',E.is (.panicked [{ v:=v,recovered:=false }]) ψ'' (·∈ids') S'' w'∧Core F S0 N0 post ids' ψ'' S'' w'∧Fr F w w'∧Ext (·∈ids) ψ0 ψ''∧(∀ i,i∈ids→i∈ids')∧(∀ b,S b→S'' b)∧Same S w0 w'):=by
 obtain ⟨hh,hi,hq⟩:=h
 have hgo:kab st.heap g=some (.was ψ0 ids S w0):=by rw [hh,kai,if_pos rfl]
 obtain ⟨_,⟨_,_,_,k1,k2,k3,k4⟩,_⟩:=h2.core.obj g _ hgo
 have hids:∀ i,i∈ids→i∈ids':=fun i hii=>by
  have:=k2 i hii
  rw [hi] at this
  rcases q8.1 this with rfl | h
  ·exact absurd hii hg
  ·exact h
 have kn7:∀ i ob,kab post i=some ob→i∈ids'∧okO ids' ob=true:=fun i ob ho=>by
  have hm:∀ {l:List (Nat×AObj)},kab l i=some ob→(i,ob)∈l:=fun {l}=>by
   induction l with
   | nil=>intro h;cases h
   | cons p l ih=>
    intro h
    obtain ⟨k,v⟩:=p
    rw [kai] at h
    split at h
    ·rename_i hk;subst hk;injection h with h;subst h;exact qo ..
    ·exact qk _ (ih h)
  have hm:=hm ho
  exact ⟨by simpa using qm.1 hk _ hm,by simpa using qm.1 hp' _ hm⟩
 have hl:∀ i ob,kab post i=some ob→kab st.heap i=some ob:=fun i ob ho=>by
  have hne:g≠i:=fun e=>hg' (e ▸ (kn7 i ob ho).1)
  rw [hh,kai,if_neg hne];exact ho
 have hcore':Core F S0 N0 post ids' ψ' S' w':=by
  refine ⟨fun i ob ho=>?_,fun i i' ob ob' b ho ho'=>h2.core.inj i i' ob ob' b (hl i ob ho) (hl i' ob' ho'),h2.core.lt,h2.core.s0,h2.core.n0,h2.core.fr⟩
  obtain ⟨_,m2,m3⟩:=h2.core.obj i ob (hl i ob ho)
  exact ⟨(kn7 i ob ho).1,m2.subA (kn7 i ob ho).2,m3⟩
 cases E with
 | ret res=>
  obtain ⟨he,hres⟩:=hq
  obtain ⟨v,e1,e2⟩:=k7p hT h2 hres
  exact ⟨h2.defers.trans (kx7 hres).1, .inl ⟨he,v,e1,ψ',S',⟨v,rfl,e2.subA hE⟩,hcore',h3,k1,hids,k3,k4⟩⟩
 | pan v=>
  obtain ⟨hd,rfl⟩:=hq
  exact ⟨h2.defers.trans hd, .inr ⟨v,rfl,ψ',S',rfl,hcore',h3,k1,hids,k3,k4⟩⟩
theorem k9m {fn:Func} {t1 t2:Nat} {c2:Code} (h:kqm fn=some (t1,t2,c2)):∃ id os o1 c1,fn.body=some (.seq (.region id os false) c2)∧o1.op = .call c1∧c1.callee = .builtin .recover∧c1.args=#[]∧o1.dst=some t1∧o1.guard=none ∧
  t1<fn.ntmps∧t2<fn.ntmps∧fn.results=#[]∧((∃ o2,os=#[o1,o2]∧o2.op = .assign (.tmp t1)∧o2.dst=some t2∧o2.guard=none)∨(os=#[o1]∧t2=t1)):=by
 unfold kqm at h
 split at h
 ·rename_i id os c hb
  split at h
  ·rename_i o1 o2 hos
   split at h
   ·rename_i c1 t1' h1 h2 h3
    split at h
    ·rename_i tt t2' h4 h5 h6
     split at h
     ·rename_i h7 h8
      cases hc:(Nat.beq tt t1' && (Nat.blt t1' fn.ntmps && (Nat.blt t2' fn.ntmps && fn.results.isEmpty))) with
      | false=>rw [hc] at h;cases h
      | true=>
       rw [hc] at h
       simp only [qd,qh,qad] at h
       obtain ⟨rfl,rfl,rfl⟩:=h
       simp only [qu] at hc
       obtain ⟨b1,b2,b3,b4⟩:=hc
       obtain rfl:=qr b1
       have hos':os=#[o1,o2]:=by apply Array.ext'; simpa using hos
       exact ⟨id,os,o1,c1,hb,h1,h7,by apply Array.ext'; simpa using h8,h2,h3,by simpa [Nat.blt_eq] using b2,by simpa [Nat.blt_eq] using b3,by simpa using b4, .inl ⟨o2,hos',h4,h5,h6⟩⟩
     ·cases h
    ·cases h
   ·cases h
  ·rename_i o1 hos
   split at h
   ·rename_i c1 t1' h1 h2 h3
    split at h
    ·rename_i h7 h8
     cases hc:(Nat.blt t1' fn.ntmps && fn.results.isEmpty) with
     | false=>rw [hc] at h;cases h
     | true=>
      rw [hc] at h
      simp only [qd,qh,qad] at h
      obtain ⟨rfl,rfl,rfl⟩:=h
      simp only [qu] at hc
      obtain ⟨b2,b4⟩:=hc
      have hos':os=#[o1]:=by apply Array.ext'; simpa using hos
      exact ⟨id,os,o1,c1,hb,h1,h7,by apply Array.ext'; simpa using h8,h2,h3,by simpa [Nat.blt_eq] using b2,by simpa [Nat.blt_eq] using b2,by simpa using b4, .inr ⟨hos',rfl⟩⟩
    ·cases h
   ·cases h
  ·cases h
 ·cases h
theorem kag9 {e:Exit} {pv:Value} (h:recV e=some pv):pv.oneCell'=true∧(((e = .normal∨e = .ret)∧pv = .nilIface)∨e = .panic [{ v:=pv,recovered:=false }]):=by
 unfold recV at h
 split at h
 ·injection h with h;subst h;exact ⟨rfl, .inl ⟨.inl rfl,rfl⟩⟩
 ·injection h with h;subst h;exact ⟨rfl, .inl ⟨.inr rfl,rfl⟩⟩
 ·rename_i v
  cases hb:v.oneCell' with
  | false=>rw [hb] at h;cases h
  | true=>rw [hb] at h;injection h with h;subst h;exact ⟨hb, .inr rfl⟩
 ·cases h
theorem ky3 (hT:TOk P T) {fn:Func} {post:List (Nat×AObj)} {ids':List Nat} {E:HEnd} {g:Nat} {ψ0:Env} {w0:World} {e:Exit} (hg:g∉ids) (hg':g∉ids') (hp':(post.all fun p=>okO ids' p.2)=true) (hE:E.ok ids'=true)
  (hk:(post.all fun p=>ids'.contains p.1)=true) (h2:Sim F S0 N0 st ψ' S' a w') (h3:Fr F w w') {keep:List Nat} {f:FuncId} {fn2:Func} {t1 t2:Nat} {c2:Code} {gi:Nat} {cvals:List Value} {vs:List AV} {pv:Value} {gi2:Nat} {u:FrameMode}
  (hd : st.dfr = [dfn f cvals]) (hgo : kab st.heap gi = some (.gho cvals vs)) (hlen : cvals.length = vs.length) (hf : P.funcs[f]? = some fn2) (hb : kqm fn2 = some (t1, t2, c2)) (hn : (fn2.name == "runtime.NumGoroutine") = false) (hle : Nat.ble vs.length fn2.ntmps = true)
  (hu:(u = .returning∧pv = .nilIface)∨u = .panicking [{ v:=pv,recovered:=false }]) (hpv:pv.oneCell'=true) (hgi2:st.ids.contains gi2=false)
  (h:∀ ocs,awp P c2 (dst0 keep fn2.ntmps t1 t2 pv vs gi2 ocs st) fun e2 st2=>(e2 = .normal∨e2 = .ret)∧st2.dfr=[]∧∃ vs',kab st2.heap gi2=some (.gho ocs vs')∧hQ T fn.results.toList g ids E post ids' ψ0 S w0 .ret (dstB keep gi2 vs' st st2)):
  Leaves P fn a.tmps (fun e w'=>∃ ψ'' S'',E.is e ψ'' (·∈ids') S'' w'∧Core F S0 N0 post ids' ψ'' S'' w'∧Fr F w w'∧Ext (·∈ids) ψ0 ψ''∧(∀ i,i∈ids→i∈ids')∧(∀ b,S b→S'' b)∧Same S w0 w') a.defers u w':=by
 obtain ⟨id,os,o1,c1,hbody,p1,p2,p3,p4,p5,n1,n2,nres,hform⟩:=k9m hb
 have hle:=qac hle
 have hgi2:gi2∉st.ids:=by simpa using hgi2
 rw [h2.defers,hd]
 have hb':fn2.body≠none:=by rw [hbody];simp
 simp only [qy,ne_eq] at hn
 refine leaves_cons (f:=f) (args:=cvals.toArray) (fun hh=>by rcases hu with ⟨h,_⟩ | h <;> rw [hh] at h <;> cases h) (by simp [invoke,callFunc,hf,hb',hn]) ?_
 refine callsD_of_wpS hf hbody fun c₀ cs hm=>?_
 have hsz:(cvals.toArray++Array.replicate (fn2.ntmps - cvals.toArray.size) undef).size=fn2.ntmps:=by simp;omega
 -- the values of the frame that leaves
 have hcore:=h2.core.add (n:=0) (v := .nilFunc) (w':=w') (ob := .gho (keep.map fun t=>a.tmps.getD t undef) (keep.map st.get)) (kaj _) hgi2 (fun b hb=>by cases hb)
  ⟨ke1 _ _,by rw [kbn];rfl,by rw [kbn];rfl,fun i v x hv hx=>by
   simp only [List.getElem?_map,qj] at hv hx
   obtain ⟨p,hp,rfl⟩:=hv
   obtain ⟨q,hq,rfl⟩:=hx
   rw [hp] at hq
   injection hq with hq
   subst hq
   exact (h2.tmps p).keep (keo hgi2 _ _) (fun _ h=>qk _ h) (fun _ h=>h) (fun _ _ _=>rfl)⟩
 obtain ⟨_,⟨_,_,_,hgr⟩,_⟩:=h2.core.obj gi _ hgo
 let a0:Act:={ tmps:=cvals.toArray++Array.replicate (fn2.ntmps - cvals.toArray.size) undef,defers:=[] }
 let a2:Act:=(a0.put (some t1) pv).put (some t2) pv
 have hsim:Sim F S0 N0 (dst0 keep fn2.ntmps t1 t2 pv vs gi2 (keep.map fun t=>a.tmps.getD t undef) st) (ψ'.set gi2 0 .nilFunc) S' a2 w':=by
  have s0:a0.tmps.size=fn2.ntmps:=hsz
  have s1:(a0.put (some t1) pv).tmps.size=fn2.ntmps:=by rw [kxt];exact s0
  refine ⟨rfl,by show a2.tmps.size=fn2.ntmps;rw [kxt];exact s1,fun t=>?_,hcore⟩
  show RV _ _ _ _ (a2.tmps.getD t undef) (look .any ((t2, .fz (.atom pv))::(t1, .fz (.atom pv))::argT 0 vs) t)
  rw [kdg,kdg,ktl (n:=fn2.ntmps) (d:=some t2) (t:=t) s1 (by intro t ht;injection ht with ht;omega),ktl (n:=fn2.ntmps) (d:=some t1) (t:=t) s0 (by intro t ht;injection ht with ht;omega)]
  by_cases e2:t2=t
  ·rw [if_pos e2,if_pos (by rw [e2])];exact .fz (.atom hpv)
  ·rw [if_neg e2,if_neg (by simpa using e2)]
   by_cases e1:t1=t
   ·rw [if_pos e1,if_pos (by rw [e1])];exact .fz (.atom hpv)
   ·rw [if_neg e1,if_neg (by simpa using e1)]
    rcases kqr vs 0 t with h | ⟨x,_,k1,k2⟩
    ·rw [h];exact .any
    ·rw [k2]
     have k1:vs[t]?=some x:=by simpa using k1
     have hlt:t<cvals.length:=by rw [hlen];exact (List.getElem?_eq_some_iff.1 k1).1
     have:a0.tmps.getD t undef=cvals[t]:=by
      show (cvals.toArray++Array.replicate (fn2.ntmps - cvals.toArray.size) undef).getD t undef=_
      rw [qaj,Array.getElem?_append_left (by simpa using hlt)]
      simp [hlt]
     rw [this]
     exact (hgr t _ x (by simp [hlt]) k1).keep (keo hgi2 _ _) (fun _ h=>qk _ h) (fun _ h=>h) (fun _ _ _=>rfl)
 -- what the closure leaves
 have hend:∀ (u':FrameMode) (R:Ending→FrameMode→World→Prop),(∀ v w'',Leaves P fn a.tmps (fun e w'=>∃ ψ'' S'',E.is e ψ'' (·∈ids') S'' w'∧Core F S0 N0 post ids' ψ'' S'' w'∧Fr F w w'∧Ext (·∈ids) ψ0 ψ''∧(∀ i,i∈ids→i∈ids')∧(∀ b,S b→S'' b)∧Same S w0 w') [] .returning w''→R (.returned v) u' w'') →
   c2.wp P (fun e a' w''=>bodyPostS P fn2 c₀ cs R e a' ({ c₀ with mode:=u' }::cs) w'') a2 w':=by
  intro u' R hR
  refine wp_mono (h _ F S0 N0 _ S' a2 w' hsim) ?_
  rintro e2 a'' w'' ⟨st2,ψ2,S2,⟨he2,hd2,vs',hgo2,st3,hl3,hp3⟩,k2,k3⟩
  have hfin:a''.defers=[]∧∃ u'',({ c₀ with mode:=u' }::cs:List Frame)={ c₀ with mode:=u'' }::cs∧∃ v,(results fn2 a''.tmps).run P w'' = .ok v w''∧R (.returned v) u'' w'':=by
   refine ⟨k2.defers.trans hd2,u',rfl, .tuple #[],by simp [results,nres],hR _ _ ?_⟩
   obtain ⟨_,⟨_,_,_,hgr2⟩,_⟩:=k2.core.obj gi2 _ hgo2
   have hcd:Core F S0 N0 (kc2 gi2 st2.heap) st2.ids ψ2 S2 w'':=
    ⟨fun i ob ho=>k2.core.obj i ob (keg gi2 ho).2,fun i i' ob ob' b ho ho'=>k2.core.inj i i' ob ob' b (keg gi2 ho).2 (keg gi2 ho').2,k2.core.lt,k2.core.s0,k2.core.n0,k2.core.fr⟩
   have hbase:Sim F S0 N0 (dstB keep gi2 vs' st st2) ψ2 S2 { tmps:=a.tmps,defers:=[] } w'':=by
    refine ⟨rfl,h2.size,fun t=>?_,hcd⟩
    exact kyq (v:=fun t=>a.tmps.getD t undef) t fun i k x hk hx=>hgr2 i _ x (by
     simp only [List.getElem?_map,qj] at hk
     obtain ⟨q,hq,rfl⟩:=hk
     rw [List.getElem?_map,hq];rfl) hx
   obtain ⟨ψ3,S3,h4⟩:=hl3 F S0 N0 ψ2 S2 _ w'' hbase
   rcases (k1o hT (pre:=[]) hg hg' hp' hE hk hp3 h4 (h3.trans k3)).2 with ⟨_,v,r1,r2⟩ | ⟨v,r1,_⟩
   ·exact ⟨v,r1,r2⟩
   ·cases r1
  rcases he2 with rfl | rfl <;> exact hfin
 refine wpS_seq (wpS_region ?_)
 have hr1:∀ (a:Act) (w:World),(execOp a.eval o1).run P w = .ok .recover w:=fun a w=>by
  obtain ⟨cc,as_,ts⟩:=c1
  simp only at p2 p3
  subst p2 p3
  simp [execOp,p1,resolve,invoke,builtin]
 have hw1:∀ y,Region.wanted o1 y=true:=fun y=>by simp [Region.wanted,p5]
 have s0:a0.tmps.size=fn2.ntmps:=hsz
 have key:∀ (cs':List Frame) (Q:Exit→Act→List Frame→World→Prop),(Q .normal a2 cs' w'→os[0]?=some o1∧∃ l,List.range os.size=0::l∧wpOpsS P os Q l (a0.put (some t1) pv) cs' w'):=fun cs' Q hQ=>by
  rcases hform with ⟨o2,rfl,q1,q2,q3⟩ | ⟨rfl,rfl⟩
  ·refine ⟨rfl,[1],rfl,?_⟩
   have hw2:∀ y,Region.wanted o2 y=true:=fun y=>by simp [Region.wanted,q3]
   unfold wpOpsS
   simp only [List.getElem?_toArray,List.getElem?_cons_succ,List.getElem?_cons_zero,hw2,if_true]
   have hv:(execOp (a0.put (some t1) pv).eval o2).run P w' = .ok (.value pv) w':=by
    have:(a0.put (some t1) pv).eval (.tmp t1)=pv:=by
     show (a0.put (some t1) pv).tmps.getD t1 undef=pv
     rw [ktl (n:=fn2.ntmps) (d:=some t1) (t:=t1) hsz (by intro t ht;injection ht with ht;omega),if_pos rfl]
    simp [execOp,q1,this]
   rw [hv]
   simp only [Oper.upon,q2]
   unfold wpOpsS
   exact hQ
  ·refine ⟨rfl,[],rfl,?_⟩
   unfold wpOpsS
   have he:a2=a0.put (some t2) pv:=by
    show (a0.put (some t2) pv).put (some t2) pv=a0.put (some t2) pv
    simp [Act.put]
   rw [← he]
   exact hQ
 have go:∀ (cs0 cs':List Frame) (Q:Exit→Act→List Frame→World→Prop),(recoverD cs0=none∧pv = .nilIface∧cs'=cs0∨recoverD cs0=some (pv,cs'))→Q .normal a2 cs' w'→wpOpsS P os Q (List.range os.size) a0 cs0 w':=fun cs0 cs' Q hr hQ=>by
  obtain ⟨k1,l,k2,k3⟩:=key cs' Q hQ
  rw [k2]
  unfold wpOpsS
  simp only [k1,hw1,if_true]
  rw [hr1]
  rcases hr with ⟨hr,rfl,rfl⟩ | hr
  ·simp only [hr,p4];exact k3
  ·simp only [hr,p4];exact k3
 rcases hu with ⟨rfl,rfl⟩ | rfl
 ·have hrec:recoverD (c₀::cs)=none:=by simp [recoverD,hm]
  refine go _ _ _ (.inl ⟨hrec,rfl,rfl⟩) ?_
  show c2.wpS P _ a2 (c₀::cs) w'
  refine wpS_of_wp ?_
  have hc:(c₀::cs)=({ c₀ with mode := .returning }::cs:List Frame):=by rw [← hm]
  rw [hc]
  exact hend .returning _ fun v w'' hl=>hl
 ·have hrec:recoverD (c₀::cs)=some (pv,{ c₀ with mode := .panicking [{ v:=pv,recovered:=true }] }::cs):=by simp [recoverD,hm]
  refine go _ _ _ (.inr hrec) ?_
  show c2.wpS P _ a2 _ w'
  refine wpS_of_wp ?_
  exact hend (.panicking [{ v:=pv,recovered:=true }]) _ fun v w'' hl=>by
   have:settle (.panicking [{ v:=pv,recovered:=true }]) = .returning:=rfl
   simp only [this]
   exact hl
theorem k3e (hT : TOk P T) {f : FuncId} {fn : Func} {c : Code} {args : List AV} {pre : List (Nat × AObj)} {E : HEnd} {post : List (Nat × AObj)} {ids' : List Nat} {g : Nat} (hf : P.funcs[f]? = some fn) (hb : fn.body = some c) (hn : (fn.name == "runtime.NumGoroutine") = false)
  (hle:Nat.ble args.length fn.ntmps=true) (hg:ids.contains g=false) (hg':ids'.contains g=false) (hp':(post.all fun p=>okO ids' p.2)=true) (hE:E.ok ids'=true) (hk:(post.all fun p=>ids'.contains p.1)=true)
  (h:∀ ψ0 S1 w0,awp P c { n:=fn.ntmps,tmps:=argT 0 args,heap:=(g, .was ψ0 ids S1 w0)::pre,ids:=g::ids } (hdQ P T fn.results.toList g ids E post ids' ψ0 S1 w0)):kat P f args pre ids E post ids':=by
 have hle:=qac hle
 have hg:g∉ids:=by simpa using hg
 have hg':g∉ids':=by simpa using hg'
 refine ⟨⟨fn,hf,by rw [hb];rfl,hn⟩,fun F S0 N0 ψ S w vs hs hr hc=>calls_of_wp_defers hf hb ?_⟩
 have hcore:=hc.add (n:=0) (v := .nilFunc) (w':=w) (ob := .was ψ ids S w) (kaj _) hg (fun b hb=>by cases hb)
  ⟨ke1 _ _,by rw [kbn];rfl,by rw [kbn];rfl,keo hg _ _,fun i hi=>qk _ hi,fun b hb=>hb,fun _ _ _=>rfl⟩
 have hsim:Sim F S0 N0 { n:=fn.ntmps,tmps:=argT 0 args,heap:=(g, .was ψ ids S w)::pre,ids:=g::ids } (ψ.set g 0 .nilFunc) S
   { tmps:=vs++Array.replicate (fn.ntmps - vs.size) undef,defers:=[] } w:=by
  refine ⟨rfl,by simp;omega,fun t=>?_,hcore⟩
  show RV _ _ _ w _ (look .any (argT 0 args) t)
  rcases kqr args 0 t with h | ⟨x,_,h1,h2⟩
  ·rw [h];exact .any
  ·rw [h2]
   have h1:args[t]?=some x:=by simpa using h1
   have hlt:t<vs.size:=by rw [hs];exact (List.getElem?_eq_some_iff.1 h1).1
   have:(vs++Array.replicate (fn.ntmps - vs.size) undef).getD t undef=vs[t]:=by
    rw [qaj,Array.getElem?_append_left hlt]
    simp [hlt]
   rw [this]
   exact (hr t _ x (by simp [hlt]) h1).keep (keo hg _ _) (fun _ h=>qk _ h) (fun _ h=>h) (fun _ _ _=>rfl)
 refine wp_mono (h _ _ _ F S0 N0 _ S _ w hsim) ?_
 rintro e a' w' ⟨st',ψ',S',hq,h2,h3⟩
 rcases hq with ⟨st2,hl,hp⟩ | ⟨keep,f2,fn2,t1,t2,c2,gi,cvals,avs,pv,gi2,d1,d2,d3,d4,d5,d6,d7,d8,d9,d10⟩
 ·obtain ⟨ψ2,S2,h4⟩:=hl F S0 N0 ψ' S' a' w' h2
  obtain ⟨e0,he⟩:=k1o hT (pre:=pre) hg hg' hp' hE hk hp h4 h3
  rcases he with ⟨he,v,r1,r2⟩ | ⟨v,rfl,r2⟩
  ·rcases he with rfl | rfl <;> (show Leaves P fn a'.tmps _ a'.defers .returning w'; rw [e0];exact ⟨v,r1,r2⟩)
  ·show Leaves P fn a'.tmps _ a'.defers (.panicking _) w'
   rw [e0];exact r2
 ·obtain ⟨hone,hcase⟩:=kag9 d8
  rcases hcase with ⟨he,hpv⟩ | rfl
  ·have:=ky3 hT (e:=e) hg hg' hp' hE hk h2 h3 d1 d2 d3 d4 d5 d6 d7 (.inl ⟨rfl,hpv⟩) hone d9 d10
   rcases he with rfl | rfl <;> exact this
  ·exact ky3 hT (e := .ret) hg hg' hp' hE hk h2 h3 d1 d2 d3 d4 d5 d6 d7 (.inr rfl) hone d9 d10
end
end Go.Proofs.YtaimpcnpifoidaaGreatDoor
