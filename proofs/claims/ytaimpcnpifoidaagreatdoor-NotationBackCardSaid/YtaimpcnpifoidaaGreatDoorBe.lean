import Derived.Test.YtaimpcnpifoidaaGreatDoorBd
set_option linter.unusedVariables false
set_option linter.unusedSimpArgs false
set_option maxRecDepth 100000
namespace Go.Proofs.YtaimpcnpifoidaaGreatDoor
open Go Go.RowKit
theorem k6n {l:La} (hl:khu l) (hv:ValidL l):kdr l=some 0:=by
 obtain ⟨c,c1,_,c3,_⟩:=kwd hl
 rw [c1,c3.2 hv]
def chk (l:La):Int:=(kdr l).getD 0
theorem kacz {l:La} (h:khu l):kdr l=some (chk l)∧kb5 l=some (chk l)∧(chk l=0↔ValidL l):=by
 obtain ⟨c,c1,c2,c3,_⟩:=kwd h
 have e:chk l=c:=by unfold chk;rw [c1];rfl
 rw [e]
 exact ⟨c1,c2,c3⟩
theorem k1p:∀ (n:Nat) (t:Tm),t.size≤n→t.size≤1000→kg1 n t=some t
 | 0,t,h,_=>by have:=Tm.size_pos t;omega
 | n+1, .mk i ys,hn,hs=>by
  have hsz:(Tm.mk i ys).size=Tm.sizeL ys+1:=rfl
  have hal:=kgd ys
  show kip (kg1 n) (.mk i ys)=_
  unfold kip
  have main:kaa (khy (.mk i ys) (kg1 n)) fuel (0,[])=some ys:=by
   refine Ev.eq (ki5 ys.length (fun k v=>v=((k:Int),ys.take k)) (by omega) rfl (fun k v hk hI=>?_) fun v hI=>?_)
   ·subst hI
    have hm:=Tm.sizeL_mem (qn hk)
    have ih:=k1p n ys[k] (by omega) (by omega)
    refine km0 (s:=(((k+1:Nat):Int),ys.take (k+1))) ?_ rfl
    simp only [khy,show (Tm.mk i ys).args=ys from rfl,kbb hk,qd,kak,List.getElem?_eq_getElem hk,qa,ih,kk9 (b:=32) (xs:=ys.take k) (ys:=[ys[k]]) (by simp only [qai,qq,qab];omega),kg9 hk (show ys.length≤9223372036854775807 by omega)]
    rw [List.take_succ_eq_append_getElem hk]
   ·subst hI
    refine klu (b:=ys) ?_ rfl
    simp only [khy,show (Tm.mk i ys).args=ys from rfl,kez,qb,List.take_length]
  rw [main]
  rfl
theorem k0w {l:La} {t:Tm} {x:BA×Int} (h:kdd l t=some x) (hx:x.2=0):∃ r,idx l.rules t.rule=some r∧keu l r.symbol t=some 0:=by
 unfold kdd at h
 obtain ⟨c,h1,h⟩:=kd9 h
 rcases kdn h with ⟨hc,h⟩ | ⟨hc,h⟩
 ·cases h;simp only at hx;subst hx;cases hc
 obtain ⟨b,h2,h⟩:=kd9 h
 rcases kdn h with ⟨hb,h⟩ | ⟨hb,h⟩
 ·cases h;cases hx
 obtain ⟨r,h3,h⟩:=kd9 h
 obtain ⟨d,h4,h⟩:=kd9 h
 rcases kdn h with ⟨hd,h⟩ | ⟨hd,h⟩
 ·cases h;simp only at hx;subst hx;cases hd
 have:d=0:=bne_eq_false_iff_eq.1 hd
 subst this
 exact ⟨r,h3,h4⟩
theorem k8i {l:La} {s:Int} {t u:Tm} (h:keu l s t=some 0) (hu:Dr l s u) (ht:Dr l s t) (h1:u.size=t.size) (h2:u.depth=t.depth) (hs:t.size≤1000):keu l s u=some 0:=by
 have wt:∀ v:Tm,kga fuel v 4096=some (kes 4096 v.size):=fun v=>(kpu fuel v 4096 (by omega) (kbg (by omega))).2
 have st:∀ v:Tm,v.size≤1000→kgb fuel v 32=some (decide (v.depth≤32)):=fun v hv=>ksh fuel v 32 (by omega) hv (qa2 (kbg (by omega)))
 have dt:∀ v:Tm,v.size≤1000→Dr l s v→kbh fuel l s v=some 0:=fun v hv hd=>kzm fuel s v hv (qa2 (kbg (by omega))) hd
 unfold keu at h ⊢
 rw [wt,st t hs,dt t hs ht] at h
 rw [wt,st u (by omega),dt u (by omega) hu,h1,h2]
 exact h
theorem kaes {l:La} {t:Tm} {r:Ru} (hl:khu l) (hv:ValidL l) (hs:t.size≤1000) (hr:idx l.rules t.rule=some r) (hc:keu l r.symbol t=some 0):kdd l t=some (mkB (txT l t),0):=by
 obtain ⟨x,x1,_,x3⟩:=k0a l t hl (.inl hs)
 obtain ⟨q0,q1,rfl,q3⟩:=kzt hr
 have h2:x.2=0:=by
  unfold kdd at x1
  have hk:=k6n hl hv
  rw [hk,qa,bne_self_eq_false,qb,qc (show ¬ t.rule<0 by omega),qb,qc (show ¬ (l.rules.length:Int)≤t.rule by omega),qa,qb,hr,qa,hc,qa,bne_self_eq_false,qb] at x1
  obtain ⟨w,_,x1⟩:=kd9 x1
  obtain ⟨_,_,x1⟩:=kd9 x1
  cases x1
  rfl
 obtain ⟨x4,_⟩:=x3 h2
 rw [x1]
 obtain ⟨a,b⟩:=x
 simp only at x4 h2
 rw [x4,h2]
theorem kaab {l:La} (hl:khu l) (hv:ValidL l) {t:Tm} {s:Int} (hs:t.size≤1000) (hd:Dr l s t) (h0:0≤s) (h1:s<(l.symbols.length:Int)) (hc:keu l s t=some 0) (ht:(txT l t).length≤65536):
  ∃ u,kfv l s (mkB (txT l t))=some (u,0,0)∧Dr l s u∧exT l u=exT l t∧lexC u.rules t.rules≤0∧u.size=t.size∧u.depth=t.depth∧u.arities=t.arities∧keu l s u=some 0:=by
 obtain ⟨xo,xs⟩:=x_ok hl hv t s hd
 have hf:t.size≤fuel:=qa2 (kbg (by omega))
 obtain ⟨u,u1,u2⟩:=k1h hl hv fuel t s hf hd
 obtain ⟨u3,u4⟩:=kv4 hv fuel _ _ _ xo u1
 have s1:=k2y hv _ _ u3
 have s2:=k2y hv _ _ hd
 rw [u4,s2] at s1
 obtain ⟨a1,a2,a3⟩:=kww u
 obtain ⟨b1,b2,b3⟩:=kww t
 rw [← s1] at a1 a2 a3
 have z1:u.size=t.size:=by omega
 have z2:u.depth=t.depth:=by omega
 have z3:u.arities=t.arities:=a3.symm.trans b3
 have hcu:=k8i hc u3 hd z1 z2 hs
 refine ⟨u,?_,u3,u4,u2,z1,z2,z3,hcu⟩
 have hr:kib (mkB (txT l t))=some (exT l t,0,0):=by
  rw [kak4 (by omega)]
  have:=k6b hl hv fuel t s hf hd [] (fun c t e=>by cases e)
  rw [List.append_nil] at this
  unfold k9n
  rw [this]
 have hdv:=k4f hl hv fuel (exT l t) s xo (by rw [xs];exact hf)
 rw [u1] at hdv
 unfold kfv
 rw [k6n hl hv,qa,bne_self_eq_false,qb,qc (show ¬ s<0 by omega),qb,qc (show ¬ (l.symbols.length:Int)≤s by omega),qa,qb,kcr,qc (show ¬ 65536<((txT l t).length:Int) by omega),qb,hr,qa,bne_self_eq_false,qb,hdv,qa]
 have he:Tm.mk u.rule u.args=u:=by cases u;rfl
 simp only [drR,qae,qb,he,hcu,qa,bne_self_eq_false,k1p fuel u (by rw [z1];exact hf) (by omega)]
theorem kx2 (l:La) (t:Tm) (hl:khu l) (ht:ktr t):kfn l t=some true:=by
 have hlight:kg5 l=some (decide (l.rules.length≤20) && decide (l.symbols.length≤8) && (chk l == 0)):=by
  unfold kg5
  rw [kajs,qa,(kacz hl).2.1]
  cases (decide (l.rules.length≤20) && decide (l.symbols.length≤8)) <;> rfl
 unfold kfn
 rw [hlight,qa,kaia]
 cases hb:(decide (l.rules.length≤20) && decide (l.symbols.length≤8) && (chk l == 0)) with
 | false=>rfl
 | true=>
  have hz:chk l=0:=by
   simp only [qu] at hb
   exact beq_iff_eq.1 hb.2
  have hv:=(kacz hl).2.2.1 hz
  have sz:∀ v:Tm,ktr v→ka1 (fuel+Tm.size v) v=some (w64 (v.size:Int)):=fun v hv=>k4c _ v (by omega) hv
  rw [qae,qb,sz t ht]
  simp only [qa]
  by_cases h30:30<w64 (t.size:Int)
  ·rw [qe h30];rfl
  rw [qc h30,qb]
  obtain ⟨x,x1,_,x3⟩:=k0a l t hl (by rcases k71 t (by omega) with h | h <;> omega)
  rw [x1,qa]
  by_cases hx:x.2=0
  ·obtain ⟨y1,_,_,y4,r,y5,y6⟩:=x3 hx
   obtain ⟨r',c1,c2⟩:=k0w x1 hx
   obtain rfl:r=r':=by rw [y5] at c1;exact qp c1
   obtain ⟨q0,q1,rfl,q3⟩:=kzt y5
   have hd:Dr l (kad l t.rule).symbol t:=kagq fuel l _ t y4 (qa2 (kbg (by omega))) (fun r hr hk=>by
    obtain ⟨j,hj,e⟩:=qs.1 hr
    have hV:=(hv.valid j hj).2
    rw [e] at hV
    rcases hV with ⟨_,_,_,q4,_⟩ | ⟨_,_,_,q4,_⟩ | ⟨q,_⟩
    ·rw [q4];rfl
    ·rw [q4];rfl
    ·exact absurd q hk) y6
   rw [hx,bne_self_eq_false,qb,qc (show ¬ t.rule<0 by omega),qb,qc (show ¬ (l.rules.length:Int)≤t.rule by omega),qb,qa]
   by_cases h500:500<(x.1.size:Int)
   ·rw [qe h500];rfl
   rw [qc h500,qb,y5,qa,y1]
   rw [y1,kcr] at h500
   have hsym:=hv.sym q3
   obtain ⟨u,p1,p2,p3,p4,p5,p6,p7,p8⟩:=kaab hl hv y4 hd hsym.1 hsym.2 c2 (by omega)
   have hcmp:ke6 u t=some (cmpT u t):=kaiy u t (by omega) y4
   have hle:¬ (0<cmpT u t):=by
    unfold cmpT
    rw [if_neg (by omega),if_neg (by omega),p7]
    split
    ·omega
    ·rw [k1a];omega
   have wu:ka1 (fuel+Tm.size t) u=some (w64 (t.size:Int)):=by
    rw [kti _ u (by omega) (by omega),p5,kei (by omega) (by omega)]
   rw [p1,qa]
   simp only [bne_self_eq_false,qb,hcmp,qa,qc hle,p5,wu]
   have hru:∃ r,idx l.rules u.rule=some r∧r.symbol=(kad l t.rule).symbol:=by
    cases p2':u with
    | mk i ys=>
     rw [p2'] at p2
     have gen:∀ {s:Int} {v:Tm},Dr l s v→∃ r,idx l.rules v.rule=some r∧r.symbol=s:=fun {s v} hd=>by
      cases hd with
      | mk h0 h1 hl ha=>exact ⟨_,(khj h0 h1).1,rfl⟩
     exact gen p2
   obtain ⟨ru,ru1,ru2⟩:=hru
   rw [kaes hl hv (by omega) ru1 (by rw [ru2];exact p8),qa]
   have htx:txT l u=txT l t:=by rw [← kags,← kags,p3]
   have hbb:((mkB (txT l t)).toList == (mkB (txT l t)).toList)=true:=qa3 _
   simp only [htx,hbb,qa3,qd,qa]
  ·rw [show (x.2 != 0)=true by rw [qas];exact hx]
   rfl
end Go.Proofs.YtaimpcnpifoidaaGreatDoor
