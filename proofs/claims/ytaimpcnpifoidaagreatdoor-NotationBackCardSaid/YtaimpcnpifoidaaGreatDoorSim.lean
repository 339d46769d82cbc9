import Derived.Test.YtaimpcnpifoidaaGreatDoorAv
import Derived.LoopN
set_option linter.unusedVariables false
set_option linter.unusedSimpArgs false
namespace Go.Proofs.YtaimpcnpifoidaaGreatDoor
open Go Go.RowKit
inductive AObj where
 | box (e:TypeId) (cells:List AV)
 | frow (e:TypeId) (size:Nat) (xs:List FV)
 | gho (cs:List Value) (vs:List AV)
 | was (ψ0:Env) (ids0:List Nat) (S0:Nat→Prop) (w0:World)
 | smap (kv:List (BA×FV))
 | tab (g:Nat) (ov:Value) (eo ei:TypeId) (rows:List (List Value))
 | glb (gs:List (Nat×Array Value))
 | sit (s:BA) (pos:Nat)
 | memo (Φ:FV→FV→Prop) (hint:Option (Value×Option FV))
structure St where
 n:Nat
 tmps:List (Nat×AV)
 heap:List (Nat×AObj)
 ids:List Nat
 dfr:List Deferred:=[]
def look (d:AV):List (Nat×AV)→Nat→AV
 | [],_=>d
 | (k,v)::l,t=>bif Nat.beq k t then v else look d l t
def kab:List (Nat×AObj)→Nat→Option AObj
 | [],_=>none
 | (k,v)::l,t=>bif Nat.beq k t then some v else kab l t
def St.get (st:St) (t:Nat):AV:=look .any st.tmps t
def St.put (st:St) (d:Option Nat) (v:AV):St:=match d with
 | some d=>{ st with tmps:=(d,v)::st.tmps }
 | none=>st
def kabn:Value→AV
 | .agg cs=>bif cs.toList.all (·.oneCell') then .fz (.agg (cs.toList.map .atom)) else .any
 | .tuple _ => .any
 | v => .fz (.atom v)
def St.eval (st:St):Operand→AV
 | .tmp t=>st.get t
 | .const v=>kabn v
 | .global _ => .any
 | .func f => .fn f []
section
variable {F S0 S S':Nat→Prop} {N0:Nat} {w w':World} {ψ ψ':Env} {K K':Nat→Prop} {P:Program} {st:St} {a:Act}
theorem Nat.beq_eq_false {k t:Nat} (h:¬ k=t):Nat.beq k t=false:=by
 cases hb:Nat.beq k t with
 | false=>rfl
 | true=>exact absurd (qr hb) h
theorem kdg {d:AV} {l:List (Nat×AV)} {k t:Nat} {v:AV}:look d ((k,v)::l) t=if k=t then v else look d l t:=by
 simp only [look]
 by_cases h:k=t
 ·subst h;simp
 ·rw [if_neg h,Nat.beq_eq_false h];rfl
theorem kai {l:List (Nat×AObj)} {k t:Nat} {v:AObj}:kab ((k,v)::l) t=if k=t then some v else kab l t:=by
 simp only [kab]
 by_cases h:k=t
 ·subst h;simp
 ·rw [if_neg h,Nat.beq_eq_false h];rfl
def GlbR (w:World) (g:Nat) (vs:Array Value):Prop:=(0<vs.size∧∃ e d,w.heap[g]?=some (.cells vs e d))∨(vs=#[]∧∃ m e d,w.heap[g]?=some (.cells #[.int .i64 m] e d))
theorem GlbR.lt {g:Nat} {vs:Array Value} (h:GlbR w g vs):g<w.heap.size:=by
 rcases h with ⟨_,e,d,h⟩ | ⟨_,m,e,d,h⟩ <;> exact (Array.getElem?_eq_some_iff.1 h).1
theorem GlbR.keep {g:Nat} {vs:Array Value} (h:GlbR w g vs) (hk:w'.heap[g]?=w.heap[g]?):GlbR w' g vs:=by
 rcases h with ⟨h0,e,d,h⟩ | ⟨h0,m,e,d,h⟩
 ·exact .inl ⟨h0,e,d,hk.trans h⟩
 ·exact .inr ⟨h0,m,e,d,hk.trans h⟩
theorem GlbR.tab {g:Nat} {vs:Array Value} (h:GlbR w g vs) (h0:0<vs.size):∃ e d,w.heap[g]?=some (.cells vs e d):=by
 rcases h with ⟨_,h⟩ | ⟨rfl,_⟩
 ·exact h
 ·cases h0
def k9k (S:Nat→Prop) (w:World):Option (Value×Option FV)→List MapEntry→Prop
 | none,_=>True
 | some (k,none),l=>∀ e∈l,e.key≠k
 | some (k,some vx),l=>∃ l1 e l2,l=l1++e::l2∧(∀ x∈l1,x.key≠k)∧e.key=k∧RF S w e.val vx
def MemoR (S:Nat→Prop) (w:World) (Φ:FV→FV→Prop) (h:Option (Value×Option FV)) (l:List MapEntry):Prop:=
 (∀ e∈l,∃ kx vx,Φ kx vx∧RF S w e.key kx∧RF S w e.val vx)∧k9k S w h l
theorem MemoR.keep {Φ:FV→FV→Prop} {h:Option (Value×Option FV)} {l:List MapEntry} (m:MemoR S w Φ h l) (hS:∀ b,S b→S' b) (hk:Same S w w'):MemoR S' w' Φ h l:=by
 refine ⟨fun e he=>?_,?_⟩
 ·obtain ⟨kx,vx,h1,h2,h3⟩:=m.1 e he
  exact ⟨kx,vx,h1,(h2.keep hk).mono hS,(h3.keep hk).mono hS⟩
 ·match h,m.2 with
  | none,_=>trivial
  | some (k,none),h=>exact h
  | some (k,some vx),⟨l1,e,l2,h1,h2,h3,h4⟩=>exact ⟨l1,e,l2,h1,h2,h3,(h4.keep hk).mono hS⟩
def ObR (ψ:Env) (K:Nat→Prop) (S:Nat→Prop) (w:World) (id:Nat):AObj→Prop
 | .box e cells=>ψ.len id=0∧∃ b cs,ψ.val id = .pointer (some ⟨b,0,none⟩)∧w.heap[b]?=some (.cells cs e (0,0))∧cs.size=cells.length∧(∀ x∈cells,x.single=true) ∧
   ∀ (i:Nat) (v:Value) (x:AV),cs[i]?=some v→cells[i]?=some x→RV ψ K S w v x
 | .frow e size xs=>ψ.len id=xs.length∧0<size∧∃ cs:List Value,w.ownsRow 0 e size (ψ.val id) xs.length cs∧(∀ x∈xs,x.cells.length=size∧∀ y∈x.cells,y.single=true) ∧
   ∀ (i:Nat) (x:FV) (j:Nat) (v:Value) (y:FV),xs[i]?=some x→cs[i*size+j]?=some v→x.cells[j]?=some y→RF S w v y
 | .gho cs vs=>ψ.len id=0∧kb1 (ψ.val id)=none∧kmx (ψ.val id)=[]∧∀ (i:Nat) (v:Value) (x:AV),cs[i]?=some v→vs[i]?=some x→RV ψ K S w v x
 | .was ψ0 ids0 S0 w0=>ψ.len id=0∧kb1 (ψ.val id)=none∧kmx (ψ.val id)=[]∧Ext (·∈ids0) ψ0 ψ∧(∀ i,i∈ids0→K i)∧(∀ b,S0 b→S b)∧Same S0 w0 w
 | .smap kv=>ψ.len id=0∧∃ b es clock,ψ.val id = .map (some b)∧w.heap[b]?=some (.map es clock)∧es.size=kv.length ∧
   ∀ (i:Nat) (e:MapEntry) (p:BA×FV),es[i]?=some e→kv[i]?=some p→e.key = .string p.1∧RF S w e.val p.2
 | .tab g ov eo ei rows=>ψ.len id=g∧∃ vs:List Value,ψ.val id = .tuple (ov::vs).toArray∧vs.length=rows.length∧w.ownsRow 0 eo 1 ov rows.length vs ∧
   (∀ (j:Nat) (v:Value) (xs:List Value),vs[j]?=some v→rows[j]?=some xs→w.ownsRow 0 ei 1 v xs.length xs∧∀ u∈xs,u.oneCell'=true) ∧
   ∀ (i j:Nat) (u v:Value) (b:Nat),(ov::vs)[i]?=some u→(ov::vs)[j]?=some v→i≠j→kb1 u=some b→kb1 v≠some b
 | .glb gs=>ψ.len id=0∧kb1 (ψ.val id)=none∧kmx (ψ.val id)=[]∧∀ p,p∈gs→S p.1∧GlbR w p.1 p.2
 | .sit s pos=>ψ.len id=0∧∃ b,ψ.val id = .pointer (some ⟨b,0,none⟩)∧w.heap[b]?=some (.stringIter s pos)
 | .memo Φ h=>ψ.len id=0∧∃ b es clock,ψ.val id = .map (some b)∧w.heap[b]?=some (.map es clock)∧MemoR S w Φ h es.toList
theorem Ext.trans' {ids:List Nat} {K:Nat→Prop} {ψ0 ψ ψ':Env} (h:Ext (·∈ids) ψ0 ψ) (k:Ext K ψ ψ') (hs:∀ i,i∈ids→K i):Ext (·∈ids) ψ0 ψ':=fun i hi=>by
 obtain ⟨h1,h2⟩:=h i hi
 obtain ⟨k1,k2⟩:=k i (hs i hi)
 exact ⟨by omega,fun e=>by rw [k2 (by omega),h2 (by omega)]⟩
theorem Same.trans' {S0 S:Nat→Prop} {w0 w w':World} (h:Same S0 w0 w) (k:Same S w w') (hs:∀ b,S0 b→S b):Same S0 w0 w':=fun b hb hl=>by
 have h1:=h b hb hl
 rw [Array.getElem?_eq_getElem hl] at h1
 obtain ⟨h2,_⟩:=Array.getElem?_eq_some_iff.1 h1
 rw [k b (hs b hb) h2,h1,Array.getElem?_eq_getElem hl]
theorem kon {v:Value} {b:Nat} (h:v.ownBlock=some b):kb1 v=some b:=by
 unfold Value.ownBlock at h
 split at h
 ·exact h
 ·cases h
theorem krc {base e size n:Nat} {v:Value} {cs:List Value} (h:w.ownsRow base e size v n cs) (hk:∀ b,v.ownBlock=some b→w'.heap[b]?=w.heap[b]?):w'.ownsRow base e size v n cs:=by
 obtain ⟨h1,h2⟩:=h
 refine ⟨h1,h2.imp id ?_⟩
 rintro ⟨g,cap,cur,rfl,hg,hh,r⟩
 exact ⟨g,cap,cur,rfl,hg,by rw [hk g rfl];exact hh,r⟩
theorem ObR.keep {id:Nat} {o:AObj} (h:ObR ψ K S w id o) (hψ:Ext K ψ ψ') (hK:∀ id,K id→K' id) (hS:∀ b,S b→S' b) (hk:Same S w w')
  (hid:ψ'.len id=ψ.len id∧ψ'.val id=ψ.val id) (hb:∀ b,Blk (ψ.val id) b→w'.heap[b]?=w.heap[b]?):ObR ψ' K' S' w' id o:=by
 cases o with
 | box e cells=>
  obtain ⟨h0,b,cs,h1,h2,h3,h4,h5⟩:=h
  exact ⟨by rw [hid.1,h0],b,cs,by rw [hid.2,h1],by rw [hb b (.of (by rw [h1];rfl))];exact h2,h3,h4,fun i v x hv hx=>(h5 i v x hv hx).keep hψ hK hS hk⟩
 | frow e size xs=>
  obtain ⟨h0,hs,cs,h1,h2,h3⟩:=h
  refine ⟨by rw [hid.1,h0],hs,cs,?_,h2,fun i x j v y hx hv hy=>((h3 i x j v y hx hv hy).keep hk).mono hS⟩
  rw [hid.2]
  exact krc h1 fun b hb'=>hb b (.of (kon hb'))
 | gho cs vs=>
  obtain ⟨h0,h1,hn,h3⟩:=h
  exact ⟨by rw [hid.1,h0],by rw [hid.2,h1],by rw [hid.2,hn],fun i v x hv hx=>(h3 i v x hv hx).keep hψ hK hS hk⟩
 | was ψ0 ids0 S0 w0=>
  obtain ⟨h0,h1,hn,h2,h3,h4,h5⟩:=h
  exact ⟨by rw [hid.1,h0],by rw [hid.2,h1],by rw [hid.2,hn],h2.trans' hψ h3,fun i hi=>hK i (h3 i hi),fun b hb=>hS b (h4 b hb),h5.trans' hk h4⟩
 | sit s pos=>
  obtain ⟨h0,b,h1,h2⟩:=h
  exact ⟨by rw [hid.1,h0],b,by rw [hid.2,h1],by rw [hb b (.of (by rw [h1];rfl))];exact h2⟩
 | glb gs=>
  obtain ⟨h0,h1,hn,h2⟩:=h
  refine ⟨by rw [hid.1,h0],by rw [hid.2,h1],by rw [hid.2,hn],fun p hp=>?_⟩
  obtain ⟨q1,q2⟩:=h2 p hp
  exact ⟨hS _ q1,q2.keep (hk p.1 q1 q2.lt)⟩
 | memo Φ hi=>
  obtain ⟨h0,b,es,clock,h1,h2,h3⟩:=h
  exact ⟨by rw [hid.1,h0],b,es,clock,by rw [hid.2,h1],by rw [hb b (.of (by rw [h1];rfl))];exact h2,h3.keep hS hk⟩
 | smap kv=>
  obtain ⟨h0,b,es,clock,h1,h2,h3,h4⟩:=h
  exact ⟨by rw [hid.1,h0],b,es,clock,by rw [hid.2,h1],by rw [hb b (.of (by rw [h1];rfl))];exact h2,h3,fun i e p he hp=>⟨(h4 i e p he hp).1,((h4 i e p he hp).2.keep hk).mono hS⟩⟩
 | tab g ov eo ei rows=>
  obtain ⟨h0,vs,h1,h2,h3,h4,h5⟩:=h
  have hB:∀ u b,u∈ov::vs→kb1 u=some b→Blk (ψ.val id) b:=fun u b hu hb=>by
   rw [h1];exact .inr ⟨u,by simpa [kmx] using hu,hb⟩
  refine ⟨by rw [hid.1,h0],vs,by rw [hid.2,h1],h2,krc h3 fun b hb'=>hb b (hB ov b (qo ..) (kon hb')),fun j v xs hv hx=>?_,h5⟩
  obtain ⟨k1,k2⟩:=h4 j v xs hv hx
  exact ⟨krc k1 fun b hb'=>hb b (hB v b (qk _ (qt hv)) (kon hb')),k2⟩
theorem kyy {e size n:Nat} {v:Value} {cs:List Value} (h:w.ownsRow 0 e size v n cs) {b:Nat} (hb:kb1 v=some b):b<w.heap.size:=by
 have key:∀ {b:Nat} {x},w.heap[b]?=some x→b<w.heap.size:=fun {b x} h=>by
  rcases qaz b w.heap.size with h' | h'
  ·exact h'
  ·simp [Array.getElem?_eq_none h'] at h
 rcases h.2 with ⟨hv,_⟩ | ⟨g,cap,cur,hv,_,hh,_⟩
 ·rw [hv] at hb;cases hb
 ·rw [hv] at hb;injection hb with hb;subst hb;exact key hh
theorem ObR.lt {id:Nat} {o:AObj} (h:ObR ψ K S w id o) {b:Nat} (hb:Blk (ψ.val id) b):b<w.heap.size:=by
 have key:∀ {b:Nat} {x},w.heap[b]?=some x→b<w.heap.size:=fun {b x} h=>by
  rcases qaz b w.heap.size with h' | h'
  ·exact h'
  ·simp [Array.getElem?_eq_none h'] at h
 cases o with
 | box e cells=>
  obtain ⟨h0,b',cs,h1,h2,_⟩:=h
  rw [h1] at hb
  have hb:=hb.pt
  injection hb with hb
  subst hb
  exact key h2
 | frow e size xs=>
  obtain ⟨h0,hs,cs,⟨_,h1⟩,_⟩:=h
  rcases h1 with ⟨hv,_⟩ | ⟨g,cap,cur,hv,_,hh,_⟩
  ·rw [hv] at hb;have hb:=hb.sl;cases hb
  ·rw [hv] at hb;have hb:=hb.sl;injection hb with hb;subst hb;exact key hh
 | gho cs vs=>
  obtain ⟨h0,h1,h2,_⟩:=h
  rcases hb with hb | ⟨u,hu,_⟩
  ·rw [h1] at hb;cases hb
  ·rw [h2] at hu;cases hu
 | was ψ0 ids0 S0 w0=>
  obtain ⟨h0,h1,h2,_⟩:=h
  rcases hb with hb | ⟨u,hu,_⟩
  ·rw [h1] at hb;cases hb
  ·rw [h2] at hu;cases hu
 | sit s pos=>
  obtain ⟨h0,b',h1,h2⟩:=h
  rw [h1] at hb
  have hb:=hb.pt
  injection hb with hb
  subst hb
  exact key h2
 | glb gs=>
  obtain ⟨h0,h1,h2,_⟩:=h
  rcases hb with hb | ⟨u,hu,_⟩
  ·rw [h1] at hb;cases hb
  ·rw [h2] at hu;cases hu
 | memo Φ hi=>
  obtain ⟨h0,b',es,clock,h1,h2,_⟩:=h
  rw [h1] at hb
  have hb:=hb.mp
  injection hb with hb
  subst hb
  exact key h2
 | smap kv=>
  obtain ⟨h0,b',es,clock,h1,h2,_⟩:=h
  rw [h1] at hb
  have hb:=hb.mp
  injection hb with hb
  subst hb
  exact key h2
 | tab g ov eo ei rows=>
  obtain ⟨h0,vs,h1,h2,h3,h4,h5⟩:=h
  rw [h1] at hb
  rcases hb with hb | ⟨u,hu,hb⟩
  ·cases hb
  ·simp only [kmx] at hu
   rcases q8.1 hu with rfl | hu
   ·exact kyy h3 hb
   ·obtain ⟨i,hi,rfl⟩:=qs.1 hu
    exact kyy (h4 i vs[i] (rows[i]'(by omega)) (List.getElem?_eq_getElem hi) (List.getElem?_eq_getElem (by omega))).1 hb
structure Core (F S0:Nat→Prop) (N0:Nat) (heap:List (Nat×AObj)) (ids:List Nat) (ψ:Env) (S:Nat→Prop) (w:World):Prop where
 obj:∀ id o,kab heap id=some o→id∈ids∧ObR ψ (·∈ids) S w id o∧∀ b,Blk (ψ.val id) b→¬ S b∧¬ F b∧(S0 b∨N0≤b)
 inj:∀ id id' o o' b,kab heap id=some o→kab heap id'=some o'→id≠id'→Blk (ψ.val id) b→¬ Blk (ψ.val id') b
 lt:∀ b,S b→b<w.heap.size
 s0:∀ b,S b→S0 b∨N0≤b
 n0:N0≤w.heap.size
 fr:∀ b,F b→b<w.heap.size
structure Sim (F S0:Nat→Prop) (N0:Nat) (st:St) (ψ:Env) (S:Nat→Prop) (a:Act) (w:World):Prop where
 defers:a.defers=st.dfr
 size:a.tmps.size=st.n
 tmps:∀ t,RV ψ (·∈st.ids) S w (a.tmps.getD t undef) (st.get t)
 core:Core F S0 N0 st.heap st.ids ψ S w
structure Fr (F:Nat→Prop) (w w':World):Prop where
 os:w'.os=w.os
 tape:w'.tape=w.tape
 output:w'.output=w.output
 size:w.heap.size≤w'.heap.size
 block:∀ b,F b→w'.heap[b]?=w.heap[b]?
theorem Fr.refl:Fr F w w:=⟨rfl,rfl,rfl,qw _,fun _ _=>rfl⟩
theorem Fr.trans {w'':World} (h:Fr F w w') (k:Fr F w' w''):Fr F w w'':=⟨k.os.trans h.os,k.tape.trans h.tape,k.output.trans h.output,qaw h.size k.size,fun b hb=>(k.block b hb).trans (h.block b hb)⟩
theorem Fr.of_grow (hF:∀ b,F b→b<w.heap.size) (h:Grow w w'):Fr F w w':=⟨h.os,h.tape,h.output,h.size,fun b hb=>h.block b (hF b hb)⟩
theorem Fr.drew:Fr F w w.drew:=⟨rfl,rfl,rfl,qw _,fun _ _=>rfl⟩
theorem Sim.eval_tmps {ids:List Nat} {st:St} (h:∀ t,RV ψ (·∈ids) S w (a.tmps.getD t undef) (st.get t)) (x:Operand):RV ψ (·∈ids) S w (a.eval x) (st.eval x):=by
 cases x with
 | tmp t=>exact h t
 | const v=>
  cases v with
  | agg cs=>
   simp only [St.eval,kabn,Act.eval]
   cases hb:cs.toList.all (·.oneCell') with
   | false=>exact .any
   | true=>
    refine .fz (.agg (by simp) ?_ ?_)
    ·intro x hx
     simp only [qao] at hx
     obtain ⟨v,hv,rfl⟩:=hx
     exact qm.1 hb v hv
    ·intro i v x hv hx
     simp only [List.getElem?_map,qj,Array.getElem?_toList] at hx
     obtain ⟨u,hu,rfl⟩:=hx
     rw [hv] at hu
     injection hu with hu
     subst hu
     exact .atom (qm.1 hb v (by
      rw [Array.mem_toList_iff]
      exact Array.mem_of_getElem? hv))
  | tuple=>exact .any
  | _=>exact .fz (.atom rfl)
 | global g=>exact .any
 | func f=>exact .fn rfl (fun i v x hv _=>by simp at hv)
theorem Sim.eval (h:Sim F S0 N0 st ψ S a w) (x:Operand):RV ψ (·∈st.ids) S w (a.eval x) (st.eval x):=Sim.eval_tmps h.tmps x
def kdf (P:Program) (o:Oper) (st:St) (c:AV) (heap':List (Nat×AObj)) (ids':List Nat):Prop:=
 ∀ F S0 N0 ψ S a w,Sim F S0 N0 st ψ S a w→khr P o a w fun v w'=>∃ ψ' S',Core F S0 N0 heap' ids' ψ' S' w'∧RV ψ' (·∈ids') S' w' v c∧Fr F w w' ∧
  Ext (·∈st.ids) ψ ψ'∧(∀ id,id∈st.ids→id∈ids')∧(∀ b,S b→S' b)∧Same S w w'
def NStep (P:Program) (o:Oper) (st:St) (c:AV):Prop:=
 ∀ ψ S a w,(∀ t,RV ψ (·∈st.ids) S w (a.tmps.getD t undef) (st.get t))→(∀ id o,kab st.heap id=some o→ObR ψ (·∈st.ids) S w id o) →
  khr P o a w fun v w'=>Grow w w'∧RV ψ (·∈st.ids) (fun b=>S b∨w.heap.size≤b) w' v c
theorem Core.grow {heap:List (Nat×AObj)} {ids:List Nat} (h:Core F S0 N0 heap ids ψ S w) (hg:Grow w w'):Core F S0 N0 heap ids ψ (fun b=>(S b∨w.heap.size≤b)∧b<w'.heap.size) w':=by
 have hk:Same S w w':=Same.of_grow hg
 have hS:∀ b,S b→(S b∨w.heap.size≤b)∧b<w'.heap.size:=fun b hb=>⟨.inl hb,Nat.lt_of_lt_of_le (h.lt b hb) hg.size⟩
 refine ⟨fun id o ho=>?_,h.inj,fun b hb=>hb.2,fun b hb=>?_,qaw h.n0 hg.size,fun b hb=>Nat.lt_of_lt_of_le (h.fr b hb) hg.size⟩
 ·obtain ⟨h1,h2,h3⟩:=h.obj id o ho
  refine ⟨h1,h2.keep Ext.refl (fun _ h=>h) hS hk ⟨rfl,rfl⟩ fun b hb=>hg.block b (h2.lt hb),fun b hb=>⟨fun hs=>?_,(h3 b hb).2⟩⟩
  rcases hs.1 with hs | hs
  ·exact (h3 b hb).1 hs
  ·have:=h2.lt hb;omega
 ·rcases hb.1 with hb' | hb'
  ·exact h.s0 b hb'
  ·exact .inr (qaw h.n0 hb')
theorem NStep.step {o:Oper} {c:AV} (h:NStep P o st c):kdf P o st c st.heap st.ids:=by
 intro F S0 N0 ψ S a w hs
 refine kud ?_ (h ψ S a w hs.tmps fun id o ho=>(hs.core.obj id o ho).2.1)
 rintro v w' ⟨hg,hv⟩
 exact ⟨ψ,_,hs.core.grow hg,hv.bound,Fr.of_grow hs.core.fr hg,Ext.refl,fun _ h=>h,fun b hb=>⟨.inl hb,Nat.lt_of_lt_of_le (hs.core.lt b hb) hg.size⟩,Same.of_grow hg⟩
theorem Sim.put {st':St} {d:Option Nat} {v:Value} {c:AV} (h:Sim F S0 N0 st ψ S a w) (hn:st'.n=st.n) (ht:st'.tmps=st.tmps) (hdf:st'.dfr=st.dfr) (hc:Core F S0 N0 st'.heap st'.ids ψ' S' w') (hv:RV ψ' (·∈st'.ids) S' w' v c)
  (hψ:Ext (·∈st.ids) ψ ψ') (hK:∀ id,id∈st.ids→id∈st'.ids) (hS:∀ b,S b→S' b) (hk:Same S w w') (hd:∀ t,d=some t→t<st.n):Sim F S0 N0 (st'.put d c) ψ' S' (a.put d v) w':=by
 have base:∀ t,RV ψ' (·∈st'.ids) S' w' (a.tmps.getD t undef) (st'.get t):=fun t=>by
  have:=h.tmps t
  unfold St.get at this ⊢
  rw [ht]
  exact this.keep hψ hK hS hk
 cases d with
 | none=>exact ⟨h.defers.trans hdf.symm,by rw [show (st'.put none c)=st' from rfl,hn];exact h.size,base,hc⟩
 | some d=>
  refine ⟨h.defers.trans hdf.symm,by simp [St.put,Act.put,hn,h.size],fun t=>?_,hc⟩
  have hlt:=hd d rfl
  by_cases hdt:d=t
  ·subst hdt
   have:(a.put (some d) v).tmps.getD d undef=v:=by simp [Act.put,h.size,hlt]
   rw [this]
   simp only [St.put,St.get,kdg,if_true]
   exact hv
  ·have:(a.put (some d) v).tmps.getD t undef=a.tmps.getD t undef:=by
    simp only [Act.put]
    rw [qaj,Array.getElem?_setIfInBounds_ne hdt,← qaj]
   rw [this]
   simp only [St.put,St.get,kdg,if_neg hdt]
   exact base t
def PostA (F S0:Nat→Prop) (N0:Nat) (w:World) (Q:Exit→St→Prop) (e:Exit) (a':Act) (w':World):Prop:=
 ∃ st' ψ' S',Q e st'∧Sim F S0 N0 st' ψ' S' a' w'∧Fr F w w'
def awp (P:Program) (c:Code) (st:St) (Q:Exit→St→Prop):Prop:=
 ∀ F S0 N0 ψ S a w,Sim F S0 N0 st ψ S a w→c.wp P (PostA F S0 N0 w Q) a w
def kag5 (K:St→Prop) (Q:Exit→St→Prop):Exit→St→Prop
 | .normal,st=>K st
 | .outgrown,_=>False
 | e,st=>Q e st
def kza (id:Nat) (Q:Exit→St→Prop):Exit→St→Prop
 | .exit i,st=>if i=id then Q .normal st else Q (.exit i) st
 | e,st=>Q e st
theorem kuc {c:Code} {Q Q':Exit→St→Prop} (h:awp P c st Q) (hq:∀ e st,Q e st→Q' e st):awp P c st Q':=
 fun F S0 N0 ψ S a w hs=>wp_mono (h F S0 N0 ψ S a w hs) fun e a' w' ⟨st',ψ',S',h1,h2⟩=>⟨st',ψ',S',hq _ _ h1,h2⟩
theorem kaex {Q:Exit→St→Prop} (h:Q .normal st):awp P .skip st Q:=fun F S0 N0 ψ S a w hs=>wp_skip ⟨st,ψ,S,h,hs,Fr.refl⟩
theorem kac9 {id:Nat} {Q:Exit→St→Prop} (h:Q (.exit id) st):awp P (.exit id) st Q:=fun F S0 N0 ψ S a w hs=>wp_exit ⟨st,ψ,S,h,hs,Fr.refl⟩
theorem kaip {Q:Exit→St→Prop} (h:Q .ret st):awp P .ret st Q:=fun F S0 N0 ψ S a w hs=>wp_ret ⟨st,ψ,S,h,hs,Fr.refl⟩
theorem PostA.pre {Q:Exit→St→Prop} {e:Exit} {a':Act} {w' w'':World} (h:Fr F w w') (k:PostA F S0 N0 w' Q e a' w''):PostA F S0 N0 w Q e a' w'':=
 let ⟨st',ψ',S',h1,h2,h3⟩:=k;⟨st',ψ',S',h1,h2,h.trans h3⟩
theorem k6x {x y:Code} {Q:Exit→St→Prop} (h:awp P x st (kag5 (fun st=>awp P y st Q) Q)):awp P (.seq x y) st Q:=fun F S0 N0 ψ S a w hs=>
 wp_seq (wp_mono (h F S0 N0 ψ S a w hs) fun e a' w' ⟨st',ψ',S',h1,h2,h3⟩=>by
  cases e with
  | normal=>exact wp_mono (h1 F S0 N0 ψ' S' a' w' h2) fun e a'' w'' k=>k.pre h3
  | outgrown=>exact h1.elim
  | _=>exact ⟨st',ψ',S',h1,h2,h3⟩)
theorem k29 {c:Operand} {x y:Code} {b:Bool} {Q:Exit→St→Prop} (hc:st.eval c = .fz (.atom (.bool b))) (h:awp P (bif b then x else y) st Q):awp P (.cond c x y) st Q:=fun F S0 N0 ψ S a w hs=>by
 have he:=hs.eval c
 rw [hc] at he
 refine wp_cond (t:=b) he.atom ?_
 cases b <;> exact h F S0 N0 ψ S a w hs
theorem kabm {id:Nat} {c:Code} {Q:Exit→St→Prop} (h:awp P c st (kza id Q)):awp P (.block id c) st Q:=fun F S0 N0 ψ S a w hs=>
 wp_block (wp_mono (h F S0 N0 ψ S a w hs) fun e a' w' ⟨st',ψ',S',h1,h2,h3⟩=>by
  cases e with
  | exit i=>
   simp only [kza] at h1
   simp only [Exit.inBlock]
   by_cases hi:i=id
   ·rw [if_pos hi] at h1 ⊢; exact ⟨st',ψ',S',h1,h2,h3⟩
   ·rw [if_neg hi] at h1 ⊢; exact ⟨st',ψ',S',h1,h2,h3⟩
  | _=>exact ⟨st',ψ',S',h1,h2,h3⟩)
def LeSt (st st':St):Prop:=∀ F S0 N0 ψ S a w,Sim F S0 N0 st ψ S a w→∃ ψ' S',Sim F S0 N0 st' ψ' S' a w
theorem kajw {c:Code} {st':St} {Q:Exit→St→Prop} (hl:LeSt st st') (h:awp P c st' Q):awp P c st Q:=fun F S0 N0 ψ S a w hs=>by
 obtain ⟨ψ',S',h'⟩:=hl F S0 N0 ψ S a w hs
 exact h F S0 N0 ψ' S' a w h'
def kaa {σ β:Type} (step:σ→Option (σ ⊕ β)):Nat→σ→Option β
 | 0,_=>none
 | n+1,s=>match step s with
  | none=>none
  | some (.inl s')=>kaa step n s'
  | some (.inr b)=>some b
def fuel:Nat:=18446744073709551616
theorem kadu {σ β:Type} {step:σ→Option (σ ⊕ β)} {body:Code} {Q:Exit→St→Prop} (stOf:σ→St) {s0:σ} {b:β} {n:Nat} (hl:kaa step n s0=some b)
  (h0:LeSt st (stOf s0)) (hin:∀ s s',step s=some (.inl s')→awp P body (stOf s) fun e st=>e = .normal∧LeSt st (stOf s'))
  (hout:∀ s,step s=some (.inr b)→awp P body (stOf s) fun e st=>e ≠ .normal∧e ≠ .outgrown∧Q e st):awp P (.loop body) st Q:=fun F S0 N0 ψ S a w hs=>by
 obtain ⟨ψ0,S1,hs0⟩:=h0 F S0 N0 ψ S a w hs
 refine wp_loop_rounds n ?_
 have key:∀ (n:Nat) (s:σ) (ψ:Env) (S:Nat→Prop) (a:Act) (w':World),kaa step n s=some b→Sim F S0 N0 (stOf s) ψ S a w'→Fr F w w'→Code.rounds P body (PostA F S0 N0 w Q) n a w':=by
  intro n
  induction n with
  | zero=>intro s ψ S a w' hl;cases hl
  | succ n ih=>
   intro s ψ S a w' hl hs hf
   rw [rounds_succ]
   simp only [kaa] at hl
   cases hst:step s with
   | none=>rw [hst] at hl;cases hl
   | some r=>
    rw [hst] at hl
    cases r with
    | inl s'=>
     refine wp_mono (hin s s' hst F S0 N0 ψ S a w' hs) ?_
     rintro e a' w'' ⟨st',ψ',S',⟨rfl,hle⟩,h2,h3⟩
     obtain ⟨ψ2,S2,h4⟩:=hle F S0 N0 ψ' S' a' w'' h2
     exact ih s' ψ2 S2 a' w'' hl h4 (hf.trans h3)
    | inr b'=>
     obtain rfl:=qp hl
     refine wp_mono (hout s hst F S0 N0 ψ S a w' hs) ?_
     rintro e a' w'' ⟨st',ψ',S',⟨hn,ho,hq⟩,h2,h3⟩
     cases e with
     | normal=>exact absurd rfl hn
     | outgrown=>exact absurd rfl ho
     | _=>exact ⟨st',ψ',S',hq,h2,hf.trans h3⟩
 exact key n s0 ψ0 S1 a w hl hs0 Fr.refl
def awpL (P:Program) (ops:Array Oper) (l:List Oper) (st:St) (Q:Exit→St→Prop):Prop:=
 ∀ F S0 N0 ψ S a w,Sim F S0 N0 st ψ S a w→wpList P ops (PostA F S0 N0 w Q) l a w
def kdv (ops:Array Oper) (st:St) (o:Oper):Option Bool:=match o.guard with
 | none=>some true
 | some (j,want)=>match (ops[j]?).bind (·.dst) with
  | some t=>match st.get t with
   | .fz (.atom (.bool b))=>some (b == want)
   | .fz (.tup _)=>some false
   | _=>none
  | none=>none
theorem kxi {ops:Array Oper} {a:Act} {t j:Nat} {want:Bool} {xs:List FV} (hv:RF S w (a.tmps.getD t undef) (.tup xs)) (ht:(ops[j]?).bind (·.dst)=some t):(yielded ops a.tmps j == some want)=false:=by
 rw [qaj] at hv
 simp only [yielded,ht,qa]
 cases hq:a.tmps[t]? with
 | none=>rfl
 | some u=>
  rw [hq] at hv
  simp only [qap] at hv
  cases hv with
  | tup=>rfl
theorem kjw {ops:Array Oper} {o:Oper} {g:Bool} (hs:Sim F S0 N0 st ψ S a w) (h:kdv ops st o=some g):Region.wanted o (yielded ops a.tmps)=g:=by
 unfold kdv at h
 unfold Region.wanted
 split at h
 ·rename_i hg
  rw [hg];injection h
 ·rename_i j want hg
  rw [hg]
  split at h
  ·rename_i t ht
   have hv:=hs.tmps t
   split at h
   ·rename_i b hb
    rw [hb] at hv
    injection h with h
    subst h
    have hu:a.tmps.getD t undef = .bool b:=hv.atom
    rw [qaj] at hu
    have hq:a.tmps[t]?=some (.bool b):=by
     cases hq:a.tmps[t]? with
     | none=>rw [hq] at hu;cases hu
     | some u=>rw [hq] at hu;simp only [qap] at hu;rw [hu]
    simp only [yielded,ht,qa,hq]
    cases b <;> cases want <;> rfl
   ·rename_i xs hb
    rw [hb] at hv
    injection h with h
    subst h
    exact kxi hv.inv ht
   ·cases h
  ·cases h
theorem kge {ops:Array Oper} {Q Q':Exit→Act→World→Prop} (hq:∀ e a w,Q e a w→Q' e a w):∀ (l:List Oper) (a:Act) (w:World),wpList P ops Q l a w→wpList P ops Q' l a w
 | [],a,w,h=>hq _ _ _ h
 | o::l,a,w,h=>by
  unfold wpList at h ⊢
  split at h
  ·rename_i hw
   rw [if_pos hw]
   rcases h with h | ⟨h1,a',w',h2⟩
   ·refine .inl ?_
    unfold Oper.wp at h ⊢
    generalize (execOp a.eval o).run P w=r at h ⊢
    cases r with
    | ok n w'=>
     cases n <;> simp only [Oper.upon] at h ⊢
     case value v=>exact kge hq l _ _ h
     case skip=>exact kge hq l _ _ h
     case defer d=>exact kge hq l _ _ h
     case enter f args=>
      refine h.mono fun e w'' h'=>?_
      cases e with
      | returned v=>exact kge hq l _ _ h'
      | panicked c=>exact hq _ _ _ h'
      | outgrown=>exact let ⟨a',w',h2⟩:=h'; ⟨a',w',hq _ _ _ h2⟩
     case row r args=>exact h.mono fun v w'' h'=>kge hq l _ _ h'
    | halt x w'=>
     cases x <;> simp only [Oper.upon] at h ⊢
     exact hq _ _ _ h
   ·exact .inr ⟨h1,a',w',hq _ _ _ h2⟩
  ·rename_i hw
   rw [if_neg hw]
   exact kge hq l _ _ h
theorem l_nil {ops:Array Oper} {Q:Exit→St→Prop} (h:Q .normal st):awpL P ops [] st Q:=fun F S0 N0 ψ S a w hs=>⟨st,ψ,S,h,hs,Fr.refl⟩
theorem kzs {ops:Array Oper} {o:Oper} {l:List Oper} {c:AV} {heap':List (Nat×AObj)} {ids':List Nat} {Q:Exit→St→Prop} (h:kdf P o st c heap' ids') (hg:kdv ops st o=some true) (hd:∀ t,o.dst=some t→t<st.n)
  (hn:awpL P ops l (({ st with heap:=heap',ids:=ids' }:St).put o.dst c) Q):awpL P ops (o::l) st Q:=fun F S0 N0 ψ S a w hs=>by
 unfold wpList
 rw [kjw hs hg]
 refine .inl (ksg ?_ (h F S0 N0 ψ S a w hs))
 rintro v w' ⟨ψ',S',h1,h2,h3,h4,h5,h6,h7⟩
 exact kge (fun e a' w'' k=>k.pre h3) _ _ _ (hn F S0 N0 ψ' S' _ w' (hs.put (st':={ st with heap:=heap',ids:=ids' }) rfl rfl rfl h1 h2 h4 h5 h6 h7 hd))
theorem kakj {ops:Array Oper} {o:Oper} {l:List Oper} {Q:Exit→St→Prop} (hg:kdv ops st o=some false) (hd:∀ t,o.dst=some t→t<st.n) (hn:awpL P ops l (st.put o.dst (.fz (.tup []))) Q):awpL P ops (o::l) st Q:=fun F S0 N0 ψ S a w hs=>by
 unfold wpList
 rw [kjw hs hg]
 exact hn F S0 N0 ψ S _ w (hs.put (st':=st) rfl rfl rfl hs.core (.fz RF.undef) Ext.refl (fun _ h=>h) (fun _ h=>h) (fun _ _ _=>rfl) hd)
theorem l_le {ops:Array Oper} {l:List Oper} {st':St} {Q:Exit→St→Prop} (hl:LeSt st st') (h:awpL P ops l st' Q):awpL P ops l st Q:=fun F S0 N0 ψ S a w hs=>by
 obtain ⟨ψ',S',h'⟩:=hl F S0 N0 ψ S a w hs
 exact h F S0 N0 ψ' S' a w h'
theorem k9g {id:Nat} {ops:Array Oper} {Q:Exit→St→Prop} (h:awpL P ops ops.toList st Q):awp P (.region id ops false) st Q:=fun F S0 N0 ψ S a w hs=>wp_region_list (h F S0 N0 ψ S a w hs)
end
end Go.Proofs.YtaimpcnpifoidaaGreatDoor
