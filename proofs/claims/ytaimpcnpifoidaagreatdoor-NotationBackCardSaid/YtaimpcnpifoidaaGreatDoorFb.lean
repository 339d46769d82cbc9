import Derived.Test.YtaimpcnpifoidaaGreatDoorOpg
set_option linter.unusedVariables false
set_option linter.unusedSimpArgs false
namespace Go.Proofs.YtaimpcnpifoidaaGreatDoor
open Go Go.RowKit
def kwo (id:Nat):AV→List (Nat×Nat)
 | .ref k m off=>bif Nat.beq k id then [(m,off)] else []
 | _=>[]
def k8g (id:Nat):AV→List (Nat×Nat)
 | .agg cs=>cs.flatMap (kwo id)
 | .fn _ cs=>cs.flatMap (kwo id)
 | y=>kwo id y
def k2x (id:Nat):AV→List (Nat×Nat)
 | .tup cs=>cs.flatMap (k8g id)
 | y=>k8g id y
def k86 (id:Nat):AObj→List (Nat×Nat)
 | .box _ cs=>cs.flatMap (kwo id)
 | _=>[]
def fbx (xs:List FV):Nat→FV
 | 0 => .bx xs
 | o+1 => .fp (xs.drop (o+1))
def frb1 (id:Nat) (xs:List FV):AV→AV
 | .ref k m off=>bif Nat.beq k id then .fz (fbx xs off) else .ref k m off
 | y=>y
def frbG (id:Nat) (xs:List FV):AV→AV
 | .agg cs=>aggA (cs.map (frb1 id xs))
 | .fn f cs => .fn f (cs.map (frb1 id xs))
 | y=>frb1 id xs y
def frbT (id:Nat) (xs:List FV):AV→AV
 | .tup cs=>tupA (cs.map (frbG id xs))
 | y=>frbG id xs y
def frbO (id:Nat) (xs:List FV):AObj→AObj
 | .box e cs => .box e (cs.map (frb1 id xs))
 | y=>y
def kaa4 (id:Nat) (st:St):List (Nat×Nat):=st.tmps.flatMap (fun p=>k2x id p.2)++(kc2 id st.heap).flatMap (fun p=>k86 id p.2)
def frbSt (id:Nat) (xs:List FV) (st:St):St:={ dfr:=st.dfr,n:=st.n,tmps:=st.tmps.map (fun p=>(p.1,frbT id xs p.2)),heap:=(kc2 id st.heap).map (fun p=>(p.1,frbO id xs p.2)),ids:=st.ids }
def kw1 (n:Nat) (p:Nat×Nat):Bool:=Nat.beq p.1 0 && Nat.blt p.2 n
section
variable {F S0:Nat→Prop} {N0:Nat} {w:World} {S:Nat→Prop} {ψ:Env} {K:Nat→Prop} {id:Nat} {xs:List FV} {st:St}
theorem ks3 (hx:∀ v off,off<xs.length→RV ψ K S w v (.ref id 0 off)→RF S w v (fbx xs off)) {v:Value} {y:AV} (h:RV ψ K S w v y) (hr:∀ m∈kwo id y,kw1 xs.length m=true):RV ψ K S w v (frb1 id xs y):=by
 cases y with
 | ref k m off=>
  simp only [frb1]
  cases hb:Nat.beq k id with
  | false=>exact h
  | true=>
   have hk:=qr hb
   subst hk
   have hm:=hr (m,off) (by simp [kwo])
   unfold kw1 at hm
   rw [qu] at hm
   obtain rfl:=qr hm.1
   exact .fz (hx v off (by simpa [Nat.blt_eq] using hm.2) h)
 | _=>exact h
theorem kxj {y:AV} (h:y.single=true):(frb1 id xs y).single=true:=by
 cases y with
 | ref k m off=>
  simp only [frb1]
  cases Nat.beq k id with
  | false=>exact h
  | true=>cases off <;> rfl
 | _=>exact h
theorem k0h (hx:∀ v off,off<xs.length→RV ψ K S w v (.ref id 0 off)→RF S w v (fbx xs off)) {v:Value} {y:AV} (h:RV ψ K S w v y) (hr:∀ m∈k8g id y,kw1 xs.length m=true):RV ψ K S w v (frbG id xs y):=by
 cases y with
 | agg cs=>
  cases h with
  | agg h h1 hr'=>
   refine RV.aggA (by simpa using h) (fun y hy=>?_) (knb (R:=fun _ _=>True) hr' fun v y hy hv=>ks3 hx hv fun m hm=>hr m ?_)
   ·simp only [qao] at hy
    obtain ⟨z,hz,rfl⟩:=hy
    exact kxj (h1 z hz)
   ·exact List.mem_flatMap.2 ⟨y,hy,hm⟩
 | fn f cs=>
  cases h with
  | fn h hr'=>exact .fn (by simpa using h) (knb (R:=fun _ _=>True) hr' fun v y hy hv=>ks3 hx hv fun m hm=>hr m (List.mem_flatMap.2 ⟨y,hy,hm⟩))
 | ref k m off=>exact ks3 hx h hr
 | _=>exact h
theorem kai3 (hx:∀ v off,off<xs.length→RV ψ K S w v (.ref id 0 off)→RF S w v (fbx xs off)) {v:Value} {y:AV} (h:RV ψ K S w v y) (hr:∀ m∈k2x id y,kw1 xs.length m=true):RV ψ K S w v (frbT id xs y):=by
 cases y with
 | tup cs=>
  cases h with
  | tup h hr'=>exact RV.tupA (by simpa using h) (knb (R:=fun _ _=>True) hr' fun v y hy hv=>k0h hx hv fun m hm=>hr m (List.mem_flatMap.2 ⟨y,hy,hm⟩))
 | agg cs=>exact k0h hx h hr
 | fn f cs=>exact k0h hx h hr
 | ref k m off=>exact ks3 hx h hr
 | _=>exact h
theorem kadl (l:List (Nat×AV)) (t:Nat):look .any (l.map fun p=>(p.1,frbT id xs p.2)) t=frbT id xs (look .any l t)∧∀ m∈k2x id (look .any l t),m∈l.flatMap (fun p=>k2x id p.2):=by
 induction l with
 | nil=>exact ⟨rfl,fun m hm=>by cases hm⟩
 | cons p l ih=>
  obtain ⟨k,v⟩:=p
  simp only [qah,kdg,qal,qam]
  by_cases h:k=t
  ·simp only [if_pos h]
   exact ⟨trivial,fun m hm => .inl hm⟩
  ·simp only [if_neg h]
   exact ⟨ih.1,fun m hm => .inr (ih.2 m hm)⟩
theorem kv3 (l:List (Nat×AObj)) (t:Nat):kab (l.map fun p=>(p.1,frbO id xs p.2)) t=(kab l t).map (frbO id xs)∧∀ o,kab l t=some o→∀ m∈k86 id o,m∈l.flatMap (fun p=>k86 id p.2):=by
 induction l with
 | nil=>exact ⟨rfl,fun o h=>by cases h⟩
 | cons p l ih=>
  obtain ⟨k,v⟩:=p
  simp only [qah,kai,qal,qam]
  by_cases h:k=t
  ·simp only [if_pos h]
   exact ⟨rfl,fun o ho m hm=>by injection ho with ho;subst ho;exact .inl hm⟩
  ·simp only [if_neg h]
   exact ⟨ih.1,fun o ho m hm => .inr (ih.2 o ho m hm)⟩
theorem k3b {heap:List (Nat×AObj)} {ids:List Nat} {e:TypeId} (h:Core F S0 N0 heap ids ψ S w) (ho:kab heap id=some (.box e (xs.map .fz))) (h0:0<xs.length):
  Core F S0 N0 (kc2 id heap) ids ψ (fun b=>S b∨kb1 (ψ.val id)=some b) w∧ψ.len id=0∧∃ b,kb1 (ψ.val id)=some b∧∀ off,off<xs.length→RF (fun b=>S b∨kb1 (ψ.val id)=some b) w (.pointer (some ⟨b,off,none⟩)) (fbx xs off):=by
 obtain ⟨hid,hob,hfr⟩:=h.obj id _ ho
 have hob':=hob
 obtain ⟨g0,b,cs,g2,g3,g4,g5,g6⟩:=hob
 refine ⟨⟨fun k ob hk=>?_,fun k k' o o' b hk hk' hne hb hb'=>?_,fun b hb=>?_,fun b hb=>?_,h.n0,h.fr⟩,g0,b,by rw [g2];rfl,fun off hoff=>?_⟩
 ·obtain ⟨hne,hk⟩:=keg id hk
  obtain ⟨h1,h2,h3⟩:=h.obj k ob hk
  refine ⟨h1,h2.keep Ext.refl (fun _ h=>h) (fun b hb => .inl hb) (fun _ _ _=>rfl) ⟨rfl,rfl⟩ (fun _ _=>rfl),fun b hb=>⟨fun hs=>?_,(h3 b hb).2⟩⟩
  rcases hs with hs | hs
  ·exact (h3 b hb).1 hs
  ·exact h.inj k id ob _ b hk ho hne hb (.of hs)
 ·obtain ⟨_,hk⟩:=keg id hk
  obtain ⟨_,hk'⟩:=keg id hk'
  exact h.inj k k' o o' b hk hk' hne hb hb'
 ·rcases hb with hb | hb
  ·exact h.lt b hb
  ·exact hob'.lt (.of hb)
 ·rcases hb with hb | hb
  ·exact h.s0 b hb
  ·exact (hfr b (.of hb)).2.2
 ·have base:RF (fun b=>S b∨kb1 (ψ.val id)=some b) w (.pointer (some ⟨b,0,none⟩)) (.fp xs):=by
   refine .fp cs.toList (.inr (by rw [g2];rfl)) (fun j u hu=>?_) (by simpa using g4) h0 (fun x hx=>?_) fun i v x hv hx=>?_
   ·simp only [World.cell?,g3,Nat.zero_add]
    simpa using hu
   ·exact g5 (.fz x) (List.mem_map_of_mem hx)
   ·have:=g6 i v (.fz x) (by simpa using hv) (by simp [hx])
    exact this.inv.mono fun _ h => .inl h
  have base0:RF (fun b=>S b∨kb1 (ψ.val id)=some b) w (.pointer (some ⟨b,0,none⟩)) (.bx xs):=by
   refine .bx cs (.inr (by rw [g2];rfl)) g3 (by simpa using g4) h0 (fun x hx=>g5 (.fz x) (List.mem_map_of_mem hx)) fun i v x hv hx=>?_
   have:=g6 i v (.fz x) hv (by simp [hx])
   exact this.inv.mono fun _ h => .inl h
  cases off with
  | zero=>exact base0
  | succ off=>
   show RF _ w _ (.fp (xs.drop (off+1)))
   have:=k7b (off:=off+1) (ys:=xs.drop (off+1)) (zs:=[]) base (by simp) (by rw [qaq];omega)
   simpa using this
theorem kve (id:Nat) {e:TypeId} {xs:List FV} {cells:List AV} (hob:kab st.heap id=some (.box e cells):=by kernel_rfl) (hc:cells=xs.map .fz:=by kernel_rfl) (h0:Nat.blt 0 xs.length=true:=by kernel_rfl) (hrow:(kaa4 id st).all (kw1 xs.length)=true:=by kernel_rfl):LeSt st (frbSt id xs st):=by
 subst hc
 intro F S0 N0 ψ S a w hs
 obtain ⟨c1,c2,b,c3,c4⟩:=k3b hs.core hob (by simpa [Nat.blt_eq] using h0)
 have hall:∀ m∈kaa4 id st,kw1 xs.length m=true:=fun m hm=>qm.1 hrow m hm
 have hx:∀ v off,off<xs.length→RV ψ (·∈st.ids) (fun b=>S b∨kb1 (ψ.val id)=some b) w v (.ref id 0 off)→RF (fun b=>S b∨kb1 (ψ.val id)=some b) w v (fbx xs off):=by
  intro v off hoff hv
  cases hv with
  | ref hK hn' h1 hv=>
   obtain ⟨b',hb',rfl⟩:=hv c2.symm
   rw [c3] at hb'
   obtain rfl:=qp hb'
   exact c4 off hoff
 refine ⟨ψ,_,hs.defers,hs.size,fun t=>?_,⟨fun i o ho=>?_,fun i i' o o' b ho ho' hne hb=>?_,c1.lt,c1.s0,c1.n0,c1.fr⟩⟩
 ·obtain ⟨l1,l2⟩:=kadl (id:=id) (xs:=xs) st.tmps t
  show RV ψ (·∈st.ids) _ w (a.tmps.getD t undef) (look .any (st.tmps.map fun p=>(p.1,frbT id xs p.2)) t)
  rw [l1]
  refine kai3 hx ((hs.tmps t).mono (fun _ h=>h) fun _ h => .inl h) fun m hm=>hall m ?_
  exact qam.2 (.inl (l2 m hm))
 ·obtain ⟨l1,l2⟩:=kv3 (id:=id) (xs:=xs) (kc2 id st.heap) i
  have ho':kab ((kc2 id st.heap).map fun p=>(p.1,frbO id xs p.2)) i=some o:=ho
  rw [l1,qj] at ho'
  obtain ⟨o',h1,rfl⟩:=ho'
  obtain ⟨k1,k2,k7⟩:=c1.obj i o' h1
  refine ⟨k1,?_,k7⟩
  cases o' with
  | box e2 cells=>
   obtain ⟨g0,b,cs,g2,g3,g4,g5,g6⟩:=k2
   refine ⟨g0,b,cs,g2,g3,by simpa using g4,fun y hy=>?_,knb (R:=fun _ _=>True) g6 fun v y hy hv=>ks3 hx hv fun m hm=>hall m ?_⟩
   ·simp only [qao] at hy
    obtain ⟨z,hz,rfl⟩:=hy
    exact kxj (g5 z hz)
   ·exact qam.2 (.inr (l2 _ h1 m (List.mem_flatMap.2 ⟨y,hy,hm⟩)))
  | _=>exact k2
 ·obtain ⟨l1,_⟩:=kv3 (id:=id) (xs:=xs) (kc2 id st.heap) i
  obtain ⟨l2,_⟩:=kv3 (id:=id) (xs:=xs) (kc2 id st.heap) i'
  have ho1:kab ((kc2 id st.heap).map fun p=>(p.1,frbO id xs p.2)) i=some o:=ho
  have ho2:kab ((kc2 id st.heap).map fun p=>(p.1,frbO id xs p.2)) i'=some o':=ho'
  rw [l1,qj] at ho1
  rw [l2,qj] at ho2
  obtain ⟨u,hu,_⟩:=ho1
  obtain ⟨u',hu',_⟩:=ho2
  exact c1.inj i i' u u' b hu hu' hne hb
end
theorem kafn {α:Type} {enc:α→FV} {xs:List α} {v:α} {i:Int} {P:Program} {T:List (TypeId×TD)} {o:Oper} {st:St} {t e eb:TypeId} {x y:Operand} {n id off:Nat} {d de:TD} {cells:List AV} {k:IntKind} (h:idx xs i=some v) (hT:TOk P T) (ho:o.op = .indexAddr t x y:=by kernel_rfl) (hd:ka3 T t=some d:=by kernel_rfl) (hk:d.kind = .arr n e:=by kernel_rfl) (hde:ka3 T e=some de:=by kernel_rfl) (h1:de.size=1:=by kernel_rfl) (hx:st.eval x = .ref id 0 off:=by kernel_rfl) (hob:kab st.heap id=some (.box eb cells):=by kernel_rfl) (hn:xs.length=n:=by kernel_rfl) (hc:Nat.ble (off+n) cells.length=true:=by kernel_rfl) (hy:st.eval y = .fz (.atom (.int k i)):=by kernel_rfl):NStep P o st (.ref id 0 (off+i.toNat)):=by
 obtain ⟨h0,hi⟩:=kuv h
 have hlt:=(List.getElem?_eq_some_iff.1 hi).1
 have hc:=qac hc
 refine kagj hT ho ?_
 unfold arrX
 rw [hd]
 simp only [hk,hde,hy]
 rw [qe h0,qe (show i<(n:Int) by omega),hx]
 simp only [Bool.and_self,qd,h1,Nat.mul_one,kng,hob]
 simp
theorem kaby {α:Type} {enc:α→FV} {xs:List α} {v:α} {i:Int} {P:Program} {T:List (TypeId×TD)} {o:Oper} {st:St} {t eb:TypeId} {x:Operand} {id off:Nat} {d:TD} {cells:List AV} (h:idx xs i=some v) (hT:TOk P T) (ho:o.op = .load t x:=by kernel_rfl) (hd:ka3 T t=some d:=by kernel_rfl) (hk:d.kind.agg=false:=by kernel_rfl) (hx:st.eval x = .ref id 0 (off+i.toNat):=by kernel_rfl) (hob:kab st.heap id=some (.box eb cells):=by kernel_rfl) (hc:(cells.drop off).take xs.length=xs.map fun x => .fz (enc x):=by kernel_rfl):NStep P o st (.fz (enc v)):=by
 obtain ⟨h0,hi⟩:=kuv h
 have hlt:=(List.getElem?_eq_some_iff.1 hi).1
 refine kaav ho (hT.get hd) (xs:=cells.drop (off+i.toNat)) (by rw [hx];simp only [kl8,hob];rfl) ?_
 unfold kr5
 rw [hk,qb,List.head?_drop]
 have:=congrArg (fun l=>l[i.toNat]?) hc
 simp only [List.getElem?_take,hlt,if_true,List.getElem?_drop,List.getElem?_map,hi,qa6] at this
 exact this
theorem RF.bx_fp {S:Nat→Prop} {w:World} {v:Value} {xs:List FV} (h:RF S w v (.bx xs)) (hp:0<xs.length):∃ b,v = .pointer (some ⟨b,0,none⟩)∧RF S w (.pointer (some ⟨b,0,none⟩)) (.fp xs):=by
 cases h with
 | @bx b e _ cs hS ha hl h0 h1 hr=>
  refine ⟨b,rfl, .fp cs.toList hS (fun j u hu=>?_) (by simpa using hl) h0 h1 fun i v x hv hx=>hr i v x (by simpa using hv) hx⟩
  simp only [World.cell?,ha,Nat.zero_add]
  simpa using hu
 | bn=>cases hp
inductive Ex where
 | nil
 | mk (kind input:Int) (value:Va) (op:BA) (args:List Ex)
namespace Ex
def kind:Ex→Int | nil=>0 | mk k _ _ _ _=>k
def input:Ex→Int | nil=>0 | mk _ i _ _ _=>i
def value:Ex→Va | nil=>Va.mk 0 0 ⟨#[]⟩ [] | mk _ _ v _ _=>v
def op:Ex→BA | nil=>⟨#[]⟩ | mk _ _ _ o _=>o
def args:Ex→List Ex | nil=>[] | mk _ _ _ _ a=>a
end Ex
mutual
def exC:Ex→List FV
 | .nil=>[]
 | .mk k i v o a=>[eI k,eI i,eI v.type,eI v.num,eS v.text,eL 4 eVaR v.items,eS o, .lst 1 a.length (exCs a)]
def exCs:List Ex→List FV
 | []=>[]
 | x::l => .bx (exC x)::exCs l
end
def eExR (x:Ex):FV := .bx (exC x)
theorem k0t:∀ l:List Ex,exCs l=l.map eExR
 | []=>by simp [exCs]
 | x::l=>by simp [exCs,k0t l,eExR]
def unEx:Ex→Option Ex
 | .nil=>none
 | .mk k i v o a=>some (.mk k i v o a)
theorem kajg {x c:Ex} (h:unEx x=some c):c=x∧eExR x = .bx [eI c.kind,eI c.input,eI c.value.type,eI c.value.num,eS c.value.text,eL 4 eVaR c.value.items,eS c.op,eL 1 eExR c.args]:=by
 cases x with
 | nil=>cases h
 | mk k i v o a=>
  injection h with h
  subst h
  exact ⟨rfl,by simp [eExR,exC,k0t,eL,Ex.kind,Ex.input,Ex.value,Ex.op,Ex.args]⟩
theorem kn3 (k i:Int) (v:Va) (o:BA) (a:List Ex):eExR (.mk k i v o a) = .bx [eI k,eI i,eI v.type,eI v.num,eS v.text,eL 4 eVaR v.items,eS o,eL 1 eExR a]:=by simp [eExR,exC,k0t,eL]
theorem k0d:eExR .nil = .bx []:=by simp [eExR,exC]
theorem k9b (x:Ex):(eExR x).cells=[eExR x]:=rfl
theorem kafp (x:Ex):(eExR x).cells.length=1:=rfl
def nExR:En Ex:=⟨eExR,1,fun x=>[eExR x],fun _=>rfl,fun _=>rfl⟩
theorem kvd {P:Program} {o:Oper} {st:St} {x:Operand} {e c:Ex} (h:unEx e=some c) (ho:o.op = .nilCheck x:=by kernel_rfl) (hx:st.eval x = .fz (eExR e):=by kernel_rfl):NStep P o st (.fz (.fp [eI c.kind,eI c.input,eI c.value.type,eI c.value.num,eS c.value.text,eL 4 eVaR c.value.items,eS c.op,eL 1 eExR c.args])):=by
 obtain ⟨_,h2⟩:=kajg h
 rw [h2] at hx
 intro ψ S a w ht hO
 have hv:=Sim.eval_tmps ht x
 rw [hx] at hv
 obtain ⟨b,e1,e2⟩:=hv.inv.bx_fp (by simp)
 refine kam (w':=w) (v := .pointer (some ⟨b,0,none⟩)) ?_ ⟨kaj _, .fz (e2.mono fun _ h => .inl h)⟩
 simp [execOp,ho,e1]
end Go.Proofs.YtaimpcnpifoidaaGreatDoor
