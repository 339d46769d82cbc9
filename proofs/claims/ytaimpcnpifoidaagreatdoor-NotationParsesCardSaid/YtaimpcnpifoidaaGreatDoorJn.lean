import Derived.Test.YtaimpcnpifoidaaGreatDoorOq
import Derived.Test.YtaimpcnpifoidaaGreatDoorLang
import Derived.Shelf.LaysM
import Derived.Shelf.Strings.OnBuilder
import Derived.Shelf.Strings.Cut
import Derived.Shelf.Strings.Split
import Derived.Test.YtaimpcnpifoidaaGreatDoorProg
set_option linter.all false
namespace Go.Proofs.YtaimpcnpifoidaaGreatDoor
open Go Go.RowKit Go.Proofs.Tryz
def kzn (id:Nat):AV->List (Nat×Nat)
 | .ref k m off=>bif Nat.beq k id then [(m,off)] else []
 | _=>[]
def kac3 (id:Nat):AV->List (Nat×Nat)
 | .agg cs=>cs.flatMap (kzn id)
 | .fn _ cs=>cs.flatMap (kzn id)
 | y=>kzn id y
def k5v (id:Nat):AV->List (Nat×Nat)
 | .tup cs=>cs.flatMap (kac3 id)
 | y=>kac3 id y
def kaax (id:Nat):AObj->List (Nat×Nat)
 | .box _ cs=>cs.flatMap (kzn id)
 | _=>[]
def fbx (xs:List FV):Nat->FV
 | 0 => .bx xs
 | o+1 => .fp (xs.drop (o+1))
def frb1 (id:Nat) (xs:List FV):AV->AV
 | .ref k m off=>bif Nat.beq k id then .fz (fbx xs off) else .ref k m off
 | y=>y
def frbG (id:Nat) (xs:List FV):AV->AV
 | .agg cs=>aggA (cs.map (frb1 id xs))
 | .fn f cs => .fn f (cs.map (frb1 id xs))
 | y=>frb1 id xs y
def frbT (id:Nat) (xs:List FV):AV->AV
 | .tup cs=>tupA (cs.map (frbG id xs))
 | y=>frbG id xs y
def frbO (id:Nat) (xs:List FV):AObj->AObj
 | .box e cs => .box e (cs.map (frb1 id xs))
 | y=>y
def kadq (id:Nat) (st:St):List (Nat×Nat):=st.tmps.flatMap (fun p=>k5v id p.2)++(kde id st.heap).flatMap (fun p=>kaax id p.2)
def frbSt (id:Nat) (xs:List FV) (st:St):St:={ dfr:=st.dfr,n:=st.n,tmps:=st.tmps.map (fun p=>(p.1,frbT id xs p.2)),heap:=(kde id st.heap).map (fun p=>(p.1,frbO id xs p.2)),ids:=st.ids }
def ky6 (n:Nat) (p:Nat×Nat):Bool:=Nat.beq p.1 0 && Nat.blt p.2 n
section
variable {F S0:Nat->Prop} {N0:Nat} {w:World} {S:Nat->Prop} {ψ:Env} {K:Nat->Prop} {id:Nat} {xs:List FV} {st:St}
theorem ku9 (a:∀ v off,off<xs.length->RV ψ K S w v (.ref id 0 off)->RF S w v (fbx xs off)) {v:Value} {y:AV} (h:RV ψ K S w v y) (hr:∀ m∈kzn id y,ky6 xs.length m=true):RV ψ K S w v (frb1 id xs y):=by
 cases y with
 | ref k m off=>
  simp only [frb1];cases b:Nat.beq k id with
  | false=>exact h
  | true=>
   have hk:=qx b;subst hk;have hm:=hr (m,off) (by simp [kzn]);unfold ky6 at hm;rw [q8] at hm;obtain rfl:=qx hm.1;exact .fz (a v off (by simpa [Nat.blt_eq] using hm.2) h)
 | _=>exact h
theorem kz7 {y:AV} (h:y.single=true):(frb1 id xs y).single=true:=by
 cases y with
 | ref k m off=>
  simp only [frb1];cases Nat.beq k id with
  | false=>exact h
  | true=>cases off <;> rfl
 | _=>exact h
theorem k3s (c:∀ v off,off<xs.length->RV ψ K S w v (.ref id 0 off)->RF S w v (fbx xs off)) {v:Value} {y:AV} (h:RV ψ K S w v y) (hr:∀ m∈kac3 id y,ky6 xs.length m=true):RV ψ K S w v (frbG id xs y):=by
 cases y with
 | agg cs=>
  cases h with
  | agg h h1 a=>
   refine RV.aggA (by simpa using h) (fun y b=>?_) (kpa (R:=fun _ _=>True) a fun v y b hv=>ku9 c hv fun m hm=>hr m ?_);simp only [qa3] at b;obtain ⟨z,d,rfl⟩:=b;exact kz7 (h1 z d)
   ·exact qba.2 ⟨y,b,hm⟩
 | fn f cs=>
  cases h with
  | fn h a=>exact .fn (by simpa using h) (kpa (R:=fun _ _=>True) a fun v y b hv=>ku9 c hv fun m hm=>hr m (qba.2 ⟨y,b,hm⟩))
 | ref k m off=>exact ku9 c h hr
 | _=>exact h
theorem kalf (a:∀ v off,off<xs.length->RV ψ K S w v (.ref id 0 off)->RF S w v (fbx xs off)) {v:Value} {y:AV} (h:RV ψ K S w v y) (hr:∀ m∈k5v id y,ky6 xs.length m=true):RV ψ K S w v (frbT id xs y):=by
 cases y with
 | tup cs=>
  cases h with
  | tup h b=>exact RV.tupA (by simpa using h) (kpa (R:=fun _ _=>True) b fun v y c hv=>k3s a hv fun m hm=>hr m (qba.2 ⟨y,c,hm⟩))
 | agg cs=>exact k3s a h hr
 | fn f cs=>exact k3s a h hr
 | ref k m off=>exact ku9 a h hr
 | _=>exact h
theorem kagd (l:List (Nat×AV)) (t:Nat):look .any (l.map fun p=>(p.1,frbT id xs p.2)) t=frbT id xs (look .any l t)/\∀ m∈k5v id (look .any l t),m∈l.flatMap (fun p=>k5v id p.2):=by
 induction l with
 | nil=>exact ⟨rfl,fun m hm=>by cases hm⟩
 | cons p l ih=>
  obtain ⟨k,v⟩:=p;simp only [qa8,kdt,qa0,qao];by_cases h:k=t;simp only [qj h];exact ⟨trivial,fun m hm => .inl hm⟩
  ·simp only [qg h];exact ⟨ih.1,fun m hm => .inr (ih.2 m hm)⟩
theorem kyj (l:List (Nat×AObj)) (t:Nat):kab (l.map fun p=>(p.1,frbO id xs p.2)) t=(kab l t).map (frbO id xs)/\∀ o,kab l t=some o->∀ m∈kaax id o,m∈l.flatMap (fun p=>kaax id p.2):=by
 induction l with
 | nil=>exact ⟨rfl,fun o h=>by cases h⟩
 | cons p l ih=>
  obtain ⟨k,v⟩:=p;simp only [qa8,kae,qa0,qao];by_cases h:k=t;simp only [qj h];exact ⟨rfl,fun o ho m hm=>by injection ho with ho;subst ho;exact .inl hm⟩
  ·simp only [qg h];exact ⟨ih.1,fun o ho m hm => .inr (ih.2 o ho m hm)⟩
theorem k65 {heap:List (Nat×AObj)} {ids:List Nat} {e:TypeId} (h:Core F S0 N0 heap ids ψ S w) (ho:kab heap id=some (.box e (xs.map .fz))) (h0:0<xs.length):
  Core F S0 N0 (kde id heap) ids ψ (fun b=>S b\/kby (ψ.val id)=some b) w/\ψ.len id=0/\∃ b,kby (ψ.val id)=some b/\∀ off,off<xs.length->RF (fun b=>S b\/kby (ψ.val id)=some b) w (.pointer (some ⟨b,off,none⟩)) (fbx xs off):=by
 obtain ⟨hid,f,l⟩:=h.obj id _ ho;have g:=f;obtain ⟨g0,b,cs,g2,g3,g4,g5,g6⟩:=f;refine ⟨⟨fun k ob hk=>?_,fun k k' o o' b hk c hne a m=>?_,fun b a=>?_,fun b a=>?_,h.n0,h.fr⟩,g0,b,by rw [g2];rfl,fun off n=>?_⟩
 ·obtain ⟨hne,hk⟩:=ke4 id hk;obtain ⟨h1,h2,h3⟩:=h.obj k ob hk;refine ⟨h1,h2.keep Ext.refl (fun _ h=>h) (fun b a => .inl a) (fun _ _ _=>rfl) ⟨rfl,rfl⟩ (fun _ _=>rfl),fun b a=>⟨fun hs=>?_,(h3 b a).2⟩⟩;rcases hs with hs | hs;exact (h3 b a).1 hs
  ·exact h.inj k id ob _ b hk ho hne a (.of hs)
 obtain ⟨_,hk⟩:=ke4 id hk;obtain ⟨_,c⟩:=ke4 id c;exact h.inj k k' o o' b hk c hne a m
 ·rcases a with a | a;exact h.lt b a
  ·exact g.lt (.of a)
 ·rcases a with a | a;exact h.s0 b a
  ·exact (l b (.of a)).2.2
 ·have base:RF (fun b=>S b\/kby (ψ.val id)=some b) w (.pointer (some ⟨b,0,none⟩)) (.fp xs):=by
   refine .fp cs.toList (.inr (by rw [g2];rfl)) (fun j u p=>?_) (by simpa using g4) h0 (fun x d=>?_) fun i v x hv d=>?_;simp only [World.cell?,g3,Nat.zero_add];simpa using p;exact g5 (.fz x) (List.mem_map_of_mem d)
   ·have:=g6 i v (.fz x) (by simpa using hv) (by simp [d]);exact this.inv.mono fun _ h => .inl h
  have base0:RF (fun b=>S b\/kby (ψ.val id)=some b) w (.pointer (some ⟨b,0,none⟩)) (.bx xs):=by refine .bx cs (.inr (by rw [g2];rfl)) g3 (by simpa using g4) h0 (fun x d=>g5 (.fz x) (List.mem_map_of_mem d)) fun i v x hv d=>?_;have:=g6 i v (.fz x) hv (by simp [d]);exact this.inv.mono fun _ h => .inl h
  cases off with
  | zero=>exact base0
  | succ off=>
   show RF _ w _ (.fp (xs.drop (off+1)));have:=k98 (off:=off+1) (ys:=xs.drop (off+1)) (zs:=[]) base (by simp) (by rw [qau];omega);simpa using this
theorem kx8 (id:Nat) {e:TypeId} {xs:List FV} {cells:List AV} (q:kab st.heap id=some (.box e cells):=by kernel_rfl) (hc:cells=xs.map .fz:=by kernel_rfl) (h0:Nat.blt 0 xs.length=true:=by kernel_rfl) (f:(kadq id st).all (ky6 xs.length)=true:=by kernel_rfl):LeSt st (frbSt id xs st):=by
 subst hc;intro F S0 N0 ψ S a w hs;obtain ⟨c1,c2,b,c3,c4⟩:=k65 hs.core q (by simpa [Nat.blt_eq] using h0);have d:∀ m∈kadq id st,ky6 xs.length m=true:=fun m hm=>qs.1 f m hm;have s:∀ v off,off<xs.length->RV ψ (·∈st.ids) (fun b=>S b\/kby (ψ.val id)=some b) w v (.ref id 0 off)->RF (fun b=>S b\/kby (ψ.val id)=some b) w v (fbx xs off):=by
  intro v off g hv;cases hv with
  | ref hK x h1 hv=>
   obtain ⟨b',j,rfl⟩:=hv c2.symm;rw [c3] at j;obtain rfl:=qq j;exact c4 off g
 refine ⟨ψ,_,hs.defers,hs.size,fun t=>?_,⟨fun i o ho=>?_,fun i i' o o' b ho c hne A=>?_,c1.lt,c1.s0,c1.n0,c1.fr⟩⟩;obtain ⟨l1,l2⟩:=kagd (id:=id) (xs:=xs) st.tmps t;show RV ψ (·∈st.ids) _ w (a.tmps.getD t undef) (look .any (st.tmps.map fun p=>(p.1,frbT id xs p.2)) t);rw [l1];refine kalf s ((hs.tmps t).mono (fun _ h=>h) fun _ h => .inl h) fun m hm=>d m ?_;exact qao.2 (.inl (l2 m hm))
 ·obtain ⟨l1,l2⟩:=kyj (id:=id) (xs:=xs) (kde id st.heap) i;have c:kab ((kde id st.heap).map fun p=>(p.1,frbO id xs p.2)) i=some o:=ho;rw [l1,qm] at c;obtain ⟨o',h1,rfl⟩:=c;obtain ⟨k1,k2,k7⟩:=c1.obj i o' h1;refine ⟨k1,?_,k7⟩;cases o' with
  | box e2 cells=>
   obtain ⟨g0,b,cs,g2,g3,g4,g5,g6⟩:=k2;refine ⟨g0,b,cs,g2,g3,by simpa using g4,fun y n=>?_,kpa (R:=fun _ _=>True) g6 fun v y n hv=>ku9 s hv fun m hm=>d m ?_⟩;simp only [qa3] at n;obtain ⟨z,B,rfl⟩:=n;exact kz7 (g5 z B)
   ·exact qao.2 (.inr (l2 _ h1 m (qba.2 ⟨y,n,hm⟩)))
  | _=>exact k2
 ·obtain ⟨l1,_⟩:=kyj (id:=id) (xs:=xs) (kde id st.heap) i;obtain ⟨l2,_⟩:=kyj (id:=id) (xs:=xs) (kde id st.heap) i';have k:kab ((kde id st.heap).map fun p=>(p.1,frbO id xs p.2)) i=some o:=ho;have l:kab ((kde id st.heap).map fun p=>(p.1,frbO id xs p.2)) i'=some o':=c;rw [l1,qm] at k;rw [l2,qm] at l;obtain ⟨u,C,_⟩:=k;obtain ⟨u',r,_⟩:=l;exact c1.inj i i' u u' b C r hne A
end
theorem kafy {α:Type} {enc:α->FV} {xs:List α} {v:α} {i:Int} {P:Program} {T:List (TypeId×TD)} {o:Oper} {st:St} {t e eb:TypeId} {x y:Operand} {n id off:Nat} {d de:TD} {cells:List AV} {k:IntKind} (h:idx xs i=some v) (c:TOk P T) (ho:o.op = .indexAddr t x y:=by kernel_rfl) (hd:kat T t=some d:=by kernel_rfl) (hk:d.kind = .arr n e:=by kernel_rfl) (a:kat T e=some de:=by kernel_rfl) (h1:de.size=1:=by kernel_rfl) (f:st.eval x = .ref id 0 off:=by kernel_rfl) (b:kab st.heap id=some (.box eb cells):=by kernel_rfl) (hn:xs.length=n:=by kernel_rfl) (hc:Nat.ble (off+n) cells.length=true:=by kernel_rfl) (g:st.eval y = .fz (.atom (.int k i)):=by kernel_rfl):NStep P o st (.ref id 0 (off+i.toNat)):=by obtain ⟨h0,hi⟩:=ko4 h;have j:=(qo.1 hi).1;have hc:=qai hc;refine kajc c ho ?_;unfold arrX;rw [hd];simp only [hk,a,g];rw [qe h0,qe (show i<(n:Int) by omega),f];simp only [Bool.and_self,qf,h1,Nat.mul_one,kpn,b];simp
theorem kaes {α:Type} {enc:α->FV} {xs:List α} {v:α} {i:Int} {P:Program} {T:List (TypeId×TD)} {o:Oper} {st:St} {t eb:TypeId} {x:Operand} {id off:Nat} {d:TD} {cells:List AV} (h:idx xs i=some v) (c:TOk P T) (ho:o.op = .load t x:=by kernel_rfl) (hd:kat T t=some d:=by kernel_rfl) (hk:d.kind.agg=false:=by kernel_rfl) (e:st.eval x = .ref id 0 (off+i.toNat):=by kernel_rfl) (a:kab st.heap id=some (.box eb cells):=by kernel_rfl) (hc:(cells.drop off).take xs.length=xs.map fun x => .fz (enc x):=by kernel_rfl):NStep P o st (.fz (enc v)):=by obtain ⟨h0,hi⟩:=ko4 h;have b:=(qo.1 hi).1;refine kafb ho (c.get hd) (xs:=cells.drop (off+i.toNat)) (by rw [e];simp only [knu,a];rfl) ?_;unfold kt7;rw [hk,qd,List.head?_drop];have:=q9 (fun l=>l[i.toNat]?) hc;simp only [qaj,b,qa6,qat,qp,hi,qbk] at this;exact this
theorem RF.bx_fp {S:Nat->Prop} {w:World} {v:Value} {xs:List FV} (h:RF S w v (.bx xs)) (hp:0<xs.length):∃ b,v = .pointer (some ⟨b,0,none⟩)/\RF S w (.pointer (some ⟨b,0,none⟩)) (.fp xs):=by
 cases h with
 | @bx b e _ cs hS ha hl h0 h1 hr=>
  refine ⟨b,rfl, .fp cs.toList hS (fun j u a=>?_) (by simpa using hl) h0 h1 fun i v x hv c=>hr i v x (by simpa using hv) c⟩;simp only [World.cell?,ha,Nat.zero_add];simpa using a
 | bn=>cases hp
inductive Ex where
 | nil
 | mk (kind input:Int) (value:Va) (op:BA) (args:List Ex)
namespace Ex
def kind:Ex->Int | nil=>0 | mk k _ _ _ _=>k
def input:Ex->Int | nil=>0 | mk _ i _ _ _=>i
def value:Ex->Va | nil=>Va.mk 0 0 ⟨#[]⟩ [] | mk _ _ v _ _=>v
def op:Ex->BA | nil=>⟨#[]⟩ | mk _ _ _ o _=>o
def args:Ex->List Ex | nil=>[] | mk _ _ _ _ a=>a
end Ex
mutual
def exC:Ex->List FV
 | .nil=>[]
 | .mk k i v o a=>[eI k,eI i,eI v.type,eI v.num,eS v.text,eL 4 eVaR v.items,eS o, .lst 1 a.length (exCs a)]
def exCs:List Ex->List FV
 | []=>[]
 | x::l => .bx (exC x)::exCs l
end
def eExR (x:Ex):FV := .bx (exC x)
theorem k3b:∀ l:List Ex,exCs l=l.map eExR
 | []=>by simp [exCs]
 | x::l=>by simp [exCs,k3b l,eExR]
def unEx:Ex->Option Ex
 | .nil=>none
 | .mk k i v o a=>some (.mk k i v o a)
theorem kakw {x c:Ex} (h:unEx x=some c):c=x/\eExR x = .bx [eI c.kind,eI c.input,eI c.value.type,eI c.value.num,eS c.value.text,eL 4 eVaR c.value.items,eS c.op,eL 1 eExR c.args]:=by
 cases x with
 | nil=>cases h
 | mk k i v o a=>
  injection h with h;subst h;exact ⟨rfl,by simp [eExR,exC,k3b,eL,Ex.kind,Ex.input,Ex.value,Ex.op,Ex.args]⟩
theorem kpp (k i:Int) (v:Va) (o:BA) (a:List Ex):eExR (.mk k i v o a) = .bx [eI k,eI i,eI v.type,eI v.num,eS v.text,eL 4 eVaR v.items,eS o,eL 1 eExR a]:=by simp [eExR,exC,k3b,eL]
theorem k3l:eExR .nil = .bx []:=by simp [eExR,exC]
theorem kac6 (x:Ex):(eExR x).cells=[eExR x]:=rfl
theorem kagy (x:Ex):(eExR x).cells.length=1:=rfl
def nExR:En Ex:=⟨eExR,1,fun x=>[eExR x],fun _=>rfl,fun _=>rfl⟩
theorem kx6 {P:Program} {o:Oper} {st:St} {x:Operand} {e c:Ex} (h:unEx e=some c) (ho:o.op = .nilCheck x:=by kernel_rfl) (d:st.eval x = .fz (eExR e):=by kernel_rfl):NStep P o st (.fz (.fp [eI c.kind,eI c.input,eI c.value.type,eI c.value.num,eS c.value.text,eL 4 eVaR c.value.items,eS c.op,eL 1 eExR c.args])):=by obtain ⟨_,h2⟩:=kakw h;rw [h2] at d;intro ψ S a w ht f;have hv:=Sim.eval_tmps ht x;rw [d] at hv;obtain ⟨b,e1,e2⟩:=hv.inv.bx_fp (by simp);refine kaj (w':=w) (v := .pointer (some ⟨b,0,none⟩)) ?_ ⟨kai _, .fz (e2.mono fun _ h => .inl h)⟩;simp [execOp,ho,e1]
open Go Go.Proofs Go.Proofs.Tryz
open Go.Shelf Go.Proofs.Tryz
def kty:Go.Shelf.Ren:=⟨fun | 156=>43 | 165=>82 | 166=>42 | 169=>29 | 240=>81 | 241=>122 | 276=>121 | 277=>150 | n=>n,fun | 31=>84 | 9=>9 | 3=>3 | 4=>4 | 0=>0 | 20=>20 | 72=>58 | 76=>87 | 70=>55 | 37=>56 | 75=>86 | 127=>115 | 164=>171 | 5=>5 | 80=>60 | n=>n,fun | n=>n⟩
theorem kz9:Go.Proofs.Lays.n156 prog kty:={
 mixed:=by kernel_rfl
 f156:=func43.trans (q9 some (by kernel_rfl))
 f165:=func82.trans (q9 some (by kernel_rfl))
 f166:=func42.trans (q9 some (by kernel_rfl))
 f169:=func29.trans (q9 some (by kernel_rfl))
 f240:=func81.trans (q9 some (by kernel_rfl))
 f241:=func122.trans (q9 some (by kernel_rfl))
 f276:=func121.trans (q9 some (by kernel_rfl))
 f277:=func150.trans (q9 some (by kernel_rfl))
 t0:=underlying0
 a0:=isAgg0
 z0:=sizeOf0
 v0:=zeroValue0
 t3:=underlying3
 a3:=isAgg3
 z3:=sizeOf3
 v3:=zeroValue3
 t4:=underlying4
 a4:=isAgg4
 z4:=sizeOf4
 v4:=zeroValue4
 t9:=underlying9
 a9:=isAgg9
 z9:=sizeOf9
 v9:=zeroValue9
 t20:=underlying20
 a20:=isAgg20
 z20:=sizeOf20
 v20:=zeroValue20
 t31:=underlying84
 a31:=isAgg84
 z31:=sizeOf84
 v31:=zeroValue84
 t37:=underlying56
 a37:=isAgg56
 z37:=sizeOf56
 v37:=zeroValue56
 t70:=underlying55
 a70:=isAgg55
 z70:=sizeOf55
 v70:=zeroValue55
 t72:=underlying58
 a72:=isAgg58
 z72:=sizeOf58
 v72:=zeroValue58
 t75:=underlying86
 a75:=isAgg86
 z75:=sizeOf86
 v75:=zeroValue86
 t76:=underlying87
 a76:=isAgg87
 z76:=sizeOf87
 v76:=zeroValue87
 t127:=underlying115
 a127:=isAgg115
 z127:=sizeOf115
 v127:=zeroValue115
 t164:=underlying171
 a164:=isAgg171
 z164:=sizeOf171
 v164:=zeroValue171 }
theorem kpb:Builder.Extra prog kty:={
 sizeBuilder:=by kernel_rfl
 liesBuilder:=by kernel_rfl
 t5:=underlying5
 a5:=isAgg5
 z5:=sizeOf5
 v5:=zeroValue5
 infoByte:=by kernel_rfl
 cellsByte:=by kernel_rfl
 sizeByte:=by kernel_rfl
 neB5:=by decide }
open Go.RowKit in
theorem k0z (bk o c:Nat) (xs:List BA) (sep:BA) (w:World) (a:∀ (j:Nat) x,xs[j]?=some x->w.cell? ⟨bk,o+j,none⟩=some (.string x)) (f:bk<w.heap.size) (g:xs.length<=140737488355328) (b:xs.length<=c) (d:(Lib.join (xs.map (·.data.toList)) sep.data.toList).length<=140737488355328):
  Calls prog 43 #[.slice (some ⟨bk,o,none⟩) xs.length c, .string sep] w fun e w'=>e = .returned (.string ⟨(Lib.join (xs.map (·.data.toList)) sep.data.toList).toArray⟩)/\Below w.heap.size w w':=Any.strings_Join kz9 kpb bk o c xs sep w a f g b d
open Go.RowKit in
theorem kvq (a:Option Addr) (c:Nat) (sep:BA) (w:World):
  Calls prog 43 #[.slice a 0 c, .string sep] w fun e w'=>e = .returned (.string ⟨#[]⟩)/\w'=w:=Any.strings_Join_none kz9 kpb a c sep w
def k1y:Go.Shelf.Ren:=⟨fun | 145=>46 | 220=>85 | 219=>125 | 217=>153 | 225=>154 | 224=>155 | 267=>156 | 266=>179 | 314=>180 | n=>n,fun | 9=>9 | 4=>4 | 59=>98 | 3=>3 | 5=>5 | 46=>198 | 146=>225 | 51=>224 | n=>n,fun | 1=>0 | n=>n⟩
theorem k8t:Go.Proofs.Lays.n145 prog k1y:={
 mixed:=by kernel_rfl
 f145:=func46.trans (q9 some (by kernel_rfl))
 f217:=func153.trans (q9 some (by kernel_rfl))
 f219:=func125.trans (q9 some (by kernel_rfl))
 f220:=func85.trans (q9 some (by kernel_rfl))
 f224:=func155.trans (q9 some (by kernel_rfl))
 f225:=func154.trans (q9 some (by kernel_rfl))
 f266:=func179.trans (q9 some (by kernel_rfl))
 f267:=func156.trans (q9 some (by kernel_rfl))
 f314:=func180.trans (q9 some (by kernel_rfl))
 t3:=underlying3
 a3:=isAgg3
 z3:=sizeOf3
 v3:=zeroValue3
 t4:=underlying4
 a4:=isAgg4
 z4:=sizeOf4
 v4:=zeroValue4
 t5:=underlying5
 a5:=isAgg5
 z5:=sizeOf5
 v5:=zeroValue5
 t9:=underlying9
 a9:=isAgg9
 z9:=sizeOf9
 v9:=zeroValue9
 t46:=underlying198
 a46:=isAgg198
 z46:=sizeOf198
 v46:=zeroValue198
 t51:=underlying224
 a51:=isAgg224
 z51:=sizeOf224
 v51:=zeroValue224
 t59:=underlying98
 a59:=isAgg98
 z59:=sizeOf98
 v59:=zeroValue98
 t146:=underlying225
 a146:=isAgg225
 z146:=sizeOf225
 v146:=zeroValue225
 g1:=by kernel_rfl }
open Go.RowKit Go.Lib in
theorem k2o (s sep:BA) (m:Int) (w:World) (hs:s.size<4294967281) (hm:w.cell? ⟨0,0,none⟩=some (.int .i64 m)):
  Calls prog 46 #[.string s, .string sep] w fun e w'=>e = .returned (.tuple #[.string ⟨(Lib.cut s.data.toList sep.data.toList).1.toArray⟩, .string ⟨(Lib.cut s.data.toList sep.data.toList).2.1.toArray⟩, .bool (Lib.cut s.data.toList sep.data.toList).2.2])/\∃ n,w'=w.drewN n:=Any.strings_Cut k8t s sep m w hs hm
def k2y:Go.Shelf.Ren:=⟨fun | 146=>86 | 221=>126 | 268=>157 | 138=>158 | 143=>159 | 195=>181 | 197=>182 | 218=>183 | 219=>125 | 260=>205 | 217=>153 | 225=>154 | 224=>155 | 267=>156 | 266=>179 | 314=>180 | n=>n,fun | 9=>9 | 31=>84 | 3=>3 | 4=>4 | 0=>0 | 105=>227 | 21=>21 | 5=>5 | 46=>198 | 119=>246 | 139=>249 | 138=>248 | 146=>225 | 51=>224 | n=>n,fun | 1=>0 | 3=>2 | 4=>3 | n=>n⟩
theorem k8n:Go.Proofs.Lays.n146 prog k2y:={
 mixed:=by kernel_rfl
 f138:=func158.trans (q9 some (by kernel_rfl))
 f143:=func159.trans (q9 some (by kernel_rfl))
 f146:=func86.trans (q9 some (by kernel_rfl))
 f195:=func181.trans (q9 some (by kernel_rfl))
 f197:=func182.trans (q9 some (by kernel_rfl))
 f217:=func153.trans (q9 some (by kernel_rfl))
 f218:=func183.trans (q9 some (by kernel_rfl))
 f219:=func125.trans (q9 some (by kernel_rfl))
 f221:=func126.trans (q9 some (by kernel_rfl))
 f224:=func155.trans (q9 some (by kernel_rfl))
 f225:=func154.trans (q9 some (by kernel_rfl))
 f260:=func205.trans (q9 some (by kernel_rfl))
 f266:=func179.trans (q9 some (by kernel_rfl))
 f267:=func156.trans (q9 some (by kernel_rfl))
 f268:=func157.trans (q9 some (by kernel_rfl))
 f314:=func180.trans (q9 some (by kernel_rfl))
 t0:=underlying0
 a0:=isAgg0
 z0:=sizeOf0
 v0:=zeroValue0
 t3:=underlying3
 a3:=isAgg3
 z3:=sizeOf3
 v3:=zeroValue3
 t4:=underlying4
 a4:=isAgg4
 z4:=sizeOf4
 v4:=zeroValue4
 t5:=underlying5
 a5:=isAgg5
 z5:=sizeOf5
 v5:=zeroValue5
 t9:=underlying9
 a9:=isAgg9
 z9:=sizeOf9
 v9:=zeroValue9
 t21:=underlying21
 a21:=isAgg21
 z21:=sizeOf21
 v21:=zeroValue21
 t31:=underlying84
 a31:=isAgg84
 z31:=sizeOf84
 v31:=zeroValue84
 t46:=underlying198
 a46:=isAgg198
 z46:=sizeOf198
 v46:=zeroValue198
 t51:=underlying224
 a51:=isAgg224
 z51:=sizeOf224
 v51:=zeroValue224
 t105:=underlying227
 a105:=isAgg227
 z105:=sizeOf227
 v105:=zeroValue227
 t119:=underlying246
 a119:=isAgg246
 z119:=sizeOf246
 t138:=underlying248
 a138:=isAgg248
 z138:=sizeOf248
 v138:=zeroValue248
 t139:=underlying249
 a139:=isAgg249
 z139:=sizeOf249
 v139:=zeroValue249
 t146:=underlying225
 a146:=isAgg225
 z146:=sizeOf225
 v146:=zeroValue225
 g1:=by kernel_rfl
 g3:=by kernel_rfl
 g4:=by kernel_rfl }
open Go.RowKit Go.Lib in
theorem kzs (s sep:BA) (m:Int) (w:World) (hs:s.size<4294967281) (hm:w.cell? ⟨0,0,none⟩=some (.int .i64 m)) (h1:1<=sep.size):
  Calls prog 86 #[.string s, .string sep] w fun e w'=>e = .returned (.slice (some ⟨w.heap.size,0,none⟩) (Lib.countB s sep+1) (Lib.countB s sep+1))/\w'=w.alloc (.cells ((Lib.splitB sep 0 (Lib.countB s sep) s).map Value.string).toArray 9):=Any.strings_Split k8n (by kernel_rfl) s sep m w hs hm h1
abbrev kaix:FuncId:=43
abbrev cutF:FuncId:=46
abbrev kadl:FuncId:=86
abbrev maxG:Nat:=0
theorem kaly : ∃ fn, prog.funcs[kaix]? = some fn /\ fn.body.isNone = false /\ (fn.name == "runtime.NumGoroutine") = false := ⟨_, func43, by kernel_rfl, by kernel_rfl⟩
def k2h (xs:List BA) (sep:BA):BA:=⟨(Lib.join (xs.map (·.data.toList)) sep.data.toList).toArray⟩
def strings_Join (xs:List BA) (sep:BA):Option BA:=if xs.length<=140737488355328/\(k2h xs sep).size<=140737488355328 then some (k2h xs sep) else none
theorem ktx:∀ (x0:List BA) (x1:BA) r,strings_Join x0 x1=some r->kac prog kaix [(eL 1 eS) x0,eS x1] (eS r):=by
 intro xs sep r h;unfold strings_Join at h;split at h
 ·rename_i n;obtain ⟨g,i⟩:=n;injection h with h;subst h;refine ⟨kaly,fun S w vs hn hr=>?_⟩;obtain ⟨l⟩:=vs
  match l,hn with
  | [u,v],_=>
   have h0:=hr 0 u _ rfl rfl;have h1:=(hr 1 v _ rfl rfl).atom_eq;subst h1;have k:(k2h xs sep).size=(Lib.join (xs.map (·.data.toList)) sep.data.toList).length:=(by simp [k2h,ByteArray.size]);unfold eL at h0;cases h0 with
   | @lst A cap _ _ _ css e1 hc hm hs ha hl m=>
    cases xs with
    | nil=>
     refine (kvq A cap sep w).mono ?_;rintro e w' ⟨rfl,rfl⟩;refine ⟨_,rfl,?_,kai _⟩;exact .atom rfl
    | cons x xs=>
     obtain ⟨b,o,hA,hS,p⟩:=ha 0 (eS x) rfl;subst hA;have a:∀ (j:Nat) y,(x::xs)[j]?=some y->w.cell? ⟨b,o+j,none⟩=some (.string y):=by
      intro j y q;have c:((x::xs).map eS)[j]?=some (eS y):=(by rw [qp,q];rfl);obtain ⟨b',o',q1,q2,q3⟩:=ha j (eS y) c;injection q1 with q1;injection q1 with q1 q4;subst q1 q4;obtain ⟨k1,k2,k3⟩:=hl j (eS y) c
      match d:css j,k1 with
      | [z],_=>
       have s:=(m j (eS y) 0 z (eS y) c (by rw [d];rfl) rfl).atom_eq;have:=q3 0 z (by rw [d];rfl);rw [s] at this;simpa using this
     refine (k0z b o cap (x::xs) sep w a (ky3 (a 0 x rfl)) g hc (by rw [<- k];exact i)).mono ?_;rintro e w' ⟨rfl,f⟩;exact ⟨_,rfl, .atom rfl,⟨f.os,f.tape,f.output,f.size,f.block⟩⟩
 ·cases h
def cutB (s sep:BA):BA×BA×Bool:=(⟨(Lib.cut s.data.toList sep.data.toList).1.toArray⟩,⟨(Lib.cut s.data.toList sep.data.toList).2.1.toArray⟩,(Lib.cut s.data.toList sep.data.toList).2.2)
def kac2 (s sep:BA):Option (BA×BA×Bool):=if s.size<4294967281 then some (cutB s sep) else none
def kvc (s sep:BA):List BA:=Lib.splitB sep 0 (Lib.countB s sep) s
def kzh (s sep:BA):Option (List BA):=if s.size<4294967281/\1<=sep.size/\(kvc s sep).length=Lib.countB s sep+1/\Lib.countB s sep+1<=9223372036854775807 then some (kvc s sep) else none
section
variable {F S0:Nat->Prop} {w:World} {S:Nat->Prop} {ψ:Env} {o:Oper} {st:St} {id:Nat} {ts:Array TypeId} {X Y:Operand} {s sep:BA} {m:Nat} {gs:List (Nat×Array Value)}
theorem k9j (c:∀ id o,kab st.heap id=some o->ObR ψ (·∈st.ids) S w id o) (a:kab st.heap id=some (.glb gs)) (hm:gs[m]?=some (maxG,#[])):∃ n,w.cell? ⟨maxG,0,none⟩=some (.int .i64 n):=by
 obtain ⟨_,_,_,h⟩:=c id _ a;obtain ⟨_,b⟩:=h (maxG,#[]) (qw hm);rcases b with ⟨h0,_⟩ | ⟨_,n,e,d,b⟩;cases h0
 ·exact ⟨n,by simp only [World.cell?,b];rfl⟩
theorem n_cut {v : BA × BA × Bool} (h : kac2 s sep = some v) (l : ∃ fn, prog.funcs[cutF]? = some fn /\ fn.body.isNone = false /\ (fn.name == "runtime.NumGoroutine") = false)
  (ho:o.op = .call { callee := .value (.func cutF),args:=#[X,Y],argTypes:=ts }) (p:st.eval X = .fz (.atom (.string s))) (c:st.eval Y = .fz (.atom (.string sep))) (j:kab st.heap id=some (.glb gs)) (hm:gs[m]?=some (maxG,#[])):
  NStep prog o st (.fz (.tup [eS v.1,eS v.2.1,eB v.2.2])):=by
 unfold kac2 at h;split at h
 ·rename_i hs;injection h with h;subst h;intro ψ S a w ht q;have f:=Sim.eval_tmps ht X;rw [p] at f;have g:=Sim.eval_tmps ht Y;rw [c] at g;obtain ⟨n,hn⟩:=k9j q j hm;unfold kis;rw [kt3 ho l];rw [show (#[X,Y].map a.eval)=#[.string s, .string sep] by simp [f.atom,g.atom]];refine (k2o s sep n w hs hn).mono ?_;rintro e w' ⟨rfl,k,rfl⟩;refine ⟨_,rfl,⟨rfl,rfl,rfl,qy _,fun b r=>rfl⟩, .fz (.tup rfl fun i u y d c=>?_)⟩
  match i with
  | 0=>simp at d c;subst d c;exact .atom rfl
  | 1=>simp at d c;subst d c;exact .atom rfl
  | 2=>simp at d c;subst d c;exact .atom rfl
  | i+3=>simp at d
 ·cases h
theorem kaag {v : List BA} (h : kzh s sep = some v) (p : ∃ fn, prog.funcs[kadl]? = some fn /\ fn.body.isNone = false /\ (fn.name == "runtime.NumGoroutine") = false)
  (ho:o.op = .call { callee := .value (.func kadl),args:=#[X,Y],argTypes:=ts }) (b:st.eval X = .fz (.atom (.string s))) (c:st.eval Y = .fz (.atom (.string sep))) (g:kab st.heap id=some (.glb gs)) (hm:gs[m]?=some (maxG,#[])):
  NStep prog o st (.fz (eL 1 eS v)):=by
 unfold kzh at h;split at h
 ·rename_i hs;obtain ⟨hs,h1,hl,k⟩:=hs;injection h with h;subst h;intro ψ S a w ht q;have d:=Sim.eval_tmps ht X;rw [b] at d;have f:=Sim.eval_tmps ht Y;rw [c] at f;obtain ⟨n,hn⟩:=k9j q g hm;unfold kis;rw [kt3 ho p];rw [show (#[X,Y].map a.eval)=#[.string s, .string sep] by simp [d.atom,f.atom]];refine (kzs s sep n w hs hn h1).mono ?_;rintro e w' ⟨rfl,rfl⟩;refine ⟨_,rfl,kdd _ _, .fz ?_⟩;have hk:∀ (i:Nat) (x:FV),((kvc s sep).map eS)[i]?=some x->∃ y,(kvc s sep)[i]?=some y/\x=eS y:=fun i x b=>by simp only [qp,qm] at b;obtain ⟨y,h1,h2⟩:=b;exact ⟨y,h1,h2.symm⟩
  unfold eL;rw [hl];refine .lst (fun i=>[.string ((kvc s sep).getD i ⟨#[]⟩)]) (by simp [hl]) (qy _) k (by decide) (fun i x b=>?_) (fun i x b=>?_) fun i x j v y b hv c=>?_
  ·obtain ⟨y,h1,rfl⟩:=hk i x b;refine ⟨w.heap.size,0,rfl, .inr (qy _),fun j u l=>?_⟩
   match j with
   | 0=>
    simp only [List.getElem?_cons_zero,ql] at l;subst l;simp only [World.cell?,heap_alloc_new];show ((kvc s sep).map Value.string).toArray[0+i*1+0]?=_;simp [List.getD,h1]
   | j+1=>simp at l
  obtain ⟨y,h1,rfl⟩:=hk i x b;exact ⟨rfl,rfl,fun y c=>by simp [eS,FV.cells] at c;subst c;rfl⟩
  ·obtain ⟨z,h1,rfl⟩:=hk i x b
   match j with
   | 0=>
    simp only [List.getElem?_cons_zero,ql] at hv;simp only [eS,FV.cells,List.getElem?_cons_zero,ql] at c;subst hv c;simp only [List.getD,h1,qa2];exact .atom rfl
   | j+1=>simp at hv
 ·cases h
end
end Go.Proofs.YtaimpcnpifoidaaGreatDoor
