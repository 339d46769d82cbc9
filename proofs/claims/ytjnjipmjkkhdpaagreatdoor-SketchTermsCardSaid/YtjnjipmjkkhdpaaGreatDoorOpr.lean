import Derived.Test.YtjnjipmjkkhdpaaGreatDoorOpm
import Derived.MapKept
import Derived.Laws.OwnMore
import Derived.Recover
import Derived.Laws.CopyRow
import Derived.Laws.IdiomCopy
set_option linter.all false
set_option linter.unusedSectionVars false
namespace Go.Proofs.YtjnjipmjkkhdpaaGreatDoor
open Go Go.RowKit
variable [Dr]
def krs (id:Nat):AV->List Nat
 | .row k m=>bif Nat.beq k id then [m] else []
 | _=>[]
def k1r (id:Nat):AV->List Nat
 | .agg cs=>cs.flatMap (krs id)
 | .fn _ cs=>cs.flatMap (krs id)
 | y=>krs id y
def k7f (id:Nat):AV->List Nat
 | .tup cs=>cs.flatMap (k1r id)
 | y=>k1r id y
def k7g (id:Nat):AObj->List Nat
 | .box _ cs=>cs.flatMap (krs id)
 | _=>[]
variable {F S0:Nat->Prop} {N0:Nat} {w:World} {S:Nat->Prop} {ψ:Env} {K:Nat->Prop} {id n:Nat} {x:FV} {st:St}
end Go.Proofs.YtjnjipmjkkhdpaaGreatDoor
set_option linter.all false
namespace Go.Proofs.YtjnjipmjkkhdpaaGreatDoor
open Go Go.RowKit
variable [Dr]
def kgt {α:Type} (s:BA):List (BA×α)->Nat->Option (Nat×α)
 | [],_=>none
 | (k,v)::l,i=>bif s.toList == k.toList then some (i,v) else kgt s l (i+1)
def mget {α:Type} (m:List (BA×α)) (s:BA) (z:α):α:=match kgt s m 0 with
 | some (_,x)=>x
 | none=>z
def mhas {α:Type} (m:List (BA×α)) (s:BA):Bool:=(kgt s m 0).isSome
def mput {α:Type} (m:List (BA×α)) (s:BA) (y:α):List (BA×α):=match kgt s m 0 with
 | some (j,_)=>m.set j (s,y)
 | none=>m++[(s,y)]
theorem kmh (a b:BA):(a.toList == b.toList)=(a == b):=by
 rw [Bool.eq_iff_iff,beq_iff_eq,MapKept.bytes_beq,ByteArray.toList_eq,ByteArray.toList_eq];constructor;intro h;exact ByteArray.ext (Array.toList_inj.1 h)
 ·intro h;rw [h]
theorem klr {α β:Type} (f:α->β) (s:BA):∀ (m:List (BA×α)) (i:Nat),kgt s (m.map fun p=>(p.1,f p.2)) i=(kgt s m i).map fun p=>(p.1,f p.2)
 | [],_=>rfl
 | (k,v)::l,i=>by
  simp only [qba,kgt];cases s.toList == k.toList with
  | true=>rfl
  | false=>exact klr f s l (i+1)
theorem ky2 {α β:Type} (f:α->β) (m:List (BA×α)) (s:BA) (z:α):mget (m.map fun p=>(p.1,f p.2)) s (f z)=f (mget m s z):=by
 unfold mget;rw [klr];cases kgt s m 0 with
 | none=>rfl
 | some p=>rfl
theorem kzt {α β:Type} (f:α->β) (m:List (BA×α)) (s:BA):mhas (m.map fun p=>(p.1,f p.2)) s=mhas m s:=by
 unfold mhas;rw [klr];cases kgt s m 0 with
 | none=>rfl
 | some p=>rfl
theorem ky6 {α:Type} {s:BA}:∀ {m:List (BA×α)} {i j:Nat} {x:α},kgt s m i=some (j,x)->i<=j/\j - i<m.length/\∃ k,m[j - i]?=some (k,x)/\k=s
 | [],i,j,x,h=>by cases h
 | (k,v)::l,i,j,x,h=>by
  simp only [kgt] at h;cases a:s.toList == k.toList with
  | true=>
   rw [a] at h;simp only [qg,qc,qp] at h;obtain ⟨rfl,rfl⟩:=h;rw [kmh,MapKept.bytes_beq] at a;exact ⟨qv _,by simp,k,by simp,a.symm⟩
  | false=>
   rw [a] at h;obtain ⟨h1,d,k',b,c⟩:=ky6 h;have e:j - i=(j - (i+1))+1:=(by omega);exact ⟨by omega,by simp;omega,k',by rw [e,qbo];exact b,c⟩
variable {P:Program} {F S0:Nat->Prop} {N0:Nat} {w w':World} {S S':Nat->Prop} {ψ:Env} {K:Nat->Prop} {T:List (TypeId×TD)} {o:Oper} {a:Act} {st:St} {t:TypeId} {d:TD} {id:Nat}
theorem kob (s:BA) {R:Value->FV->Prop}:∀ (es:List MapEntry) (kv:List (BA×FV)) (i:Nat),es.length=kv.length->(∀ (j:Nat) (e:MapEntry) (p:BA×FV),es[j]?=some e->kv[j]?=some p->e.key = .string p.1/\R e.val p.2) ->
  (Instr.findNow .string (.string s) es i=some none/\kgt s kv i=none)\/∃ j v x,Instr.findNow .string (.string s) es i=some (some (j,v))/\kgt s kv i=some (j,x)/\R v x
 | [],[],i,_,_ => .inl ⟨rfl,rfl⟩
 | [],p::kv,i,h,_=>by cases h
 | e::es,[],i,h,_=>by cases h
 | e::es,(k,x)::kv,i,h,hr=>by
  obtain ⟨hk,hv⟩:=hr 0 e (k,x) rfl rfl;simp only [Instr.findNow,hk,Instr.sameNow,kgt,kmh];cases b:s == k with
  | true=>exact .inr ⟨i,e.val,x,rfl,rfl,hv⟩
  | false=>exact kob s es kv (i+1) (by simpa using h) fun j e p a hp=>hr (j+1) e p (by simpa using a) (by simpa using hp)
theorem TdOk.mp {k e:Nat} (h:TdOk P t d) (hk:d.kind = .map k e):P.underlying t=some (.map k e):=by obtain ⟨_,e',h1,a⟩:=h;rw [hk] at a;cases e' <;> simp [ker] at a;rw [h1,a.1,a.2]
theorem k3i (g:o.op = .makeMap t none:=by kernel_rfl) (d:st.ids.contains id=false:=by kernel_rfl):StepA P o st (.mp id) ((id, .smap [])::st.heap) (id::st.ids):=by
 have d:id∉st.ids:=by simpa using d
 intro F S0 N0 ψ S a w f;have c:=f.core;refine kad (w.alloc (.map #[] 0)) (.map (some w.heap.size)) ?_ ⟨ψ.set id 0 (.map (some w.heap.size)),S,?_,?_,kgj _ c.fr,ka3 d _ _,fun _ h=>qf _ h,fun _ h=>h,Same.of_grow (ka7 _ _)⟩;simp [execOp,g,Instr.makeMap];exact c.add (ka7 _ _) d (fun b j=>by simp [kap] at j;omega) ⟨kbf _ _,w.heap.size,_,_,kaj _ _,heap_alloc_new w _,rfl,fun i e p k hp=>by simp at k⟩
 ·exact .mp (qt ..) rfl fun _=>by rw [kaj]
theorem k37 {kv:List (BA×FV)} {v:Value} (hs:ObR ψ K S w id (.smap kv)) (hv:RV ψ K S w v (.mp id)):v=ψ.val id:=by
 cases hv with
 | mp hK h1 hv=>exact hv hs.1.symm
theorem kz2 {α:Type} (enc:α->FV) (m:List (BA×α)) (s:BA) (z:α) (x y v:Operand) (kt et:TypeId) (kd:TD) (ho:o.op = .mapUpdate t x y v) (hT:TOk P T) (hd:kac T t=some d) (hk:d.kind = .map kt et) (l:kac T kt=some kd) (I:kd.kind = .str:=by kernel_rfl) (hx:st.eval x = .mp id:=by kernel_rfl) (K:kaa st.heap id=some (.smap (m.map fun p=>(p.1,enc p.2))):=by kernel_rfl) (hy:st.eval y = .fz (.atom (.string s)):=by kernel_rfl) (hv:st.eval v = .fz (enc z):=by kernel_rfl):StepA P o st .any ((id, .smap ((mput m s z).map fun p=>(p.1,enc p.2)))::st.heap) st.ids:=by
 intro F S0 N0 ψ S a w D;have hd:=hT.get hd;have l:=hT.get l;have r:=D.core;obtain ⟨af,L,Z⟩:=r.obj id _ K;have M:=D.eval x;rw [hx] at M;have N:=k37 L M;obtain ⟨h0,b,es,clock,g,E,A,hr⟩:=L;have B:=D.eval y;rw [hy] at B;have B:=B.atom;have C:=D.eval v;rw [hv] at C;have C:=C.inv;have O:=MapKept.run_checkKey (w:=w) (l.str I) (k := .string s) trivial false 9999;have G:ψ.set id 0 (ψ.val id)=ψ:=by
  unfold Env.set;congr 1
  ·funext i;split;rename_i h;rw [h,h0]
   ·rfl
  ·funext i;split;rename_i h;rw [h]
   ·rfl
 have main:∀ (es':Array MapEntry) (clock':Nat),es'.size=(mput m s z).length ->
   (∀ (i:Nat) (e:MapEntry) (p:BA×FV),es'[i]?=some e->((mput m s z).map fun p=>(p.1,enc p.2))[i]?=some p->e.key = .string p.1/\RF S w e.val p.2) ->
   (execOp a.eval o).run P w = .ok .skip { w with heap:=w.heap.setIfInBounds b (.map es' clock') } ->
   kce P o a w fun v w'=>∃ ψ' S',Core F S0 N0 ((id, .smap ((mput m s z).map fun p=>(p.1,enc p.2)))::st.heap) st.ids ψ' S' w'/\RV ψ' (·∈st.ids) S' w' v .any/\Fr F w w'/\Ext (·∈st.ids) ψ ψ'/\(∀ id,id∈st.ids->id∈st.ids)/\(∀ b,S b->S' b)/\Same S w w':=by
  intro es' clock' Q aa U;obtain ⟨g1,g2⟩:=MapKept.heap_set (o' := .map es' clock') E;have ae:({ w with heap:=w.heap.setIfInBounds b (.map es' clock') }:World).heap.size=w.heap.size:=by simp
  have H:∀ k,k<w.heap.size->¬ Blk (ψ.val id) k->({ w with heap:=w.heap.setIfInBounds b (.map es' clock') }:World).heap[k]?=w.heap[k]?:=fun k _ hk=>g2 k fun e=>hk (.of (by rw [g,e];rfl));have hk:Same S w { w with heap:=w.heap.setIfInBounds b (.map es' clock') }:=fun k hk hl=>H k hl fun e=>(Z k e).1 hk;obtain ⟨c1,c2,c3⟩:=r.upd (n:=0) (v:=ψ.val id) (w':={ w with heap:=w.heap.setIfInBounds b (.map es' clock') }) (ob' := .smap ((mput m s z).map fun p=>(p.1,enc p.2))) K (by omega) H (.inr ⟨h0,rfl⟩) (fun b E => .inl E) (by rw [G];refine ⟨h0,b,es',clock',g,g1,by simpa using Q,fun i e p c hp=>?_⟩;obtain ⟨q1,q2⟩:=aa i e p c hp;exact ⟨q1,q2.keep hk⟩);rw [G] at c1;exact kin _ U ⟨ψ,S,c1, .any,⟨rfl,rfl,rfl,by omega,c3,fun _=>qv _⟩,Ext.refl,fun _ h=>h,fun _ h=>h,c2⟩
 have ab:∀ (j:Nat) (e:MapEntry) (p:BA×FV),es.toList[j]?=some e->(m.map fun p=>(p.1,enc p.2))[j]?=some p->e.key = .string p.1/\RF S w e.val p.2:=fun j e p c hp=>hr j e p (by simpa using c) hp;rcases kob s (R:=fun v x=>RF S w v x) es.toList (m.map fun p=>(p.1,enc p.2)) 0 (by simpa using A) ab with ⟨f1,f2⟩ | ⟨j,u,x',f1,f2,f3⟩
 ·have hf:=MapKept.run_findKey (w:=w) (l.str I) f1;have ac:kgt s m 0=none:=by
   rw [klr] at f2;cases hq:kgt s m 0 with
   | none=>rfl
   | some q=>rw [hq] at f2;cases f2
  have f:mput m s z=m++[(s,z)]:=by unfold mput;rw [ac]
  refine main (es.push { key := .string s,val:=a.eval v,born:=clock }) (clock+1) (by rw [f];simpa using A) (fun i e p c hp=>?_) ?_
  ·rw [f,List.map_append] at hp;rw [Array.getElem?_push] at c;have V:es.size=(m.map fun p=>(p.1,enc p.2)).length:=A;by_cases hi:i=es.size;rw [qr hi] at c;injection c with c;subst c;rw [qad (by omega),hi,V,Nat.sub_self] at hp;simp only [qba,List.map_nil,List.getElem?_cons_zero,qc] at hp;subst hp;exact ⟨rfl,C⟩
   ·rw [qj hi] at c;have ag:i<es.size:=(qai.1 c).1;rw [qab (by omega)] at hp;exact hr i e p c hp
  ·simp [execOp,ho,B,N,g,Instr.mapUpdate,run_underlying (hd.mp hk),MapKept.run_getObj_map E,O,hf,MapKept.run_setObj_map _ E]
 ·have hf:=MapKept.run_findKey (w:=w) (l.str I) f1;rw [klr,qn] at f2;obtain ⟨⟨j',x0⟩,f4,f5⟩:=f2;simp only [qp] at f5;obtain ⟨rfl,rfl⟩:=f5;obtain ⟨_,l2,k,l3,rfl⟩:=ky6 f4;simp only [Nat.sub_zero] at l2 l3;have f:mput m k z=m.set j' (k,z):=by unfold mput;rw [f4]
  have ad:j'<es.size:=by rw [A,qs];exact l2
  have J:es[j']?=some es[j']:=qay ad;have X:es[j'].key = .string k:=(hr j' _ (k,enc x0) J (by rw [ql,l3];rfl)).1;refine main (es.modify j' fun e=>{ e with key := .string k,val:=a.eval v }) clock (by rw [f];simpa using A) (fun i e p c hp=>?_) ?_
  ·rw [f,List.map_set] at hp;rw [qbs] at c;by_cases hi:j'=i;subst hi;rw [qr rfl,J] at c;simp only [qa1,qc] at c;subst c;rw [List.getElem?_set_self (by rw [qs];exact l2)] at hp;injection hp with hp;subst hp;exact ⟨rfl,C⟩
   ·rw [qj hi] at c;rw [List.getElem?_set_ne hi] at hp;exact hr i e p c hp
  ·have Y:(Instr.keyThatStays (((es[j']?).map (·.key)).getD (.string k)) (.string k)).run P w = .ok (.string k) w:=(by rw [J];simp only [qa1,qbh,X];exact MapKept.run_keyThatStays (d := .string) trivial);simp [execOp,ho,B,N,g,Instr.mapUpdate,run_underlying (hd.mp hk),MapKept.run_getObj_map E,O,hf,MapKept.run_setObj_map _ E];simp [Y,MapKept.run_setObj_map _ E]
end Go.Proofs.YtjnjipmjkkhdpaaGreatDoor
set_option linter.all false
namespace Go.Proofs.YtjnjipmjkkhdpaaGreatDoor
open Go Go.RowKit
variable [Dr]
mutual
def depV:Va->Nat
 | .mk _ _ _ l=>kmp l+1
def kmp:List Va->Nat
 | []=>0
 | x::l=>Nat.max (depV x) (kmp l)
end
def k3t (st:St) (c:C1) (x:Operand):Option AV:=match co1 c (st.eval x) with
 | .fz y=>some (.fz y)
 | .fn f []=>some (.fn f [])
 | _=>none
def kon (st:St):List C1->List Operand->Option (List AV)
 | [],[]=>some []
 | c::cs,x::xs=>match k3t st c x,kon st cs xs with
  | some y,some ys=>some (y::ys)
  | _,_=>none
 | _,_=>none
variable {P:Program} {F S0:Nat->Prop} {N0:Nat} {w w':World} {S S':Nat->Prop} {ψ:Env} {K:Nat->Prop} {T:List (TypeId×TD)} {o:Oper} {a:Act} {st:St} {t:TypeId} {d:TD}
theorem kth {ids:List Nat} (h:∀ t,RV ψ (·∈ids) S w (a.tmps.getD t undef) (st.get t)):∀ {cs:List C1} {xs:List Operand} {ys:List AV},kon st cs xs=some ys ->
  ys.length=xs.length/\∀ (i:Nat) (x:Operand) (y:AV),xs[i]?=some x->ys[i]?=some y->∀ ψ0,RV ψ0 (·∈[]) S w (a.eval x) y
 | [],[],ys,h=>by simp only [kon,qc] at h;subst h;exact ⟨rfl,fun i x y h=>by simp at h⟩
 | c::cs,x::xs,ys,b=>by
  simp only [kon] at b;split at b
  ·rename_i y ys' h1 e;injection b with b;subst b;obtain ⟨e1,e2⟩:=kth h e;refine ⟨by simp [e1],fun i x' y' hx hy=>?_⟩;cases i with
   | zero=>
    simp at hx hy;subst hx hy;unfold k3t at h1;have hv:=klp c (Sim.eval_tmps h x);split at h1;rename_i z d;injection h1 with h1;subst h1;rw [d] at hv;exact fun ψ0 => .fz hv.inv
    ·rename_i f d;injection h1 with h1;subst h1;rw [d] at hv;intro ψ0;generalize a.eval x=u at hv;cases hv with
     | fn h hr=>exact .fn h fun i v x hv hx=>by simp at hx
    ·cases h1
   | succ i=>exact e2 i x' y' (by simpa using hx) (by simpa using hy)
  ·cases b
 | [],_::_,ys,h=>by cases h
 | _::_,[],ys,h=>by cases h
theorem k8p (f:FuncId) (args:Array Operand) (ts:Array TypeId) (cs:List C1) {as_:List AV} {res:AV} {post:List (Nat×AObj)} {ids1:List Nat} {r:FV} (k:o.op = .call { callee := .value (.func f),args:=args,argTypes:=ts }) (hc:kon st cs args.toList=some as_) (hp:HCall P f (as_++[]) [] [] (.ret res) post ids1) (hr:res = .fz r\/∃ (id n:Nat) (e:TypeId) (size:Nat) (xs:List FV),res = .row id n/\kaa post id=some (.frow e size xs)/\n=xs.length/\r = .lst size n xs):NStep P o st (.fz r):=by
 intro ψ S a w ht p;rw [List.append_nil] at hp;obtain ⟨e1,e2⟩:=kth (fun t=>(ht t).bound) hc;unfold kce;rw [kqs k hp.1];refine (hp.2 (fun b=>b<w.heap.size) (fun b=>S b/\b<w.heap.size) w.heap.size ψ (fun b=>S b/\b<w.heap.size) w (args.map a.eval) (by simp [e1]) (fun i v x hv hx=>?_) ⟨fun id o h=>(by cases h),fun id id' o o' b h=>(by cases h),fun b h=>h.2,fun b h => .inl h,qv _,fun b h=>h⟩).mono ?_;simp only [Array.getElem?_map,qn] at hv;obtain ⟨y,hy,rfl⟩:=hv;exact e2 i y x (by simpa using hy) hx ψ
 ·rintro e w' ⟨ψ',S',⟨v,rfl,hv⟩,c,d,_,_,hS,_⟩;have l:Grow w w':=⟨⟨d.os,d.tape,d.output,d.size,fun b g=>d.block b g⟩,d.drawn⟩;refine ⟨v,rfl,l, .fz ?_⟩;rcases hr with rfl | ⟨id,n,e,size,xs,rfl,j,rfl,rfl⟩;exact hv.inv.mono fun b g=>(c.s0 b g).imp And.left id
  ·obtain ⟨c1,c2⟩:=kle c j;obtain ⟨_,k2,k3⟩:=c.obj id _ j;have h0:=k2.1;cases hv with
   | row hK m h1 hv=>
    rw [hv (by rw [h0])];exact c2.mono fun b g=>g.elim (fun g=>(c.s0 b g).imp And.left _root_.id) fun g=>((k3 b (.of g)).2.2).imp And.left _root_.id
end Go.Proofs.YtjnjipmjkkhdpaaGreatDoor
set_option linter.all false
namespace Go.Proofs.YtjnjipmjkkhdpaaGreatDoor
open Go Go.RowKit
variable [Dr]
def mkL {α:Type} (bytes:Nat) (z:α) (n:Int):Option (List α):=if 0<=n/\(bytes:Int)*n<=281474976710656/\n<=9223372036854775807 then some (List.replicate n.toNat z) else none
theorem ks0 {α:Type} {bytes:Nat} {z:α} {n:Int} {xs:List α} (h:mkL bytes z n=some xs):xs=List.replicate n.toNat z/\0<=n/\(bytes:Int)*n<=281474976710656/\n<=9223372036854775807:=by
 unfold mkL at h;split at h;rename_i hc;injection h with h;exact ⟨h.symm,hc⟩
 ·cases h
variable {P:Program} {F S0:Nat->Prop} {N0:Nat} {w w':World} {S S':Nat->Prop} {ψ:Env} {K:Nat->Prop} {T:List (TypeId×TD)} {o:Oper} {a:Act} {st:St} {t:TypeId} {d:TD} {id:Nat}
theorem k3o {α:Type} (enc:α->FV) {bytes:Nat} {z:α} {n:Int} {xs:List α} (X Y:Operand) (e:TypeId) (de:TD) (k k':IntKind) (zv:Value) (h:mkL bytes z n=some xs) (M:TOk P T) (D:de.size=1) (E:de.zero=[zv]) (q:enc z = .atom zv) (r:zv.oneCell'=true) (G:de.bytes=bytes) (hx:st.eval X = .fz (.atom (.int k n)):=by kernel_rfl) (hy:st.eval Y = .fz (.atom (.int k' n)):=by kernel_rfl) (f:st.ids.contains id=false:=by kernel_rfl) (N:o.op = .makeSlice t X Y:=by kernel_rfl) (hd:kac T t=some d:=by kernel_rfl) (hk:d.kind = .slice e:=by kernel_rfl) (m:kac T e=some de:=by kernel_rfl):
  StepA P o st (.row id xs.length) ((id, .frow e 1 (xs.map enc))::st.heap) (id::st.ids):=by
 have f:id∉st.ids:=by simpa using f
 obtain ⟨rfl,h0,H,I⟩:=ks0 h;have hd:=M.get hd;have m:=M.get m;subst G;intro F S0 N0 ψ S a w p;have g:=p.eval X;rw [hx] at g;have g:=g.atom;have l:=p.eval Y;rw [hy] at l;have l:=l.atom;obtain ⟨⟨i,z',hi,J,K,O,L⟩,_⟩:=m;have c:=p.core;have hcl:z'.cells=#[zv]:=by apply qbj;rw [L,E]
 have hr:=run_make (P:=P) w t e i z' (hd.slice hk) hi O k k' n n h0 (Int.le_refl _) (by rw [K];exact H) I;rw [J,D,hcl,qbg] at hr;have s:Grow w (w.alloc (.cells (madeCells #[zv] n.toNat) e)):=ka7 _ _;have u:(List.replicate n.toNat z).length=n.toNat:=qbf;rw [u];refine kad (w.alloc (.cells (madeCells #[zv] n.toNat) e)) (.slice (some ⟨w.heap.size,0,none⟩) n.toNat n.toNat) ?_ ⟨ψ.set id n.toNat (.slice (some ⟨w.heap.size,0,none⟩) n.toNat n.toNat),S,?_,?_,kgj _ c.fr,ka3 f _ _,fun _ h=>qf _ h,fun _ h=>h,Same.of_grow s⟩;simp [execOp,N,g,l,hr]
 ·refine c.add s f (fun b H=>by simp [kap] at H;omega) ⟨by rw [kbf];simp,by omega,(madeCells #[zv] n.toNat).toList,?_,fun x hx=>?_,fun i x j v y hx hv hy=>?_⟩;rw [kaj];have:=World.ownsRow_lit (base:=0) (size:=1) (e:=e) w (madeCells #[zv] n.toNat) n.toNat (qaq _) (by unfold maxLen;omega) (by rw [size_madeCells,qbg]);simpa using this;simp only [List.map_replicate,qbk] at hx;rw [hx.2,q];refine ⟨rfl,fun y hy=>?_⟩;simp [FV.cells] at hy;subst hy;exact r
  ·have A:=qm hx;simp only [List.map_replicate,qbk] at A;rw [A.2,q] at hy;rw [toList_madeCells_one] at hv;have B:=qm hv;rw [qbk] at B;rw [B.2];have C:=qm hy;simp [FV.cells] at C;subst C;exact .atom r
 ·exact .row (qt ..) (by rw [kbf];exact qv _) rfl fun _=>by rw [kaj]
theorem koa {v:Value} {e:TypeId} {n:Nat} {cs:List Value} (h:w.ownsRow 0 e 1 v n cs) (hn:0<n:=by omega):∃ g cap cur,v = .slice (some ⟨g,0,none⟩) n cap/\w.heap[g]?=some (.cells cur e (0,0))/\n<=cap/\cap<=maxLen/\cur.size=cap/\cur.toList.take n=cs:=by
 rcases h.2 with ⟨_,h0⟩ | ⟨g,cap,cur,hv,_,a,h1,b,c,d⟩;omega
 ·exact ⟨g,cap,cur,hv,a,h1,b,by simpa using c,by simpa using d⟩
theorem klu (t:TypeId) (d:TD) (id:Nat) {α:Type} (enc:α->FV) (xs:List α) {x:α} {i:Int} (X Y:Operand) (e:TypeId) (de:TD) (k:IntKind) (n:Nat) (h:idx xs i=some x) (q:TOk P T:=by exact kao) (hy:st.eval Y = .fz (.atom (.int k i)):=by kernel_rfl) (r:o.op = .indexAddr t X Y:=by kernel_rfl) (hd:kac T t=some d:=by kernel_rfl) (hk:d.kind = .slice e:=by kernel_rfl) (j:kac T e=some de:=by kernel_rfl) (s:de.size=1:=by kernel_rfl) (hx:st.eval X = .row id n:=by kernel_rfl) (p:kaa st.heap id=some (.frow e 1 (xs.map enc)):=by kernel_rfl) (hn:n=xs.length:=by rfl):NStep P o st (.ref id n i.toNat):=by
 intro ψ S a w ht y;subst hn;have hd:=q.get hd;have j:=q.get j;unfold idx at h;split at h
 ·rename_i h0;have z:i.toNat<xs.length:=(qd.1 h).1;have l:=Sim.eval_tmps ht X;rw [hx] at l;have b:=Sim.eval_tmps ht Y;rw [hy] at b;have b:=b.atom;obtain ⟨hl,_,cs,c,_,_⟩:=y id _ p;rw [qs] at hl c;obtain ⟨g,cap,cur,f,B,_⟩:=koa c;have hK:id∈st.ids/\a.eval X=ψ.val id:=by
   generalize a.eval X=u at l;cases l with
   | row hK A h1 hv=>exact ⟨hK,hv hl.symm⟩
  refine kad w (.pointer (some ⟨g,i.toNat,none⟩)) ?_ ⟨kae _, .ref hK.1 (by omega) rfl fun _=>⟨g,by rw [f];rfl,rfl⟩⟩;have m:i<(xs.length:Int):=by omega
  simp [execOp,r,hK.2,f,b,Instr.indexAt,asIntOf,run_underlying (hd.slice hk),h0,m,j.size,s,kbg]
 ·cases h
theorem kwt {α:Type} (enc:α->FV) (xs:List α) (x:α) (i:Int) (X:Operand) (n:Nat) (h:idx xs i=some x) (q:TOk P T) (hn:n=xs.length) (r:o.op = .load t X:=by kernel_rfl) (hd:kac T t=some d:=by kernel_rfl) (hk:d.kind.agg=false:=by kernel_rfl) (hx:st.eval X = .ref id n i.toNat:=by kernel_rfl) (k:kaa st.heap id=some (.frow t 1 (xs.map enc)):=by kernel_rfl) (l:∀ y,(enc y).cells=[enc y]:=by exact fun _=>rfl):NStep P o st (.fz (enc x)):=by
 intro ψ S a w ht s;subst hn;have hd:=q.get hd;unfold idx at h;split at h
 ·rename_i h0;have z:i.toNat<xs.length:=(qd.1 h).1;have f:=Sim.eval_tmps ht X;rw [hx] at f;obtain ⟨hl,_,cs,c,_,hr⟩:=s id _ k;rw [qs] at hl c;obtain ⟨g,cap,cur,e,E,A,hc2,B,C⟩:=koa c;have hp:a.eval X = .pointer (some ⟨g,i.toNat,none⟩):=by
   generalize a.eval X=u at f;cases f with
   | ref hK D h1 hv=>
    obtain ⟨b,m,rfl⟩:=hv hl.symm;rw [e] at m;simp only [kap,qc] at m;rw [m]
  have p:cs[i.toNat]?=some (cs[i.toNat]'(by rw [c.1];omega)):=qa _;have j:w.cell? ⟨g,i.toNat,none⟩=some (cs[i.toNat]'(by rw [c.1];omega)):=by rw [e] at c;rw [World.ownsRow.cellAt c i.toNat (by omega),p]
  refine kad w (cs[i.toNat]'(by rw [c.1];omega)) ?_ ⟨kae _, .fz ((hr i.toNat (enc x) 0 _ (enc x) (by rw [ql,h];rfl) (by simp) (by rw [l];rfl)).mono fun _ h => .inl h)⟩;simp [execOp,r,hp,Instr.loadAt,Instr.sureAddr,loadVar,hd.isAgg,hk,j]
 ·cases h
theorem kpe (d:TD) (id:Nat) {α:Type} (enc:α->FV) (xs:List α) (x y:α) (i:Int) (X Y:Operand) (n:Nat) (h:idx xs i=some x) (hT:TOk P T) (hn:n=xs.length) (ho:o.op = .store t X Y:=by kernel_rfl) (hd:kac T t=some d:=by kernel_rfl) (hz:d.size=1:=by kernel_rfl) (hx:st.eval X = .ref id n i.toNat:=by kernel_rfl) (I:kaa st.heap id=some (.frow t 1 (xs.map enc)):=by kernel_rfl) (hy:st.eval Y = .fz (enc y):=by kernel_rfl) (D:∀ y,∃ u,enc y = .atom u/\u.oneCell'=true:=by exact fun _=>⟨_,rfl,rfl⟩):StepA P o st .any ((id, .frow t 1 ((xs.set i.toNat y).map enc))::st.heap) st.ids:=by
 subst hn;intro F S0 N0 ψ S a w E;have hd:=hT.get hd;unfold idx at h;split at h
 ·rename_i h0;have ab:i.toNat<xs.length:=(qd.1 h).1;have f:=E.core;obtain ⟨ac,⟨hl,J,cs,l,ad,hr⟩,Q⟩:=f.obj id _ I;rw [qs] at hl l;have hcl:cs.length=xs.length:=by rw [l.1,qbg]
  obtain ⟨g,cap,cur,m,hg,R,hc2,U,V⟩:=koa l;have G:=E.eval X;rw [hx] at G;have hp:a.eval X = .pointer (some ⟨g,i.toNat,none⟩):=by
   generalize a.eval X=u at G;cases G with
   | ref hK ae h1 hv=>
    obtain ⟨b,K,rfl⟩:=hv hl.symm;rw [m] at K;simp only [kap,qc] at K;rw [K]
  obtain ⟨u,hu,H⟩:=D y;have p:=E.eval Y;rw [hy,hu] at p;have p:=p.atom;have L:u.cells=#[u]:=by cases u <;> first | rfl | cases H
  have hst:=run_storeCells_at (P:=P) g i.toNat t [u] 0 cur w hg (by simp;omega) (fun v hv=>by simp at hv;rw [hv];exact H);obtain ⟨new,s⟩:∃ new:Array Value,new=(cur.toList.take (i.toNat+0)++[u]++cur.toList.drop (i.toNat+0+[u].length)).toArray:=⟨_,rfl⟩;rw [<- s] at hst;have M:new.toList=cur.toList.set i.toNat u:=by rw [s,List.set_eq_take_append_cons_drop,qr (by simp;omega)];simp
  have Z:new.size=cap:=by rw [<- qac,M,List.length_set,qac,U]
  have A:∀ k,k<w.heap.size->¬ Blk (ψ.val id) k->(w.setRow g new).heap[k]?=w.heap[k]?:=fun k _ hk=>kgd g new k fun e=>hk (.of (by rw [m,e];rfl));have af:(w.setRow g new).heap.size=w.heap.size:=by simp [World.setRow]
  have B:ψ.set id xs.length (ψ.val id)=ψ:=by
   unfold Env.set;congr 1
   ·funext j;split;rename_i N;rw [N,hl]
    ·rfl
   ·funext j;split;rename_i N;rw [N]
    ·rfl
  have hk:Same S w (w.setRow g new):=fun k hk hl=>A k hl fun e=>(Q k e).1 hk;obtain ⟨c1,c2,c3⟩:=f.upd (n:=xs.length) (v:=ψ.val id) (w':=w.setRow g new) (ob' := .frow t 1 ((xs.set i.toNat y).map enc)) I (by omega) A (.inr ⟨hl,rfl⟩) (fun b K => .inl K) (by
   rw [B];refine ⟨by simp [hl],J,cs.set i.toNat u,?_,fun z r=>?_,fun k z j v q r hv C=>?_⟩;rw [qs,List.length_set,m];refine ⟨by rw [List.length_set,hcl,qbg], .inr ⟨g,cap,new,rfl,qaq _,ke4 g hg,R,hc2,by rw [Z,qbg],?_⟩⟩;rw [qbg,M,List.take_set,V];obtain ⟨z0,_,rfl⟩:=qap.1 r;obtain ⟨u0,h1,h2⟩:=D z0;rw [h1];exact ⟨rfl,fun q C=>by simp [FV.cells] at C;subst C;exact h2⟩
   ·obtain ⟨z0,c,rfl⟩:∃ z0,(xs.set i.toNat y)[k]?=some z0/\enc z0=z:=(by rw [ql,qn] at r;exact r);obtain ⟨u0,h1,h2⟩:=D z0;have N:j=0:=(by rw [h1] at C;have:=(qd.1 C).1;simp [FV.cells] at this;exact this);subst N;have aa:q=enc z0:=(by rw [h1] at C ⊢; simp [FV.cells] at C;exact C.symm);subst aa;simp only [qbg,Nat.add_zero] at hv;by_cases O:i.toNat=k;subst O;rw [List.getElem?_set_self (by omega)] at hv c;injection hv with hv;injection c with c;subst hv c;rw [hu];exact .atom H
    ·rw [List.getElem?_set_ne O] at hv c;exact (hr k (enc z0) 0 v (enc z0) (by rw [ql,c];rfl) (by simpa using hv) (by rw [h1];rfl)).keep hk)
  rw [B] at c1;refine kin (w.setRow g new) ?_ ⟨ψ,S,c1, .any,⟨rfl,rfl,rfl,by omega,c3,fun _=>qv _⟩,Ext.refl,fun _ h=>h,fun _ h=>h,c2⟩;simp only [execOp,ho,Instr.storeAt,hp,p,Instr.sureAddr,storeVar,hd.size,Sem.run_bind,Sem.run_pure,Result.andThen_ok];rw [qj (by rw [L,hz];simp)];simp [L,hst]
 ·cases h
def rel1 (id n:Nat):AV->AV
 | .row k m=>bif Nat.beq k id then .row k n else .row k m
 | y=>y
def relG (id n:Nat):AV->AV
 | .agg cs => .agg (cs.map (rel1 id n))
 | .fn f cs => .fn f (cs.map (rel1 id n))
 | y=>rel1 id n y
def relT (id n:Nat):AV->AV
 | .tup cs => .tup (cs.map (relG id n))
 | y=>relG id n y
def relO (id n:Nat):AObj->AObj
 | .box e cs => .box e (cs.map (rel1 id n))
 | y=>y
def kvg (id:Nat) (st:St):List Nat:=st.tmps.flatMap (fun p=>k7f id p.2)++st.heap.flatMap (fun p=>k7g id p.2)
def kxn (id n:Nat) (st:St):St:={ dfr:=st.dfr,n:=st.n,tmps:=st.tmps.map (fun p=>(p.1,relT id n p.2)),heap:=st.heap.map (fun p=>(p.1,relO id n p.2)),ids:=st.ids }
theorem krq {id n:Nat} {y:AV} (h:∀ m∈krs id y,m=n):rel1 id n y=y:=by
 cases y with
 | row k m=>
  simp only [rel1];cases a:Nat.beq k id with
  | false=>rfl
  | true=>rw [h m (by simp [krs,a])];rfl
 | _=>rfl
theorem kkr {α:Type} {f:α->α} {l:List α} (h:∀ x∈l,f x=x):l.map f=l:=by rw [List.map_congr_left h];simp
theorem krf {id n:Nat} (y:AV) (h:∀ m∈k1r id y,m=n):relG id n y=y:=by
 cases y with
 | agg cs=>exact qa2 AV.agg (kkr fun x hx=>krq fun m hm=>h m (qbc.2 ⟨x,hx,hm⟩))
 | fn f cs=>exact qa2 (AV.fn f) (kkr fun x hx=>krq fun m hm=>h m (qbc.2 ⟨x,hx,hm⟩))
 | row k m=>exact krq (y := .row k m) h
 | _=>rfl
theorem k99 {id n:Nat} {y:AV} (h:∀ m∈k7f id y,m=n):relT id n y=y:=by
 cases y with
 | tup cs=>exact qa2 AV.tup (kkr fun x hx=>krf _ fun m hm=>h m (qbc.2 ⟨x,hx,hm⟩))
 | agg cs=>exact krf (.agg cs) h
 | fn f cs=>exact krf (.fn f cs) h
 | row k m=>exact krf (.row k m) h
 | _=>rfl
theorem k9w {id n:Nat} {y:AObj} (h:∀ m∈k7g id y,m=n):relO id n y=y:=by
 cases y with
 | box e cs=>exact qa2 (AObj.box e) (kkr fun x hx=>krq fun m hm=>h m (qbc.2 ⟨x,hx,hm⟩))
 | _=>rfl
theorem k5y {st:St} (id:Nat) {k m n:Nat} (h:kvg id st=List.replicate k m) (hmn:m=n):LeSt st (kxn id n st):=by
 have a:∀ x∈kvg id st,x=n:=fun x hx=>by rw [h] at hx;rw [(qbk.1 hx).2,hmn]
 have:kxn id n st=st:=by
  unfold kxn;have h1:st.tmps.map (fun p=>(p.1,relT id n p.2))=st.tmps:=kkr fun p hp=>by rw [k99 fun m hm=>a m (qaz.2 (.inl (qbc.2 ⟨p,hp,hm⟩)))]
  have b:st.heap.map (fun p=>(p.1,relO id n p.2))=st.heap:=kkr fun p hp=>by rw [k9w fun m hm=>a m (qaz.2 (.inr (qbc.2 ⟨p,hp,hm⟩)))]
  rw [h1,b]
 rw [this];exact LeSt.refl
end Go.Proofs.YtjnjipmjkkhdpaaGreatDoor
set_option linter.all false
set_option linter.unusedSectionVars false
namespace Go.Proofs.YtjnjipmjkkhdpaaGreatDoor
open Go Go.RowKit
variable [Dr]
def kqi:List FV->Option (List Value)
 | []=>some []
 | .atom v::l=>match kqi l with
  | some r=>some (v::r)
  | none=>none
 | _::_=>none
def toV:AV->Option Value
 | .fz (.atom v)=>bif v.oneCell' then some v else none
 | .fz (.agg xs)=>match kqi xs with
  | some l=>bif l.all (·.oneCell') then some (.agg l.toArray) else none
  | none=>none
 | _=>none
def ofV:Value->Option FV
 | .agg cs=>bif cs.toList.all (·.oneCell') then some (.agg (cs.toList.map .atom)) else none
 | .tuple _=>none
 | v=>some (.atom v)
variable {P:Program} {w w':World} {S S':Nat->Prop} {ψ:Env} {K:Nat->Prop} {T:List (TypeId×TD)} {o:Oper} {a:Act} {st:St} {t:TypeId} {d:TD}
theorem kvt:∀ {xs:List FV} {l:List Value},kqi xs=some l->xs=l.map .atom
 | [],l,h=>by simp only [kqi,qc] at h;subst h;rfl
 | .atom v::xs,l,h=>by
  simp only [kqi] at h;split at h;rename_i r hr;injection h with h;subst h;rw [kvt hr];rfl
  ·cases h
 | .agg _::_,l,h=>by cases h
 | .tup _::_,l,h=>by cases h
 | .lst _ _ _::_,l,h=>by cases h
 | .fp _::_,l,h=>by cases h
 | .bx _::_,l,h=>by cases h
theorem kab3 {u v:Value} {x:AV} (h:RV ψ K S w u x) (hx:toV x=some v):u=v:=by
 unfold toV at hx;split at hx
 ·rename_i v';cases b:v'.oneCell' with
  | false=>rw [b] at hx;cases hx
  | true=>rw [b] at hx;injection hx with hx;subst hx;exact h.atom
 ·rename_i xs;split at hx
  ·rename_i l hl;cases b:l.all (·.oneCell') with
   | false=>rw [b] at hx;cases hx
   | true=>
    rw [b] at hx;injection hx with hx;subst hx;have h:=h.inv;cases h with
    | @agg cs _ h h1 hr=>
     rw [kvt hl] at hr h;congr 1;apply qbj;apply List.ext_getElem?;intro i;simp only [qal];rcases qa6 i cs.size with hi | hi;have a:i<l.length:=(by simp at h;omega);have:=hr i cs[i] (.atom l[i]) (by simp [hi]) (by simp [a]);rw [qay hi,this.atom_eq];simp [a]
     ·have a:l.length<=i:=(by simp at h;omega);simp [hi,a]
  ·cases hx
 ·cases hx
theorem kabm {v:Value} {x:FV} (h:ofV v=some x):RF S w v x:=by
 unfold ofV at h;split at h
 ·rename_i cs;cases a:cs.toList.all (·.oneCell') with
  | false=>rw [a] at h;cases h
  | true=>
   rw [a] at h;injection h with h;subst h;refine .agg (by simp) ?_ ?_;intro x hx;simp only [qap] at hx;obtain ⟨v,hv,rfl⟩:=hx;exact qq.1 a v hv
   ·intro i v x hv hx;simp only [ql,qn,qal] at hx;obtain ⟨u,b,rfl⟩:=hx;rw [hv] at b;injection b with b;subst b;exact .atom (qq.1 a v (by rw [Array.mem_toList_iff];exact Array.mem_of_getElem? hv))
 cases h
 ·rename_i c d;injection h with h;subst h;refine .atom ?_;cases v <;> first | rfl | exact absurd rfl (c _) | exact absurd rfl (d _)
theorem kaar {x:Operand} {v:Value} (g:o.op = .makeInterface t x) (hd:TdOk P t d) (hk:∀ h:d.kind = .ifc,False) (hx:toV (st.eval x)=some v):NStep P o st (.fz (.atom (.iface t v))):=by
 intro ψ S a w ht j;have hv:=kab3 (Sim.eval_tmps ht x) hx;obtain ⟨_,e,h1,f⟩:=hd;refine kad w (.iface t v) ?_ ⟨kae _, .fz (.atom rfl)⟩;have c:∀ ms,e ≠ .interface ms:=fun ms i=>by subst i;cases b:d.kind <;> rw [b] at f <;> first | exact hk b | exact f
 simp only [execOp,g,hv,Instr.makeInterface,Sem.run_bind,Result.andThen_ok,run_underlying h1];cases e <;> first | exact absurd rfl (c _) | rfl
theorem k3z {x:Operand} {xt:TypeId} {v:Value} {y:FV} (k:o.op = .typeAssert x xt t true) (hd:TdOk P t d) (hk:∀ h:d.kind = .ifc,False) (hx:st.eval x = .fz (.atom (.iface t v))) (hy:ofV v=some y):
  NStep P o st (.fz (.tup [y, .atom (.bool true)])):=by
 intro ψ S a w ht m;have hv:=Sim.eval_tmps ht x;rw [hx] at hv;have hv:=hv.atom;obtain ⟨_,e,h1,j⟩:=hd;have g:∀ ms,e ≠ .interface ms:=fun ms l=>by subst l;cases b:d.kind <;> rw [b] at j <;> first | exact hk b | exact j
 refine kad w (.tuple #[v, .bool true]) ?_ ⟨kae _, .fz (.tup rfl ?_)⟩
 ·simp only [execOp,k,hv,Instr.typeAssert,Sem.run_bind,Result.andThen_ok,run_underlying h1];cases e <;> first | exact absurd rfl (g _) | simp
 ·intro i u z f c
  match i with
  | 0=>simp at f c;subst f c;exact kabm hy
  | 1=>simp at f c;subst f c;exact .atom rfl
  | i+2=>simp at c
theorem kz8 {op:BinOp} {x y:Operand} {u v:Value} (h:(∃ s z,u = .iface s z)\/∃ c,y = .const c) (hv:v = .nilIface) (a:(∃ s z,u = .iface s z)\/u = .nilIface):(eqGuard op t x y u v).run P w = .ok () w:=by
 unfold eqGuard;subst hv;rcases a with ⟨s,z,rfl⟩ | rfl;cases op <;> simp
 ·rcases h with ⟨s,z,h⟩ | ⟨c,rfl⟩;cases h
  ·cases op <;> simp
theorem TdOk.ifc (h:TdOk P t d) (hk:d.kind = .ifc):∃ ms,P.underlying t=some (.interface ms):=by obtain ⟨_,e,h1,a⟩:=h;rw [hk] at a;cases e <;> simp [ker] at a;exact ⟨_,h1⟩
theorem km0 {x:Operand} {yt:TypeId} {u:Value} (neg r:Bool) (e:o.op = .binOp (if neg then .neq else .eql) t x (.const .nilIface) yt) (hd:TdOk P t d) (hk:d.kind = .ifc) (hx:st.eval x = .fz (.atom u)) (b:(r=false/\∃ s z,u = .iface s z)\/(r=true/\u = .nilIface)):
  NStep P o st (.fz (.atom (.bool (bif neg then !r else r)))):=by
 obtain ⟨ms,c⟩:=hd.ifc hk;intro ψ S a w ht j;have hv:=Sim.eval_tmps ht x;rw [hx] at hv;have hv:=hv.atom;have i:∀ d:Nat,(Op.equalIn (d+1) t u .nilIface).run P w = .ok r w:=fun d=>by rcases b with ⟨rfl,s,z,rfl⟩ | ⟨rfl,rfl⟩ <;> simp [Op.equalIn,run_underlying c]
 have f:∀ op,(eqGuard op t x (.const .nilIface) u .nilIface).run P w = .ok () w:=fun op=>kz8 (.inr ⟨_,rfl⟩) rfl (b.elim (fun h => .inl h.2) fun h => .inr h.2);refine kad w (.bool (bif neg then !r else r)) ?_ ⟨kae _, .fz (.atom rfl)⟩;have hc:a.eval (.const .nilIface) = .nilIface:=rfl;have g:(binOp .eql t u .nilIface).run P w = .ok (.bool r) w/\(binOp .neq t u .nilIface).run P w = .ok (.bool !r) w:=by rcases b with ⟨hr,s,z,rfl⟩ | ⟨hr,rfl⟩ <;> subst hr <;> constructor <;> (simp only [binOp];simp [Op.equal,Op.maxDepth,i 9999])
 cases neg;simp [execOp,e,hv,hc,f,g.1]
 ·simp [execOp,e,hv,hc,f,g.2]
end Go.Proofs.YtjnjipmjkkhdpaaGreatDoor
set_option linter.all false
set_option linter.unusedSectionVars false
namespace Go.Proofs.YtjnjipmjkkhdpaaGreatDoor
open Go Go.RowKit
variable [Dr]
def dfn (f:FuncId) (cs:List Value):Deferred:={ target := .fn (.func f) cs.toArray,args:=#[] }
def kju (fn:Func):Option (Nat×Nat×Code):=match fn.body with
 | some (.seq (.region _ os false) c)=>match os.toList with
  | [o1,o2]=>match o1.op,o1.dst,o1.guard with
   | .call c1,some t1,none=>match o2.op,o2.dst,o2.guard with
    | .assign (.tmp t),some t2,none=>match c1.callee,c1.args.toList with
     | .builtin .recover,[]=>bif Nat.beq t t1 && (Nat.blt t1 fn.ntmps && (Nat.blt t2 fn.ntmps && fn.results.isEmpty)) then some (t1,t2,c) else none
     | _,_=>none
    | _,_,_=>none
   | _,_,_=>none
  | [o1]=>match o1.op,o1.dst,o1.guard with
   | .call c1,some t1,none=>match c1.callee,c1.args.toList with
    | .builtin .recover,[]=>bif Nat.blt t1 fn.ntmps && fn.results.isEmpty then some (t1,t1,c) else none
    | _,_=>none
   | _,_,_=>none
  | _=>none
 | _=>none
def recV:Exit->Option Value
 | .normal=>some .nilIface
 | .ret=>some .nilIface
 | .panic [⟨v,false,false⟩]=>bif v.oneCell' then some v else none
 | _=>none
def dst0 (keep:List Nat) (n t1 t2:Nat) (pv:Value) (vs:List AV) (gi:Nat) (ocs:List Value) (st:St):St:=
 { n:=n,tmps:=(t2, .fz (.atom pv))::(t1, .fz (.atom pv))::argT 0 vs,heap:=(gi, .gho ocs (keep.map st.get))::st.heap,ids:=gi::st.ids }
def dstB (keep:List Nat) (gi:Nat) (vs:List AV) (st st2:St):St:={ n:=st.n,tmps:=zipS (keep.map fun t=>(t, .any)) vs,heap:=kdm gi st2.heap,ids:=st2.ids }
def hdQ (P:Program) (T:List (TypeId×TD)) (rs:List ResultVar) (g:Nat) (ids:List Nat) (E:HEnd) (post:List (Nat×AObj)) (ids':List Nat) (ψ0:Env) (S1:Nat->Prop) (w0:World) (e:Exit) (st:St):Prop:=
 hQ T rs g ids E post ids' ψ0 S1 w0 e st \/ ∃ keep f fn2 t1 t2 c2 gi cvals vs pv gi2, st.dfr = [dfn f cvals] /\ kaa st.heap gi = some (.gho cvals vs) /\ cvals.length = vs.length /\ P.funcs[f]? = some fn2 /\ kju fn2 = some (t1, t2, c2) /\ (fn2.name == "runtime.NumGoroutine") = false /\
  Nat.ble vs.length fn2.ntmps=true/\recV e=some pv/\st.ids.contains gi2=false /\
  ∀ ocs,awp P c2 (dst0 keep fn2.ntmps t1 t2 pv vs gi2 ocs st) fun e2 st2=>(e2 = .normal\/e2 = .ret)/\st2.dfr=[]/\∃ vs',kaa st2.heap gi2=some (.gho ocs vs')/\hQ T rs g ids E post ids' ψ0 S1 w0 .ret (dstB keep gi2 vs' st st2)
variable {P:Program} {F S0:Nat->Prop} {N0:Nat} {w w':World} {S S':Nat->Prop} {ψ ψ':Env} {T:List (TypeId×TD)} {st:St} {ids:List Nat} {a:Act}
theorem kwq (z:TOk P T) {fn:Func} (pre:List (Nat×AObj)) {post:List (Nat×AObj)} {ids':List Nat} {E:HEnd} {g:Nat} {ψ0:Env} {w0:World} {e:Exit} (A:g∉ids) (o:g∉ids') (q:(post.all fun p=>okO ids' p.2)=true) (B:E.ok ids'=true) (hk:(post.all fun p=>ids'.contains p.1)=true) (h:kfj T fn.results.toList g ids E post ids' ψ0 S w0 e st) (d:Sim F S0 N0 st ψ' S' a w') (u:Fr F w w'):
  a.defers=[]/\((e = .normal\/e = .ret)/\(∃ v,(results fn a.tmps).run P w' = .ok v w'/\∃ ψ'' S'',E.is (.returned v) ψ'' (·∈ids') S'' w'/\Core F S0 N0 post ids' ψ'' S'' w'/\Fr F w w'/\Ext (·∈ids) ψ0 ψ''/\(∀ i,i∈ids->i∈ids')/\(∀ b,S b->S'' b)/\Same S w0 w') \/
   ∃ v,e = .panic [{ v:=v,recovered:=false }]/\∃ ψ'' S'',E.is (.panicked [{ v:=v,recovered:=false }]) ψ'' (·∈ids') S'' w'/\Core F S0 N0 post ids' ψ'' S'' w'/\Fr F w w'/\Ext (·∈ids) ψ0 ψ''/\(∀ i,i∈ids->i∈ids')/\(∀ b,S b->S'' b)/\Same S w0 w'):=by
 obtain ⟨x,hi,y⟩:=h;have r:kaa st.heap g=some (.was ψ0 ids S w0):=by rw [x,kab,qr rfl]
 obtain ⟨_,⟨_,_,_,k1,k2,k3,k4⟩,_⟩:=d.core.obj g _ r;have j:∀ i,i∈ids->i∈ids':=fun i n=>by
  have:=k2 i n;rw [hi] at this;rcases qaa.1 this with rfl | h;exact absurd n A
  ·exact h
 have kfj:∀ i ob,kaa post i=some ob->i∈ids'/\okO ids' ob=true:=fun i ob f=>by
  have hm:∀ {l:List (Nat×AObj)},kaa l i=some ob->(i,ob)∈l:=fun {l}=>by
   induction l with
   | nil=>intro h;cases h
   | cons p l ih=>
    intro h;obtain ⟨k,v⟩:=p;rw [kab] at h;split at h;rename_i hk;subst hk;injection h with h;subst h;exact qt ..
    ·exact qf _ (ih h)
  have hm:=hm f;exact ⟨by simpa using qq.1 hk _ hm,by simpa using qq.1 q _ hm⟩
 have hl:∀ i ob,kaa post i=some ob->kaa st.heap i=some ob:=fun i ob f=>by have s:g≠i:=fun e=>o (e ▸ (kfj i ob f).1);rw [x,kab,qj s];exact f
 have c:Core F S0 N0 post ids' ψ' S' w':=by refine ⟨fun i ob f=>?_,fun i i' ob ob' b f t=>d.core.inj i i' ob ob' b (hl i ob f) (hl i' ob' t),d.core.lt,d.core.s0,d.core.n0,d.core.fr⟩;obtain ⟨_,m2,m3⟩:=d.core.obj i ob (hl i ob f);exact ⟨(kfj i ob f).1,m2.subA (kfj i ob f).2,m3⟩
 cases E with
 | ret res=>
  obtain ⟨C,m⟩:=y;obtain ⟨v,e1,e2⟩:=kvb z d m;exact ⟨d.defers.trans (ktb m).1, .inl ⟨C,v,e1,ψ',S',⟨v,rfl,e2.subA B⟩,c,u,k1,j,k3,k4⟩⟩
 | pan v=>
  obtain ⟨hd,rfl⟩:=y;exact ⟨d.defers.trans hd, .inr ⟨v,rfl,ψ',S',rfl,c,u,k1,j,k3,k4⟩⟩
theorem kpw {fn:Func} {t1 t2:Nat} {c2:Code} (h:kju fn=some (t1,t2,c2)):∃ id os o1 c1,fn.body=some (.seq (.region id os false) c2)/\o1.op = .call c1/\c1.callee = .builtin .recover/\c1.args=#[]/\o1.dst=some t1/\o1.guard=none /\
  t1<fn.ntmps/\t2<fn.ntmps/\fn.results=#[]/\((∃ o2,os=#[o1,o2]/\o2.op = .assign (.tmp t1)/\o2.dst=some t2/\o2.guard=none)\/(os=#[o1]/\t2=t1)):=by
 unfold kju at h;split at h
 ·rename_i id os c i;split at h
  ·rename_i o1 o2 b;split at h
   ·rename_i c1 t1' h1 d e;split at h
    ·rename_i tt t2' j k l;split at h
     ·rename_i f g;cases hc:(Nat.beq tt t1' && (Nat.blt t1' fn.ntmps && (Nat.blt t2' fn.ntmps && fn.results.isEmpty))) with
      | false=>rw [hc] at h;cases h
      | true=>
       rw [hc] at h;simp only [qg,qc,qp] at h;obtain ⟨rfl,rfl,rfl⟩:=h;simp only [qk] at hc;obtain ⟨b1,b2,b3,b4⟩:=hc;obtain rfl:=qe b1;have a:os=#[o1,o2]:=(by apply qbj;simpa using b);exact ⟨id,os,o1,c1,i,h1,f,by apply qbj;simpa using g,d,e,by simpa [Nat.blt_eq] using b2,by simpa [Nat.blt_eq] using b3,by simpa using b4, .inl ⟨o2,a,j,k,l⟩⟩
     ·cases h
    ·cases h
   ·cases h
  ·rename_i o1 b;split at h
   ·rename_i c1 t1' h1 d e;split at h
    ·rename_i f g;cases hc:(Nat.blt t1' fn.ntmps && fn.results.isEmpty) with
     | false=>rw [hc] at h;cases h
     | true=>
      rw [hc] at h;simp only [qg,qc,qp] at h;obtain ⟨rfl,rfl,rfl⟩:=h;simp only [qk] at hc;obtain ⟨b2,b4⟩:=hc;have a:os=#[o1]:=(by apply qbj;simpa using b);exact ⟨id,os,o1,c1,i,h1,f,by apply qbj;simpa using g,d,e,by simpa [Nat.blt_eq] using b2,by simpa [Nat.blt_eq] using b2,by simpa using b4, .inr ⟨a,rfl⟩⟩
    ·cases h
   ·cases h
  ·cases h
 ·cases h
theorem k8g {e:Exit} {pv:Value} (h:recV e=some pv):pv.oneCell'=true/\(((e = .normal\/e = .ret)/\pv = .nilIface)\/e = .panic [{ v:=pv,recovered:=false }]):=by
 unfold recV at h;split at h;injection h with h;subst h;exact ⟨rfl, .inl ⟨.inl rfl,rfl⟩⟩;injection h with h;subst h;exact ⟨rfl, .inl ⟨.inr rfl,rfl⟩⟩
 ·rename_i v;cases a:v.oneCell' with
  | false=>rw [a] at h;cases h
  | true=>rw [a] at h;injection h with h;subst h;exact ⟨a, .inr rfl⟩
 ·cases h
theorem kub (hT:TOk P T) {fn:Func} {post:List (Nat×AObj)} {ids':List Nat} {E:HEnd} {g:Nat} {ψ0:Env} {w0:World} (e:Exit) (hg:g∉ids) (N:g∉ids') (O:(post.all fun p=>okO ids' p.2)=true) (hE:E.ok ids'=true) (hk:(post.all fun p=>ids'.contains p.1)=true) (D:Sim F S0 N0 st ψ' S' a w') (h3:Fr F w w') {keep:List Nat} {f:FuncId} {fn2:Func} {t1 t2:Nat} {c2:Code} {gi:Nat} {cvals:List Value} {vs:List AV} {pv:Value} {gi2:Nat} {u:FrameMode} (hd: st.dfr = [dfn f cvals]) (U: kaa st.heap gi = some (.gho cvals vs)) (G: cvals.length = vs.length) (hf: P.funcs[f]? = some fn2) (V: kju fn2 = some (t1, t2, c2)) (hn: (fn2.name == "runtime.NumGoroutine") = false) (H: Nat.ble vs.length fn2.ntmps = true) (hu:(u = .returning/\pv = .nilIface)\/u = .panicking [{ v:=pv,recovered:=false }]) (I:pv.oneCell'=true) (c:st.ids.contains gi2=false) (h:∀ ocs,awp P c2 (dst0 keep fn2.ntmps t1 t2 pv vs gi2 ocs st) fun e2 st2=>(e2 = .normal\/e2 = .ret)/\st2.dfr=[]/\∃ vs',kaa st2.heap gi2=some (.gho ocs vs')/\hQ T fn.results.toList g ids E post ids' ψ0 S w0 .ret (dstB keep gi2 vs' st st2)):
  Leaves P fn a.tmps (fun e w'=>∃ ψ'' S'',E.is e ψ'' (·∈ids') S'' w'/\Core F S0 N0 post ids' ψ'' S'' w'/\Fr F w w'/\Ext (·∈ids) ψ0 ψ''/\(∀ i,i∈ids->i∈ids')/\(∀ b,S b->S'' b)/\Same S w0 w') a.defers u w':=by
 obtain ⟨id,os,o1,c1,j,p1,p2,p3,p4,p5,n1,n2,nres,r⟩:=kpw V;have H:=qh H;have c:gi2∉st.ids:=by simpa using c
 rw [D.defers,hd];have X:fn2.body≠none:=by rw [j];simp
 simp only [qa0,ne_eq] at hn;refine leaves_cons (f:=f) (args:=cvals.toArray) (fun hh=>by rcases hu with ⟨h,_⟩ | h <;> rw [hh] at h <;> cases h) (by simp [invoke,callFunc,hf,X,hn]) ?_;refine callsD_of_wpS hf j fun c₀ cs hm=>?_;have s:(cvals.toArray++Array.replicate (fn2.ntmps - cvals.toArray.size) undef).size=fn2.ntmps:=by simp;omega
 -- the values of the frame that leaves
 have z:=D.core.add (n:=0) (v := .nilFunc) (w':=w') (ob := .gho (keep.map fun t=>a.tmps.getD t undef) (keep.map st.get)) (kae _) c (fun b V=>by cases V)
  ⟨kbf _ _,by rw [kaj];rfl,by rw [kaj];rfl,fun i v x hv hx=>by simp only [ql,qn] at hv hx;obtain ⟨p,hp,rfl⟩:=hv;obtain ⟨q,C,rfl⟩:=hx;rw [hp] at C;injection C with C;subst C;exact (D.tmps p).keep (ka3 c _ _) (fun _ h=>qf _ h) (fun _ h=>h) (fun _ _ _=>rfl)⟩
 obtain ⟨_,⟨_,_,_,Y⟩,_⟩:=D.core.obj gi _ U
 let a0:Act:={ tmps:=cvals.toArray++Array.replicate (fn2.ntmps - cvals.toArray.size) undef,defers:=[] }
 let a2:Act:=(a0.put (some t1) pv).put (some t2) pv
 have J:Sim F S0 N0 (dst0 keep fn2.ntmps t1 t2 pv vs gi2 (keep.map fun t=>a.tmps.getD t undef) st) (ψ'.set gi2 0 .nilFunc) S' a2 w':=by
  have s0:a0.tmps.size=fn2.ntmps:=s;have s1:(a0.put (some t1) pv).tmps.size=fn2.ntmps:=by rw [kst];exact s0
  refine ⟨rfl,by show a2.tmps.size=fn2.ntmps;rw [kst];exact s1,fun t=>?_,z⟩;show RV _ _ _ _ (a2.tmps.getD t undef) (look .any ((t2, .fz (.atom pv))::(t1, .fz (.atom pv))::argT 0 vs) t);rw [kaw,kaw,kks (some t2) fn2.ntmps t s1 (by intro t ht;injection ht with ht;omega),kks (some t1) fn2.ntmps t s0 (by intro t ht;injection ht with ht;omega)];by_cases e2:t2=t;rw [qr e2,qr (by rw [e2])];exact .fz (.atom I)
  ·rw [qj e2,qj (by simpa using e2)];by_cases e1:t1=t;rw [qr e1,qr (by rw [e1])];exact .fz (.atom I)
   ·rw [qj e1,qj (by simpa using e1)];rcases khy vs 0 t with h | ⟨x,_,k1,k2⟩;rw [h];exact .any
    ·rw [k2];have k1:vs[t]?=some x:=(by simpa using k1);have A:t<cvals.length:=(by rw [G];exact (qd.1 k1).1);have:a0.tmps.getD t undef=cvals[t]:=(by show (cvals.toArray++Array.replicate (fn2.ntmps - cvals.toArray.size) undef).getD t undef=_;rw [qam,qax (by simpa using A)];simp [A]);rw [this];exact (Y t _ x (by simp [A]) k1).keep (ka3 c _ _) (fun _ h=>qf _ h) (fun _ h=>h) (fun _ _ _=>rfl)
 -- what the closure leaves
 have o:∀ (u':FrameMode) (R:Ending->FrameMode->World->Prop),(∀ v w'',Leaves P fn a.tmps (fun e w'=>∃ ψ'' S'',E.is e ψ'' (·∈ids') S'' w'/\Core F S0 N0 post ids' ψ'' S'' w'/\Fr F w w'/\Ext (·∈ids) ψ0 ψ''/\(∀ i,i∈ids->i∈ids')/\(∀ b,S b->S'' b)/\Same S w0 w') [] .returning w''->R (.returned v) u' w'') ->
   c2.wp P (fun e a' w''=>bodyPostS P fn2 c₀ cs R e a' ({ c₀ with mode:=u' }::cs) w'') a2 w':=by
  intro u' R hR;refine wp_wide.1 (kbq (h _ F S0 N0 _ S' a2 w' J) ?_);rintro e2 a'' w'' ⟨st2,ψ2,S2,⟨Z,aa,vs',K,st3,ab,ac⟩,k2,k3⟩;have L:a''.defers=[]/\∃ u'',({ c₀ with mode:=u' }::cs:List Frame)={ c₀ with mode:=u'' }::cs/\∃ v,(results fn2 a''.tmps).run P w'' = .ok v w''/\R (.returned v) u'' w'':=by
   refine ⟨k2.defers.trans aa,u',rfl, .tuple #[],by simp [results,nres],hR _ _ ?_⟩;obtain ⟨_,⟨_,_,_,M⟩,_⟩:=k2.core.obj gi2 _ K;have ad:Core F S0 N0 (kdm gi2 st2.heap) st2.ids ψ2 S2 w'':=
    ⟨fun i ob ho=>k2.core.obj i ob (kcg gi2 ho).2,fun i i' ob ob' b ho ae=>k2.core.inj i i' ob ob' b (kcg gi2 ho).2 (kcg gi2 ae).2,k2.core.lt,k2.core.s0,k2.core.n0,k2.core.fr⟩
   have B:Sim F S0 N0 (dstB keep gi2 vs' st st2) ψ2 S2 { tmps:=a.tmps,defers:=[] } w'':=(by refine ⟨rfl,D.size,fun t=>?_,ad⟩;exact ks8 (v:=fun t=>a.tmps.getD t undef) t fun i k x hk hx=>M i _ x (by simp only [ql,qn] at hk;obtain ⟨q,C,rfl⟩:=hk;rw [ql,C];rfl) hx);obtain ⟨ψ3,S3,h4⟩:=ab F S0 N0 ψ2 S2 _ w'' B;rcases (kwq hT [] hg N O hE hk ac h4 (h3.trans k3)).2 with ⟨_,v,r1,r2⟩ | ⟨v,r1,_⟩;exact ⟨v,r1,r2⟩
   ·cases r1
  rcases Z with rfl | rfl <;> exact L
 refine wpS_seq (wpS_region ?_);have af:∀ (a:Act) (w:World),(execOp a.eval o1).run P w = .ok .recover w:=fun a w=>by obtain ⟨cc,as_,ts⟩:=c1;simp only at p2 p3;subst p2 p3;simp [execOp,p1,resolve,invoke,builtin]
 have ag:∀ y,Region.wanted o1 y=true:=fun y=>by simp [Region.wanted,p5]
 have s0:a0.tmps.size=fn2.ntmps:=s;have key:∀ (cs':List Frame) (Q:Exit->Act->List Frame->World->Prop),(Q .normal a2 cs' w'->os[0]?=some o1/\∃ l,List.range os.size=0::l/\wpOpsS P os Q l (a0.put (some t1) pv) cs' w'):=fun cs' Q hQ=>by
  rcases r with ⟨o2,rfl,q1,q2,q3⟩ | ⟨rfl,rfl⟩;refine ⟨rfl,[1],rfl,?_⟩;have ah:∀ y,Region.wanted o2 y=true:=fun y=>(by simp [Region.wanted,q3]);unfold wpOpsS;simp only [qbr,qbo,List.getElem?_cons_zero,ah,if_true];have hv:(execOp (a0.put (some t1) pv).eval o2).run P w' = .ok (.value pv) w':=(by have:(a0.put (some t1) pv).eval (.tmp t1)=pv:=(by show (a0.put (some t1) pv).tmps.getD t1 undef=pv;rw [kks (some t1) fn2.ntmps t1 s (by intro t ht;injection ht with ht;omega),qr rfl]);simp [execOp,q1,this]);rw [hv];simp only [Oper.upon,q2];unfold wpOpsS;exact hQ
  ·refine ⟨rfl,[],rfl,?_⟩;unfold wpOpsS;have he:a2=a0.put (some t2) pv:=(by show (a0.put (some t2) pv).put (some t2) pv=a0.put (some t2) pv;simp [Act.put]);rw [<- he];exact hQ
 have go:∀ (cs0 cs':List Frame) (Q:Exit->Act->List Frame->World->Prop),(recoverD cs0=none/\pv = .nilIface/\cs'=cs0\/recoverD cs0=some (pv,cs'))->Q .normal a2 cs' w'->wpOpsS P os Q (List.range os.size) a0 cs0 w':=fun cs0 cs' Q hr hQ=>by
  obtain ⟨k1,l,k2,k3⟩:=key cs' Q hQ;rw [k2];unfold wpOpsS;simp only [k1,ag,if_true];rw [af];rcases hr with ⟨hr,rfl,rfl⟩ | hr;simp only [hr,p4];exact k3
  ·simp only [hr,p4];exact k3
 rcases hu with ⟨rfl,rfl⟩ | rfl
 ·have m:recoverD (c₀::cs)=none:=by simp [recoverD,hm]
  refine go _ _ _ (.inl ⟨m,rfl,rfl⟩) ?_;show c2.wpS P _ a2 (c₀::cs) w';refine wpS_of_wp ?_;have hc:(c₀::cs)=({ c₀ with mode := .returning }::cs:List Frame):=by rw [<- hm]
  rw [hc];exact o .returning _ fun v w'' hl=>hl
 ·have m:recoverD (c₀::cs)=some (pv,{ c₀ with mode := .panicking [{ v:=pv,recovered:=true }] }::cs):=by simp [recoverD,hm]
  refine go _ _ _ (.inr m) ?_;show c2.wpS P _ a2 _ w';refine wpS_of_wp ?_;exact o (.panicking [{ v:=pv,recovered:=true }]) _ fun v w'' hl=>by have:settle (.panicking [{ v:=pv,recovered:=true }]) = .returning:=rfl;simp only [this];exact hl
theorem kxw (z : TOk P T) {f : FuncId} {fn : Func} {c : Code} {args : List AV} {pre : List (Nat × AObj)} {E : HEnd} {post : List (Nat × AObj)} {ids' : List Nat} {g : Nat} (D : P.funcs[f]? = some fn) (q : fn.body = some c) (hn : (fn.name == "runtime.NumGoroutine") = false)
  (r:Nat.ble args.length fn.ntmps=true) (d:ids.contains g=false) (a:ids'.contains g=false) (k:(post.all fun p=>okO ids' p.2)=true) (A:E.ok ids'=true) (hk:(post.all fun p=>ids'.contains p.1)=true)
  (h:∀ ψ0 S1 w0,awp P c { n:=fn.ntmps,tmps:=argT 0 args,heap:=(g, .was ψ0 ids S1 w0)::pre,ids:=g::ids } (hdQ P T fn.results.toList g ids E post ids' ψ0 S1 w0)):HCall P f args pre ids E post ids':=by
 have r:=qh r;have d:g∉ids:=by simpa using d
 have a:g∉ids':=by simpa using a
 refine ⟨⟨fn,D,by rw [q];rfl,hn⟩,fun F S0 N0 ψ S w vs hs hr hc=>calls_of_wp_defers D q ?_⟩;have l:=hc.add (n:=0) (v := .nilFunc) (w':=w) (ob := .was ψ ids S w) (kae _) d (fun b q=>by cases q)
  ⟨kbf _ _,by rw [kaj];rfl,by rw [kaj];rfl,ka3 d _ _,fun i hi=>qf _ hi,fun b q=>q,fun _ _ _=>rfl⟩
 have s:Sim F S0 N0 { n:=fn.ntmps,tmps:=argT 0 args,heap:=(g, .was ψ ids S w)::pre,ids:=g::ids } (ψ.set g 0 .nilFunc) S
   { tmps:=vs++Array.replicate (fn.ntmps - vs.size) undef,defers:=[] } w:=by
  refine ⟨rfl,by simp;omega,fun t=>?_,l⟩;show RV _ _ _ w _ (look .any (argT 0 args) t);rcases khy args 0 t with h | ⟨x,_,h1,u⟩;rw [h];exact .any
  ·rw [u];have h1:args[t]?=some x:=(by simpa using h1);have m:t<vs.size:=(by rw [hs];exact (qd.1 h1).1);have:(vs++Array.replicate (fn.ntmps - vs.size) undef).getD t undef=vs[t]:=(by rw [qam,qax m];simp [m]);rw [this];exact (hr t _ x (by simp [m]) h1).keep (ka3 d _ _) (fun _ h=>qf _ h) (fun _ h=>h) (fun _ _ _=>rfl)
 refine wp_wide.1 (kbq (h _ _ _ F S0 N0 _ S _ w s) ?_);rintro e a' w' ⟨st',ψ',S',G,u,B⟩;rcases G with ⟨st2,hl,hp⟩ | ⟨keep,f2,fn2,t1,t2,c2,gi,cvals,avs,pv,gi2,d1,d2,d3,d4,d5,d6,d7,d8,d9,d10⟩
 ·obtain ⟨ψ2,S2,H⟩:=hl F S0 N0 ψ' S' a' w' u;obtain ⟨e0,y⟩:=kwq z pre d a k A hk hp H B;rcases y with ⟨y,v,r1,r2⟩ | ⟨v,rfl,r2⟩;rcases y with rfl | rfl <;> (show Leaves P fn a'.tmps _ a'.defers .returning w'; rw [e0];exact ⟨v,r1,r2⟩)
  ·show Leaves P fn a'.tmps _ a'.defers (.panicking _) w';rw [e0];exact r2
 ·obtain ⟨j,o⟩:=k8g d8;rcases o with ⟨y,C⟩ | rfl;have:=kub z e d a k A hk u B d1 d2 d3 d4 d5 d6 d7 (.inl ⟨rfl,C⟩) j d9 d10;rcases y with rfl | rfl <;> exact this
  ·exact kub z .ret d a k A hk u B d1 d2 d3 d4 d5 d6 d7 (.inr rfl) j d9 d10
end Go.Proofs.YtjnjipmjkkhdpaaGreatDoor
set_option linter.all false
set_option linter.unusedSectionVars false
namespace Go.Proofs.YtjnjipmjkkhdpaaGreatDoor
open Go Go.RowKit
variable [Dr]
def kpq (l h n:Int):Option Unit:=if 0<=l/\l<=h/\h<=n then some () else none
theorem k1z {l h n:Int} {u:Unit} (e:kpq l h n=some u):0<=l/\l<=h/\h<=n:=by
 unfold kpq at e;split at e
 ·assumption
 ·cases e
def cpL {α:Type} (xs ys:List α):List α:=xs.take 0++(ys.take (min ys.length xs.length)++xs.drop (0+(ys.take (min ys.length xs.length)).length))
variable {P:Program} {F S0:Nat->Prop} {N0:Nat} {w w':World} {S S':Nat->Prop} {ψ:Env} {K:Nat->Prop} {T:List (TypeId×TD)} {o:Oper} {a:Act} {st:St} {t:TypeId} {d:TD} {id:Nat}
theorem k72 {α:Type} (enc:α->FV) (xs:List α) (x:Operand) (lo hi:Option Operand) (l h:Option Int) (e:TypeId) (de:TD) (n s:Nat) {u:Unit} (hc:kpq (l.getD 0) (h.getD xs.length) xs.length=some u) (C:TOk P T) (hn:n=xs.length) (F:o.op = .slice t x lo hi none:=by kernel_rfl) (hd:kac T t=some d:=by kernel_rfl) (hk:d.kind = .slice e:=by kernel_rfl) (q:kac T e=some de:=by kernel_rfl) (r:de.size=s:=by kernel_rfl) (hx:st.eval x = .row id n:=by kernel_rfl) (z:kaa st.heap id=some (.frow e s (xs.map enc)):=by kernel_rfl) (hl:kna st lo=some l:=by kernel_rfl) (G:kna st hi=some h:=by kernel_rfl):NStep P o st (.win id n (l.getD 0).toNat (h.getD xs.length).toNat s):=by
 intro ψ S a w ht H;subst hn;have i:=k1z hc;have bl:=kl0 ht hl;have bh:=kl0 ht G;have j:=Sim.eval_tmps ht x;rw [hx] at j;obtain ⟨b,_,cs,c,_,_⟩:=H id _ z;rw [qs] at b c;have hK:id∈st.ids/\a.eval x=ψ.val id:=by
  generalize a.eval x=u at j;cases j with
  | row hK I h1 hv=>exact ⟨hK,hv b.symm⟩
 obtain ⟨A,cap,f,p,hA⟩:∃ A cap,ψ.val id = .slice A xs.length cap/\xs.length<=cap/\(0<xs.length->∃ g,A=some ⟨g,0,none⟩):=by
  rcases c.2 with ⟨hv,h0⟩ | ⟨g,cap,cur,hv,_,L,h1,M,D,E⟩;exact ⟨none,0,by rw [hv,h0],by omega,fun h=>by omega⟩
  ·exact ⟨some ⟨g,0,none⟩,cap,hv,h1,fun _=>⟨g,rfl⟩⟩
 have J:=(C.get hd).slice hk;have e1:(Instr.sliceBounds true xs.length cap (lo.map a.eval) (hi.map a.eval) none).run P w = .ok ((l.getD 0).toNat,(h.getD xs.length).toNat,cap) w:=by
  unfold Instr.sliceBounds;have p:(xs.length:Int)<=(cap:Int):=by omega
  rcases bh with ⟨rfl,rfl⟩ | ⟨y,k,n,rfl,rfl,hy⟩
  ·rcases bl with ⟨rfl,rfl⟩ | ⟨y',k',n',rfl,rfl,m⟩;simp
   ·simp only [qbh,Option.getD_none] at i ⊢;simp [Instr.sliceBound,m,asIntOf,i.1,i.2.1]
  ·rcases bl with ⟨rfl,rfl⟩ | ⟨y',k',n',rfl,rfl,m⟩;simp only [qbh,Option.getD_none] at i ⊢;have:n<=(cap:Int):=(by omega);simp [Instr.sliceBound,hy,asIntOf,i.2.1,this]
   ·simp only [qbh] at i ⊢;have:0<=n:=(by omega);have D:n'<=(n.toNat:Int):=(by omega);have E:n<=(cap:Int):=(by omega);simp [Instr.sliceBound,hy,m,asIntOf,i.1,this,D,E];intro hc;exfalso;omega
 have B:(sizeOf e).run P w = .ok s w:=by rw [(C.get q).size,r]
 refine kad w (.slice (if cap=(l.getD 0).toNat then A else A.map (·.add ((l.getD 0).toNat*s))) ((h.getD xs.length).toNat - (l.getD 0).toNat) (cap - (l.getD 0).toNat)) ?_ ⟨kae _, .win hK.1 (by omega) rfl fun _=>⟨by omega,by omega,_,_,rfl,fun K=>?_⟩⟩;simp [execOp,F,Instr.sliceAt,Instr.slice,run_underlying J,hK.2,f,e1,B]
 ·obtain ⟨g,rfl⟩:=hA (by omega);refine ⟨g,by rw [f];rfl,?_⟩;rw [qj (by omega)];simp [kbg]
theorem kaaa {α:Type} {enc:α->FV} {f:α->Value} {xs:List α} (zs:List α) (lo:Nat) {cap g:Nat} {e:TypeId} {cur:Array Value} (a:Core F S0 N0 st.heap st.ids ψ S w) (p:kaa st.heap id=some (.frow e 1 (xs.map enc))) (h:ψ.val id = .slice (some ⟨g,0,none⟩) xs.length cap) (K:w.heap[g]?=some (.cells cur e (0,0))) (A:xs.length<=cap) (hc2:cap<=maxLen) (B:cur.size=cap) (C:cur.toList.take xs.length=xs.map f) (J:∀ y,enc y = .atom (f y)/\(f y).oneCell'=true) (L:lo+zs.length<=xs.length):
  Core F S0 N0 ((id, .frow e 1 ((xs.take lo++(zs++xs.drop (lo+zs.length))).map enc))::st.heap) st.ids ψ S (w.setRow g (cur.toList.take lo++zs.map f++cur.toList.drop (lo+(zs.map f).length)).toArray) /\
  Same S w (w.setRow g (cur.toList.take lo++zs.map f++cur.toList.drop (lo+(zs.map f).length)).toArray)/\∀ b,F b->(w.setRow g (cur.toList.take lo++zs.map f++cur.toList.drop (lo+(zs.map f).length)).toArray).heap[b]?=w.heap[b]?:=by
 obtain ⟨M,⟨hl,r,cs,s,N,hr⟩,O⟩:=a.obj id _ p;rw [qs] at hl s;obtain ⟨new,c⟩:∃ new:Array Value,new=(cur.toList.take lo++zs.map f++cur.toList.drop (lo+(zs.map f).length)).toArray:=⟨_,rfl⟩;rw [<- c];have hcl:cur.toList.length=cap:=by rw [qac,B]
 have D:new.size=cap:=by rw [c];simp only [List.size_toArray,qy,q9,qs,qau,hcl];omega
 obtain ⟨ys,m⟩:∃ ys,ys=xs.take lo++(zs++xs.drop (lo+zs.length)):=⟨_,rfl⟩;rw [<- m];have o:ys.length=xs.length:=by rw [m];simp only [qy,q9,qau];omega
 have t:cur.toList=xs.map f++cur.toList.drop xs.length:=by rw [<- C,List.take_append_drop]
 have E:new.toList.take xs.length=ys.map f:=by
  rw [c,m];simp only [List.map_append,List.map_take,List.map_drop,qs];rw [t];have e1:(List.map f xs++List.drop xs.length cur.toList).take lo=(xs.map f).take lo:=by rw [List.take_append_of_le_length (by rw [qs];omega)]
  have e2:(List.map f xs++List.drop xs.length cur.toList).drop (lo+zs.length)=(xs.map f).drop (lo+zs.length)++List.drop xs.length cur.toList:=by rw [List.drop_append_of_le_length (by rw [qs];omega)]
  rw [e1,e2];have e3:((xs.map f).take lo++zs.map f++((xs.map f).drop (lo+zs.length)++List.drop xs.length cur.toList))=((xs.map f).take lo++(zs.map f++(xs.map f).drop (lo+zs.length)))++List.drop xs.length cur.toList:=by simp only [qbi]
  rw [e3,List.take_append_of_le_length (by simp only [qy,q9,qs,qau];omega),List.take_of_length_le (by simp only [qy,q9,qs,qau];omega)]
 have u:∀ k,k<w.heap.size->¬ Blk (ψ.val id) k->(w.setRow g new).heap[k]?=w.heap[k]?:=fun k _ hk=>kgd g new k fun e=>hk (.of (by rw [h,e];rfl));have P:(w.setRow g new).heap.size=w.heap.size:=by simp [World.setRow]
 have i:ψ.set id xs.length (ψ.val id)=ψ:=by
  unfold Env.set;congr 1
  ·funext j;split;rename_i x;rw [x,hl]
   ·rfl
  ·funext j;split;rename_i x;rw [x]
   ·rfl
 obtain ⟨c1,c2,c3⟩:=a.upd (n:=xs.length) (v:=ψ.val id) (w':=w.setRow g new) (ob' := .frow e 1 (ys.map enc)) p (by omega) u (.inr ⟨hl,rfl⟩) (fun b Q => .inl Q) (by
  rw [i];refine ⟨by simp [hl,o],r,ys.map f,?_,fun z d=>?_,fun k z j v q d hv l=>?_⟩;rw [qs,o,h];refine ⟨by rw [qs,o,qbg], .inr ⟨g,cap,new,rfl,qaq _,ke4 g K,A,hc2,by rw [D,qbg],?_⟩⟩;rw [qbg];exact E;obtain ⟨z0,_,rfl⟩:=qap.1 d;obtain ⟨h1,G⟩:=J z0;rw [h1];exact ⟨rfl,fun q l=>by simp [FV.cells] at l;subst l;exact G⟩
  ·obtain ⟨z0,H,rfl⟩:∃ z0,ys[k]?=some z0/\enc z0=z:=(by rw [ql,qn] at d;exact d);obtain ⟨h1,G⟩:=J z0;have x:j=0:=(by rw [h1] at l;have:=(qd.1 l).1;simp [FV.cells] at this;exact this);subst x;have I:q = .atom (f z0):=(by rw [h1] at l;simp [FV.cells] at l;exact l.symm);subst I;simp only [qbg,Nat.add_zero,ql,H,qa1,qc] at hv;subst hv;exact .atom G)
 rw [i] at c1;exact ⟨c1,c2,c3⟩
theorem kuw {v:Value} {id n lo hi sz:Nat} (h:RV ψ K S w v (.win id n lo hi sz)) (hn:n=ψ.len id):lo<=hi/\hi<=n/\∃ A cap,v = .slice A (hi - lo) cap/\(lo<hi->∃ b,kap (ψ.val id)=some b/\A=some ⟨b,lo*sz,none⟩):=by
 cases h with
 | win _ _ _ hv=>exact hv hn
theorem k28 {α:Type} (enc:α->FV) (xs ys:List α) (X Y:Operand) (t1 t2 e:TypeId) (d1 de:TD) (n:Nat) (hT:TOk P T) (ho:o.op = .call { callee := .builtin .copy,args:=#[X,Y],argTypes:=#[t1,t2] }) (hd:kac T t1=some d1) (hk:d1.kind = .slice e) (U:kac T e=some de) (V:de.size=1) (hx:st.eval X = .row id n) (hy:kjf (st.eval Y)=some (ys.map enc)) (t:kaa st.heap id=some (.frow e 1 (xs.map enc))) (hn:n=xs.length) (G:∀ y,∃ u,enc y = .atom u/\u.oneCell'=true):
  StepA P o st (.fz (.atom (.int .i64 (min ys.length xs.length:Nat)))) ((id, .frow e 1 ((xs.take 0++(ys.take (min ys.length xs.length)++xs.drop (0+(ys.take (min ys.length xs.length)).length))).map enc))::st.heap) st.ids:=by
 subst hn;intro F S0 N0 ψ S a w x;have c:=x.core;obtain ⟨aj,hO,ak⟩:=c.obj id _ t;have Z:=hO;obtain ⟨hl,ah,cs,d,al,hr⟩:=Z;rw [qs] at hl d;have A:=x.eval X;rw [hx] at A;have H:a.eval X=ψ.val id:=by
  generalize a.eval X=u at A;cases A with
  | row hK am h1 hv=>exact hv hl.symm
 obtain ⟨_,_,size,m,hm,_,aa⟩:=kn2 (x.eval Y) hy;obtain ⟨A2,cap2,news,I,ab,_,_,J,ai,K,L,M⟩:=kwb aa;rw [qs] at hm ab J;subst hm;have hu:P.underlying t1=some (.slice e):=(hT.get hd).slice hk;have q:(P.info? e).map (·.size)=some 1:=by have:=(hT.get U).info;rw [V] at this;exact this
 obtain ⟨k,N⟩:∃ k,k=min ys.length xs.length:=⟨_,rfl⟩;rw [<- N];have p:(ys.take k).length=k:=by rw [q9];omega
 by_cases O:k=0
 ·obtain ⟨A1,cap1,ac⟩:∃ A1 cap1,ψ.val id = .slice A1 xs.length cap1:=by
   rcases d.2 with ⟨hv,h0⟩ | ⟨g,cap,cur,hv,_⟩;exact ⟨none,0,by rw [hv,h0]⟩
   ·exact ⟨_,_,hv⟩
  have l:=run_copy_none (P:=P) w t1 t2 o.type e A1 A2 xs.length cap1 ys.length cap2 hu q (by show min _ _=0;omega);have B:xs.take 0++(ys.take k++xs.drop (0+(ys.take k).length))=xs:=by rw [p,O];simp
  rw [B];have r:ψ.set id xs.length (ψ.val id)=ψ:=by
   unfold Env.set;congr 1
   ·funext j;split;rename_i hj;rw [hj,hl]
    ·rfl
   ·funext j;split;rename_i hj;rw [hj]
    ·rfl
  obtain ⟨c1,c2,c3⟩:=c.upd (n:=xs.length) (v:=ψ.val id) (w':=w) (ob' := .frow e 1 (xs.map enc)) t (qv _) (fun _ _ _=>rfl) (.inr ⟨hl,rfl⟩) (fun b hb => .inl hb) (by rw [r];exact hO);rw [r] at c1;refine kad w (.int .i64 ((k:Nat):Int)) ?_ ⟨ψ,S,c1, .fz (.atom rfl),Fr.refl,Ext.refl,fun _ h=>h,fun _ h=>h,c2⟩;rw [O];simp [execOp,ho,resolve,invoke,builtin,H,ac,I,l,goInt]
 ·obtain ⟨g,cap,cur,s,hg,ae,hc2,Q,af⟩:=koa d;obtain ⟨f,C⟩:∃ f:α->Value,∀ y,enc y = .atom (f y)/\(f y).oneCell'=true:=⟨fun y=>(G y).choose,fun y=>(G y).choose_spec⟩;have hs1:size=1:=by have h0:0<ys.length:=(by omega);have:=(L (enc ys[0]) (qap.2 ⟨_,qx h0,rfl⟩)).1;rw [(C ys[0]).1] at this;exact this.symm
  subst hs1;have D:news=ys.map f:=by apply List.ext_getElem (by rw [J,qs,qbg]);intro i h1 R;rw [qs] at R;have:=K i (enc ys[i]) 0 news[i] (enc ys[i]) (by rw [ql,qa R];rfl) (by simp) (by rw [(C ys[i]).1];rfl);rw [(C ys[i]).1] at this;rw [this.atom_eq,List.getElem_map]
  have ag:cur.toList.take xs.length=xs.map f:=by rw [af];have hcl:cs.length=xs.length:=(by rw [d.1,qbg]);apply List.ext_getElem (by rw [hcl,qs]);intro i h1 R;rw [qs] at R;have:=hr i (enc xs[i]) 0 cs[i] (enc xs[i]) (by rw [ql,qa R];rfl) (by simp) (by rw [(C xs[i]).1];rfl);rw [(C xs[i]).1] at this;rw [this.atom_eq,List.getElem_map]
  obtain ⟨ad,rfl,E⟩:∃ ad,A2=some ad/\∀ j u,news[j]?=some u->w.cell? (ad.add j)=some u:=by
   rcases M with ⟨_,h⟩ | ⟨h,_⟩ | h;have:=qa2 List.length h;rw [qs,List.length_nil] at this;omega;have:=qa2 List.length h;rw [qs,List.length_nil] at this;omega
   ·exact h
  obtain ⟨c1,c2,c3⟩:=kaaa (ys.take k) 0 c t s hg ae hc2 Q ag C (by rw [p];omega);have l:=run_copy_row (P:=P) w t1 t2 o.type e g 0 xs.length cap ad ys.length cap2 cur e ((ys.take k).map f) hu q hg (by rw [qs,p];exact N) (fun j v hv=>by
   rw [ql,qw] at hv;split at hv;exact E j v (by rw [D,ql];exact hv)
   ·cases hv) (by rw [qs,p,Q];omega) (fun v hv=>by obtain ⟨z,_,rfl⟩:=qap.1 hv;exact (C z).2)
  rw [qs,p] at l;refine kad _ (.int .i64 ((k:Nat):Int)) ?_ ⟨ψ,S,c1, .fz (.atom rfl),⟨rfl,rfl,rfl,?_,c3,fun _=>qv _⟩,Ext.refl,fun _ h=>h,fun _ h=>h,c2⟩;rw [qs,p];simp [execOp,ho,resolve,invoke,builtin,H,s,I,l,goInt]
  ·simp [World.setRow]
end Go.Proofs.YtjnjipmjkkhdpaaGreatDoor
set_option linter.all false
namespace Go.Proofs.YtjnjipmjkkhdpaaGreatDoor
open Go Go.RowKit
variable [Dr]
def tabF (rows:List (List Value)):FV := .lst 1 rows.length (rows.map fun r => .lst 1 r.length (r.map .atom))
def k7b:FV->Bool
 | .atom _=>true
 | .tup vs=>vs.all fun x=>match x with
  | .atom _=>true
  | _=>false
 | _=>false
variable {P:Program} {F S0:Nat->Prop} {N0:Nat} {w w':World} {S S':Nat->Prop} {ψ ψ':Env} {K:Nat->Prop} {T:List (TypeId×TD)} {o:Oper} {a:Act} {st:St} {t:TypeId} {d:TD} {id:Nat} {ids:List Nat} {heap:List (Nat×AObj)}
end Go.Proofs.YtjnjipmjkkhdpaaGreatDoor
set_option linter.all false
namespace Go.Proofs.YtjnjipmjkkhdpaaGreatDoor
open Go Go.RowKit
variable [Dr]
variable {P:Program} {F S0:Nat->Prop} {N0:Nat} {w w':World} {S S':Nat->Prop} {ψ ψ':Env} {K:Nat->Prop} {T:List (TypeId×TD)} {o:Oper} {a:Act} {st:St} {t:TypeId} {d:TD} {id:Nat} {ids:List Nat} {heap:List (Nat×AObj)}
end Go.Proofs.YtjnjipmjkkhdpaaGreatDoor
set_option linter.all false
namespace Go.Proofs.YtjnjipmjkkhdpaaGreatDoor
open Go Go.RowKit
variable [Dr]
variable {P:Program} {F S0:Nat->Prop} {N0:Nat} {w w':World} {S S':Nat->Prop} {ψ ψ':Env} {K:Nat->Prop} {T:List (TypeId×TD)} {o:Oper} {a:Act} {st:St} {t:TypeId} {d:TD} {id:Nat} {ids:List Nat} {heap:List (Nat×AObj)}
theorem kya (r:List Value) (h:∀ u∈r,u.oneCell'=true):ElR 1 (r.map .atom):=fun x hx=>by obtain ⟨u,a,rfl⟩:=qap.1 hx;exact ⟨rfl,fun y hy=>by simp [FV.cells] at hy;subst hy;exact h u a⟩
theorem kv0 (r:List Value) (h:∀ u∈r,u.oneCell'=true):RowR S w 1 (r.map .atom) r:=fun i x j v y hx hv hy=>by
 rw [ql,qn] at hx;obtain ⟨u,a,rfl⟩:=hx;have b:j=0:=by have:=(qd.1 hy).1;simp [FV.cells] at this;exact this
 subst b;simp [FV.cells] at hy;subst hy;rw [qbg,Nat.add_zero,a] at hv;cases hv;exact .atom (h _ (qm a))
theorem k69 {g:Nat} {ov:Value} {eo ei:TypeId} {rows:List (List Value)} (h:ObR ψ K S w id (.tab g ov eo ei rows)):RF (fun b=>S b\/Blk (ψ.val id) b) w ov (tabF rows):=by
 obtain ⟨s,vs,d,o,e,k,m⟩:=h;have n:∀ u b,u∈ov::vs->kap u=some b->Blk (ψ.val id) b:=fun u b p f=>by rw [d];exact .inr ⟨u,by simpa [kha] using p,f⟩
 have c:rows.length=(rows.map fun r:List Value=>FV.lst 1 r.length (r.map .atom)).length:=by simp
 have a:∀ (j:Nat) (v:Value) (r:List Value),vs[j]?=some v->rows[j]?=some r->RF (fun b=>S b\/Blk (ψ.val id) b) w v (.lst 1 r.length (r.map .atom)):=fun j v r hv hr=>by obtain ⟨k1,k2⟩:=k j v r hv hr;have:=kru (S:=S) (r.map .atom) (by simpa using k1) (kya r k2) (kv0 r k2);rw [qs] at this;exact this.mono fun b f=>f.imp _root_.id fun h=>n v b (qf _ (qm hv)) h
 have l:ElR 1 (rows.map fun r:List Value=>FV.lst 1 r.length (r.map .atom)):=fun x hx=>by obtain ⟨r,hr,rfl⟩:=qap.1 hx;exact ⟨rfl,fun y hy=>by simp [FV.cells] at hy;subst hy;rfl⟩
 have:=kru (S:=fun b=>S b\/Blk (ψ.val id) b) (rows.map fun r:List Value=>FV.lst 1 r.length (r.map .atom)) (by rw [<- c];exact e) l (fun i x j v y hx hv hy=>by
  rw [ql,qn] at hx;obtain ⟨r,hr,rfl⟩:=hx;have q:j=0:=by have:=(qd.1 hy).1;simp [FV.cells] at this;exact this
  subst q;simp [FV.cells] at hy;subst hy;rw [qbg,Nat.add_zero] at hv;exact a i v r hv hr)
 rw [<- c] at this;exact this.mono fun b f=>f.elim _root_.id fun h => .inr (n ov b (qt ..) h)
inductive LendI where
 | row (t id n:Nat) (e:TypeId) (size:Nat) (xs:List FV)
 | tab (t id g:Nat) (ov:Value) (eo ei:TypeId) (rows:List (List Value)) (x:FV)
 | inn (t id g:Nat) (ov:Value) (eo ei:TypeId) (rows:List (List Value)) (i:Nat) (x:FV)
def LendI.ok (st:St):LendI->Prop
 | .row t id n e size xs=>st.get t = .row id n/\kaa st.heap id=some (.frow e size xs)/\n=xs.length
 | .tab t id g ov eo ei rows x=>st.get t = .fz (.atom ov)/\kaa st.heap id=some (.tab g ov eo ei rows)/\x=tabF rows
 | .inn t id g ov eo ei rows i x=>st.get t = .irow id g (i+1)/\kaa st.heap id=some (.tab g ov eo ei rows)/\∃ r,rows[i]?=some r/\x = .lst 1 r.length (r.map .atom)
def LendI.slot:LendI->Nat×AV
 | .row t _ n _ size xs=>(t, .fz (.lst size n xs))
 | .tab t _ _ _ _ _ _ x=>(t, .fz x)
 | .inn t _ _ _ _ _ _ _ x=>(t, .fz x)
def k73 (ls:List LendI) (st:St):St:={ st with tmps:=ls.map LendI.slot++st.tmps }
theorem k6w {e:TypeId} {size:Nat} {xs:List FV} (h:ObR ψ K S w id (.frow e size xs)):RF (fun b=>S b\/Blk (ψ.val id) b) w (ψ.val id) (.lst size xs.length xs):=by obtain ⟨h0,c,cs,a,d,hr⟩:=h;exact (kru _ a d hr (f:=c)).mono fun b f=>f.imp _root_.id .of
theorem kxu {SB:Nat->Prop}:∀ (ls:List LendI),(∀ l∈ls,l.ok st)->(∀ t,RV ψ (·∈st.ids) S w (a.tmps.getD t undef) (st.get t))->(∀ id ob,kaa st.heap id=some ob->ObR ψ (·∈st.ids) S w id ob)->(∀ id ob,kaa st.heap id=some ob->∀ b,(S b\/Blk (ψ.val id) b)->SB b)->(∀ b,S b->SB b) ->
  ∀ t,RV ψ (·∈st.ids) SB w (a.tmps.getD t undef) (look .any (ls.map LendI.slot++st.tmps) t)
 | [],_,ht,_,_,hS,t=>(ht t).mono (fun _ h=>h) hS
 | l::ls,hl,ht,q,c,hS,t=>by
  have f:=hl l (qt ..);have j:=kxu ls (fun k hk=>hl k (qf _ hk)) ht q c hS t;cases l with
  | row t' id n e size xs=>
   obtain ⟨q1,q2,rfl⟩:=f;show RV ψ (·∈st.ids) SB w _ (look .any ((t',AV.fz (.lst size xs.length xs))::(ls.map LendI.slot++st.tmps)) t);rw [kaw];split
   ·rename_i o;subst o;have hv:=ht t';rw [q1] at hv;have p:=q id _ q2;refine .fz ?_;generalize a.tmps.getD t' undef=u at hv;cases hv with
    | row hK s h1 hv=>
     rw [hv p.1.symm];exact (k6w p).mono (c id _ q2)
   ·exact j
  | tab t' id g ov eo ei rows x=>
   obtain ⟨q1,q2,rfl⟩:=f;show RV ψ (·∈st.ids) SB w _ (look .any ((t',AV.fz (tabF rows))::(ls.map LendI.slot++st.tmps)) t);rw [kaw];split;rename_i o;subst o;have hv:=ht t';rw [q1] at hv;rw [hv.atom];exact .fz ((k69 (q id _ q2)).mono (c id _ q2))
   ·exact j
  | inn t' id g ov eo ei rows i x=>
   obtain ⟨q1,q2,r,q3,rfl⟩:=f;show RV ψ (·∈st.ids) SB w _ (look .any ((t',AV.fz (.lst 1 r.length (r.map .atom)))::(ls.map LendI.slot++st.tmps)) t);rw [kaw];split
   ·rename_i o;subst o;have hv:=ht t';rw [q1] at hv;obtain ⟨C,vs,d,v,A,y,B⟩:=q id _ q2;have m:i<vs.length:=(by rw [v];exact (qd.1 q3).1);obtain ⟨k1,k2⟩:=y i vs[i] r (qa m) q3;refine .fz ?_;have hd:=kru (S:=S) (r.map .atom) (by simpa using k1) (kya r k2) (kv0 r k2);rw [qs] at hd;have hd:=hd.mono fun b z=>c id _ q2 b (z.imp _root_.id fun z=>by rw [d];exact .inr ⟨vs[i],by simp only [kha];exact qf _ (qx m),z⟩);generalize a.tmps.getD t' undef=u at hv;cases hv with
    | irow hK s h1 hv=>
     have:=hv C.symm;rw [d] at this;simp only [kha,qbo] at this;rw [qa m] at this;cases this;exact hd
   ·exact j
theorem kaaz (ls:List LendI) {c:FV} (hl:∀ l∈ls,l.ok st) (hn:NStep P o (k73 ls st) (.fz c)) (hc:k7b c=true):NStep P o st (.fz c):=by
 intro ψ S a w ht g
 let SB:Nat->Prop:=fun b=>S b\/∃ id ob,kaa st.heap id=some ob/\Blk (ψ.val id) b
 have d:∀ id ob,kaa st.heap id=some ob->∀ b,(S b\/Blk (ψ.val id) b)->SB b:=fun id ob h b e=>e.imp _root_.id fun e=>⟨id,ob,h,e⟩;refine kif ?_ (hn ψ SB a w (fun t=>?_) fun id ob j=>?_)
 ·rintro v w' ⟨k,hv⟩;refine ⟨k, .fz ?_⟩;have hv:=hv.inv;cases c with
  | atom u=>cases hv with | atom h=>exact .atom h
  | tup vs=>
   cases hv with
   | tup h hr=>
    refine .tup h fun i v x hv hx=>?_;have f:=qq.1 hc x (qm hx);have:=hr i v x hv hx;cases x with
    | atom u=>cases this with | atom h=>exact .atom h
    | _=>cases f
  | _=>cases hc
 exact kxu ls hl (fun t=>ht t) g d (fun b h => .inl h) t
 ·exact (g id ob j).keep Ext.refl (fun _ h=>h) (fun b e => .inl e) (fun _ _ _=>rfl) ⟨rfl,rfl⟩ fun _ _=>rfl
def renX (r:List (Nat×Nat)):AObj->AObj
 | .gho cs vs => .gho cs (kk9 r vs)
 | ob=>renO r ob
def kw6 (r:List (Nat×Nat)):List (Nat×AObj)->List (Nat×AObj)
 | []=>[]
 | (k,v)::l=>(rn r k,renX r v)::kw6 r l
def kts (r:List (Nat×Nat)):List (Nat×AV)->List (Nat×AV)
 | []=>[]
 | (k,v)::l=>(k,renA r v)::kts r l
def renSt (r:List (Nat×Nat)) (st:St):St:={ n:=st.n,tmps:=kts r st.tmps,heap:=kw6 r st.heap,ids:=renI r st.ids,dfr:=st.dfr }
def k7s (r:List (Nat×Nat)) (st:St):Bool:=kus (renI r st.ids) && st.heap.all (fun p=>match p.2 with
 | .was _ ids0 _ _=>ids0.all (fun i=>Nat.beq (rn r i) i && st.ids.contains i)
 | .box _ cs=>okAs st.ids cs
 | .xo _=>false
 | _=>true)
theorem kuf {r:List (Nat×Nat)}:∀ {l:List (Nat×AV)} {t:Nat},look .any (kts r l) t=renA r (look .any l t)
 | [],_=>rfl
 | (k,v)::l,t=>by
  simp only [kts,kaw];split;rfl
  ·exact kuf
theorem kla {r:List (Nat×Nat)} {j:Nat}:∀ {A:List (Nat×AObj)} {ob:AObj},kaa (kw6 r A) j=some ob->∃ i o,(i,o)∈A/\kaa A i=some o/\rn r i=j/\ob=renX r o
 | [],ob,h=>by cases h
 | (k,v)::A,ob,h=>by
  simp only [kw6] at h;rw [kab] at h;by_cases hk:rn r k=j;rw [qr hk] at h;cases h;exact ⟨k,v,qt ..,by rw [kab,qr rfl],hk,rfl⟩
  ·rw [qj hk] at h;obtain ⟨i,o,h0,h1,a,b⟩:=kla h;exact ⟨i,o,qf _ h0,by rw [kab,qj (fun e=>hk (by rw [e,a]))];exact h1,a,b⟩
theorem kab2 (r:List (Nat×Nat)) (h:k7s r st=true:=by kernel_rfl):LeSt st (renSt r st):=by
 unfold k7s at h;simp only [qk] at h;obtain ⟨hd,d⟩:=h;have d:=qq.1 d;rw [krv] at hd;have inj:=kqg hd;intro F S0 N0 ψ S a w hs
 let ψ':Env:=⟨fun j=>match st.ids.find? (fun k=>Nat.beq (rn r k) j) with | some i=>ψ.len i | none=>0,fun j=>match st.ids.find? (fun k=>Nat.beq (rn r k) j) with | some i=>ψ.val i | none => .nilFunc⟩
 have f:∀ i,i∈st.ids->st.ids.find? (fun k=>Nat.beq (rn r k) (rn r i))=some i:=fun i hi=>by
  cases h:st.ids.find? (fun k=>Nat.beq (rn r k) (rn r i)) with
  | none=>
   rw [List.find?_eq_none] at h;exact absurd (Nat.beq_refl _) (h i hi)
  | some k=>
   have h1:=List.find?_some h;rw [inj k i (List.mem_of_find?_eq_some h) hi (qe h1)]
 have hr:∀ i,i∈st.ids->rn r i∈renI r st.ids/\ψ'.len (rn r i)=ψ.len i/\ψ'.val (rn r i)=ψ.val i:=fun i hi=>by
  refine ⟨by rw [krv];exact List.mem_map_of_mem hi,?_,?_⟩
  ·show (match st.ids.find? (fun k=>Nat.beq (rn r k) (rn r i)) with | some i=>ψ.len i | none=>0)=_
   rw [f i hi]
  ·show (match st.ids.find? (fun k=>Nat.beq (rn r k) (rn r i)) with | some i=>ψ.val i | none => .nilFunc)=_
   rw [f i hi]
 have c:=hs.core;refine ⟨ψ',S,hs.defers,hs.size,fun t=>?_,⟨fun j ob u=>?_,fun j j' ob ob' b u z A q n=>?_,c.lt,c.s0,c.n0,c.fr⟩⟩;show RV ψ' _ S w _ (look .any (kts r st.tmps) t);rw [kuf];exact (hs.tmps t).ren hr
 ·obtain ⟨i,o,hm,h1,rfl,rfl⟩:=kla u;obtain ⟨k1,k2,k3⟩:=c.obj i o h1;obtain ⟨e1,e2,e3⟩:=hr i k1;have B:=d _ hm;refine ⟨e1,?_,fun b q=>k3 b (by rwa [e3] at q)⟩;cases o with
  | box e cs=>exact k2.ren (ids:=st.ids) hr k1 B
  | frow e s xs=>exact k2.ren (ids:=st.ids) hr k1 rfl
  | smap kv=>exact k2.ren (ids:=st.ids) hr k1 rfl
  | memo Φ hi=>exact k2.ren (ids:=st.ids) hr k1 rfl
  | xo k=>cases B
  | glb gs=>exact k2.ren (ids:=st.ids) hr k1 rfl
  | sit s pos=>exact k2.ren (ids:=st.ids) hr k1 rfl
  | tab g ov eo ei rows=>exact k2.ren (ids:=st.ids) hr k1 rfl
  | gho cs vs=>
   obtain ⟨q0,q1,q2,q3⟩:=k2;refine ⟨by omega,by rw [e3,q1],by rw [e3,q2],fun j v x hv hx=>?_⟩;rw [kh9,ql,qn] at hx;obtain ⟨y,hy,rfl⟩:=hx;exact (q3 j v y hv hy).ren hr
  | was ψ0 ids0 S1 w0=>
   obtain ⟨q0,q1,q2,q3,q4,q5,q6⟩:=k2;have l:∀ j,j∈ids0->rn r j=j/\j∈st.ids:=fun j m=>(by have:=qq.1 B j m;simp only [qk] at this;exact ⟨qe this.1,by simpa using this.2⟩);refine ⟨by omega,by rw [e3,q1],by rw [e3,q2],fun j m=>?_,fun j m=>?_,q5,q6⟩;obtain ⟨f1,f2⟩:=l j m;obtain ⟨_,g2,g3⟩:=hr j f2;rw [f1] at g2 g3;rw [g2,g3];exact q3 j m
   ·obtain ⟨f1,f2⟩:=l j m;exact f1 ▸ (hr j f2).1
 ·obtain ⟨i,o,_,h1,rfl,rfl⟩:=kla u;obtain ⟨i',o',_,p,rfl,rfl⟩:=kla z;rw [(hr i (c.obj i o h1).1).2.2] at q;rw [(hr i' (c.obj i' o' p).1).2.2] at n;exact c.inj i i' o o' b h1 p (fun e=>A (by rw [e])) q n
theorem k4z {α:Type} (enc:α->FV) (m:List (BA×α)) (s:BA) (z:α) (x y:Operand) (kt et:TypeId) (kd:TD) (zv:Value) (K:o.op = .lookup t x y true) (L:TOk P T) (hd:kac T t=some d) (hk:d.kind = .map kt et) (c:kac T kt=some kd) (l:kd.kind = .str) (inf:TypeInfo) (B:P.info? et=some inf) (C:inf.zero=some zv) (D:enc z = .atom zv) (E:zv.oneCell'=true) (hx:st.eval x = .mp id:=by kernel_rfl) (F:kaa st.heap id=some (.smap (m.map fun p=>(p.1,enc p.2))):=by kernel_rfl) (hy:st.eval y = .fz (.atom (.string s)):=by kernel_rfl):NStep P o st (.fz (.tup [enc (mget m s z), .atom (.bool (mhas m s))])):=by
 intro ψ S a w ht N;have hd:=L.get hd;have c:=L.get c;have hv:=Sim.eval_tmps ht x;rw [hx] at hv;have n:=N id _ F;have q:=k37 n hv;obtain ⟨h0,b,es,clock,g,M,G,hr⟩:=n;have f:=Sim.eval_tmps ht y;rw [hy] at f;have f:=f.atom;have H:(zeroValue et).run P w = .ok zv w:=by simp [zeroValue,typeInfo,B,C]
 have r:=MapKept.run_checkKey (w:=w) (c.str l) (k := .string s) trivial es.isEmpty 9999;have two:∀ {v:Value} {x:FV} {ok:Bool},RF (fun b=>S b\/w.heap.size<=b) w v x->RF (fun b=>S b\/w.heap.size<=b) w (.tuple #[v, .bool ok]) (.tup [x, .atom (.bool ok)]):=fun {v x ok} h => .tup rfl fun i u y A hy=>by
  match i with
  | 0=>simp at A hy;subst A hy;exact h
  | 1=>simp at A hy;subst A hy;exact .atom rfl
  | i+2=>simp at A
 rcases kob s (R:=fun v x=>RF S w v x) es.toList (m.map fun p=>(p.1,enc p.2)) 0 (by simpa using G) (fun j e p O hp=>hr j e p (by simpa using O) hp) with ⟨f1,f2⟩ | ⟨j,v,x',f1,f2,f3⟩
 ·have I:=MapKept.run_findKey (w:=w) (c.str l) f1;have J:mhas m s=false:=by rw [<- kzt enc];unfold mhas;rw [f2];rfl
  refine kad w (.tuple #[zv, .bool false]) ?_ ⟨kae _, .fz ?_⟩;simp [execOp,K,f,q,g,Instr.lookup,run_underlying (hd.mp hk),MapKept.run_getObj_map M,r,I,H]
  ·rw [J];refine two ?_;rw [<- ky2 enc];unfold mget;rw [f2];simp only;rw [D];exact .atom E
 ·have I:=MapKept.run_findKey (w:=w) (c.str l) f1;have J:mhas m s=true:=by rw [<- kzt enc];unfold mhas;rw [f2];rfl
  refine kad w (.tuple #[v, .bool true]) ?_ ⟨kae _, .fz ?_⟩;simp [execOp,K,f,q,g,Instr.lookup,run_underlying (hd.mp hk),MapKept.run_getObj_map M,r,I]
  ·rw [J];refine two ?_;rw [<- ky2 enc];unfold mget;rw [f2];exact f3.mono fun _ h => .inl h
theorem k5v {t id n:Nat} {e:TypeId} {size:Nat} {xs:List FV} (h1:st.get t = .row id n) (a:kaa st.heap id=some (.frow e size xs)) (b:n=xs.length):LendI.ok st (.row t id n e size xs):=⟨h1,a,b⟩
theorem k63:∀ l∈([]:List LendI),l.ok st:=fun l h=>by cases h
theorem k5c {l:LendI} {ls:List LendI} (h:l.ok st) (hs:∀ k∈ls,k.ok st):∀ k∈l::ls,k.ok st:=fun k hk=>by
 rcases qaa.1 hk with rfl | hk;exact h
 ·exact hs k hk
theorem k23 (e:TypeId) (id k n:Nat) (hk:0<k) (g:kaa st.heap id=some (.frow e 1 (List.replicate n (.atom (.slice none 0 0)))):=by kernel_rfl):LeSt st { st with heap:=(id, .frow e 1 (List.replicate n (.lst k 0 [])))::kdm id st.heap }:=by
 intro F S0 N0 ψ S a w hs;have c:=hs.core;obtain ⟨o,⟨h0,p,cs,d,z,hr⟩,q⟩:=c.obj id _ g;rw [qbf] at h0 d;refine ⟨ψ,S,hs.defers,hs.size,hs.tmps,⟨fun i ob f=>?_,fun i i' ob ob' b f r s B t=>?_,c.lt,c.s0,c.n0,c.fr⟩⟩
 ·rw [kab] at f;by_cases m:id=i
  ·subst m;rw [qr rfl] at f;cases f;refine ⟨o,⟨by rw [qbf];exact h0,p,cs,by rw [qbf];exact d,fun x hx=>?_,fun i x j v y hx hv hy=>?_⟩,q⟩;rw [qbk] at hx;rw [hx.2];exact ⟨rfl,fun y hy=>by simp [FV.cells] at hy;subst hy;rfl⟩
   ·have l:=qm hx;rw [qbk] at l;have u:i<n:=(by have:=(qd.1 hx).1;rwa [qbf] at this);rw [l.2] at hy;have C:j=0:=(by have:=(qd.1 hy).1;simp [FV.cells] at this;exact this);subst C;simp [FV.cells] at hy;subst hy;have:=hr i (.atom (.slice none 0 0)) 0 v (.atom (.slice none 0 0)) (by rw [List.getElem?_replicate,qr u]) hv rfl;rw [this.atom_eq];exact .lst (A:=none) (cap:=0) (xs:=[]) (fun _=>[]) rfl (qv _) (by omega) hk (fun i x hx=>by simp at hx) (fun i x hx=>by simp at hx) (fun i x j v y hx=>by simp at hx)
  ·rw [qj m] at f;exact c.obj i ob (kcg id f).2
 ·have up:∀ {i ob},kaa ((id,AObj.frow e 1 (List.replicate n (.lst k 0 [])))::kdm id st.heap) i=some ob->∃ ob',kaa st.heap i=some ob':=fun {i ob} h=>by
   rw [kab] at h;split at h;rename_i m;exact ⟨_,m ▸ g⟩
   ·exact ⟨_,(kcg id h).2⟩
  obtain ⟨o1,g1⟩:=up f;obtain ⟨o2,g2⟩:=up r;exact c.inj i i' o1 o2 b g1 g2 s B t
def cut3 {α:Type} (xs:List α) (l h m:Int):Option (List α):=if 0<=l/\l<=h/\h<=m/\m<=xs.length then some ((xs.take h.toNat).drop l.toNat) else none
theorem RF.take3 {A:Option Addr} {cap n size:Nat} {xs:List FV} (h:RF S w (.slice A n cap) (.lst size n xs)) (lo hi m:Nat) (h1:lo<=hi) (e:hi<=n) (f:hi<=m) (g:m<=cap):RF S w (.slice (if m=lo then A else A.map (·.add (lo*size))) (hi - lo) (m - lo)) (.lst size (hi - lo) ((xs.take hi).drop lo)):=by
 obtain ⟨A0,cap0,css,hv,hn,hc,hm,hs,ha,hl,hr⟩:=h.lst_inv;injection hv with e1 _ e3;subst e1 e3;have a:(xs.take hi).length=hi:=by rw [q9];omega
 have get:∀ (i:Nat) (x:FV),((xs.take hi).drop lo)[i]?=some x->xs[lo+i]?=some x:=fun i x hx=>by
  rw [qag,qw] at hx;split at hx;exact hx
  ·cases hx
 refine .lst (fun i=>css (lo+i)) (by rw [qau,a]) (by omega) (by omega) hs (fun i x hx=>?_) (fun i x hx=>hl _ x (get i x hx)) fun i x j v y hx hv hy=>hr _ x j v y (get i x hx) hv hy;obtain ⟨b,o,hA,hS,c⟩:=ha _ x (get i x hx);have d:=(qd.1 hx).1;rw [qau,a] at d;refine ⟨b,o+lo*size,?_,hS,by rw [Nat.add_assoc,<- qaw];exact c⟩;rw [qj (by omega),hA];simp only [qa1,kbg]
theorem kaa6 {α:Type} (enc:α->FV) (x y m:Operand) (lo:Option Operand) (l:Option Int) (h k:Int) (xs:List α) {r:List α} (size:Nat) (e:TypeId) (de:TD) (k1 k2:IntKind) (hc:cut3 xs (l.getD 0) h k=some r) (p:TOk P T) (s:o.op = .slice t x lo (some y) (some m)) (hd:kac T t=some d) (hk:d.kind = .slice e) (f:kac T e=some de) (g:de.size=size) (hx:st.eval x = .fz (eL size enc xs)) (hl:kna st lo=some l) (u:st.eval y = .fz (.atom (.int k1 h))) (hm:st.eval m = .fz (.atom (.int k2 k))):NStep P o st (.fz (eL size enc r)):=by
 intro ψ S a w ht E;have h1:=Sim.eval_tmps ht x;rw [hx] at h1;have bl:=kl0 ht hl;have b:=Sim.eval_tmps ht y;rw [u] at b;have b:=b.atom;have c:=Sim.eval_tmps ht m;rw [hm] at c;have c:=c.atom;unfold cut3 at hc;split at hc
 ·rename_i q;injection hc with hc;subst hc;have h1:=h1.inv;obtain ⟨A,cap,css,hv,hn,z,B,hs,ha,C,hr⟩:=h1.lst_inv;rw [hv] at h1;have i:=h1.take3 (l.getD 0).toNat h.toNat k.toNat (by omega) (by omega) (by omega) (by omega);refine kad w (.slice (if k.toNat=(l.getD 0).toNat then A else A.map (·.add ((l.getD 0).toNat*size))) (h.toNat - (l.getD 0).toNat) (k.toNat - (l.getD 0).toNat)) ?_ ⟨kae _,(RV.fz ?_).here⟩
  ·have D:=(p.get hd).slice hk;have e1:(Instr.sliceBounds true xs.length cap (lo.map a.eval) ((some y).map a.eval) ((some m).map a.eval)).run P w = .ok ((l.getD 0).toNat,h.toNat,k.toNat) w:=by
    unfold Instr.sliceBounds;have q1:0<=k:=(by omega);have q2:k<=(cap:Int):=(by omega);have q3:0<=h:=(by omega);have q4:h<=(k.toNat:Int):=(by omega);rcases bl with ⟨rfl,rfl⟩ | ⟨y',k',n',rfl,rfl,j⟩;simp [Instr.sliceBound,b,c,asIntOf,q1,q2,q3,q4];intro hc;exfalso;omega
    ·simp only [qbh] at q ⊢;have q5:n'<=(h.toNat:Int):=(by omega);simp [Instr.sliceBound,b,c,j,asIntOf,q1,q2,q3,q4,q5,q.1];rw [qr (by omega),qr (by omega)]
   have n:(sizeOf e).run P w = .ok size w:=(by rw [(p.get f).size,g]);simp only [qa1] at e1;simp [execOp,s,Instr.sliceAt,Instr.slice,run_underlying D,hv,e1,n]
  ·have:((xs.take h.toNat).drop (l.getD 0).toNat).length=h.toNat - (l.getD 0).toNat:=(by rw [qau,q9];omega);unfold eL;rw [this,List.map_drop,List.map_take];exact i
 ·cases hc
end Go.Proofs.YtjnjipmjkkhdpaaGreatDoor
