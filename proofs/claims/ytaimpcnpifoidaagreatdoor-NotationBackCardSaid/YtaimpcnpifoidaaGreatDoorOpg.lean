import Derived.Test.YtaimpcnpifoidaaGreatDoorMop
import Derived.Lib.ItoaNum
import Derived.Sort.Grow
import Derived.Deep.Draws
import Derived.Lib.ConvBytes
import Derived.Lib.AtoiErrMem
set_option linter.unusedVariables false
set_option linter.unusedSimpArgs false
namespace Go.Proofs.YtaimpcnpifoidaaGreatDoor
open Go Go.RowKit
theorem kajk {α:Type} {b:Bool} {x y:α} {r:α} (h:(bif b then x else y)=r):(b=true∧x=r)∨(b=false∧y=r):=by
 cases b
 ·exact .inr ⟨rfl,h⟩
 ·exact .inl ⟨rfl,h⟩
section
variable {P:Program} {F S0:Nat→Prop} {N0:Nat} {w w':World} {S S':Nat→Prop} {ψ:Env} {K:Nat→Prop} {T:List (TypeId×TD)} {o:Oper} {a:Act} {st:St} {t:TypeId} {d:TD} {id:Nat}
def tabC {α:Type} (E:En α) (xs:List α):List FV:=xs.flatMap E.cl
theorem k7e {α:Type} (E:En α):∀ (xs:List α) (i:Nat) (x:α),xs[i]?=some x→∃ post,(tabC E xs).drop (i*E.n)=E.cl x++post
 | [],i,x,h=>by simp at h
 | y::xs,0,x,h=>by
  simp at h
  subst h
  exact ⟨xs.flatMap E.cl,by simp [tabC]⟩
 | y::xs,i+1,x,h=>by
  obtain ⟨post,hp⟩:=k7e E xs i x (by simpa using h)
  refine ⟨post,?_⟩
  have hl:(E.cl y).length=E.n:=by rw [← E.hcl];exact E.hn y
  rw [← hp]
  unfold tabC
  rw [qal,Nat.add_mul,Nat.one_mul,Nat.add_comm,← List.drop_drop,show (E.cl y++xs.flatMap E.cl).drop E.n=xs.flatMap E.cl by rw [← hl];simp]
theorem k7b {b o:Nat} {cs ys zs:List FV} {off:Nat} (h:RF S w (.pointer (some ⟨b,o,none⟩)) (.fp cs)) (hd:cs.drop off=ys++zs) (h0:0<ys.length):RF S w (.pointer (some ⟨b,o+off,none⟩)) (.fp ys):=by
 cases h with
 | fp vs hS ha hl hp h1 hr=>
  have hlen:ys.length+zs.length=cs.length - off:=by rw [← ql,← hd,qaq]
  refine .fp ((vs.drop off).take ys.length) hS (fun j u hu=>?_) (by rw [qai,qaq];omega) h0 (fun x hx=>h1 x (List.mem_of_mem_drop (i:=off) (by rw [hd];exact List.mem_append_left _ hx))) fun i v x hv hx=>?_
  ·rw [List.getElem?_take] at hu
   split at hu
   ·rw [List.getElem?_drop] at hu
    have:=ha _ u hu
    rwa [← Nat.add_assoc] at this
   ·cases hu
  ·rw [List.getElem?_take] at hv
   split at hv
   ·rename_i hi
    rw [List.getElem?_drop] at hv
    refine hr _ v x hv ?_
    rw [← List.getElem?_drop,hd,List.getElem?_append_left hi]
    exact hx
   ·cases hv
theorem kaj8 {α:Type} (E:En α) {xs:List α} {g m:Nat} {gs:List (Nat×Array Value)} {vs:Array Value} (hO:∀ id o,kab st.heap id=some o→ObR ψ (·∈st.ids) S w id o) (hob:kab st.heap id=some (.glb gs)) (hm:gs[m]?=some (g,vs)) (hv:vs.toList.map FV.atom=tabC E xs) (h1:vs.toList.all (·.oneCell')=true) (h0:0<vs.size):
  RF S w (.pointer (some ⟨g,0,none⟩)) (.fp (tabC E xs)):=by
 obtain ⟨_,_,_,h⟩:=hO id _ hob
 obtain ⟨hS,hh'⟩:=h (g,vs) (qt hm)
 obtain ⟨e,d,hh⟩:=hh'.tab h0
 rw [← hv]
 refine .fp vs.toList hS (fun j u hu=>?_) (by simp) (by simpa using h0) (fun x hx=>?_) fun i v x hv hx=>?_
 ·simp only [World.cell?,hh]
  simpa using hu
 ·obtain ⟨v,hv,rfl⟩:=qao.1 hx
  exact qm.1 h1 v hv
 ·rw [List.getElem?_map,hv] at hx
  simp only [qa6,qh] at hx
  subst hx
  exact .atom (qm.1 h1 v (qt hv))
theorem kai7 {g m:Nat} {gs:List (Nat×Array Value)} {vs:Array Value} (hO:∀ id o,kab st.heap id=some o→ObR ψ (·∈st.ids) S w id o) (hob:kab st.heap id=some (.glb gs)) (hm:gs[m]?=some (g,vs)) {nm:String} (hg:P.globalNamed nm=some g) (h0:0<vs.size):w.var? P nm=some vs:=by
 obtain ⟨_,_,_,h⟩:=hO id _ hob
 obtain ⟨hS,hh'⟩:=h (g,vs) (qt hm)
 obtain ⟨e,d,hh⟩:=hh'.tab h0
 simp only [World.var?,hg,qa,hh]
theorem kabs {α:Type} (E:En α) {xs:List α} {v:α} {g m n:Nat} {gs:List (Nat×Array Value)} {vs:Array Value} {Y:Operand} {k:IntKind} {i:Int} {e:TypeId} {de:TD} (h:idx xs i=some v) (ho:o.op = .indexAddr t (.global g) Y) (hT:TOk P T) (hu:P.underlying t=some (.array n e)) (hde:ka3 T e=some de)
  (hsz:de.size=E.n) (hn:xs.length=n) (hp:0<E.n) (hy:st.eval Y = .fz (.atom (.int k i))) (hob:kab st.heap id=some (.glb gs)) (hm:gs[m]?=some (g,vs)) (hvs:vs.toList.map FV.atom=tabC E xs) (h1:vs.toList.all (·.oneCell')=true) (h0:Nat.blt 0 vs.size=true:=by kernel_rfl):
  NStep P o st (.fz (.fp (E.cl v))):=by
 intro ψ S a w ht hO
 obtain ⟨hi0,hi⟩:=kuv h
 have hlt:i.toNat<xs.length:=(List.getElem?_eq_some_iff.1 hi).1
 obtain ⟨post,hd⟩:=k7e E xs i.toNat v hi
 have hr:=kaj8 E hO hob hm hvs h1 (by simpa [Nat.blt_eq] using h0)
 have hy2:=Sim.eval_tmps ht Y
 rw [hy] at hy2
 have hya:=hy2.atom
 have hlt2:i<(n:Int):=by omega
 have hde:=hT.get hde
 have hl:(E.cl v).length=E.n:=by rw [← E.hcl];exact E.hn v
 have hr2:=k7b (o:=0) hr hd (by omega)
 refine kam (w':=w) (v := .pointer (some ⟨g,0+i.toNat*E.n,none⟩)) ?_ ⟨kaj _, .fz (hr2.mono fun b hb => .inl hb)⟩
 have hge:a.eval (.global g) = .pointer (some ⟨g,0,none⟩):=rfl
 simp [execOp,ho,hge,hya,Instr.indexAt,asIntOf,run_underlying hu,Instr.sureAddr,hi0,hlt2,hde.size,hsz,kks]
theorem kahs {X:Operand} {s:BA} (hT:TOk P T) (ho:o.op = .range t X:=by kernel_rfl) (hd:ka3 T t=some d:=by kernel_rfl) (hk:d.kind = .str:=by kernel_rfl) (hx:st.eval X = .fz (.atom (.string s)):=by kernel_rfl) (hid:st.ids.contains id=false:=by kernel_rfl):kdf P o st (.ref id 0 0) ((id, .sit s 0)::st.heap) (id::st.ids):=by
 have hid:id∉st.ids:=by simpa using hid
 intro F S0 N0 ψ S a w hs'
 have hcore:=hs'.core
 obtain ⟨_,e,h1,h2⟩:=hT.get hd
 rw [hk] at h2
 have hu:P.underlying t=some .string:=by cases e <;> simp only [kap] at h2;exact h1
 have hxa:=hs'.eval X
 rw [hx] at hxa
 have hxa:=hxa.atom
 refine kam (w':=w.alloc (.stringIter s 0)) (v := .pointer (some ⟨w.heap.size,0,none⟩)) ?_ ⟨ψ.set id 0 (.pointer (some ⟨w.heap.size,0,none⟩)),S,?_,?_,kov _ hcore.fr,keo hid _ _,fun _ h=>qk _ h,fun _ h=>h,Same.of_grow (kde _ _)⟩
 ·simp [execOp,ho,hxa,Instr.range,run_underlying hu]
 ·exact hcore.add (kde _ _) hid (fun b hb=>by simp [kb1] at hb;omega) ⟨ke1 _ _,w.heap.size,kbn _ _,heap_alloc_new w _⟩
 ·exact .ref (qo ..) (by rw [ke1];exact qw _) rfl fun _=>⟨w.heap.size,by rw [kbn];rfl,rfl⟩
theorem kab6 {s:BA} {pos:Nat} {v:Value} (hs:ObR ψ K S w id (.sit s pos)) (hv:RV ψ K S w v (.ref id 0 0)):∃ b,ψ.val id = .pointer (some ⟨b,0,none⟩)∧w.heap[b]?=some (.stringIter s pos)∧v = .pointer (some ⟨b,0,none⟩):=by
 obtain ⟨h0,b,h1,h2⟩:=hs
 cases hv with
 | ref hK hn h1' hv=>
  obtain ⟨b',hb',rfl⟩:=hv h0.symm
  rw [h1] at hb'
  simp only [kb1,qh] at hb'
  subst hb'
  exact ⟨b,h1,h2,rfl⟩
theorem kab4 {X:Operand} {s:BA} {pos:Nat} (hN:decide (pos<s.size)=false) (ho:o.op = .next X true:=by kernel_rfl) (hx:st.eval X = .ref id 0 0:=by kernel_rfl) (hob:kab st.heap id=some (.sit s pos):=by kernel_rfl):kdf P o st (.fz (.tup [eB false])) st.heap st.ids:=by
 refine NStep.step fun ψ S a w ht hO=>?_
 have hxa:=Sim.eval_tmps ht X
 rw [hx] at hxa
 obtain ⟨b,h1,h2,h3⟩:=kab6 (hO id _ hob) hxa
 have hlt:¬ pos<s.size:=qak hN
 refine kam (w':=w) (v := .tuple #[.bool false]) ?_ ⟨kaj _, .fz (.tup rfl fun i v x hv hx=>?_)⟩
 ·simp [execOp,ho,h3,Instr.next,getObj,Sem.run,h2,hlt]
 ·cases i with
  | zero=>simp at hv hx;subst hv hx;exact .atom rfl
  | succ i=>simp at hv
theorem kakw {X:Operand} {s:BA} {pos:Nat} (hN:decide (pos<s.size)=true) (ho:o.op = .next X true:=by kernel_rfl) (hx:st.eval X = .ref id 0 0:=by kernel_rfl) (hob:kab st.heap id=some (.sit s pos):=by kernel_rfl):
  kdf P o st (.fz (.tup [eB true,eI ((pos:Nat):Int),eI32 (((Utf8.decode s pos).1:Nat):Int)])) ((id, .sit s (pos+(Utf8.decode s pos).2))::st.heap) st.ids:=by
 intro F S0 N0 ψ S a w hs'
 have hcore:=hs'.core
 obtain ⟨hid,hobr,hfr⟩:=hcore.obj id _ hob
 have hv:=hs'.eval X
 rw [hx] at hv
 obtain ⟨b,hval,hb,hpt⟩:=kab6 hobr hv
 have h0:=hobr.1
 have hlt:pos<s.size:=q9 hN
 have hbl:b<w.heap.size:=(Array.getElem?_eq_some_iff.1 hb).1
 have hset:ψ.set id 0 (ψ.val id)=ψ:=by
  unfold Env.set
  congr 1
  ·funext i;split
   ·rename_i h;rw [h,h0]
   ·rfl
  ·funext i;split
   ·rename_i h;rw [h]
   ·rfl
 let w':World:={ w with heap:=w.heap.setIfInBounds b (.stringIter s (pos+(Utf8.decode s pos).2)) }
 have hoth:∀ k,k<w.heap.size→¬ Blk (ψ.val id) k→w'.heap[k]?=w.heap[k]?:=fun k _ hk=>by
  show (w.heap.setIfInBounds b _)[k]?=_
  rw [Array.getElem?_setIfInBounds_ne]
  exact fun e=>hk (.of (by rw [hval,e];rfl))
 have hk:Same S w w':=fun k hk hl=>hoth k hl fun e=>(hfr k e).1 hk
 obtain ⟨c1,c2,c3⟩:=hcore.upd (n:=0) (v:=ψ.val id) (w':=w') (ob' := .sit s (pos+(Utf8.decode s pos).2)) hob (by simp [w']) hoth (.inr ⟨h0,rfl⟩) (fun b hb => .inl hb) (by
  rw [hset]
  exact ⟨h0,b,hval,by show (w.heap.setIfInBounds b _)[b]?=_;simp [hbl]⟩)
 rw [hset] at c1
 refine kam (w':=w') (v := .tuple #[.bool true, .int .i64 pos, .int .i32 (Utf8.decode s pos).1]) ?_ ⟨ψ,S,c1, .fz (.tup rfl fun i v x hv hx=>?_),⟨rfl,rfl,rfl,by simp [w'],c3⟩,Ext.refl,fun _ h=>h,fun _ h=>h,hk⟩
 ·simp [execOp,ho,hpt,Instr.next,getObj,setObj,Sem.run,hb,hlt,goInt,w']
 ·match i with
  | 0=>simp at hv hx;subst hv hx;exact .atom rfl
  | 1=>simp at hv hx;subst hv hx;exact .atom rfl
  | 2=>simp at hv hx;subst hv hx;exact .atom rfl
  | i+3=>simp at hv
def s2b (s:BA):Option (List Int):=if s.size≤140737488355328 then some (ofBA s) else none
theorem s_s2b {sr:TypeId} {x:Operand} {s:BA} {xs:List Int} {e:TypeId} {ds de:TD} (h:s2b s=some xs) (hT:TOk P T) (ho:o.op = .convert sr t x:=by kernel_rfl) (hs:ka3 T sr=some ds:=by kernel_rfl) (hks:ds.kind = .str:=by kernel_rfl) (hd:ka3 T t=some d:=by kernel_rfl) (hk:d.kind = .slice e:=by kernel_rfl) (hde:ka3 T e=some de:=by kernel_rfl) (hke:de.kind = .int .u8:=by kernel_rfl) (hx:st.eval x = .fz (.atom (.string s)):=by kernel_rfl):NStep P o st (.fz (eL 1 eU8 xs)):=by
 unfold s2b at h
 split at h
 ·rename_i hsz
  injection h with h
  subst h
  intro ψ S a w ht hO
  obtain ⟨_,u,h1,_⟩:=hT.get hs
  have hu:=(hT.get hd).slice hk
  obtain ⟨_,u3,h5,h6⟩:=hT.get hde
  rw [hke] at h6
  have he:P.underlying e=some (.int .u8):=by
   cases u3 <;> simp only [kap] at h6
   subst h6
   exact h5
  have hv:=Sim.eval_tmps ht x
  rw [hx] at hv
  have hlen:(ofBA s).length=s.size:=by unfold ofBA;rw [qan,qav];rfl
  have hat:∀ i (n:Int),(ofBA s)[i]?=some n→i<s.size∧((s.data.toList.getD i 0).toNat:Int)=n:=fun i n hn=>by
   have hi:i<s.size:=by rw [← hlen];exact (List.getElem?_eq_some_iff.1 hn).1
   refine ⟨hi,?_⟩
   unfold ofBA at hn
   rw [List.getElem?_map,qj] at hn
   obtain ⟨b,hb,rfl⟩:=hn
   rw [List.getD_eq_getElem?_getD,hb]
   rfl
  refine kam (w':=Lib.bytesWorld w e s) (v := .slice (some ⟨w.heap.size,0,none⟩) s.size (grownCap w s.size 0 e)) ?_ ⟨?_, .fz ?_⟩
  ·have:=Lib.run_convert_string_bytes (P:=P) w sr t e s h1 hu he
   simp [execOp,ho,hv.atom,this]
  ·have:=Lib.bytesWorld_below w e s
   exact this
  ·have hge:=grownCap_ge w s.size 0 e
   have hle:=grownCap_le_maxLen w s.size 0 e (by unfold maxLen;omega)
   unfold maxLen at hle
   show RF _ _ _ (.lst 1 (ofBA s).length ((ofBA s).map eU8))
   rw [hlen]
   refine .lst (fun i=>[.int .u8 (s.data.toList.getD i 0).toNat]) (by simp [hlen]) hge (by omega) (by omega) (fun i y hy=>?_) (fun i y hy=>?_) fun i y j v z hy hv hz=>?_
   ·simp only [List.getElem?_map,qj] at hy
    obtain ⟨n,hn,rfl⟩:=hy
    refine ⟨w.heap.size,0,rfl, .inr (qw _),fun j u hu=>?_⟩
    cases j with
    | zero=>
     simp at hu
     subst hu
     have:=Lib.bytesWorld_cell w e s i (hat i n hn).1
     simpa using this
    | succ j=>simp at hu
   ·simp only [List.getElem?_map,qj] at hy
    obtain ⟨n,hn,rfl⟩:=hy
    exact ⟨rfl,rfl,fun z hz=>by simp [FV.cells,eU8] at hz;subst hz;rfl⟩
   ·simp only [List.getElem?_map,qj] at hy
    obtain ⟨n,hn,rfl⟩:=hy
    cases j with
    | zero=>
     simp [FV.cells,eU8] at hv hz
     subst hv hz
     have hq:=(hat i n hn).2
     rw [← hq,show s.data.toList.getD i 0=(s.data[i]?).getD 0 by simp]
     exact RF.atom rfl
    | succ j=>simp at hv
 ·cases h
theorem k0e {sr:TypeId} {x:Operand} {k:IntKind} {n:Int} {ds:TD} (hT:TOk P T) (ho:o.op = .convert sr t x:=by kernel_rfl) (hs:ka3 T sr=some ds:=by kernel_rfl) (hks:ds.kind = .int k:=by kernel_rfl) (hd:ka3 T t=some d:=by kernel_rfl) (hk:d.kind = .str:=by kernel_rfl) (hx:st.eval x = .fz (.atom (.int k n)):=by kernel_rfl):NStep P o st (.fz (.atom (.string (Utf8.encode n)))):=by
 intro ψ S a w ht hO
 obtain ⟨_,e,h1,_⟩:=hT.get hs
 obtain ⟨_,e',h2,h3⟩:=hT.get hd
 rw [hk] at h3
 cases e' <;> simp only [kap] at h3
 have hv:=Sim.eval_tmps ht x
 rw [hx] at hv
 refine kam (w':=w) (v := .string (Utf8.encode n)) ?_ ⟨kaj _, .fz (.atom rfl)⟩
 cases e <;> simp [execOp,ho,hv.atom,convert,run_underlying h1,run_underlying h2,Conv.intToString]
def kwl (n b:Int):Option BA:=if b=10 ∧ -9223372036854775808≤n∧n≤9223372036854775807 then some ⟨(Lib.itoa n).toArray⟩ else none
theorem kabc {f:FuncId} {ts:Array TypeId} {X Y:Operand} {n b:Int} {v:BA} {g m:Nat} {gs:List (Nat×Array Value)} {vs:Array Value} {nm:String} (h:kwl n b=some v)
  (hsh:∀ (n:Int),-9223372036854775808≤n→n≤9223372036854775807→∀ w:World,w.var? P nm=some vs→Calls P f #[.int .i64 n, .int .i64 10] w fun e w'=>e = .returned (.string ⟨(Lib.itoa n).toArray⟩)∧∃ k os,w'=Sort.grow (w.drewN k) os)
  (hf : ∃ fn, P.funcs[f]? = some fn ∧ fn.body.isNone = false ∧ (fn.name == "runtime.NumGoroutine") = false) (hg : P.globalNamed nm = some g)
  (ho:o.op = .call { callee := .value (.func f),args:=#[X,Y],argTypes:=ts }) (hx:st.eval X = .fz (.atom (.int .i64 n))) (hy:st.eval Y = .fz (.atom (.int .i64 b))) (hob:kab st.heap id=some (.glb gs)) (hm:gs[m]?=some (g,vs)) (h0':Nat.blt 0 vs.size=true):
  NStep P o st (.fz (.atom (.string v))):=by
 unfold kwl at h
 split at h
 ·rename_i hc
  obtain ⟨rfl,h0,h1⟩:=hc
  injection h with h
  subst h
  intro ψ S a w ht hO
  have hxa:=Sim.eval_tmps ht X
  rw [hx] at hxa
  have hya:=Sim.eval_tmps ht Y
  rw [hy] at hya
  unfold khr
  rw [kr3 ho hf]
  have:=hsh n h0 h1 w (kai7 hO hob hm hg (by simpa [Nat.blt_eq] using h0'))
  rw [show (#[X,Y].map a.eval)=#[.int .i64 n, .int .i64 10] by simp [hxa.atom,hya.atom]]
  refine this.mono ?_
  rintro e w' ⟨rfl,k,os,rfl⟩
  refine ⟨_,rfl,⟨rfl,rfl,rfl,by simp [Sort.grow,World.drewN],fun b hb=>?_⟩, .fz (.atom rfl)⟩
  simp only [Sort.grow,World.drewN]
  exact Array.getElem?_append_left hb
 ·cases h
theorem k8m {f:FuncId} {args:List FV} {vs:Array Value} {gs:List (Nat×Array Value)} {post:List (Nat×AObj)} {ids1:List Nat} (hp:kat P f (args.map .fz++[]) [(1, .glb gs)] [1] (.ret (fB true)) post ids1) (hs:vs.size=args.length) (hr:∀ (i:Nat) (v:Value) (x:FV),vs[i]?=some v→args[i]?=some x→RF Any w v x)
  (hg:∀ p,p∈gs→GlbR w p.1 p.2):
  Calls P f vs w fun e w'=>e = .returned (.bool true)∧Below w.heap.size w w':=by
 rw [List.append_nil] at hp
 let SB:Nat→Prop:=fun b=>b<w.heap.size
 have hB:∀ {v x},RF Any w v x→RF SB w v x:=fun h=>h.bound.mono fun b hb=>hb.2
 refine (hp.2 SB SB w.heap.size ⟨fun _=>0,fun _ => .bool true⟩ SB w vs (by simpa using hs) (fun i v x hv hx=>?_) ⟨fun id' o h=>?_,fun id1 id2 o o' b h h' hne=>?_,fun b h=>h,fun b h => .inl h,qw _,fun b h=>h⟩).mono ?_
 ·simp only [List.getElem?_map,qj] at hx
  obtain ⟨y,hy,rfl⟩:=hx
  exact .fz (hB (hr i v y hv hy))
 ·rw [kai] at h
  split at h
  ·rename_i hid
   injection h with h
   subst h hid
   refine ⟨qay.2 rfl,⟨rfl,rfl,rfl,fun p hp=>?_⟩,fun b hb=>by
    rcases hb with hb | ⟨u,hu,_⟩
    ·cases hb
    ·cases hu⟩
   exact ⟨(hg p hp).lt,hg p hp⟩
  ·cases h
 ·rw [kai] at h h'
  split at h
  ·split at h'
   ·rename_i p q;exact absurd (p.symm.trans q) hne
   ·cases h'
  ·cases h
 ·rintro e w' ⟨ψ',S',⟨v,rfl,hv⟩,hcore,hfr,_,_,hS,_⟩
  rw [hv.atom]
  exact ⟨rfl,⟨hfr.os,hfr.tape,hfr.output,hfr.size,fun b hb=>hfr.block b hb⟩⟩
end
end Go.Proofs.YtaimpcnpifoidaaGreatDoor
