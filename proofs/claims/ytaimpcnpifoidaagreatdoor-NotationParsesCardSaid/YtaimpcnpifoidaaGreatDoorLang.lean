import Derived.Shelf.LaysM
import Derived.Shelf.Strconv.Itoa3
import Derived.Test.YtaimpcnpifoidaaGreatDoorProg
import Derived.WalkKit
import Derived.WalkSpells
import Derived.WalkLawsBesides
import Derived.Lib.Hide
import Derived.KernelRfl
import Derived.Maps.AppendAt
import Derived.Deep.AppendLies
import Derived.ChangeMaps5
import Derived.JoinedOf
import Derived.Test.YtaimpcnpifoidaaGreatDoorRows
namespace Go.Proofs.YtaimpcnpifoidaaGreatDoor
abbrev BA:=ByteArray
theorem qa.{u0,u1}:type_of% @Option.bind_some.{u0,u1}:=@Option.bind_some.{u0,u1}
theorem qb:type_of% @decide_eq_false:=@decide_eq_false
theorem qc.{u0}:type_of% @List.getElem?_eq_getElem.{u0}:=@List.getElem?_eq_getElem.{u0}
theorem qd.{u0}:type_of% @cond_false.{u0}:=@cond_false.{u0}
theorem qe:type_of% @decide_eq_true:=@decide_eq_true
theorem qf.{u0}:type_of% @cond_true.{u0}:=@cond_true.{u0}
theorem qg.{u0}:type_of% @if_neg.{u0}:=@if_neg.{u0}
theorem qh.{u0,u1,u2}:type_of% @Sum.elim_inl.{u0,u1,u2}:=@Sum.elim_inl.{u0,u1,u2}
theorem qi.{u0,u1,u2}:type_of% @Sum.elim_inr.{u0,u1,u2}:=@Sum.elim_inr.{u0,u1,u2}
theorem qj.{u0}:type_of% @if_pos.{u0}:=@if_pos.{u0}
theorem qk.{u0,u1}:type_of% @Option.bind_eq_some_iff.{u0,u1}:=@Option.bind_eq_some_iff.{u0,u1}
theorem ql.{u0}:type_of% @Option.some.injEq.{u0}:=@Option.some.injEq.{u0}
theorem qm.{u0,u1}:type_of% @Option.map_eq_some_iff.{u0,u1}:=@Option.map_eq_some_iff.{u0,u1}
theorem qn.{u0}:type_of% @List.mem_cons_of_mem.{u0}:=@List.mem_cons_of_mem.{u0}
theorem qo.{u0}:type_of% @List.getElem?_eq_some_iff.{u0}:=@List.getElem?_eq_some_iff.{u0}
theorem qp.{u0,u1}:type_of% @List.getElem?_map.{u0,u1}:=@List.getElem?_map.{u0,u1}
theorem qq.{u0}:type_of% @Option.some.inj.{u0}:=@Option.some.inj.{u0}
theorem qr.{u0}:type_of% @List.length_append.{u0}:=@List.length_append.{u0}
theorem qs.{u0}:type_of% @List.all_eq_true.{u0}:=@List.all_eq_true.{u0}
theorem qt.{u0}:type_of% @List.mem_cons_self.{u0}:=@List.mem_cons_self.{u0}
theorem qu.{u0}:type_of% @List.length_cons.{u0}:=@List.length_cons.{u0}
theorem qv.{u0}:type_of% @List.getElem_mem.{u0}:=@List.getElem_mem.{u0}
theorem qw.{u0}:type_of% @List.mem_of_getElem?.{u0}:=@List.mem_of_getElem?.{u0}
theorem qx:type_of% @Nat.eq_of_beq_eq_true:=@Nat.eq_of_beq_eq_true
theorem qy:type_of% @Nat.le_refl:=@Nat.le_refl
theorem qz:type_of% @Nat.zero_le:=@Nat.zero_le
theorem q8:type_of% @Bool.and_eq_true:=@Bool.and_eq_true
theorem q9.{u0,u1}:type_of% @congrArg.{u0,u1}:=@congrArg.{u0,u1}
theorem qaa.{u0}:type_of% @List.drop_eq_getElem_cons.{u0}:=@List.drop_eq_getElem_cons.{u0}
theorem qab:type_of% @Bool.not_true:=@Bool.not_true
theorem qac.{u0}:type_of% @List.mem_cons.{u0}:=@List.mem_cons.{u0}
theorem qad.{u0}:type_of% @List.mem_iff_getElem.{u0}:=@List.mem_iff_getElem.{u0}
theorem qae.{u0}:type_of% @beq_eq_false_iff_ne.{u0}:=@beq_eq_false_iff_ne.{u0}
theorem qaf.{u0}:type_of% @List.length_nil.{u0}:=@List.length_nil.{u0}
theorem qag.{u0,u1}:type_of% @List.length_map.{u0,u1}:=@List.length_map.{u0,u1}
theorem qah.{u0}:type_of% @List.length_take.{u0}:=@List.length_take.{u0}
theorem qai:type_of% @Nat.le_of_ble_eq_true:=@Nat.le_of_ble_eq_true
theorem qaj.{u0}:type_of% @List.getElem?_take.{u0}:=@List.getElem?_take.{u0}
theorem qak.{u0,u1}:type_of% @Prod.mk.injEq.{u0,u1}:=@Prod.mk.injEq.{u0,u1}
theorem qal:type_of% @of_decide_eq_true:=@of_decide_eq_true
theorem qam.{u0}:type_of% @List.cons_append.{u0}:=@List.cons_append.{u0}
theorem qan.{u0}:type_of% @List.append_assoc.{u0}:=@List.append_assoc.{u0}
theorem qao.{u0}:type_of% @List.mem_append.{u0}:=@List.mem_append.{u0}
theorem qap.{u0}:type_of% @bne_eq_false_iff_eq.{u0}:=@bne_eq_false_iff_eq.{u0}
theorem qaq.{u0}:type_of% @List.drop_eq_nil_of_le.{u0}:=@List.drop_eq_nil_of_le.{u0}
theorem qar.{u0}:type_of% @List.eq_nil_of_length_eq_zero.{u0}:=@List.eq_nil_of_length_eq_zero.{u0}
theorem qas.{u0}:type_of% @Array.length_toList.{u0}:=@Array.length_toList.{u0}
theorem qat.{u0}:type_of% @List.getElem?_drop.{u0}:=@List.getElem?_drop.{u0}
theorem qau.{u0}:type_of% @List.length_drop.{u0}:=@List.length_drop.{u0}
theorem qav.{u0}:type_of% @List.getElem?_append_left.{u0}:=@List.getElem?_append_left.{u0}
theorem qaw.{u0}:type_of% @Array.getElem?_eq_getElem.{u0}:=@Array.getElem?_eq_getElem.{u0}
theorem qax.{u0}:type_of% @Array.getD_eq_getD_getElem?.{u0}:=@Array.getD_eq_getD_getElem?.{u0}
theorem qay.{u0}:type_of% @Array.getElem?_toList.{u0}:=@Array.getElem?_toList.{u0}
theorem qaz.{u0}:type_of% @List.drop_zero.{u0}:=@List.drop_zero.{u0}
theorem qa0.{u0,u1}:type_of% @List.flatMap_cons.{u0,u1}:=@List.flatMap_cons.{u0,u1}
theorem qa1:type_of% @of_decide_eq_false:=@of_decide_eq_false
theorem qa2.{u0}:type_of% @Option.getD_some.{u0}:=@Option.getD_some.{u0}
theorem qa3.{u0,u1}:type_of% @List.mem_map.{u0,u1}:=@List.mem_map.{u0,u1}
theorem qa4.{u0}:type_of% @if_false.{u0}:=@if_false.{u0}
theorem qa5.{u0}:type_of% @List.getElem?_append_right.{u0}:=@List.getElem?_append_right.{u0}
theorem qa6.{u0}:type_of% @if_true.{u0}:=@if_true.{u0}
theorem qa7:type_of% @Nat.mul_le_mul_right:=@Nat.mul_le_mul_right
theorem qa8.{u0,u1}:type_of% @List.map_cons.{u0,u1}:=@List.map_cons.{u0,u1}
theorem qa9.{u0}:type_of% @List.take_append_drop.{u0}:=@List.take_append_drop.{u0}
theorem qba.{u0,u1}:type_of% @List.mem_flatMap.{u0,u1}:=@List.mem_flatMap.{u0,u1}
theorem qbb:type_of% @Bool.not_false:=@Bool.not_false
theorem qbc:type_of% @Bool.false_eq_true:=@Bool.false_eq_true
theorem qbd:type_of% @Nat.le_trans:=@Nat.le_trans
theorem qbe:type_of% @Nat.lt_or_ge:=@Nat.lt_or_ge
theorem qbf.{u0}:type_of% @List.mem_singleton.{u0}:=@List.mem_singleton.{u0}
theorem qbg.{u0}:type_of% @List.length_singleton.{u0}:=@List.length_singleton.{u0}
theorem qbh.{u0}:type_of% @Array.getElem?_append_left.{u0}:=@Array.getElem?_append_left.{u0}
theorem qbi.{u0}:type_of% @Array.getElem?_eq_some_iff.{u0}:=@Array.getElem?_eq_some_iff.{u0}
theorem qbj:type_of% @decide_eq_decide:=@decide_eq_decide
theorem qbk.{u0,u1}:type_of% @Option.map_some.{u0,u1}:=@Option.map_some.{u0,u1}
theorem qbl.{u0}:type_of% @bne_iff_ne.{u0}:=@bne_iff_ne.{u0}
theorem qbm.{u0}:type_of% @List.getElem?_eq_none.{u0}:=@List.getElem?_eq_none.{u0}
theorem qbn:type_of% @Nat.add_mul:=@Nat.add_mul
theorem qbo:type_of% @UInt8.toNat_inj:=@UInt8.toNat_inj
theorem qbp:type_of% @Nat.lt_of_lt_of_le:=@Nat.lt_of_lt_of_le
theorem qbq.{u0}:type_of% @Option.isSome_some.{u0}:=@Option.isSome_some.{u0}
theorem qbr.{u0}:type_of% @beq_self_eq_true.{u0}:=@beq_self_eq_true.{u0}
theorem qbs.{u0}:type_of% @List.mem_iff_getElem?.{u0}:=@List.mem_iff_getElem?.{u0}
set_option linter.all false
open Go Go.Proofs Go.Proofs.Tryz
open Go.Shelf Go.Proofs.Tryz
def k1p:Go.Shelf.Ren:=⟨fun | 246=>151 | 283=>174 | 284=>175 | 285=>176 | 286=>177 | 129=>196 | 317=>195 | 318=>197 | 319=>198 | 320=>199 | 337=>211 | 338=>212 | n=>n,fun | 2=>2 | 3=>3 | 9=>9 | 4=>4 | 171=>217 | 0=>0 | 53=>218 | 37=>56 | 5=>5 | 173=>221 | 212=>236 | 51=>224 | 20=>20 | 213=>237 | 46=>198 | 232=>250 | 233=>251 | n=>n,fun | 17=>1 | 18=>4 | 19=>5 | n=>n⟩
theorem k8q:Go.Proofs.LaysM.n246 prog k1p:={
 mixed:=by kernel_rfl
 f129:=func196.trans (q9 some (by kernel_rfl))
 f246:=func151.trans (q9 some (by kernel_rfl))
 f283:=func174.trans (q9 some (by kernel_rfl))
 f284:=func175.trans (q9 some (by kernel_rfl))
 f285:=func176.trans (q9 some (by kernel_rfl))
 f286:=func177.trans (q9 some (by kernel_rfl))
 f317:=func195.trans (q9 some (by kernel_rfl))
 f318:=func197.trans (q9 some (by kernel_rfl))
 f319:=func198.trans (q9 some (by kernel_rfl))
 f320:=func199.trans (q9 some (by kernel_rfl))
 f337:=func211.trans (q9 some (by kernel_rfl))
 f338:=func212.trans (q9 some (by kernel_rfl))
 t0:=underlying0
 a0:=isAgg0
 z0:=sizeOf0
 v0:=zeroValue0
 t2:=underlying2
 a2:=isAgg2
 z2:=sizeOf2
 v2:=zeroValue2
 t3:=underlying3
 a3:=isAgg3
 z3:=sizeOf3
 v3:=zeroValue3
 t4:=underlying4
 a4:=isAgg4
 z4:=sizeOf4
 v4:=zeroValue4
 t5:=underlying5
 a5:=isAgg5
 z5:=sizeOf5
 v5:=zeroValue5
 t9:=underlying9
 a9:=isAgg9
 z9:=sizeOf9
 v9:=zeroValue9
 t20:=underlying20
 a20:=isAgg20
 z20:=sizeOf20
 v20:=zeroValue20
 t37:=underlying56
 a37:=isAgg56
 z37:=sizeOf56
 v37:=zeroValue56
 t46:=underlying198
 a46:=isAgg198
 z46:=sizeOf198
 v46:=zeroValue198
 t51:=underlying224
 a51:=isAgg224
 z51:=sizeOf224
 v51:=zeroValue224
 t53:=underlying218
 a53:=isAgg218
 z53:=sizeOf218
 v53:=zeroValue218
 t171:=underlying217
 a171:=isAgg217
 z171:=sizeOf217
 v171:=zeroValue217
 t173:=underlying221
 a173:=isAgg221
 z173:=sizeOf221
 v173:=zeroValue221
 t212:=underlying236
 a212:=isAgg236
 z212:=sizeOf236
 v212:=zeroValue236
 t213:=underlying237
 a213:=isAgg237
 z213:=sizeOf237
 t232:=underlying250
 a232:=isAgg250
 z232:=sizeOf250
 v232:=zeroValue250
 t233:=underlying251
 a233:=isAgg251
 z233:=sizeOf251
 v233:=zeroValue251
 g17:=by kernel_rfl
 g18:=by kernel_rfl
 g19:=by kernel_rfl
 i0:=by kernel_rfl
 i2:=by kernel_rfl
 i3:=by kernel_rfl
 i4:=by kernel_rfl
 i5:=by kernel_rfl
 i9:=by kernel_rfl
 i20:=by kernel_rfl
 i37:=by kernel_rfl
 i46:=by kernel_rfl
 i51:=by kernel_rfl
 i53:=by kernel_rfl
 i171:=by kernel_rfl
 i173:=by kernel_rfl
 i212:=by kernel_rfl
 i232:=by kernel_rfl
 i233:=by kernel_rfl
 m17:=by kernel_rfl
 m18:=by kernel_rfl
 m19:=by kernel_rfl }
open Go.RowKit Go.Sort Go.Lib in
theorem k2e (n : Int) (h0 : -9223372036854775808 <= n) (h1 : n <= 9223372036854775807) (w : World) (a : Lib.TabIs prog w "internal/strconv.uint64pow10" .u64 Lib.pow10Tab) :
  Calls prog 151 #[.int .i64 n, .int .i64 10] w fun e w'=>e = .returned (.string ⟨(Lib.itoa n).toArray⟩)/\∃ k os,w'=grow (w.drewN k) os:=Any.internal_strconv_FormatInt_10 k8q n h0 h1 w a
def powV:Array Value:=(Lib.pow10Tab.map fun z=>Value.int .u64 z).toArray
theorem kak2 : ∀ (n : Int), -9223372036854775808 <= n -> n <= 9223372036854775807 -> ∀ w : World, w.var? prog "internal/strconv.uint64pow10" = some powV ->
  Calls prog 151 #[.int .i64 n, .int .i64 10] w fun e w'=>e = .returned (.string ⟨(Lib.itoa n).toArray⟩)/\∃ k os,w'=Sort.grow (w.drewN k) os:=fun n h0 h1 w h=>k2e n h0 h1 w h
open Go Go.RowKit Go.Proofs.Tryz
inductive Gd where
 | det (c:Value)
 | rel (G:Value->World->Prop) (h:∀ v w w',G v w->Below w.heap.size w w'->G v w')
def Gd.holds:Gd->Value->World->Prop
 | .det c,v,_=>v=c
 | .rel G _,v,w=>G v w
def RetBy (R:Value->World->Prop) (e:Ending) (w:World):Prop:=∃ u,e = .returned u/\R u w
def ksl (P:Program) (R:Value->World->Prop):Result Next->Prop
 | .ok (.value u) w'=>R u w'
 | .ok .skip w'=>R undef w'
 | .ok (.enter f args) w'=>Calls P f args w' (RetBy R)
 | _=>False
def kis (P:Program) (o:Oper) (a:Act) (w:World) (R:Value->World->Prop):Prop:=ksl P R ((execOp a.eval o).run P w)
def kmg (o:Oper) (j:Nat):Bool:=o.after.toList.any fun e=>e.on == j && Region.binds .any e
def k2r (l:List Oper):Array Nat:=
 l.foldl (fun acc o=>acc.push (o.after.toList.foldl (fun s e=>if Region.binds .any e then s ||| 2 ^ e.on ||| acc.getD e.on 0 else s) 0)) #[]
def relB (l:List Oper) (n s:Nat):Bool:=
 let m:=k2r l
 Region.noSelect l.toArray && decide (n<=l.length) &&
 (l.zipIdx.all fun (o,k)=>o.after.toList.all fun e=>!Region.binds .any e || decide (e.on<k)) &&
 ((l.take n).all fun o=>match o.dst with | some d=>decide (d<s) | none=>true) &&
 ((l.take n).zipIdx.all fun (o,i)=>(l.take n).zipIdx.all fun (p,j)=>i == j || o.dst.isNone || o.dst != p.dst) &&
 ((l.take n).zipIdx.all fun (o,i)=>(o.looksAt l.toArray).all fun t=>(l.take n).zipIdx.all fun (p,j)=>i == j || p.dst != some t || kmg o j || kmg p i) &&
 (l.zipIdx.all fun (_,k)=>decide (k<n) || (List.range k).all fun j=>(m.getD k 0).testBit j)
section
variable {P:Program}
theorem kw7 {o:Oper} {a:Act} {w:World} {R R':Value->World->Prop} (h:∀ v w',R v w'->R' v w') (b:kis P o a w R):kis P o a w R':=by
 unfold kis at *
 generalize (execOp a.eval o).run P w=r at *
 cases r with
 | ok n w'=>
  cases n <;> simp only [ksl] at b ⊢
  case enter f args=>exact b.mono fun e w'' ⟨u,c,d⟩=>⟨u,c,h _ _ d⟩
  all_goals exact h _ _ b
 | halt x w'=>simp only [ksl] at b
theorem kmi {o:Oper} {a:Act} {w:World} {R:Value->World->Prop} {K:Act->World->Prop} {Q:Exit->Act->World->Prop}
  (h:∀ v w',R v w'->K (a.put o.dst v) w') (b:kis P o a w R):o.wp P a w K Q:=by
 unfold kis at b;unfold Oper.wp;generalize (execOp a.eval o).run P w=r at *
 cases r with
 | ok n w'=>
  cases n <;> simp only [ksl] at b <;> simp only [Oper.upon]
  case enter f args=>exact b.mono fun e w'' ⟨u,c,d⟩=>by subst c;exact h _ _ d
  all_goals exact h _ _ b
 | halt x w'=>simp only [ksl] at b
def Good (l:List Oper) (acc:Array Nat):Prop:=
 acc.size=l.length/\∀ k o,l[k]?=some o->∀ j,(acc.getD k 0).testBit j=true ->
  ∃ e∈o.after,Region.binds .any e=true/\(e.on=j\/(e.on<k/\(acc.getD e.on 0).testBit j=true))
theorem k4c (acc:Array Nat) (j:Nat):∀ (es:List Edge) (s:Nat),
  (es.foldl (fun s e=>if Region.binds .any e then s ||| 2 ^ e.on ||| acc.getD e.on 0 else s) s).testBit j=true ->
  s.testBit j=true\/∃ e∈es,Region.binds .any e=true/\(e.on=j\/(acc.getD e.on 0).testBit j=true)
 | [],s,h => .inl h
 | e::es,s,h=>by
  simp only [List.foldl_cons] at h;rcases k4c acc j es _ h with h | ⟨e',b,a,h⟩
  ·by_cases a:Region.binds .any e=true
   ·rw [qj a,Nat.testBit_or,Nat.testBit_or,Bool.or_eq_true,Bool.or_eq_true] at h;rcases h with (h | h) | h;exact .inl h;rw [Nat.testBit_two_pow] at h;exact .inr ⟨e,by simp,a, .inl (by simpa using h)⟩
    ·exact .inr ⟨e,by simp,a, .inr h⟩
   ·rw [qg a] at h;exact .inl h
  ·exact .inr ⟨e',qn _ b,a,h⟩
theorem kadm {l:List Oper} {acc:Array Nat} (h:Good l acc) (o:Oper):
  Good (l++[o]) (acc.push (o.after.toList.foldl (fun s e=>if Region.binds .any e then s ||| 2 ^ e.on ||| acc.getD e.on 0 else s) 0)):=by
 obtain ⟨hs,q⟩:=h;refine ⟨by simp [hs],fun k p hk j c=>?_⟩;have old:∀ i,i<acc.size->∀ x,(acc.push x).getD i 0=acc.getD i 0:=fun i hi x=>by simp [Array.getElem?_push,Nat.ne_of_lt hi]
 by_cases d:k<l.length;rw [qav d] at hk;rw [old k (by omega)] at c;obtain ⟨e,f,g,h⟩:=q k p hk j c;refine ⟨e,f,g,h.imp id fun ⟨h1,h2⟩=>⟨h1,?_⟩⟩;rw [old _ (by omega)];exact h2
 ·have a:k=l.length:=by have:=(qo.1 hk).1;simp at this;omega
  subst a;simp at hk;subst hk;have b:∀ x,(acc.push x).getD l.length 0=x:=fun x=>by rw [<- hs];simp
  rw [b] at c;rcases k4c acc j _ 0 c with h | ⟨e,f,g,h⟩;simp at h
  ·refine ⟨e,by simpa using f,g,?_⟩;rcases h with h | h;exact .inl h
   ·have m:e.on<acc.size:=by
     rcases qbe e.on acc.size with n | n;exact n
     ·simp [Array.getElem?_eq_none n] at h
    exact .inr ⟨by omega,by rw [old _ m];exact h⟩
theorem k3x:∀ (l r:List Oper) (acc:Array Nat),Good r acc ->
  Good (r++l) (l.foldl (fun acc o=>acc.push (o.after.toList.foldl (fun s e=>if Region.binds .any e then s ||| 2 ^ e.on ||| acc.getD e.on 0 else s) 0)) acc)
 | [],r,acc,h=>by simpa using h
 | o::l,r,acc,h=>by have:=k3x l (r++[o]) _ (kadm h o);simpa using this
theorem kaa9 (l:List Oper):Good l (k2r l):=by exact k3x l [] #[] ⟨rfl,fun k o h=>by simp at h⟩
theorem knh {l:List Oper} {S:Nat->Prop} (hS:∀ k o,S k->l[k]?=some o->∀ e∈o.after,Region.binds .any e=true->S e.on):
  ∀ (k:Nat) (o:Oper),l[k]?=some o->(∀ e∈o.after,Region.binds .any e=true->S e.on)->∀ j,((k2r l).getD k 0).testBit j=true->S j:=by
 intro k
 induction k using Nat.strongRecOn with
 | _ k ih=>
  intro o ho a j m;obtain ⟨e,g,i,h⟩:=(kaa9 l).2 k o ho j m;rcases h with rfl | ⟨c,h⟩;exact a e g i
  ·have hk:k<l.length:=(qo.1 ho).1;have b:l[e.on]?=some (l[e.on]'(by omega)):=qc (by omega);exact ih e.on c _ b (fun e' d f=>hS e.on _ (a e g i) b e' d f) j h
theorem kvy (a:Act) (d:Option Tmp) (v:Value):(a.put d v).tmps.size=a.tmps.size:=by cases d <;> simp [Act.put]
theorem kz6 (a:Act) (d:Option Tmp) (v:Value):(a.put d v).defers=a.defers:=by cases d <;> rfl
variable {gs:List Gd} {l:List Oper} {xs:Nat->Value} {a0:Act}
theorem kvv {m:Nat} {listed:Array Bool} {i:Nat} (hi:i<m) (d:listed.getD i true=false) (hs:i<listed.size):
  ((List.range m).countP fun k=>!(listed.setIfInBounds i true).getD k true)<(List.range m).countP fun k=>!listed.getD k true:=by
 have a:List.range m=List.range i++i::(List.range (m - (i+1))).map (i+1+·):=by rw [show m=i+1+(m - (i+1)) by omega,List.range_add,List.range_succ];simp
 have b:∀ L:List Nat,(L.countP fun k=>!(listed.setIfInBounds i true).getD k true)<=L.countP fun k=>!listed.getD k true:=fun L=>by
  refine List.countP_mono_left fun k _ hk=>?_;by_cases c:i=k;subst c;simp [hs] at hk
  ·rw [getD_set_ne true c] at hk;exact hk
 rw [a,List.countP_append,List.countP_append,List.countP_cons,List.countP_cons];have h1:=b (List.range i);have h2:=b ((List.range (m - (i+1))).map (i+1+·));have h3:(listed.setIfInBounds i true).getD i true=true:=by simp [hs]
 rw [h3,d];simp only [qab,qbb,qa6,qbc,qa4];omega
structure kajn (l:List Oper) (n s:Nat):Prop where
 sel:Region.noSelect l.toArray=true
 len:n<=l.length
 edges:∀ k o,l[k]?=some o->∀ e∈o.after,Region.binds .any e=true->e.on<k
 dst:∀ i o d,i<n->l[i]?=some o->o.dst=some d->d<s
 uniq:∀ i j o p d,i<n->j<n->l[i]?=some o->l[j]?=some p->o.dst=some d->p.dst=some d->i=j
 looks:∀ i j o p t,i<n->j<n->i≠j->l[i]?=some o->l[j]?=some p->t∈o.looksAt l.toArray->p.dst=some t->kmg o j=true\/kmg p i=true
 tail:∀ k j,k<l.length->n<=k->j<k->((k2r l).getD k 0).testBit j=true
theorem k97 {l:List Oper} {n s:Nat} (h:relB l n s=true):kajn l n s:=by
 simp only [relB,q8] at h;obtain ⟨⟨⟨⟨⟨⟨h1,h2⟩,h3⟩,g⟩,m⟩,q⟩,r⟩:=h;have h2:n<=l.length:=by simpa using h2
 have tk:∀ i o,i<n->l[i]?=some o->(o,i)∈(l.take n).zipIdx:=fun i o hi ho=>by rw [List.mk_mem_zipIdx_iff_getElem?,qaj,qj hi];exact ho
 refine ⟨h1,h2,?_,?_,?_,?_,?_⟩;intro k o ho e u v;have:=qs.1 h3 (o,k) (by rw [List.mk_mem_zipIdx_iff_getElem?];exact ho);have:=qs.1 this e (by simpa using u);simpa [v] using this;intro i o d hi ho hd;have:=qs.1 g o (qw (i:=i) (by rw [qaj,qj hi];exact ho));simpa [hd] using this;intro i j o p d hi b ho hp c a;have:=qs.1 (qs.1 m _ (tk i o hi ho)) _ (tk j p b hp);simpa [c,a] using this;intro i j o p t hi b hne ho hp ht a;have:=qs.1 (qs.1 (qs.1 q _ (tk i o hi ho)) t ht) _ (tk j p b hp);simpa [a,hne] using this
 ·intro k j hk w f;have:=qs.1 r (l[k],k) (by rw [List.mk_mem_zipIdx_iff_getElem?];exact qc hk);simp only [Bool.or_eq_true,decide_eq_true_eq] at this;exact qs.1 (this.resolve_left (by omega)) j (by simpa using f)
theorem afterB_iff {o:Oper} {j:Nat}:kmg o j=true↔∃ e∈o.after,e.on=j/\Region.binds .any e=true:=by unfold kmg;rw [List.any_eq_true];simp
theorem ksk {l:List Oper} {n s:Nat} (ok:kajn l n s) {Q:Exit->Act->World->Prop}:∀ (fuel k:Nat) (listed:Array Bool) (a:Act) (w:World),
  n<=k->k<=l.length->listed.size=l.length->(∀ i,i<l.length->(listed.getD i true=true↔i<k))->l.length - k<=fuel ->
  wpList P l.toArray Q (l.drop k) a w->wpAny P .any l.toArray Q fuel listed a w:=by
 intro fuel
 induction fuel with
 | zero=>
  intro k listed a w A B d b g h;have hk:k=l.length:=by omega
  subst hk;refine ⟨?_,by simpa [wpList] using h⟩;rw [List.eq_nil_iff_forall_not_mem];intro i hi;obtain ⟨h0,o,ho,_⟩:=mem_ready.1 hi;have c:i<l.length:=by simpa using (qbi.1 ho).1
  rw [(b i c).2 c] at h0;cases h0
 | succ fuel ih=>
  intro k listed a w A B d b g h;have t:∀ i,i<l.length->i<k->listed.getD i false=true:=fun i hi C=>by have h1:=(b i hi).2 C;simp [d,hi] at h1 ⊢;exact h1
  have only:∀ i∈Region.ready .any l.toArray listed,i=k/\k<l.length:=fun i hi=>by
   obtain ⟨h0,o,ho,u⟩:=mem_ready.1 hi;have c:i<l.length:=(by simpa using (qbi.1 ho).1);have D:k<=i:=by
    rcases qbe i k with f | f;rw [(b i c).2 f] at h0;cases h0
    ·exact f
   refine ⟨?_,by omega⟩;rcases qbe k i with f | f
   ·exfalso;have hS:=knh (l:=l) (S:=fun j=>j<i/\listed.getD j false=true) ?_ i o (by simpa using ho) ?_ k (ok.tail i k c (by omega) f);have:=(b k (by omega)).1 (by have:=hS.2;simp [d,show k<l.length by omega] at this ⊢;exact this);omega;intro m p ⟨E,v⟩ hp e q r;have x:=ok.edges m p hp e q r;refine ⟨by omega,?_⟩;have F:=(b m (by omega)).1 (by simp [d,show m<l.length by omega] at v ⊢;exact v);exact t _ (by omega) (by omega)
    ·intro e q r;exact ⟨ok.edges i o (by simpa using ho) e q r,u e q r⟩
   ·omega
  refine ⟨fun y=>?_,fun i hi=>?_⟩
  ·have hk:k=l.length:=by
    rcases qbe k l.length with f | f;exfalso;have:k∈Region.ready .any l.toArray listed:=mem_ready.2 ⟨by have:=mt (b k f).1 (by omega);simpa using this,l[k],by simp [f],fun e q r=>by have x:=ok.edges k _ (qc f) e q r;exact t _ (by omega) x⟩;rw [y] at this;cases this
    ·omega
   subst hk;simpa [wpList] using h
  ·obtain ⟨rfl,c⟩:=only i hi;rw [qaa c] at h;have ho:l.toArray[i]?=some l[i]:=(by simp [c]);have G:wpOp P l.toArray Q i (wpList P l.toArray Q (l.drop (i+1))) a w:=(by unfold wpOp;simp only [ho];exact h);refine wpOp_mono (fun a' w' f=>ih (i+1) _ a' w' (by omega) (by omega) (by simp [d]) (fun j H=>?_) (by omega) f) G;by_cases z:i=j;subst z;simp [d,c]
   ·rw [getD_set_ne true z,b j H];omega
structure kamo (gs:List Gd) (l:List Oper) (C:World->Prop) (a0:Act) (listed:Array Bool) (a:Act) (w:World):Prop where
 inC:C w
 defers:a.defers=a0.defers
 size:a.tmps.size=a0.tmps.size
 lsize:listed.size=l.length
 closed:∀ k o,listed.getD k false=true->l[k]?=some o->∀ e∈o.after,Region.binds .any e=true->listed.getD e.on false=true
 vals:∃ xs:Nat->Value,∀ j g,gs[j]?=some g->listed.getD j false=true->g.holds (xs j) w/\∀ o d,l[j]?=some o->o.dst=some d->a.tmps[d]?=some (xs j)
 rest:∀ t,(∀ j o,listed.getD j false=true->l[j]?=some o->o.dst≠some t)->a.tmps[t]?=a0.tmps[t]?
theorem k9u {listed:Array Bool} {i:Nat} (h:listed.getD i true=false):listed.getD i false=false:=by
 rcases qbe i listed.size with a | a;simp [a] at h ⊢; exact h
 ·simp [Array.getElem?_eq_none a]
theorem kai5 {listed:Array Bool} {i:Nat} (h:listed.getD i false=true):i<listed.size:=by
 rcases qbe i listed.size with a | a;exact a
 ·simp [Array.getElem?_eq_none a] at h
theorem kof (m j:Nat):(Array.replicate m false).getD j false=false:=by rcases qbe j m with h | h <;> simp [h]
end
attribute [go_sem] kis ksl
def kjs (n:Int):Prop := -9223372036854775808<=n/\n<=9223372036854775807
def At (w:World) (b o:Nat) (cs:List Value):Prop:=∀ j u,cs[j]?=some u->w.cell? ⟨b,o+j,none⟩=some u
def Same (S:Nat->Prop) (w w':World):Prop:=∀ b,S b->b<w.heap.size->w'.heap[b]?=w.heap[b]?
abbrev Grow (w w':World):Prop:=Below w.heap.size w w'
theorem kdd (w:World) (o:Obj):Grow w (w.alloc o):=(Below.refl _ _).alloc (qy _) _
theorem kai (w:World):Grow w w:=Below.refl _ _
section
variable {T:Type} {S S':Nat->Prop} {w w' w'':World} {b o:Nat} {cs:List Value}
theorem ky3 {w:World} {a:Addr} {u:Value} (h:w.cell? a=some u):a.block<w.heap.size:=by
 rcases qbe a.block w.heap.size with b | b;exact b
 ·simp [World.cell?,Array.getElem?_eq_none b] at h
theorem Same.of_grow (h:Grow w w'):Same S w w':=fun b _ a=>h.block b a
theorem At.keep (h:At w b o cs) (hS:S b) (hk:Same S w w'):At w' b o cs:=fun j u a=>by
 have h1:=h j u a;rw [World.cell?_of_block (w:=w)];exact h1
 ·exact hk b hS (ky3 h1)
def RepSl (S:Nat->Prop) (w:World) (size:Nat) (R:List Value->T->Prop) (v:Value) (xs:List T):Prop:=
 ∃ A cap,v = .slice A xs.length cap/\xs.length<=cap/\cap<=9223372036854775807 /\
  ∀ (i:Nat) (x:T),xs[i]?=some x->∃ b o cs,A=some ⟨b,o,none⟩/\S b/\At w b (o+i*size) cs/\cs.length=size/\R cs x
theorem RepSl.nil {size cap:Nat} {R:List Value->T->Prop} {A:Option Addr} (hc:cap<=9223372036854775807):RepSl S w size R (.slice A 0 cap) []:=
 ⟨A,cap,rfl,by simp,hc,fun i x h=>by simp at h⟩
def Any:Nat->Prop:=fun _=>True
def IntR (cs:List Value) (n:Int):Prop:=cs=[.int .i64 n]/\kjs n
def Ints (S:Nat->Prop) (w:World) (v:Value) (ns:List Int):Prop:=RepSl S w 1 IntR v ns
structure Kept (size:Nat) (R:(Nat->Prop)->World->List Value->T->Prop):Prop where
 pos:0<size
 keep:∀ {S w w' cs x},R S w cs x->Same S w w'->R S w' cs x
 mono:∀ {S S':Nat->Prop} {w cs x},R S w cs x->(∀ b,S b->S' b)->R S' w cs x
 bound:∀ {S w cs x},R S w cs x->R (fun b=>S b/\b<w.heap.size) w cs x
 len:∀ {S w cs x},R S w cs x->cs.length=size
 one:∀ {S w cs x},R S w cs x->∀ u∈cs,u.oneCell'=true
variable {D:Nat->Prop} {lo:Nat} {e:TypeId} {size:Nat} {R:(Nat->Prop)->World->List Value->T->Prop} {v:Value} {xs:List T}
theorem k88 {b:Nat} {Q:List Value->T->Prop}:∀ (ys:List T) (o:Nat),(∀ (i:Nat) (y:T),ys[i]?=some y->∃ cs,At w b (o+i*size) cs/\cs.length=size/\Q cs y) ->
  ∃ news:List Value,news.length=ys.length*size/\At w b o news/\∀ (i:Nat) (y:T),ys[i]?=some y->Q ((news.drop (i*size)).take size) y
 | [],o,_=>⟨[],by simp,fun j u h=>by simp at h,fun i y h=>by simp at h⟩
 | y::ys,o,h=>by
  obtain ⟨cs,e,hl,g⟩:=h 0 y rfl;obtain ⟨news,hn,a,f⟩:=k88 (b:=b) (Q:=Q) ys (o+size) fun i z c=>by
   have:=h (i+1) z (by simpa using c)
   rwa [show o+(i+1)*size=o+size+i*size by rw [qbn];omega] at this
  refine ⟨cs++news,by simp [hl,hn,qbn];omega,fun j u d=>?_,fun i z c=>?_⟩
  ·by_cases k:j<size;rw [qav (by omega)] at d;have:=e j u d;simpa using this
   ·rw [qa5 (by omega),hl] at d;have:=a _ u d
    rwa [show o+size+(j - size)=o+j by omega] at this
  ·cases i with
   | zero=>
    simp at c;subst c;simp only [Nat.zero_mul,qaz];rw [List.take_append_of_le_length (by omega),List.take_of_length_le (by omega)];exact g
   | succ i=>
    have:=f i z (by simpa using c);rw [show (i+1)*size=cs.length+i*size by rw [hl,qbn];omega,<- List.drop_drop,List.drop_left];exact this
theorem kzv {P:Program} (lo:Nat) (t ty e:TypeId) (i:TypeInfo) (size:Nat) (ht:P.underlying t=some (.slice e)) (hi:P.info? e=some i)
  (v:Value) (n:Nat) (xs:List Value) (a:w.ownsRow lo e size v n xs) (c:Nat):(Builtin.append_ #[t,t] ty #[v, .slice none 0 c]).run P w = .ok v w:=by
 rcases a.2 with ⟨rfl,rfl⟩ | ⟨g,cap,cur,rfl,_,_,b,_⟩;simp [Builtin.append_,run_underlying ht,sizeOf,typeInfo,hi,Builtin.lenOf,Builtin.firstCells]
 ·simp [Builtin.append_,run_underlying ht,sizeOf,typeInfo,hi,Builtin.lenOf,Builtin.firstCells,b,storeCells]
end
set_option maxRecDepth 100000
open Go Go.RowKit Go.ChangeShapes Go.WideShapes Go.Proofs.Tryz
theorem kacu:Tryz.checked.prog.mayEnter=true:=by as_aux_lemma=>kernel_rfl
theorem kamz:laidOutB Tryz.checked.prog=true:=by as_aux_lemma=>kernel_rfl
theorem kakt:mapsRowed Tryz.checked.prog=true:=by as_aux_lemma=>kernel_rfl
theorem kakg:Tryz.checked.prog.stopsHeard=true:=by as_aux_lemma=>kernel_rfl
inductive Va where
 | mk (type num:Int) (text:BA) (items:List Va)
namespace Va
def type:Va->Int | mk t _ _ _=>t
def num:Va->Int | mk _ n _ _=>n
def text:Va->BA | mk _ _ s _=>s
def items:Va->List Va | mk _ _ _ l=>l
theorem ind {P:Va->Prop} (h:∀ t n s l,(∀ v∈l,P v)->P (mk t n s l)) (v:Va):P v:=
 Va.rec (motive_1:=P) (motive_2:=fun l=>∀ t∈l,P t) (fun t n s l ih=>h t n s l ih) (fun _ h=>nomatch h)
  (fun t l h1 h2 x a=>(qac.1 a).elim (fun e=>e ▸ h1) (h2 x)) v
end Va
structure Sy where
 name:BA
 type:Int
structure Ru where
 symbol:Int
 kind:Int
 input:Int
 const:Va
 op:BA
 args:List Int
structure La where
 name:BA
 inputs:List Int
 symbols:List Sy
 rules:List Ru
def kwf (s:BA):Prop:=s.size<=9223372036854775807
section
variable {S S':Nat->Prop} {w w':World}
inductive RepVa (S:Nat->Prop) (w:World):List Value->Va->Prop where
 | mk (t n:Int) (s:BA) (kids:List Va) (A:Option Addr) (cap:Nat) (css:Nat->List Value) (ht:kjs t) (hn:kjs n) (hs:kwf s) (hc:kids.length<=cap) (hm:cap<=9223372036854775807)
  (hA:∀ (i:Nat) (x:Va),kids[i]?=some x->∃ b o,A=some ⟨b,o,none⟩/\S b/\At w b (o+i*4) (css i))
  (hk:∀ (i:Nat) (x:Va),kids[i]?=some x->RepVa S w (css i) x):RepVa S w [.int .i64 t, .int .i64 n, .string s, .slice A kids.length cap] (.mk t n s kids)
abbrev Vas (S:Nat->Prop) (w:World) (v:Value) (l:List Va):Prop:=RepSl S w 4 (RepVa S w) v l
theorem RepVa.len {cs:List Value} {t:Va} (h:RepVa S w cs t):cs.length=4:=by cases h;rfl
theorem RepVa.form {cs:List Value} {t n:Int} {s:BA} {l:List Va} (h:RepVa S w cs (.mk t n s l)):∃ v,cs=[.int .i64 t, .int .i64 n, .string s,v]/\kjs t/\kjs n/\kwf s/\Vas S w v l:=by
 cases h with
 | mk _ _ _ _ A cap css ht hn hs hc hm hA hk=>
  refine ⟨_,rfl,ht,hn,hs,A,cap,rfl,hc,hm,fun i x a=>?_⟩;obtain ⟨b,o,h1,h2,h3⟩:=hA i x a;exact ⟨b,o,css i,h1,h2,h3,(hk i x a).len,hk i x a⟩
theorem RepVa.of {v:Value} {t n:Int} {s:BA} {l:List Va} (ht:kjs t) (hn:kjs n) (hs:kwf s) (h:Vas S w v l):RepVa S w [.int .i64 t, .int .i64 n, .string s,v] (.mk t n s l):=by
 obtain ⟨A,cap,rfl,hc,hm,c⟩:=h;have:∀ i:Nat,∃ cs:List Value,∀ x:Va,l[i]?=some x->(∃ b o,A=some ⟨b,o,none⟩/\S b/\At w b (o+i*4) cs)/\RepVa S w cs x:=fun i=>by
  cases hi:l[i]? with
  | none=>exact ⟨[],fun x h=>by cases h⟩
  | some x=>
   obtain ⟨b,o,cs,h1,h2,h3,_,d⟩:=c i x hi;exact ⟨cs,fun y e=>by cases e;exact ⟨⟨b,o,h1,h2,h3⟩,d⟩⟩
 obtain ⟨css,a⟩:=Classical.axiomOfChoice this;exact .mk t n s l A cap css ht hn hs hc hm (fun i x hi=>(a i x hi).1) (fun i x hi=>(a i x hi).2)
section
variable {T:Type} {size:Nat} {R:(Nat->Prop)->World->List Value->T->Prop} {v:Value} {l:List T}
end
def k5o (S:Nat->Prop) (w:World) (cs:List Value) (x:Sy):Prop:=cs=[.string x.name, .int .i64 x.type]/\kwf x.name/\kjs x.type
def k5s (S:Nat->Prop) (w:World) (cs:List Value) (x:Ru):Prop:=
 ∃ c0 c1 c2 c3 v,cs=[.int .i64 x.symbol, .int .i64 x.kind, .int .i64 x.input,c0,c1,c2,c3, .string x.op,v]/\kjs x.symbol/\kjs x.kind/\kjs x.input/\kwf x.op/\RepVa S w [c0,c1,c2,c3] x.const/\Ints S w v x.args
abbrev Sys (S:Nat->Prop) (w:World) (v:Value) (l:List Sy):Prop:=RepSl S w 2 (k5o S w) v l
abbrev Rus (S:Nat->Prop) (w:World) (v:Value) (l:List Ru):Prop:=RepSl S w 9 (k5s S w) v l
def kajf (S:Nat->Prop) (w:World) (cs:List Value) (x:La):Prop:=
 ∃ v1 v2 v3,cs=[.string x.name,v1,v2,v3]/\kwf x.name/\Ints S w v1 x.inputs/\Sys S w v2 x.symbols/\Rus S w v3 x.rules
def LaV (S:Nat->Prop) (w:World) (v:Value) (x:La):Prop:=∃ cs:List Value,v = .agg cs.toArray/\kajf S w cs x
end
end Go.Proofs.YtaimpcnpifoidaaGreatDoor
