import Derived.Shelf.LaysM
import Derived.Shelf.Sort.Plain
import Derived.Shelf.Strconv.AppendIntPublic10
import Derived.Ground.Names2Prog
import Derived.Shelf.Slices.CompactI
import Derived.Shelf.Slices.In.SortNone
import Derived.Test.YtnlhjbnpjefjgabGreatDoorProg
import Derived.WalkKit
import Derived.WalkSpells
import Derived.WalkLawsBesides
import Derived.Lib.Hide
import Derived.KernelRfl
import Derived.Maps.AppendAt
import Derived.Deep.AppendLies
import Derived.Test.YtnlhjbnpjefjgabGreatDoorRows
import Derived.ProofKit
import Derived.OpenShut
import Derived.JoinedCond
import Derived.Carry
import Derived.ChangeSame
import Derived.LoopN
namespace Go.Proofs.YtnlhjbnpjefjgabGreatDoor
abbrev BA:=ByteArray
theorem qa.{u0}:type_of% @List.getElem?_eq_getElem.{u0}:=@List.getElem?_eq_getElem.{u0}
theorem qb.{u0}:type_of% @Option.some.injEq.{u0}:=@Option.some.injEq.{u0}
theorem qc.{u0,u1}:type_of% @Option.bind_eq_some_iff.{u0,u1}:=@Option.bind_eq_some_iff.{u0,u1}
theorem qd.{u0}:type_of% @List.getElem?_eq_some_iff.{u0}:=@List.getElem?_eq_some_iff.{u0}
theorem qe.{u0}:type_of% @List.mem_cons_of_mem.{u0}:=@List.mem_cons_of_mem.{u0}
theorem qf:type_of% @Nat.eq_of_beq_eq_true:=@Nat.eq_of_beq_eq_true
theorem qg.{u0,u1}:type_of% @List.getElem?_map.{u0,u1}:=@List.getElem?_map.{u0,u1}
theorem qh.{u0,u1}:type_of% @Option.bind_some.{u0,u1}:=@Option.bind_some.{u0,u1}
theorem qi:type_of% @Nat.le_of_ble_eq_true:=@Nat.le_of_ble_eq_true
theorem qj.{u0,u1}:type_of% @List.length_map.{u0,u1}:=@List.length_map.{u0,u1}
theorem qk.{u0}:type_of% @List.all_eq_true.{u0}:=@List.all_eq_true.{u0}
theorem ql.{u0}:type_of% @List.mem_of_getElem?.{u0}:=@List.mem_of_getElem?.{u0}
theorem qn.{u0}:type_of% @List.mem_cons_self.{u0}:=@List.mem_cons_self.{u0}
theorem qo:type_of% @Bool.and_eq_true:=@Bool.and_eq_true
theorem qp.{u0,u1}:type_of% @Prod.mk.injEq.{u0,u1}:=@Prod.mk.injEq.{u0,u1}
theorem qq.{u0}:type_of% @if_neg.{u0}:=@if_neg.{u0}
theorem qr.{u0}:type_of% @cond_true.{u0}:=@cond_true.{u0}
theorem qs.{u0,u1}:type_of% @Option.map_eq_some_iff.{u0,u1}:=@Option.map_eq_some_iff.{u0,u1}
theorem qt.{u0}:type_of% @if_pos.{u0}:=@if_pos.{u0}
theorem qu:type_of% @Nat.le_refl:=@Nat.le_refl
theorem qv.{u0}:type_of% @List.getElem?_take.{u0}:=@List.getElem?_take.{u0}
theorem qw.{u0}:type_of% @cond_false.{u0}:=@cond_false.{u0}
theorem qx.{u0,u1}:type_of% @List.mem_map.{u0,u1}:=@List.mem_map.{u0,u1}
theorem qy.{u0}:type_of% @Option.some.inj.{u0}:=@Option.some.inj.{u0}
theorem q9.{u0}:type_of% @List.getElem?_append_left.{u0}:=@List.getElem?_append_left.{u0}
theorem qaa.{u0}:type_of% @List.mem_singleton.{u0}:=@List.mem_singleton.{u0}
theorem qab.{u0}:type_of% @List.mem_append.{u0}:=@List.mem_append.{u0}
theorem qac.{u0}:type_of% @List.getElem?_cons_succ.{u0}:=@List.getElem?_cons_succ.{u0}
theorem qad.{u0,u1,u2}:type_of% @Sum.elim_inl.{u0,u1,u2}:=@Sum.elim_inl.{u0,u1,u2}
theorem qae.{u0}:type_of% @List.getElem?_drop.{u0}:=@List.getElem?_drop.{u0}
theorem qaf.{u0}:type_of% @List.length_append.{u0}:=@List.length_append.{u0}
theorem qag.{u0,u1,u2}:type_of% @Sum.elim_inr.{u0,u1,u2}:=@Sum.elim_inr.{u0,u1,u2}
theorem qah.{u0,u1}:type_of% @congrArg.{u0,u1}:=@congrArg.{u0,u1}
theorem qai.{u0,u1}:type_of% @Option.map_some.{u0,u1}:=@Option.map_some.{u0,u1}
theorem qaj.{u0}:type_of% @Array.getD_eq_getD_getElem?.{u0}:=@Array.getD_eq_getD_getElem?.{u0}
theorem qak.{u0}:type_of% @List.length_take.{u0}:=@List.length_take.{u0}
theorem qal.{u0}:type_of% @Array.getElem?_toList.{u0}:=@Array.getElem?_toList.{u0}
theorem qam.{u0}:type_of% @List.getElem?_append_right.{u0}:=@List.getElem?_append_right.{u0}
theorem qan.{u0}:type_of% @List.mem_cons.{u0}:=@List.mem_cons.{u0}
theorem qao.{u0,u1}:type_of% @List.map_cons.{u0,u1}:=@List.map_cons.{u0,u1}
theorem qap.{u0}:type_of% @List.mem_iff_getElem.{u0}:=@List.mem_iff_getElem.{u0}
theorem qaq.{u0}:type_of% @List.getElem_mem.{u0}:=@List.getElem_mem.{u0}
theorem qar.{u0}:type_of% @Array.getElem?_eq_some_iff.{u0}:=@Array.getElem?_eq_some_iff.{u0}
theorem qas:type_of% @Nat.zero_le:=@Nat.zero_le
theorem qat.{u0,u1}:type_of% @List.mem_flatMap.{u0,u1}:=@List.mem_flatMap.{u0,u1}
theorem qau:type_of% @decide_eq_true:=@decide_eq_true
theorem qav.{u0}:type_of% @Array.length_toList.{u0}:=@Array.length_toList.{u0}
theorem qaw.{u0}:type_of% @List.length_drop.{u0}:=@List.length_drop.{u0}
theorem qax:type_of% @decide_eq_false:=@decide_eq_false
theorem qay.{u0}:type_of% @List.take_succ_eq_append_getElem.{u0}:=@List.take_succ_eq_append_getElem.{u0}
theorem qaz.{u0}:type_of% @List.getElem?_eq_none.{u0}:=@List.getElem?_eq_none.{u0}
theorem qa0.{u0}:type_of% @List.append_assoc.{u0}:=@List.append_assoc.{u0}
theorem qa1:type_of% @Nat.mul_one:=@Nat.mul_one
theorem qa2.{u0}:type_of% @List.eq_nil_of_length_eq_zero.{u0}:=@List.eq_nil_of_length_eq_zero.{u0}
theorem qa3:type_of% @decide_eq_true_eq:=@decide_eq_true_eq
theorem qa4.{u0}:type_of% @Array.getElem?_append_left.{u0}:=@Array.getElem?_append_left.{u0}
theorem qa5.{u0}:type_of% @List.getElem?_set_self.{u0}:=@List.getElem?_set_self.{u0}
theorem qa6.{u0}:type_of% @List.mem_of_mem_take.{u0}:=@List.mem_of_mem_take.{u0}
theorem qa7:type_of% @Nat.le_trans:=@Nat.le_trans
theorem qa8.{u0}:type_of% @Array.getElem?_eq_getElem.{u0}:=@Array.getElem?_eq_getElem.{u0}
theorem qa9.{u0}:type_of% @Option.getD_some.{u0}:=@Option.getD_some.{u0}
theorem qba:type_of% @Nat.lt_of_lt_of_le:=@Nat.lt_of_lt_of_le
theorem qbb.{u0}:type_of% @List.getElem?_set_ne.{u0}:=@List.getElem?_set_ne.{u0}
theorem qbc.{u0,u1}:type_of% @List.map_append.{u0,u1}:=@List.map_append.{u0,u1}
theorem qbd:type_of% @Nat.add_mul:=@Nat.add_mul
theorem qbe:type_of% @Nat.lt_or_ge:=@Nat.lt_or_ge
theorem qbf.{u0}:type_of% @List.length_singleton.{u0}:=@List.length_singleton.{u0}
theorem qbg:type_of% @Nat.mul_le_mul_right:=@Nat.mul_le_mul_right
theorem qbh.{u0}:type_of% @Array.ext'.{u0}:=@Array.ext'.{u0}
theorem qbi.{u0}:type_of% @List.mem_of_mem_drop.{u0}:=@List.mem_of_mem_drop.{u0}
theorem qbj.{u0,u1}:type_of% @List.mem_map_of_mem.{u0,u1}:=@List.mem_map_of_mem.{u0,u1}
theorem qbk.{u0,u1}:type_of% @List.flatMap_cons.{u0,u1}:=@List.flatMap_cons.{u0,u1}
theorem qbl:type_of% @List.mem_range:=@List.mem_range
theorem qbm:type_of% @Bool.or_eq_true:=@Bool.or_eq_true
theorem qbn.{u0}:type_of% @List.mem_replicate.{u0}:=@List.mem_replicate.{u0}
theorem qbo.{u0}:type_of% @List.cons_append.{u0}:=@List.cons_append.{u0}
theorem qbp.{u0}:type_of% @List.length_cons.{u0}:=@List.length_cons.{u0}
theorem qbq:type_of% @Bool.not_eq_true':=@Bool.not_eq_true'
theorem qbr.{u0}:type_of% @List.mem_append_right.{u0}:=@List.mem_append_right.{u0}
theorem qbs.{u0}:type_of% @List.mem_iff_getElem?.{u0}:=@List.mem_iff_getElem?.{u0}
theorem qbt.{u0}:type_of% @Array.getElem?_modify.{u0}:=@Array.getElem?_modify.{u0}
theorem qbu.{u0}:type_of% @List.getElem?_toArray.{u0}:=@List.getElem?_toArray.{u0}
set_option linter.all false
open Go Go.Proofs Go.Proofs.Tryz
open Go.Shelf Go.Proofs.Tryz
def kv2:Go.Shelf.Ren:=⟨fun | 176=>166 | 249=>182 | 288=>192 | 283=>200 | 284=>201 | 285=>202 | 286=>203 | 129=>120 | 317=>206 | 318=>207 | 319=>208 | 320=>209 | 337=>211 | 338=>212 | n=>n,fun | 37=>206 | 2=>2 | 3=>3 | 53=>152 | 4=>4 | 9=>9 | 171=>233 | 0=>0 | 173=>235 | 212=>239 | 51=>149 | 5=>5 | 20=>20 | 213=>240 | 46=>111 | 232=>243 | 233=>244 | n=>n,fun | 17=>0 | 18=>2 | 19=>3 | n=>n⟩
theorem k2g:Go.Proofs.LaysM.n176 prog kv2:={
 mixed:=by kernel_rfl
 f129:=func120.trans (qah some (by kernel_rfl))
 f176:=func166.trans (qah some (by kernel_rfl))
 f249:=func182.trans (qah some (by kernel_rfl))
 f283:=func200.trans (qah some (by kernel_rfl))
 f284:=func201.trans (qah some (by kernel_rfl))
 f285:=func202.trans (qah some (by kernel_rfl))
 f286:=func203.trans (qah some (by kernel_rfl))
 f288:=func192.trans (qah some (by kernel_rfl))
 f317:=func206.trans (qah some (by kernel_rfl))
 f318:=func207.trans (qah some (by kernel_rfl))
 f319:=func208.trans (qah some (by kernel_rfl))
 f320:=func209.trans (qah some (by kernel_rfl))
 f337:=func211.trans (qah some (by kernel_rfl))
 f338:=func212.trans (qah some (by kernel_rfl))
 t0:=underlying0
 a0:=isAgg0
 z0:=sizeOf0
 v0:=zeroValue0
 t2:=underlying2
 a2:=isAgg2
 z2:=sizeOf2
 v2:=zeroValue2
 t3:=underlying3
 a3:=isAgg3
 z3:=sizeOf3
 v3:=zeroValue3
 t4:=underlying4
 a4:=isAgg4
 z4:=sizeOf4
 v4:=zeroValue4
 t5:=underlying5
 a5:=isAgg5
 z5:=sizeOf5
 v5:=zeroValue5
 t9:=underlying9
 a9:=isAgg9
 z9:=sizeOf9
 v9:=zeroValue9
 t20:=underlying20
 a20:=isAgg20
 z20:=sizeOf20
 v20:=zeroValue20
 t37:=underlying206
 a37:=isAgg206
 z37:=sizeOf206
 v37:=zeroValue206
 t46:=underlying111
 a46:=isAgg111
 z46:=sizeOf111
 v46:=zeroValue111
 t51:=underlying149
 a51:=isAgg149
 z51:=sizeOf149
 v51:=zeroValue149
 t53:=underlying152
 a53:=isAgg152
 z53:=sizeOf152
 v53:=zeroValue152
 t171:=underlying233
 a171:=isAgg233
 z171:=sizeOf233
 v171:=zeroValue233
 t173:=underlying235
 a173:=isAgg235
 z173:=sizeOf235
 v173:=zeroValue235
 t212:=underlying239
 a212:=isAgg239
 z212:=sizeOf239
 v212:=zeroValue239
 t213:=underlying240
 a213:=isAgg240
 z213:=sizeOf240
 t232:=underlying243
 a232:=isAgg243
 z232:=sizeOf243
 v232:=zeroValue243
 t233:=underlying244
 a233:=isAgg244
 z233:=sizeOf244
 v233:=zeroValue244
 g17:=by kernel_rfl
 g18:=by kernel_rfl
 g19:=by kernel_rfl
 i0:=by kernel_rfl
 i2:=by kernel_rfl
 i3:=by kernel_rfl
 i4:=by kernel_rfl
 i5:=by kernel_rfl
 i9:=by kernel_rfl
 i20:=by kernel_rfl
 i37:=by kernel_rfl
 i46:=by kernel_rfl
 i51:=by kernel_rfl
 i53:=by kernel_rfl
 i171:=by kernel_rfl
 i173:=by kernel_rfl
 i212:=by kernel_rfl
 i232:=by kernel_rfl
 i233:=by kernel_rfl
 m17:=by kernel_rfl
 m18:=by kernel_rfl
 m19:=by kernel_rfl }
open Go.RowKit Go.Sort Go.Lib in
theorem kjd (B n: Nat) (i: Int) (h0: -9223372036854775808 <= i) (h1: i <= 9223372036854775807) (sv: Value) (xs: List Value) (w: World) (a: w.ownsRow B 5 1 sv n xs) (d: B <= w.heap.size) (c: Lib.TabBelow prog B w "internal/strconv.uint64pow10" .u64 Lib.pow10Tab) (b: n + 21 <= 140737488355328:=by omega):
  Calls prog 166 #[sv, .int .i64 i, .int .i64 10] w fun e w'=>∃ v',e = .returned v'/\w'.ownsRow B 5 1 v' (n+(Lib.itoa i).length) (xs++Lib.byteCells (Lib.itoa i))/\Below B w w'/\Lib.OthersKept 5 none w w':=Any.strconv_AppendInt_10 k2g B n i h0 h1 sv xs w a d b c
set_option linter.unusedSectionVars false
open Go Go.RowKit Go.Proofs.Tryz
class Dr where
 on:Bool
instance (priority:=low) dr0:Dr:=⟨false⟩
theorem k6n {α:Type} (q:Ask α):∀ w:World,w.drawn<=(w.ask q).2.drawn:=by
 induction q with
 | done a=>intro w;exact qu _
 | ask what range k ih=>
  intro w;rw [World.ask];split;exact ih 0 w
  ·have q:=ih ((Question.extern what range).cut (w.tape w.drawn (Question.extern what range))) { w with drawn:=w.drawn+1 };exact qa7 (Nat.le_succ w.drawn) q
theorem k5q {P:Program} {w w':World} {a:Addr} {v:Value} {b:Bool} {l:List Addr} (h:w.farStore P a v b = .ok (w',l)):w'.drawn=w.drawn:=by
 unfold World.farStore at h;split at h
 ·split at h
  ·rename_i hr;injection h with h;subst h;unfold World.viewStore at hr;simp only [bind,Except.bind,pure,Except.pure] at hr
   repeat' split at hr
   all_goals first | (cases hr;done) | (injection hr with hr;injection hr with hr _;subst hr;rfl) | skip
  ·cases h
 ·cases h
theorem k40 {α:Type} {P:Program} (s:Sem α):∀ (w w':World) (v:α),s.run P w = .ok v w'->w.drawn<=w'.drawn:=by
 induction s with
 | pure a=>intro w w' v h;rw [Sem.run] at h;cases h;exact qu _
 | load m a k ih=>
  intro w w' v h;rw [Sem.run] at h;split at h
  ·(have q:=ih _ _ _ _ h;exact q)
  ·split at h
   ·(have q:=ih _ _ _ _ h;exact q)
   ·cases h
 | store m a x k ih=>
  intro w w' v h;by_cases h1:∃ c,x = .agg c;obtain ⟨c,rfl⟩:=h1;rw [Sem.run] at h;cases h;by_cases d:∃ c,x = .tuple c;obtain ⟨c,rfl⟩:=d;rw [Sem.run] at h;cases h;rw [Sem.run] at h
  ·split at h
   ·split at h;cases h
    ·(have q:=ih _ _ _ h;exact q)
   ·split at h;rename_i hf;(have q:=ih _ _ _ h;rw [k5q hf] at q;exact q)
    ·cases h
  exact fun c e=>h1 ⟨c,e⟩
  ·exact fun c e=>d ⟨c,e⟩
 | new o k ih=>intro w w' v h;rw [Sem.run] at h;(have q:=ih _ _ _ _ h;exact q)
 | shape r k ih=>intro w w' v h;rw [Sem.run] at h;(have q:=ih _ _ _ _ h;exact q)
 | freeze a n k ih=>intro w w' v h;rw [Sem.run] at h;have:=ih _ _ _ h;unfold World.freeze at this;split at this <;> exact this
 | frozen a k ih=>intro w w' v h;rw [Sem.run] at h;(have q:=ih _ _ _ _ h;exact q)
 | getObj r k ih=>
  intro w w' v h;rw [Sem.run] at h;split at h;cases h
  ·(have q:=ih _ _ _ _ h;exact q)
  ·cases h
 | setObj r o k ih=>
  intro w w' v h;rw [Sem.run] at h;split at h;cases h
  ·(have q:=ih _ _ _ h;exact q)
  ·cases h
 | choose q k ih=>
  intro w w' v h;rw [Sem.run] at h;split at h
  ·(have q:=ih _ _ _ _ h;exact q)
  ·have q:=ih _ _ _ _ h;exact qa7 (Nat.le_succ w.drawn) q
 | sys c k ih=>
  intro w w' v h;rw [Sem.run] at h;have q:=ih _ _ _ _ h;refine qa7 ?_ q;unfold World.sys;have:=k6n (Kernel.perform c w.os) w;split;exact qu _
  ·rename_i b;rw [b] at this;exact this
 | program k ih=>intro w w' v h;rw [Sem.run] at h;(have q:=ih _ _ _ _ h;exact q)
 | mark m k ih=>intro w w' v h;rw [Sem.run] at h;(have q:=ih _ _ _ h;exact q)
 | halt y=>intro w w' v h;rw [Sem.run] at h;cases h
theorem kya {α:Type} {P:Program} {s:Sem α} {w w':World} {v:α} (h:s.run P w = .ok v w'):w.drawn<=w'.drawn:=k40 s w w' v h
variable [Dr]
structure Below (B:Nat) (w w':World):Prop extends RowKit.Below B w w' where
 drawn:Dr.on=true->w.drawn<=w'.drawn
omit [Dr] in
theorem no0 {p:Prop} (d:@Dr.on dr0=true):p:=by have d:false=true:=d;cases d
theorem Below.kit {B:Nat} {w w':World} (a:Dr.on=false) (h:RowKit.Below B w w'):Below B w w':=⟨h,fun d=>by rw [a] at d;cases d⟩
theorem Below.refl (B:Nat) (w:World):Below B w w:=⟨.refl _ _,fun _=>qu _⟩
theorem Below.trans {B:Nat} {a b c:World} (h:Below B a b) (k:Below B b c):Below B a c:=⟨h.toBelow.trans k.toBelow,fun d=>qa7 (h.drawn d) (k.drawn d)⟩
theorem Below.mono {B B':Nat} {w w':World} (h:Below B w w') (a:B'<=B):Below B' w w':=⟨h.toBelow.mono a,h.drawn⟩
theorem Below.drew {B:Nat} {a w:World} (h:Below B a w):Below B a w.drew:=⟨h.toBelow.drew,fun d=>Nat.le_succ_of_le (h.drawn d)⟩
theorem Below.alloc {B:Nat} {a w:World} (h:Below B a w) (b:B<=w.heap.size) (o:Obj):Below B a (w.alloc o):=⟨h.toBelow.alloc b o,h.drawn⟩
inductive Gd where
 | det (c:Value)
 | rel (G:Value->World->Prop) (h:∀ v w w',G v w->Below w.heap.size w w'->G v w')
def Gd.holds:Gd->Value->World->Prop
 | .det c,v,_=>v=c
 | .rel G _,v,w=>G v w
def RetBy (R:Value->World->Prop) (e:Ending) (w:World):Prop:=∃ u,e = .returned u/\R u w
def kny (P:Program) (R:Value->World->Prop):Result Next->Prop
 | .ok (.value u) w'=>R u w'
 | .ok .skip w'=>R undef w'
 | .ok (.enter f args) w'=>Calls P f args w' (RetBy R)
 | _=>False
def kbx (P:Program) (o:Oper) (a:Act) (w:World) (R:Value->World->Prop):Prop:=kny P R ((execOp a.eval o).run P w)
def keu (o:Oper) (j:Nat):Bool:=o.after.toList.any fun e=>e.on == j && Region.binds .any e
def kw3 (l:List Oper):Array Nat:=
 l.foldl (fun acc o=>acc.push (o.after.toList.foldl (fun s e=>if Region.binds .any e then s ||| 2 ^ e.on ||| acc.getD e.on 0 else s) 0)) #[]
def relB (l:List Oper) (n s:Nat):Bool:=
 let m:=kw3 l
 Region.noSelect l.toArray && decide (n<=l.length) &&
 (l.zipIdx.all fun (o,k)=>o.after.toList.all fun e=>!Region.binds .any e || decide (e.on<k)) &&
 ((l.take n).all fun o=>match o.dst with | some d=>decide (d<s) | none=>true) &&
 ((l.take n).zipIdx.all fun (o,i)=>(l.take n).zipIdx.all fun (p,j)=>i == j || o.dst.isNone || o.dst != p.dst) &&
 ((l.take n).zipIdx.all fun (o,i)=>(o.looksAt l.toArray).all fun t=>(l.take n).zipIdx.all fun (p,j)=>i == j || p.dst != some t || keu o j || keu p i) &&
 (l.zipIdx.all fun (_,k)=>decide (k<n) || (List.range k).all fun j=>(m.getD k 0).testBit j)
variable {P:Program}
theorem kim {o:Oper} {a:Act} {w:World} {R R':Value->World->Prop} (h:∀ v w',R v w'->R' v w') (b:kbx P o a w R):kbx P o a w R':=by
 unfold kbx at *
 generalize (execOp a.eval o).run P w=r at *
 cases r with
 | ok n w'=>
  cases n <;> simp only [kny] at b ⊢
  case enter f args=>exact b.mono fun e w'' ⟨u,c,hu⟩=>⟨u,c,h _ _ hu⟩
  all_goals exact h _ _ b
 | halt x w'=>simp only [kny] at b
theorem kbq {o:Oper} {a:Act} {w:World} {R:Value->World->Prop} {K:Act->World->Prop} {Q:Exit->Act->World->Prop}
  (h:∀ v w',R v w'->K (a.put o.dst v) w') (b:kbx P o a w R):o.wp P a w K Q:=by
 unfold kbx at b;unfold Oper.wp;generalize (execOp a.eval o).run P w=r at *
 cases r with
 | ok n w'=>
  cases n <;> simp only [kny] at b <;> simp only [Oper.upon]
  case enter f args=>exact b.mono fun e w'' ⟨u,c,hu⟩=>by subst c;exact h _ _ hu
  all_goals exact h _ _ b
 | halt x w'=>simp only [kny] at b
def Good (l:List Oper) (acc:Array Nat):Prop:=
 acc.size=l.length/\∀ k o,l[k]?=some o->∀ j,(acc.getD k 0).testBit j=true ->
  ∃ e∈o.after,Region.binds .any e=true/\(e.on=j\/(e.on<k/\(acc.getD e.on 0).testBit j=true))
theorem kyl (acc:Array Nat) (j:Nat):∀ (es:List Edge) (s:Nat),
  (es.foldl (fun s e=>if Region.binds .any e then s ||| 2 ^ e.on ||| acc.getD e.on 0 else s) s).testBit j=true ->
  s.testBit j=true\/∃ e∈es,Region.binds .any e=true/\(e.on=j\/(acc.getD e.on 0).testBit j=true)
 | [],s,h => .inl h
 | e::es,s,h=>by
  simp only [List.foldl_cons] at h;rcases kyl acc j es _ h with h | ⟨e',b,a,h⟩
  ·by_cases a:Region.binds .any e=true
   ·rw [qt a,Nat.testBit_or,Nat.testBit_or,qbm,qbm] at h;rcases h with (h | h) | h;exact .inl h;rw [Nat.testBit_two_pow] at h;exact .inr ⟨e,by simp,a, .inl (by simpa using h)⟩
    ·exact .inr ⟨e,by simp,a, .inr h⟩
   ·rw [qq a] at h;exact .inl h
  ·exact .inr ⟨e',qe _ b,a,h⟩
theorem k6f {l:List Oper} {acc:Array Nat} (h:Good l acc) (o:Oper):
  Good (l++[o]) (acc.push (o.after.toList.foldl (fun s e=>if Region.binds .any e then s ||| 2 ^ e.on ||| acc.getD e.on 0 else s) 0)):=by
 obtain ⟨hs,q⟩:=h;refine ⟨by simp [hs],fun k p hk j c=>?_⟩;have old:∀ i,i<acc.size->∀ x,(acc.push x).getD i 0=acc.getD i 0:=fun i hi x=>by simp [Array.getElem?_push,Nat.ne_of_lt hi]
 by_cases d:k<l.length;rw [q9 d] at hk;rw [old k (by omega)] at c;obtain ⟨e,f,g,h⟩:=q k p hk j c;refine ⟨e,f,g,h.imp id fun ⟨h1,r⟩=>⟨h1,?_⟩⟩;rw [old _ (by omega)];exact r
 ·have a:k=l.length:=by have:=(qd.1 hk).1;simp at this;omega
  subst a;simp at hk;subst hk;have b:∀ x,(acc.push x).getD l.length 0=x:=fun x=>by rw [<- hs];simp
  rw [b] at c;rcases kyl acc j _ 0 c with h | ⟨e,f,g,h⟩;simp at h
  ·refine ⟨e,by simpa using f,g,?_⟩;rcases h with h | h;exact .inl h
   ·have m:e.on<acc.size:=by
     rcases qbe e.on acc.size with n | n;exact n
     ·simp [Array.getElem?_eq_none n] at h
    exact .inr ⟨by omega,by rw [old _ m];exact h⟩
theorem kye:∀ (l r:List Oper) (acc:Array Nat),Good r acc ->
  Good (r++l) (l.foldl (fun acc o=>acc.push (o.after.toList.foldl (fun s e=>if Region.binds .any e then s ||| 2 ^ e.on ||| acc.getD e.on 0 else s) 0)) acc)
 | [],r,acc,h=>by simpa using h
 | o::l,r,acc,h=>by have:=kye l (r++[o]) _ (k6f h o);simpa using this
theorem k48 (l:List Oper):Good l (kw3 l):=by exact kye l [] #[] ⟨rfl,fun k o h=>by simp at h⟩
theorem kh0 {l:List Oper} {S:Nat->Prop} (hS:∀ k o,S k->l[k]?=some o->∀ e∈o.after,Region.binds .any e=true->S e.on):
  ∀ (k:Nat) (o:Oper),l[k]?=some o->(∀ e∈o.after,Region.binds .any e=true->S e.on)->∀ j,((kw3 l).getD k 0).testBit j=true->S j:=by
 intro k
 induction k using Nat.strongRecOn with
 | _ k ih=>
  intro o ho a j m;obtain ⟨e,g,i,h⟩:=(k48 l).2 k o ho j m;rcases h with rfl | ⟨c,h⟩;exact a e g i
  ·have hk:k<l.length:=(qd.1 ho).1;have b:l[e.on]?=some (l[e.on]'(by omega)):=qa (by omega);exact ih e.on c _ b (fun e' d f=>hS e.on _ (a e g i) b e' d f) j h
theorem kq7 (a:Act) (d:Option Tmp) (v:Value):(a.put d v).tmps.size=a.tmps.size:=by cases d <;> simp [Act.put]
theorem kux (a:Act) (d:Option Tmp) (v:Value):(a.put d v).defers=a.defers:=by cases d <;> rfl
variable {gs:List Gd} {l:List Oper} {xs:Nat->Value} {a0:Act}
theorem kqx (m:Nat) {listed:Array Bool} {i:Nat} (hi:i<m) (hu:listed.getD i true=false) (hs:i<listed.size):
  ((List.range m).countP fun k=>!(listed.setIfInBounds i true).getD k true)<(List.range m).countP fun k=>!listed.getD k true:=by
 have a:List.range m=List.range i++i::(List.range (m - (i+1))).map (i+1+·):=by rw [show m=i+1+(m - (i+1)) by omega,List.range_add,List.range_succ];simp
 have b:∀ L:List Nat,(L.countP fun k=>!(listed.setIfInBounds i true).getD k true)<=L.countP fun k=>!listed.getD k true:=fun L=>by
  refine List.countP_mono_left fun k _ hk=>?_;by_cases c:i=k;subst c;simp [hs] at hk
  ·rw [getD_set_ne true c] at hk;exact hk
 rw [a,List.countP_append,List.countP_append,List.countP_cons,List.countP_cons];have h1:=b (List.range i);have e:=b ((List.range (m - (i+1))).map (i+1+·));have d:(listed.setIfInBounds i true).getD i true=true:=by simp [hs]
 rw [d,hu];simp only [Bool.not_true,Bool.not_false,if_true,Bool.false_eq_true,if_false];omega
structure k81 (l:List Oper) (n s:Nat):Prop where
 sel:Region.noSelect l.toArray=true
 len:n<=l.length
 edges:∀ k o,l[k]?=some o->∀ e∈o.after,Region.binds .any e=true->e.on<k
 dst:∀ i o d,i<n->l[i]?=some o->o.dst=some d->d<s
 uniq:∀ i j o p d,i<n->j<n->l[i]?=some o->l[j]?=some p->o.dst=some d->p.dst=some d->i=j
 looks:∀ i j o p t,i<n->j<n->i≠j->l[i]?=some o->l[j]?=some p->t∈o.looksAt l.toArray->p.dst=some t->keu o j=true\/keu p i=true
 tail:∀ k j,k<l.length->n<=k->j<k->((kw3 l).getD k 0).testBit j=true
theorem kxs {l:List Oper} {n s:Nat} (h:relB l n s=true):k81 l n s:=by
 simp only [relB,qo] at h;obtain ⟨⟨⟨⟨⟨⟨h1,b⟩,q⟩,r⟩,u⟩,v⟩,w⟩:=h;have b:n<=l.length:=by simpa using b
 have tk:∀ i o,i<n->l[i]?=some o->(o,i)∈(l.take n).zipIdx:=fun i o hi ho=>by rw [List.mk_mem_zipIdx_iff_getElem?,qv,qt hi];exact ho
 refine ⟨h1,b,?_,?_,?_,?_,?_⟩;intro k o ho e x y;have:=qk.1 q (o,k) (by rw [List.mk_mem_zipIdx_iff_getElem?];exact ho);have:=qk.1 this e (by simpa using x);simpa [y] using this;intro i o d hi ho z;have:=qk.1 r o (ql (i:=i) (by rw [qv,qt hi];exact ho));simpa [z] using this;intro i j o p d hi c ho hp f a;have:=qk.1 (qk.1 u _ (tk i o hi ho)) _ (tk j p c hp);simpa [f,a] using this;intro i j o p t hi c g ho hp ht a;have:=qk.1 (qk.1 (qk.1 v _ (tk i o hi ho)) t ht) _ (tk j p c hp);simpa [a,g] using this
 ·intro k j hk A m;have:=qk.1 w (l[k],k) (by rw [List.mk_mem_zipIdx_iff_getElem?];exact qa hk);simp only [qbm,qa3] at this;exact qk.1 (this.resolve_left (by omega)) j (by simpa using m)
theorem afterB_iff {o:Oper} {j:Nat}:keu o j=true↔∃ e∈o.after,e.on=j/\Region.binds .any e=true:=by unfold keu;rw [List.any_eq_true];simp
theorem knk {l:List Oper} {n s:Nat} (ok:k81 l n s) {Q:Exit->Act->World->Prop}:∀ (fuel k:Nat) (listed:Array Bool) (a:Act) (w:World),
  n<=k->k<=l.length->listed.size=l.length->(∀ i,i<l.length->(listed.getD i true=true↔i<k))->l.length - k<=fuel ->
  wpList P l.toArray Q (l.drop k) a w->wpAny P .any l.toArray Q fuel listed a w:=by
 intro fuel
 induction fuel with
 | zero=>
  intro k listed a w A B d b g h;have hk:k=l.length:=by omega
  subst hk;refine ⟨?_,by simpa [wpList] using h⟩;rw [List.eq_nil_iff_forall_not_mem];intro i hi;obtain ⟨h0,o,ho,_⟩:=mem_ready.1 hi;have c:i<l.length:=by simpa using (qar.1 ho).1
  rw [(b i c).2 c] at h0;cases h0
 | succ fuel ih=>
  intro k listed a w A B d b g h;have t:∀ i,i<l.length->i<k->listed.getD i false=true:=fun i hi C=>by have h1:=(b i hi).2 C;simp [d,hi] at h1 ⊢;exact h1
  have only:∀ i∈Region.ready .any l.toArray listed,i=k/\k<l.length:=fun i hi=>by
   obtain ⟨h0,o,ho,u⟩:=mem_ready.1 hi;have c:i<l.length:=(by simpa using (qar.1 ho).1);have D:k<=i:=by
    rcases qbe i k with f | f;rw [(b i c).2 f] at h0;cases h0
    ·exact f
   refine ⟨?_,by omega⟩;rcases qbe k i with f | f
   ·exfalso;have hS:=kh0 (l:=l) (S:=fun j=>j<i/\listed.getD j false=true) ?_ i o (by simpa using ho) ?_ k (ok.tail i k c (by omega) f);have:=(b k (by omega)).1 (by have:=hS.2;simp [d,show k<l.length by omega] at this ⊢;exact this);omega;intro m p ⟨E,v⟩ hp e q r;have x:=ok.edges m p hp e q r;refine ⟨by omega,?_⟩;have F:=(b m (by omega)).1 (by simp [d,show m<l.length by omega] at v ⊢;exact v);exact t _ (by omega) (by omega)
    ·intro e q r;exact ⟨ok.edges i o (by simpa using ho) e q r,u e q r⟩
   ·omega
  refine ⟨fun y=>?_,fun i hi=>?_⟩
  ·have hk:k=l.length:=by
    rcases qbe k l.length with f | f;exfalso;have:k∈Region.ready .any l.toArray listed:=mem_ready.2 ⟨by have:=mt (b k f).1 (by omega);simpa using this,l[k],by simp [f],fun e q r=>by have x:=ok.edges k _ (qa f) e q r;exact t _ (by omega) x⟩;rw [y] at this;cases this
    ·omega
   subst hk;simpa [wpList] using h
  ·obtain ⟨rfl,c⟩:=only i hi;rw [List.drop_eq_getElem_cons c] at h;have ho:l.toArray[i]?=some l[i]:=(by simp [c]);have G:wpOp P l.toArray Q i (wpList P l.toArray Q (l.drop (i+1))) a w:=(by unfold wpOp;simp only [ho];exact h);refine wpOp_mono (fun a' w' f=>ih (i+1) _ a' w' (by omega) (by omega) (by simp [d]) (fun j H=>?_) (by omega) f) G;by_cases z:i=j;subst z;simp [d,c]
   ·rw [getD_set_ne true z,b j H];omega
structure kab0 (gs:List Gd) (l:List Oper) (C:World->Prop) (a0:Act) (listed:Array Bool) (a:Act) (w:World):Prop where
 inC:C w
 defers:a.defers=a0.defers
 size:a.tmps.size=a0.tmps.size
 lsize:listed.size=l.length
 closed:∀ k o,listed.getD k false=true->l[k]?=some o->∀ e∈o.after,Region.binds .any e=true->listed.getD e.on false=true
 vals:∃ xs:Nat->Value,∀ j g,gs[j]?=some g->listed.getD j false=true->g.holds (xs j) w/\∀ o d,l[j]?=some o->o.dst=some d->a.tmps[d]?=some (xs j)
 rest:∀ t,(∀ j o,listed.getD j false=true->l[j]?=some o->o.dst≠some t)->a.tmps[t]?=a0.tmps[t]?
theorem k2t {listed:Array Bool} {i:Nat} (h:listed.getD i true=false):listed.getD i false=false:=by
 rcases qbe i listed.size with a | a;simp [a] at h ⊢; exact h
 ·simp [Array.getElem?_eq_none a]
theorem k9o {listed:Array Bool} {i:Nat} (h:listed.getD i false=true):i<listed.size:=by
 rcases qbe i listed.size with a | a;exact a
 ·simp [Array.getElem?_eq_none a] at h
theorem kk4 (m j:Nat):(Array.replicate m false).getD j false=false:=by rcases qbe j m with h | h <;> simp [h]
attribute [go_sem] kbx kny
end Go.Proofs.YtnlhjbnpjefjgabGreatDoor
set_option linter.all false
set_option linter.unusedSectionVars false
namespace Go.Proofs.YtnlhjbnpjefjgabGreatDoor
open Go Go.RowKit Go.Proofs.Tryz
variable [Dr]
def kio (n:Int):Prop := -9223372036854775808<=n/\n<=9223372036854775807
def At (w:World) (b o:Nat) (cs:List Value):Prop:=∀ j u,cs[j]?=some u->w.cell? ⟨b,o+j,none⟩=some u
def Same (S:Nat->Prop) (w w':World):Prop:=∀ b,S b->b<w.heap.size->w'.heap[b]?=w.heap[b]?
abbrev Grow (w w':World):Prop:=Below w.heap.size w w'
theorem Below.step {a b c:World} (h:Grow a b) (k:Grow b c):Grow a c:=Below.trans h (k.mono h.size)
theorem kap (w:World) (o:Obj):Grow w (w.alloc o):=(Below.refl _ _).alloc (qu _) _
theorem kyd (w:World):Grow w w.drew:=(Below.refl _ _).drew
theorem kaf (w:World):Grow w w:=Below.refl _ _
section
variable {T:Type} {S S':Nat->Prop} {w w' w'':World} {b o:Nat} {cs:List Value}
theorem kuk {w:World} {a:Addr} {u:Value} (h:w.cell? a=some u):a.block<w.heap.size:=by
 rcases qbe a.block w.heap.size with b | b;exact b
 ·simp [World.cell?,Array.getElem?_eq_none b] at h
theorem Same.of_grow (h:Grow w w'):Same S w w':=fun b _ a=>h.block b a
theorem Same.of_below {B:Nat} (h:Below B w w') (hS:∀ b,S b->b<B):Same S w w':=fun b a _=>h.block b (hS b a)
theorem At.keep (h:At w b o cs) (hS:S b) (hk:Same S w w'):At w' b o cs:=fun j u hu=>by
 have h1:=h j u hu;rw [World.cell?_of_block (w:=w)];exact h1
 ·exact hk b hS (kuk h1)
def RepSl (S:Nat->Prop) (w:World) (size:Nat) (R:List Value->T->Prop) (v:Value) (xs:List T):Prop:=
 ∃ A cap,v = .slice A xs.length cap/\xs.length<=cap/\cap<=9223372036854775807 /\
  ∀ (i:Nat) (x:T),xs[i]?=some x->∃ b o cs,A=some ⟨b,o,none⟩/\S b/\At w b (o+i*size) cs/\cs.length=size/\R cs x
theorem RepSl.keep {size:Nat} {R R':List Value->T->Prop} {v:Value} {xs:List T} (h:RepSl S w size R v xs) (hk:Same S w w') (d:∀ cs x,x∈xs->R cs x->R' cs x):RepSl S w' size R' v xs:=by obtain ⟨A,cap,hv,h1,e,f⟩:=h;refine ⟨A,cap,hv,h1,e,fun i x c=>?_⟩;obtain ⟨b,o,cs,hA,hS,a,hl,hr⟩:=f i x c;exact ⟨b,o,cs,hA,hS,a.keep hS hk,hl,d cs x (ql c) hr⟩
theorem RepSl.mono {size:Nat} {R R':List Value->T->Prop} {v:Value} {xs:List T} (h:RepSl S w size R v xs) (hS:∀ b,S b->S' b) (d:∀ cs x,x∈xs->R cs x->R' cs x):RepSl S' w size R' v xs:=by obtain ⟨A,cap,hv,h1,e,f⟩:=h;refine ⟨A,cap,hv,h1,e,fun i x c=>?_⟩;obtain ⟨b,o,cs,hA,g,a,hl,hr⟩:=f i x c;exact ⟨b,o,cs,hA,hS b g,a,hl,d cs x (ql c) hr⟩
theorem RepSl.bound {size:Nat} {R:List Value->T->Prop} {v:Value} {xs:List T} (hs:0<size) (h:RepSl S w size R v xs):RepSl (fun b=>S b/\b<w.heap.size) w size R v xs:=by obtain ⟨A,cap,hv,h1,c,d⟩:=h;refine ⟨A,cap,hv,h1,c,fun i x e=>?_⟩;obtain ⟨b,o,cs,hA,f,a,hl,hr⟩:=d i x e;refine ⟨b,o,cs,hA,⟨f,?_⟩,a,hl,hr⟩;exact kuk (a 0 cs[0] (qa (by omega)))
def Any:Nat->Prop:=fun _=>True
def Lt (B:Nat):Nat->Prop:=fun b=>b<B
def IntR (cs:List Value) (n:Int):Prop:=cs=[.int .i64 n]/\kio n
def Ints (S:Nat->Prop) (w:World) (v:Value) (ns:List Int):Prop:=RepSl S w 1 IntR v ns
theorem Ints.keep {v:Value} {ns:List Int} (h:Ints S w v ns) (hk:Same S w w'):Ints S w' v ns:=RepSl.keep h hk fun _ _ _ h=>h
theorem Ints.mono {v:Value} {ns:List Int} (h:Ints S w v ns) (hS:∀ b,S b->S' b):Ints S' w v ns:=RepSl.mono h hS fun _ _ _ h=>h
theorem Ints.bound {v:Value} {ns:List Int} (h:Ints S w v ns):Ints (fun b=>S b/\b<w.heap.size) w v ns:=RepSl.bound (by omega) h
theorem Ints.form {v:Value} {ns:List Int} (h:Ints S w v ns):∃ A cap,v = .slice A ns.length cap/\ns.length<=cap/\cap<=9223372036854775807 /\
  ∀ i (hi:i<ns.length),kio ns[i]/\∃ b o,A=some ⟨b,o,none⟩/\S b/\w.cell? ⟨b,o+i,none⟩=some (.int .i64 ns[i]):=by
 obtain ⟨A,cap,hv,h1,d,e⟩:=h;refine ⟨A,cap,hv,h1,d,fun i hi=>?_⟩;obtain ⟨b,o,cs,hA,f,a,hl,c,hr⟩:=e i _ (qa hi);refine ⟨hr,b,o,hA,f,?_⟩;have:=a 0 (.int .i64 ns[i]) (by rw [c];rfl);simpa using this
structure Kept (size:Nat) (R:(Nat->Prop)->World->List Value->T->Prop):Prop where
 pos:0<size
 keep:∀ {S w w' cs x},R S w cs x->Same S w w'->R S w' cs x
 mono:∀ {S S':Nat->Prop} {w cs x},R S w cs x->(∀ b,S b->S' b)->R S' w cs x
 bound:∀ {S w cs x},R S w cs x->R (fun b=>S b/\b<w.heap.size) w cs x
 len:∀ {S w cs x},R S w cs x->cs.length=size
 one:∀ {S w cs x},R S w cs x->∀ u∈cs,u.oneCell'=true
variable {D:Nat->Prop} {lo:Nat} {e:TypeId} {size:Nat} {R:(Nat->Prop)->World->List Value->T->Prop} {v:Value} {xs:List T}
theorem kxv {b:Nat} {Q:List Value->T->Prop}:∀ (ys:List T) (o:Nat),(∀ (i:Nat) (y:T),ys[i]?=some y->∃ cs,At w b (o+i*size) cs/\cs.length=size/\Q cs y) ->
  ∃ news:List Value,news.length=ys.length*size/\At w b o news/\∀ (i:Nat) (y:T),ys[i]?=some y->Q ((news.drop (i*size)).take size) y
 | [],o,_=>⟨[],by simp,fun j u h=>by simp at h,fun i y h=>by simp at h⟩
 | y::ys,o,h=>by
  obtain ⟨cs,d,hl,f⟩:=h 0 y rfl;obtain ⟨news,hn,a,e⟩:=kxv (b:=b) (Q:=Q) ys (o+size) fun i z c=>by
   have:=h (i+1) z (by simpa using c)
   rwa [show o+(i+1)*size=o+size+i*size by rw [qbd];omega] at this
  refine ⟨cs++news,by simp [hl,hn,qbd];omega,fun j u hu=>?_,fun i z c=>?_⟩
  ·by_cases g:j<size;rw [q9 (by omega)] at hu;have:=d j u hu;simpa using this
   ·rw [qam (by omega),hl] at hu;have:=a _ u hu
    rwa [show o+size+(j - size)=o+j by omega] at this
  ·cases i with
   | zero=>
    simp at c;subst c;simp only [Nat.zero_mul,List.drop_zero];rw [List.take_append_of_le_length (by omega),List.take_of_length_le (by omega)];exact f
   | succ i=>
    have:=e i z (by simpa using c);rw [show (i+1)*size=cs.length+i*size by rw [hl,qbd];omega,<- List.drop_drop,List.drop_left];exact this
theorem kum {P:Program} (lo:Nat) (t ty e:TypeId) (i:TypeInfo) (size:Nat) (ht:P.underlying t=some (.slice e)) (hi:P.info? e=some i)
  (v:Value) (n:Nat) (xs:List Value) (a:w.ownsRow lo e size v n xs) (c:Nat):(Builtin.append_ #[t,t] ty #[v, .slice none 0 c]).run P w = .ok v w:=by
 rcases a.2 with ⟨rfl,rfl⟩ | ⟨g,cap,cur,rfl,_,_,b,_⟩;simp [Builtin.append_,run_underlying ht,sizeOf,typeInfo,hi,Builtin.lenOf,Builtin.firstCells]
 ·simp [Builtin.append_,run_underlying ht,sizeOf,typeInfo,hi,Builtin.lenOf,Builtin.firstCells,b,storeCells]
end
end Go.Proofs.YtnlhjbnpjefjgabGreatDoor
set_option linter.all false
namespace Go.Proofs.YtnlhjbnpjefjgabGreatDoor
open Go Go.RowKit Go.ChangeShapes Go.WideShapes Go.ChangeAt Go.Proofs.Tryz
theorem k7m:ownKnob prog.godebug=none:=by kernel_rfl
theorem k8n:laidOutB prog=true:=by kernel_rfl
variable {H:Type} {enc:TypeId×Value->H} {P:Program}
theorem kr5 (hl:laidOutB P=true) {W W':World} {sp:Nat->Bool} (e:RowKit.Below W.heap.size W W'):∀ {ts:List TypeId} {vs:List Value} {ds:List (DataW H)} {ps:List MemPlace},
  (∀ t∈ts,P.readableRec t=true/\t<P.types.size)->DataW.TrodAll enc P W 0 (fun _=>true) true ts vs ds ps->(∀ x∈ps,x.block<W.heap.size)->(∀ x∈ps,sp x.block=true)->DataW.TrodAll enc P W' 0 sp true ts vs ds ps
 | [],vs,ds,ps,_,h,_,_=>by obtain ⟨rfl,rfl,rfl⟩:=trodAll_nil h;exact trodAll_mk0
 | t::ts,vs,ds,ps,ht,h,b,c=>by
  obtain ⟨v,vs',d,ds',p,q,rfl,rfl,rfl,h0,h1⟩:=trodAll_cons h;exact trodAll_cons_mk (WideElems.Trod_stays hl (ht t (by simp)).1 (ht t (by simp)).2 h0 (fun x a=>e.same (b x (by simp [a]))) (fun x a=>c x (by simp [a])))
   (kr5 hl e (fun t' f=>ht t' (by simp [f])) h1 (fun x a=>b x (by simp [a])) (fun x a=>c x (by simp [a])))
theorem k8h {f:Func} {s:ChangeSpec} {W W':World} {args:Array Value} {ds gs:List (DataW H)} {before:List MemPlace} {tb:TypeId}
  (hl:laidOutB P=true) (k:∀ t∈f.params.toList,P.readableRec t=true/\t<P.types.size) (a:s.vars=[]) (y:P.underlying tb=some .bool) (hr:f.resultTypes=#[tb])
  (c:s.fn H (ds++gs)={ results:=[.lit (.bool true)],args:=ds })
  (r:DataW.Whole enc P f.params.toList s.vars false W args.toList ds gs before) (u:RowKit.Below W.heap.size W W'):
  s.post enc P f false true false false W args (.bool true) W':=by
 have e:=r;obtain ⟨p,q,hA,v,rfl,z,hn⟩:=r;have l:DataW.TrodVars enc P W (fun _=>true) [] gs q:=by rw [a] at v;exact v
 obtain ⟨rfl,rfl⟩:=trodVars_none l;have g:∀ x∈p,x.block<W.heap.size:=fun x d=>e.lt x (by simpa using d);have m:∀ sp:Nat->Bool,(∀ x∈p,sp x.block=true)->DataW.TrodAll enc P W' 0 sp true f.params.toList args.toList (s.fn H (ds++[])).args p:=fun sp n=>by rw [c];exact kr5 hl u k hA g n
 have o:∀ sp:Nat->Bool,DataW.TrodVars enc P W' sp s.vars (s.fn H (ds++[])).vars []:=fun sp=>by rw [a,c];rfl
 have i:∀ x∈p,(fun b=>decide (b<W.heap.size)) x.block=true:=fun x d=>by simpa using g x d
 have j:∀ (b:Nat) (sp:Nat->Bool) (w:Bool),DataW.TrodAll enc P W' b sp w f.resultTypes.toList ((Value.bool true).resultList f.resultTypes.size) (s.fn H (ds++[])).results []:=fun b sp w=>by rw [c,hr];exact trodAll_cons_mk (shut_bool y true) trodAll_mk0
 refine ⟨ds,[],p++[],[],p,[],e,j _ _ _,m _ i,o _,World.keptBut_mono (fun x d=>⟨d,?_⟩) (u.frame (·∈p++[])),fun h=>by cases h⟩;simp at d ⊢;exact d
variable {w:World} {base:Nat} {spare:Nat->Bool} {held:Bool}
variable [Dr]
inductive FV where
 | atom (v:Value)
 | agg (cs:List FV)
 | tup (vs:List FV)
 | lst (size n:Nat) (xs:List FV)
 | fp (cs:List FV)
 | bx (cs:List FV)
def FV.cells:FV->List FV
 | .agg cs=>cs
 | x=>[x]
def FV.single:FV->Bool
 | .atom v=>v.oneCell'
 | .lst _ _ _=>true
 | .fp _=>true
 | .bx _=>true
 | _=>false
inductive AV where
 | fz (x:FV)
 | agg (cs:List AV)
 | tup (vs:List AV)
 | ref (id n off:Nat)
 | row (id n:Nat)
 | lim (size n:Nat) (xs:List FV)
 | mp (id:Nat)
 | fn (f:FuncId) (cap:List AV)
 | mth (f:FuncId) (fst:List AV)
 | opt (id:Nat)
 | sdp (id n:Nat)
 | win (id n lo hi:Nat)
 | irow (id g j:Nat)
 | iref (id g j off:Nat)
 | bsl (id g off len:Nat) (cap:Option Nat)
 | any
def AV.cells:AV->List AV
 | .fz x=>x.cells.map .fz
 | .agg cs=>cs
 | x=>[x]
def AV.single:AV->Bool
 | .fz x=>x.single
 | .agg _=>false
 | .tup _=>false
 | .any=>false
 | _=>true
variable {S S':Nat->Prop} {w':World}
inductive RF (S:Nat->Prop) (w:World):Value->FV->Prop where
 | atom {v:Value} (h:v.oneCell'=true):RF S w v (.atom v)
 | agg {cs:Array Value} {xs:List FV} (h:cs.size=xs.length) (h1:∀ x∈xs,x.single=true)
   (hr:∀ (i:Nat) (v:Value) (x:FV),cs[i]?=some v->xs[i]?=some x->RF S w v x):RF S w (.agg cs) (.agg xs)
 | tup {cs:Array Value} {xs:List FV} (h:cs.size=xs.length)
   (hr:∀ (i:Nat) (v:Value) (x:FV),cs[i]?=some v->xs[i]?=some x->RF S w v x):RF S w (.tuple cs) (.tup xs)
 | lst {A:Option Addr} {cap size n:Nat} {xs:List FV} (css:Nat->List Value) (hn:n=xs.length) (hc:n<=cap) (hm:cap<=9223372036854775807) (hs:0<size)
   (ha:∀ (i:Nat) (x:FV),xs[i]?=some x->∃ b o,A=some ⟨b,o,none⟩/\S b/\At w b (o+i*size) (css i))
   (hl:∀ (i:Nat) (x:FV),xs[i]?=some x->(css i).length=size/\x.cells.length=size/\∀ y∈x.cells,y.single=true)
   (hr:∀ (i:Nat) (x:FV) (j:Nat) (v:Value) (y:FV),xs[i]?=some x->(css i)[j]?=some v->x.cells[j]?=some y->RF S w v y):
   RF S w (.slice A n cap) (.lst size n xs)
 | fp {b o:Nat} {xs:List FV} (cs:List Value) (hS:S b) (ha:At w b o cs) (hl:cs.length=xs.length) (h0:0<xs.length) (h1:∀ x∈xs,x.single=true)
   (hr:∀ (i:Nat) (v:Value) (x:FV),cs[i]?=some v->xs[i]?=some x->RF S w v x):RF S w (.pointer (some ⟨b,o,none⟩)) (.fp xs)
 | bx {b:Nat} {e:TypeId} {xs:List FV} (cs:Array Value) (hS:S b) (ha:w.heap[b]?=some (.cells cs e (0,0))) (hl:cs.size=xs.length) (h0:0<xs.length) (h1:∀ x∈xs,x.single=true)
   (hr:∀ (i:Nat) (v:Value) (x:FV),cs[i]?=some v->xs[i]?=some x->RF S w v x):RF S w (.pointer (some ⟨b,0,none⟩)) (.bx xs)
 | bn:RF S w (.pointer none) (.bx [])
theorem RF.keep {v:Value} {x:FV} (h:RF S w v x) (hk:Same S w w'):RF S w' v x:=by
 induction h with
 | atom h=>exact .atom h
 | agg h h1 _ ih=>exact .agg h h1 ih
 | tup h _ ih=>exact .tup h ih
 | lst css hn hc hm hs ha hl _ ih=>
  exact .lst css hn hc hm hs (fun i x c=>let ⟨b,o,h1,a,d⟩:=ha i x c;⟨b,o,h1,a,d.keep a hk⟩) hl ih
 | fp cs hS ha hl h0 h1 _ ih=>exact .fp cs hS (ha.keep hS hk) hl h0 h1 ih
 | bx cs hS ha hl h0 h1 _ ih=>exact .bx cs hS ((hk _ hS (qar.1 ha).1).trans ha) hl h0 h1 ih
 | bn=>exact .bn
theorem RF.mono {v:Value} {x:FV} (h:RF S w v x) (hS:∀ b,S b->S' b):RF S' w v x:=by
 induction h with
 | atom h=>exact .atom h
 | agg h h1 _ ih=>exact .agg h h1 ih
 | tup h _ ih=>exact .tup h ih
 | lst css hn hc hm hs ha hl _ ih=>
  exact .lst css hn hc hm hs (fun i x a=>let ⟨b,o,h1,c,d⟩:=ha i x a;⟨b,o,h1,hS b c,d⟩) hl ih
 | fp cs hs ha hl h0 h1 _ ih=>exact .fp cs (hS _ hs) ha hl h0 h1 ih
 | bx cs hs ha hl h0 h1 _ ih=>exact .bx cs (hS _ hs) ha hl h0 h1 ih
 | bn=>exact .bn
theorem RF.bound {v:Value} {x:FV} (h:RF S w v x):RF (fun b=>S b/\b<w.heap.size) w v x:=by
 induction h with
 | atom h=>exact .atom h
 | agg h h1 _ ih=>exact .agg h h1 ih
 | tup h _ ih=>exact .tup h ih
 | lst css hn hc hm hs ha hl _ ih=>
  refine .lst css hn hc hm hs (fun i x a=>?_) hl ih;obtain ⟨b,o,h1,d,c⟩:=ha i x a;have hn:=(hl i x a).1;exact ⟨b,o,h1,⟨d,kuk (c 0 ((css i)[0]'(by omega)) (qa (by omega)))⟩,c⟩
 | fp cs hs ha hl h0 h1 _ ih=>
  exact .fp cs ⟨hs,kuk (ha 0 (cs[0]'(by omega)) (qa (by omega)))⟩ ha hl h0 h1 ih
 | bx cs hs ha hl h0 h1 _ ih=>exact .bx cs ⟨hs,(qar.1 ha).1⟩ ha hl h0 h1 ih
 | bn=>exact .bn
theorem RF.one {v:Value} {x:FV} (h:RF S w v x) (h1:x.single=true):v.oneCell'=true:=by
 cases h with
 | atom h=>exact h
 | agg=>cases h1
 | tup=>cases h1
 | lst=>rfl
 | fp=>rfl
 | bx=>rfl
 | bn=>rfl
theorem RF.atom_eq {v u:Value} (h:RF S w v (.atom u)):v=u:=by cases h;rfl
theorem RF.undef:RF S w Go.undef (.tup []) := .tup rfl (fun i v x h=>by simp at h)
theorem RF.cells {v:Value} {x:FV} (h:RF S w v x) (h1:∀ y∈x.cells,y.single=true):
  v.cells.size=x.cells.length/\(∀ (i:Nat) (u:Value) (y:FV),v.cells[i]?=some u->x.cells[i]?=some y->RF S w u y)/\∀ u∈v.cells.toList,u.oneCell'=true:=by
 have key:v.cells.size=x.cells.length/\(∀ (i:Nat) (u:Value) (y:FV),v.cells[i]?=some u->x.cells[i]?=some y->RF S w u y):=by
  cases h with
  | agg h h1 hr=>exact ⟨h,hr⟩
  | atom h=>
   have hc:v.cells=#[v]:=by cases v <;> first | rfl | cases h
   rw [hc];exact ⟨rfl,fun i u y hu hy=>by cases i with | zero=>simp [FV.cells] at hu hy;subst hu hy;exact .atom h | succ i=>simp at hu⟩
  | tup h hr=>cases h1 _ (qaa.2 rfl)
  | lst css hn hc hm hs ha hl hr=>exact ⟨rfl,fun i u y hu hy=>by cases i with | zero=>simp [FV.cells,Value.cells] at hu hy;subst hu hy;exact .lst css hn hc hm hs ha hl hr | succ i=>simp [Value.cells] at hu⟩
  | fp cs hS ha hl h0 b hr=>exact ⟨rfl,fun i u y hu hy=>by cases i with | zero=>simp [FV.cells,Value.cells] at hu hy;subst hu hy;exact .fp cs hS ha hl h0 b hr | succ i=>simp [Value.cells] at hu⟩
  | bx cs hS ha hl h0 b hr=>exact ⟨rfl,fun i u y hu hy=>by cases i with | zero=>simp [FV.cells,Value.cells] at hu hy;subst hu hy;exact .bx cs hS ha hl h0 b hr | succ i=>simp [Value.cells] at hu⟩
  | bn=>exact ⟨rfl,fun i u y hu hy=>by cases i with | zero=>simp [FV.cells,Value.cells] at hu hy;subst hu hy;exact .bn | succ i=>simp [Value.cells] at hu⟩
 refine ⟨key.1,key.2,fun u hu=>?_⟩;obtain ⟨i,hi,rfl⟩:=qap.1 hu;have a:i<v.cells.size:=by simpa using hi
 have c:i<x.cells.length:=by rw [<- key.1];exact a
 exact (key.2 i _ _ (by simp [a]) (qa c)).one (h1 _ (qaq c))
structure Env where
 len:Nat->Nat
 val:Nat->Value
def kak:Value->Option Nat
 | .slice (some a) _ _=>some a.block
 | .pointer (some a)=>some a.block
 | .map (some r)=>some r
 | _=>none
def kcy:Value->List Value
 | .tuple cs=>cs.toList
 | _=>[]
def Blk (v:Value) (b:Nat):Prop:=kak v=some b\/∃ u,u∈kcy v/\kak u=some b
theorem Blk.of {v:Value} {b:Nat} (h:kak v=some b):Blk v b := .inl h
theorem Blk.sl {A:Option Addr} {n c b:Nat} (h:Blk (.slice A n c) b):kak (.slice A n c)=some b:=by
 rcases h with h | ⟨u,hu,_⟩;exact h
 ·cases hu
theorem Blk.pt {A:Option Addr} {b:Nat} (h:Blk (.pointer A) b):kak (.pointer A)=some b:=by
 rcases h with h | ⟨u,hu,_⟩;exact h
 ·cases hu
theorem Blk.mp {A:Option Nat} {b:Nat} (h:Blk (.map A) b):kak (.map A)=some b:=by
 rcases h with h | ⟨u,hu,_⟩;exact h
 ·cases hu
variable {ψ ψ':Env} {K K':Nat->Prop}
def capOf:Value->Nat
 | .slice _ _ c=>c
 | _=>0
def CapR (u:Value) (off c:Nat):Option Nat->Prop
 | some k=>c=k
 | none=>off=0/\c=capOf u
def BslR (u:Value) (off len:Nat) (cap:Option Nat) (v:Value):Prop:=
 ∃ b c,kak u=some b/\v = .slice (some ⟨b,off,none⟩) len c/\len<=c/\c<=9223372036854775807/\CapR u off c cap
inductive RV (ψ:Env) (K:Nat->Prop) (S:Nat->Prop) (w:World):Value->AV->Prop where
 | fz {v:Value} {x:FV} (h:RF S w v x):RV ψ K S w v (.fz x)
 | agg {cs:Array Value} {xs:List AV} (h:cs.size=xs.length) (h1:∀ x∈xs,x.single=true)
   (hr:∀ (i:Nat) (v:Value) (x:AV),cs[i]?=some v->xs[i]?=some x->RV ψ K S w v x):RV ψ K S w (.agg cs) (.agg xs)
 | tup {cs:Array Value} {xs:List AV} (h:cs.size=xs.length)
   (hr:∀ (i:Nat) (v:Value) (x:AV),cs[i]?=some v->xs[i]?=some x->RV ψ K S w v x):RV ψ K S w (.tuple cs) (.tup xs)
 | ref {id n off:Nat} {v:Value} (hK:K id) (hn:n<=ψ.len id) (h1:v.oneCell'=true)
   (hv:n=ψ.len id->∃ b,kak (ψ.val id)=some b/\v = .pointer (some ⟨b,off,none⟩)):RV ψ K S w v (.ref id n off)
 | row {id n:Nat} {v:Value} (hK:K id) (hn:n<=ψ.len id) (h1:v.oneCell'=true) (hv:n=ψ.len id->v=ψ.val id):RV ψ K S w v (.row id n)
 | lim {A:Option Addr} {size n:Nat} {xs:List FV} (h:RF S w (.slice A n n) (.lst size n xs)):RV ψ K S w (.slice A n n) (.lim size n xs)
 | mp {id:Nat} {v:Value} (hK:K id) (h1:v.oneCell'=true) (hv:0=ψ.len id->v=ψ.val id):RV ψ K S w v (.mp id)
 | fn {f:FuncId} {cs:Array Value} {xs:List AV} (h:cs.size=xs.length)
   (hr:∀ (i:Nat) (v:Value) (x:AV),cs[i]?=some v->xs[i]?=some x->RV ψ K S w v x):RV ψ K S w (.func (.func f) #[] cs) (.fn f xs)
 | mth {f:FuncId} {cs:Array Value} {xs:List AV} (h:cs.size=xs.length)
   (hr:∀ (i:Nat) (v:Value) (x:AV),cs[i]?=some v->xs[i]?=some x->RV ψ K S w v x):RV ψ K S w (.func (.func f) cs #[]) (.mth f xs)
 | opt {id:Nat} {v:Value} (hK:K id) (h1:v.oneCell'=true) (hv:0=ψ.len id->v = .pointer none\/∃ b,kak (ψ.val id)=some b/\v = .pointer (some ⟨b,0,none⟩)):RV ψ K S w v (.opt id)
 | sdp {id n:Nat} {v:Value} (hK:K id) (hn:n<=ψ.len id) (h1:v.oneCell'=true) (hv:n=ψ.len id->(∃ a,v = .pointer a)/\(0<n->∃ b,kak (ψ.val id)=some b/\v = .pointer (some ⟨b,0,none⟩))):RV ψ K S w v (.sdp id n)
 | win {id n lo hi:Nat} {v:Value} (hK:K id) (hn:n<=ψ.len id) (h1:v.oneCell'=true) (hv:n=ψ.len id->lo<=hi/\hi<=n/\∃ A cap,v = .slice A (hi - lo) cap/\(lo<hi->∃ b,kak (ψ.val id)=some b/\A=some ⟨b,lo,none⟩)):RV ψ K S w v (.win id n lo hi)
 | irow {id g j:Nat} {v:Value} (hK:K id) (hn:g<=ψ.len id) (h1:v.oneCell'=true) (hv:g=ψ.len id->(kcy (ψ.val id))[j]?=some v):RV ψ K S w v (.irow id g j)
 | iref {id g j off:Nat} {v:Value} (hK:K id) (hn:g<=ψ.len id) (h1:v.oneCell'=true) (hv:g=ψ.len id->∃ u b,(kcy (ψ.val id))[j]?=some u/\kak u=some b/\v = .pointer (some ⟨b,off,none⟩)):RV ψ K S w v (.iref id g j off)
 | bsl {id g off len:Nat} {cap:Option Nat} {v:Value} (hK:K id) (hn:g<=ψ.len id) (h1:v.oneCell'=true) (hv:g=ψ.len id->BslR (ψ.val id) off len cap v):RV ψ K S w v (.bsl id g off len cap)
 | any {v:Value}:RV ψ K S w v .any
theorem RV.bound {v:Value} {a:AV} (h:RV ψ K S w v a):RV ψ K (fun b=>S b/\b<w.heap.size) w v a:=by
 induction h with
 | fz h=>exact .fz h.bound
 | agg h h1 _ ih=>exact .agg h h1 ih
 | tup h _ ih=>exact .tup h ih
 | ref hk hn h1 hv=>exact .ref hk hn h1 hv
 | row hk hn h1 hv=>exact .row hk hn h1 hv
 | lim h=>exact .lim h.bound
 | mp hk h1 hv=>exact .mp hk h1 hv
 | opt hk h1 hv=>exact .opt hk h1 hv
 | sdp hk hn h1 hv=>exact .sdp hk hn h1 hv
 | win hk hn h1 hv=>exact .win hk hn h1 hv
 | irow hk hn h1 hv=>exact .irow hk hn h1 hv
 | iref hk hn h1 hv=>exact .iref hk hn h1 hv
 | bsl hk hn h1 hv=>exact .bsl hk hn h1 hv
 | fn h _ ih=>exact .fn h ih
 | mth h _ ih=>exact .mth h ih
 | any=>exact .any
theorem RV.mono {v:Value} {a:AV} (h:RV ψ K S w v a) (hK:∀ id,K id->K' id) (hS:∀ b,S b->S' b):RV ψ K' S' w v a:=by
 induction h with
 | fz h=>exact .fz (h.mono hS)
 | agg h h1 _ ih=>exact .agg h h1 ih
 | tup h _ ih=>exact .tup h ih
 | ref hk hn h1 hv=>exact .ref (hK _ hk) hn h1 hv
 | row hk hn h1 hv=>exact .row (hK _ hk) hn h1 hv
 | lim h=>exact .lim (h.mono hS)
 | mp hk h1 hv=>exact .mp (hK _ hk) h1 hv
 | opt hk h1 hv=>exact .opt (hK _ hk) h1 hv
 | sdp hk hn h1 hv=>exact .sdp (hK _ hk) hn h1 hv
 | win hk hn h1 hv=>exact .win (hK _ hk) hn h1 hv
 | irow hk hn h1 hv=>exact .irow (hK _ hk) hn h1 hv
 | iref hk hn h1 hv=>exact .iref (hK _ hk) hn h1 hv
 | bsl hk hn h1 hv=>exact .bsl (hK _ hk) hn h1 hv
 | fn h _ ih=>exact .fn h ih
 | mth h _ ih=>exact .mth h ih
 | any=>exact .any
theorem RV.one {v:Value} {a:AV} (h:RV ψ K S w v a) (h1:a.single=true):v.oneCell'=true:=by
 cases h with
 | fz h=>exact h.one h1
 | agg=>cases h1
 | tup=>cases h1
 | ref _ _ h _=>exact h
 | row _ _ h _=>exact h
 | lim=>rfl
 | mp _ h _=>exact h
 | opt _ h _=>exact h
 | sdp _ _ h _=>exact h
 | win _ _ h _=>exact h
 | irow _ _ h _=>exact h
 | iref _ _ h _=>exact h
 | bsl _ _ h _=>exact h
 | fn=>rfl
 | mth=>rfl
 | any=>cases h1
theorem RV.cells {v:Value} {a:AV} (h:RV ψ K S w v a) (h1:∀ y∈a.cells,y.single=true):
  v.cells.size=a.cells.length/\(∀ (i:Nat) (u:Value) (y:AV),v.cells[i]?=some u->a.cells[i]?=some y->RV ψ K S w u y)/\∀ u∈v.cells.toList,u.oneCell'=true:=by
 have one:v.oneCell'=true->a.cells=[a]->RV ψ K S w v a->v.cells.size=a.cells.length/\(∀ (i:Nat) (u:Value) (y:AV),v.cells[i]?=some u->a.cells[i]?=some y->RV ψ K S w u y):=fun ho hc hr=>by
  have hv:v.cells=#[v]:=by cases v <;> first | rfl | cases ho
  rw [hc,hv];exact ⟨rfl,fun i u y hu hy=>by cases i with | zero=>simp at hu hy;subst hu hy;exact hr | succ i=>simp at hu⟩
 have key:v.cells.size=a.cells.length/\(∀ (i:Nat) (u:Value) (y:AV),v.cells[i]?=some u->a.cells[i]?=some y->RV ψ K S w u y):=by
  cases h with
  | @fz v x h=>
   have c:∀ y∈x.cells,y.single=true:=fun y hy=>h1 (.fz y) (by simp [AV.cells,hy]);obtain ⟨e1,e2,_⟩:=h.cells c;refine ⟨by simpa [AV.cells] using e1,fun i u y hu hy=>?_⟩;simp only [AV.cells,qg,qs] at hy;obtain ⟨y',d,rfl⟩:=hy;exact .fz (e2 i u y' hu d)
  | agg h h1 hr=>exact ⟨h,hr⟩
  | tup h hr=>cases h1 _ (qaa.2 rfl)
  | any=>cases h1 _ (qaa.2 rfl)
  | ref hk hn ho hv=>exact one ho rfl (.ref hk hn ho hv)
  | row hk hn ho hv=>exact one ho rfl (.row hk hn ho hv)
  | lim h=>exact one rfl rfl (.lim h)
  | mp hk ho hv=>exact one ho rfl (.mp hk ho hv)
  | opt hk ho hv=>exact one ho rfl (.opt hk ho hv)
  | sdp hk hn ho hv=>exact one ho rfl (.sdp hk hn ho hv)
  | win hk hn ho hv=>exact one ho rfl (.win hk hn ho hv)
  | irow hk hn ho hv=>exact one ho rfl (.irow hk hn ho hv)
  | iref hk hn ho hv=>exact one ho rfl (.iref hk hn ho hv)
  | bsl hk hn ho hv=>exact one ho rfl (.bsl hk hn ho hv)
  | fn h hr=>exact one rfl rfl (.fn h hr)
  | mth h hr=>exact one rfl rfl (.mth h hr)
 refine ⟨key.1,key.2,fun u hu=>?_⟩;obtain ⟨i,hi,rfl⟩:=qap.1 hu;have b:i<v.cells.size:=by simpa using hi
 have c:i<a.cells.length:=by rw [<- key.1];exact b
 exact (key.2 i _ _ (by simp [b]) (qa c)).one (h1 _ (qaq c))
theorem RV.inv {v:Value} {x:FV} (h:RV ψ K S w v (.fz x)):RF S w v x:=by cases h;assumption
theorem RV.atom {v u:Value} (h:RV ψ K S w v (.fz (.atom u))):v=u:=h.inv.atom_eq
def Ext (K:Nat->Prop) (ψ ψ':Env):Prop:=∀ id,K id->ψ.len id<=ψ'.len id/\(ψ.len id=ψ'.len id->ψ'.val id=ψ.val id)
theorem Ext.refl:Ext K ψ ψ:=fun _ _=>⟨qu _,fun _=>rfl⟩
theorem RV.keep {v:Value} {a:AV} (h:RV ψ K S w v a) (f:Ext K ψ ψ') (hK:∀ id,K id->K' id) (hS:∀ b,S b->S' b) (hk:Same S w w'):RV ψ' K' S' w' v a:=by
 induction h with
 | fz h=>exact .fz ((h.keep hk).mono hS)
 | agg h h1 _ ih=>exact .agg h h1 ih
 | tup h _ ih=>exact .tup h ih
 | @ref id n off v hk hn h1 hv=>
  have c:=f id hk;refine .ref (hK _ hk) (by omega) h1 fun d=>?_;have e:n=ψ.len id:=by omega
  rw [c.2 (by omega)];exact hv e
 | @row id n v hk hn h1 hv=>
  have c:=f id hk;refine .row (hK _ hk) (by omega) h1 fun d=>?_;have e:n=ψ.len id:=by omega
  rw [c.2 (by omega)];exact hv e
 | lim h=>exact .lim ((h.keep hk).mono hS)
 | @mp id v hk h1 hv=>
  have c:=f id hk;refine .mp (hK _ hk) h1 fun d=>?_;have e:0=ψ.len id:=by omega
  rw [c.2 (by omega)];exact hv e
 | @opt id v hk h1 hv=>
  have c:=f id hk;refine .opt (hK _ hk) h1 fun d=>?_;have e:0=ψ.len id:=by omega
  rw [c.2 (by omega)];exact hv e
 | @sdp id n v hk hn h1 hv=>
  have c:=f id hk;refine .sdp (hK _ hk) (by omega) h1 fun d=>?_;have e:n=ψ.len id:=by omega
  rw [c.2 (by omega)];exact hv e
 | @win id n lo hi v hk hn h1 hv=>
  have c:=f id hk;refine .win (hK _ hk) (by omega) h1 fun d=>?_;have e:n=ψ.len id:=by omega
  rw [c.2 (by omega)];exact hv e
 | @irow id g j v hk hn h1 hv=>
  have c:=f id hk;refine .irow (hK _ hk) (by omega) h1 fun d=>?_;have e:g=ψ.len id:=by omega
  rw [c.2 (by omega)];exact hv e
 | @iref id g j off v hk hn h1 hv=>
  have c:=f id hk;refine .iref (hK _ hk) (by omega) h1 fun d=>?_;have e:g=ψ.len id:=by omega
  rw [c.2 (by omega)];exact hv e
 | @bsl id g off len cap v hk hn h1 hv=>
  have c:=f id hk;refine .bsl (hK _ hk) (by omega) h1 fun d=>?_;have e:g=ψ.len id:=by omega
  rw [c.2 (by omega)];exact hv e
 | fn h _ ih=>exact .fn h ih
 | mth h _ ih=>exact .mth h ih
 | any=>exact .any
end Go.Proofs.YtnlhjbnpjefjgabGreatDoor
set_option linter.all false
set_option linter.unusedSectionVars false
namespace Go.Proofs.YtnlhjbnpjefjgabGreatDoor
open Go Go.RowKit Go.Proofs.Tryz
variable [Dr]
inductive XO where
 | blk (g:Nat) (e:TypeId) (sz:Nat) (cells:List AV)
 | amap (kv:List (Value×AV))
 | imap (kv:List (Int×FV))
 | mit (m since:Nat) (seen:List Nat) (stepped:Nat)
inductive AObj where
 | box (e:TypeId) (cells:List AV)
 | frow (e:TypeId) (size:Nat) (xs:List FV)
 | gho (cs:List Value) (vs:List AV)
 | was (ψ0:Env) (ids0:List Nat) (S0:Nat->Prop) (w0:World)
 | smap (kv:List (BA×FV))
 | tab (g:Nat) (ov:Value) (eo ei:TypeId) (rows:List (List Value))
 | glb (gs:List (Nat×Array Value))
 | sit (s:BA) (pos:Nat)
 | memo (Φ:FV->FV->Prop) (hint:Option (Value×Option FV))
 | xo (k:XO)
structure St where
 n:Nat
 tmps:List (Nat×AV)
 heap:List (Nat×AObj)
 ids:List Nat
 dfr:List Deferred:=[]
def aS (s:St) (t:List (Nat×AV)) (o:List (Nat×AObj)):St:=⟨s.n,t++s.tmps,o++s.heap,o.map (·.1)++s.ids,s.dfr⟩
def iS (s:St) (l:List Nat):St:=⟨s.n,s.tmps,s.heap,l,s.dfr⟩
def look (d:AV):List (Nat×AV)->Nat->AV
 | [],_=>d
 | (k,v)::l,t=>bif Nat.beq k t then v else look d l t
def kaa:List (Nat×AObj)->Nat->Option AObj
 | [],_=>none
 | (k,v)::l,t=>bif Nat.beq k t then some v else kaa l t
def St.get (st:St) (t:Nat):AV:=look .any st.tmps t
def St.put (st:St) (d:Option Nat) (v:AV):St:=match d with
 | some d=>{ st with tmps:=(d,v)::st.tmps }
 | none=>st
def k0i:Value->AV
 | .agg cs=>bif cs.toList.all (·.oneCell') then .fz (.agg (cs.toList.map .atom)) else .any
 | .tuple _ => .any
 | v => .fz (.atom v)
def St.eval (st:St):Operand->AV
 | .tmp t=>st.get t
 | .const v=>k0i v
 | .global _ => .any
 | .func f => .fn f []
variable {F S0 S S':Nat->Prop} {N0:Nat} {w w':World} {ψ ψ':Env} {K K':Nat->Prop} {P:Program} {st:St} {a:Act}
theorem Nat.beq_eq_false {k t:Nat} (h:¬ k=t):Nat.beq k t=false:=by
 cases a:Nat.beq k t with
 | false=>rfl
 | true=>exact absurd (qf a) h
theorem kar {d:AV} {l:List (Nat×AV)} {k t:Nat} {v:AV}:look d ((k,v)::l) t=if k=t then v else look d l t:=by
 simp only [look];by_cases h:k=t;subst h;simp
 ·rw [qq h,Nat.beq_eq_false h];rfl
theorem kae {l:List (Nat×AObj)} {k t:Nat} {v:AObj}:kaa ((k,v)::l) t=if k=t then some v else kaa l t:=by
 simp only [kaa];by_cases h:k=t;subst h;simp
 ·rw [qq h,Nat.beq_eq_false h];rfl
def GlbR (w:World) (g:Nat) (vs:Array Value):Prop:=(0<vs.size/\∃ e d,w.heap[g]?=some (.cells vs e d))\/(vs=#[]/\∃ m e d,w.heap[g]?=some (.cells #[.int .i64 m] e d))
theorem GlbR.lt {g:Nat} {vs:Array Value} (h:GlbR w g vs):g<w.heap.size:=by rcases h with ⟨_,e,d,h⟩ | ⟨_,m,e,d,h⟩ <;> exact (qar.1 h).1
theorem GlbR.keep {g:Nat} {vs:Array Value} (h:GlbR w g vs) (hk:w'.heap[g]?=w.heap[g]?):GlbR w' g vs:=by
 rcases h with ⟨h0,e,d,h⟩ | ⟨h0,m,e,d,h⟩;exact .inl ⟨h0,e,d,hk.trans h⟩
 ·exact .inr ⟨h0,m,e,d,hk.trans h⟩
theorem GlbR.tab {g:Nat} {vs:Array Value} (h:GlbR w g vs) (h0:0<vs.size):∃ e d,w.heap[g]?=some (.cells vs e d):=by
 rcases h with ⟨_,h⟩ | ⟨rfl,_⟩;exact h
 ·cases h0
def HintR (S:Nat->Prop) (w:World):Option (Value×Option FV)->List MapEntry->Prop
 | none,_=>True
 | some (k,none),l=>∀ e∈l,e.key≠k
 | some (k,some vx),l=>∃ l1 e l2,l=l1++e::l2/\(∀ x∈l1,x.key≠k)/\e.key=k/\RF S w e.val vx
def MemoR (S:Nat->Prop) (w:World) (Φ:FV->FV->Prop) (h:Option (Value×Option FV)) (l:List MapEntry):Prop:=
 (∀ e∈l,∃ kx vx,Φ kx vx/\RF S w e.key kx/\RF S w e.val vx)/\HintR S w h l
theorem MemoR.keep {Φ:FV->FV->Prop} {h:Option (Value×Option FV)} {l:List MapEntry} (m:MemoR S w Φ h l) (hS:∀ b,S b->S' b) (hk:Same S w w'):MemoR S' w' Φ h l:=by
 refine ⟨fun e d=>?_,?_⟩;obtain ⟨kx,vx,h1,a,c⟩:=m.1 e d;exact ⟨kx,vx,h1,(a.keep hk).mono hS,(c.keep hk).mono hS⟩
 ·match h,m.2 with
  | none,_=>trivial
  | some (k,none),h=>exact h
  | some (k,some vx),⟨l1,e,l2,h1,a,c,f⟩=>exact ⟨l1,e,l2,h1,a,c,(f.keep hk).mono hS⟩
def XobR (ψ:Env) (K S:Nat->Prop) (w:World) (id:Nat):XO->Prop
 | .blk g e sz cells=>ψ.len id=g/\0<sz/\∃ b cs n cap,ψ.val id = .slice (some ⟨b,0,none⟩) n cap/\w.heap[b]?=some (.cells cs e (0,0))/\cs.size=cap*sz/\cap<=9223372036854775807/\cells.length<=cs.size/\(∀ x∈cells,x.single=true) /\
   ∀ (i:Nat) (v:Value) (x:AV),cs[i]?=some v->cells[i]?=some x->RV ψ K S w v x
 | .amap kv=>ψ.len id=0/\∃ b es,ψ.val id = .map (some b)/\w.heap[b]?=some (.map es kv.length)/\es.size=kv.length /\
   ∀ (i:Nat) (e:MapEntry) (p:Value×AV),es[i]?=some e->kv[i]?=some p->e.key=p.1/\e.born=i/\RV ψ K S w e.val p.2
 | .imap kv=>ψ.len id=0/\∃ b es,ψ.val id = .map (some b)/\w.heap[b]?=some (.map es kv.length)/\es.size=kv.length /\
   ∀ (i:Nat) (e:MapEntry) (p:Int×FV),es[i]?=some e->kv[i]?=some p->e.key = .int .i64 p.1/\e.born=i/\RF S w e.val p.2
 | .mit m since seen stepped=>ψ.len id=0/\K m/\∃ b bm,ψ.val id = .pointer (some ⟨b,0,none⟩)/\w.heap[b]?=some (.mapIter (some bm) since seen.toArray stepped)/\(0=ψ.len m->ψ.val m = .map (some bm))
def ObR (ψ:Env) (K S:Nat->Prop) (w:World) (id:Nat):AObj->Prop
 | .box e cells=>ψ.len id=0/\∃ b cs,ψ.val id = .pointer (some ⟨b,0,none⟩)/\w.heap[b]?=some (.cells cs e (0,0))/\cs.size=cells.length/\(∀ x∈cells,x.single=true) /\
   ∀ (i:Nat) (v:Value) (x:AV),cs[i]?=some v->cells[i]?=some x->RV ψ K S w v x
 | .frow e size xs=>ψ.len id=xs.length/\0<size/\∃ cs:List Value,w.ownsRow 0 e size (ψ.val id) xs.length cs/\(∀ x∈xs,x.cells.length=size/\∀ y∈x.cells,y.single=true) /\
   ∀ (i:Nat) (x:FV) (j:Nat) (v:Value) (y:FV),xs[i]?=some x->cs[i*size+j]?=some v->x.cells[j]?=some y->RF S w v y
 | .gho cs vs=>ψ.len id=0/\kak (ψ.val id)=none/\kcy (ψ.val id)=[]/\∀ (i:Nat) (v:Value) (x:AV),cs[i]?=some v->vs[i]?=some x->RV ψ K S w v x
 | .was ψ0 ids0 S0 w0=>ψ.len id=0/\kak (ψ.val id)=none/\kcy (ψ.val id)=[]/\Ext (·∈ids0) ψ0 ψ/\(∀ i,i∈ids0->K i)/\(∀ b,S0 b->S b)/\Same S0 w0 w
 | .smap kv=>ψ.len id=0/\∃ b es clock,ψ.val id = .map (some b)/\w.heap[b]?=some (.map es clock)/\es.size=kv.length /\
   ∀ (i:Nat) (e:MapEntry) (p:BA×FV),es[i]?=some e->kv[i]?=some p->e.key = .string p.1/\RF S w e.val p.2
 | .tab g ov eo ei rows=>ψ.len id=g/\∃ vs:List Value,ψ.val id = .tuple (ov::vs).toArray/\vs.length=rows.length/\w.ownsRow 0 eo 1 ov rows.length vs /\
   (∀ (j:Nat) (v:Value) (xs:List Value),vs[j]?=some v->rows[j]?=some xs->w.ownsRow 0 ei 1 v xs.length xs/\∀ u∈xs,u.oneCell'=true) /\
   ∀ (i j:Nat) (u v:Value) (b:Nat),(ov::vs)[i]?=some u->(ov::vs)[j]?=some v->i≠j->kak u=some b->kak v≠some b
 | .glb gs=>ψ.len id=0/\kak (ψ.val id)=none/\kcy (ψ.val id)=[]/\∀ p,p∈gs->S p.1/\GlbR w p.1 p.2
 | .sit s pos=>ψ.len id=0/\∃ b,ψ.val id = .pointer (some ⟨b,0,none⟩)/\w.heap[b]?=some (.stringIter s pos)
 | .memo Φ h=>ψ.len id=0/\∃ b es clock,ψ.val id = .map (some b)/\w.heap[b]?=some (.map es clock)/\MemoR S w Φ h es.toList
 | .xo k=>XobR ψ K S w id k
theorem Ext.trans' {ids:List Nat} {K:Nat->Prop} {ψ0 ψ ψ':Env} (h:Ext (·∈ids) ψ0 ψ) (k:Ext K ψ ψ') (hs:∀ i,i∈ids->K i):Ext (·∈ids) ψ0 ψ':=fun i hi=>by obtain ⟨h1,a⟩:=h i hi;obtain ⟨k1,k2⟩:=k i (hs i hi);exact ⟨by omega,fun e=>by rw [k2 (by omega),a (by omega)]⟩
theorem Same.trans' {S0 S:Nat->Prop} {w0 w w':World} (h:Same S0 w0 w) (k:Same S w w') (hs:∀ b,S0 b->S b):Same S0 w0 w':=fun b a hl=>by have h1:=h b a hl;rw [qa8 hl] at h1;obtain ⟨c,_⟩:=qar.1 h1;rw [k b (hs b a) c,h1,qa8 hl]
theorem kdv {v:Value} {b:Nat} (h:v.ownBlock=some b):kak v=some b:=by
 unfold Value.ownBlock at h;split at h;exact h
 ·cases h
theorem kdh {base e size n:Nat} {v:Value} {cs:List Value} (h:w.ownsRow base e size v n cs) (hk:∀ b,v.ownBlock=some b->w'.heap[b]?=w.heap[b]?):w'.ownsRow base e size v n cs:=by obtain ⟨h1,a⟩:=h;refine ⟨h1,a.imp id ?_⟩;rintro ⟨g,cap,cur,rfl,c,d,r⟩;exact ⟨g,cap,cur,rfl,c,by rw [hk g rfl];exact d,r⟩
theorem XobR.keep {id:Nat} {o:XO} (h:XobR ψ K S w id o) (l:Ext K ψ ψ') (hK:∀ id,K id->K' id) (hS:∀ b,S b->S' b) (hk:Same S w w')
  (a:ψ'.len id=ψ.len id/\ψ'.val id=ψ.val id) (k:∀ b,Blk (ψ.val id) b->w'.heap[b]?=w.heap[b]?):XobR ψ' K' S' w' id o:=by
 cases o with
 | blk g e sz cells=>
  obtain ⟨h0,q,b,cs,n,cap,h1,f,j,c,r,s,t⟩:=h;exact ⟨by rw [a.1,h0],q,b,cs,n,cap,by rw [a.2,h1],by rw [k b (.of (by rw [h1];rfl))];exact f,j,c,r,s,fun i v x hv u=>(t i v x hv u).keep l hK hS hk⟩
 | amap kv=>
  obtain ⟨h0,b,es,h1,f,j,c⟩:=h;exact ⟨by rw [a.1,h0],b,es,by rw [a.2,h1],by rw [k b (.of (by rw [h1];rfl))];exact f,j,fun i e p d hp=>⟨(c i e p d hp).1,(c i e p d hp).2.1,(c i e p d hp).2.2.keep l hK hS hk⟩⟩
 | imap kv=>
  obtain ⟨h0,b,es,h1,f,j,c⟩:=h;exact ⟨by rw [a.1,h0],b,es,by rw [a.2,h1],by rw [k b (.of (by rw [h1];rfl))];exact f,j,fun i e p d hp=>⟨(c i e p d hp).1,(c i e p d hp).2.1,((c i e p d hp).2.2.keep hk).mono hS⟩⟩
 | mit m since seen stepped=>
  obtain ⟨h0,hm,b,bm,h1,f,j⟩:=h;refine ⟨by rw [a.1,h0],hK _ hm,b,bm,by rw [a.2,h1],by rw [k b (.of (by rw [h1];rfl))];exact f,fun hn=>?_⟩;have d:=l m hm;rw [d.2 (by omega)];exact j (by omega)
theorem XobR.lt {id:Nat} {o:XO} (h:XobR ψ K S w id o) {b:Nat} (a:Blk (ψ.val id) b):b<w.heap.size:=by
 have key:∀ {b:Nat} {x},w.heap[b]?=some x->b<w.heap.size:=fun {b x} h=>(qar.1 h).1;cases o with
 | blk g e sz cells=>
  obtain ⟨h0,d,b',cs,n,cap,h1,c,_⟩:=h;rw [h1] at a;have a:=a.sl;injection a with a;subst a;exact key c
 | amap kv=>
  obtain ⟨h0,b',es,h1,c,_⟩:=h;rw [h1] at a;have a:=a.mp;injection a with a;subst a;exact key c
 | imap kv=>
  obtain ⟨h0,b',es,h1,c,_⟩:=h;rw [h1] at a;have a:=a.mp;injection a with a;subst a;exact key c
 | mit m since seen stepped=>
  obtain ⟨h0,hm,b',bm,h1,c,_⟩:=h;rw [h1] at a;have a:=a.pt;injection a with a;subst a;exact key c
theorem ObR.keep {id:Nat} {o:AObj} (h:ObR ψ K S w id o) (r:Ext K ψ ψ') (hK:∀ id,K id->K' id) (hS:∀ b,S b->S' b) (hk:Same S w w')
  (a:ψ'.len id=ψ.len id/\ψ'.val id=ψ.val id) (f:∀ b,Blk (ψ.val id) b->w'.heap[b]?=w.heap[b]?):ObR ψ' K' S' w' id o:=by
 cases o with
 | box e cells=>
  obtain ⟨h0,b,cs,h1,c,d,m,q⟩:=h;exact ⟨by rw [a.1,h0],b,cs,by rw [a.2,h1],by rw [f b (.of (by rw [h1];rfl))];exact c,d,m,fun i v x hv n=>(q i v x hv n).keep r hK hS hk⟩
 | frow e size xs=>
  obtain ⟨h0,hs,cs,h1,c,d⟩:=h;refine ⟨by rw [a.1,h0],hs,cs,?_,c,fun i x j v y n hv hy=>((d i x j v y n hv hy).keep hk).mono hS⟩;rw [a.2];exact kdh h1 fun b l=>f b (.of (kdv l))
 | gho cs vs=>
  obtain ⟨h0,h1,hn,d⟩:=h;exact ⟨by rw [a.1,h0],by rw [a.2,h1],by rw [a.2,hn],fun i v x hv n=>(d i v x hv n).keep r hK hS hk⟩
 | was ψ0 ids0 S0 w0=>
  obtain ⟨h0,h1,hn,c,d,m,q⟩:=h;exact ⟨by rw [a.1,h0],by rw [a.2,h1],by rw [a.2,hn],c.trans' r d,fun i hi=>hK i (d i hi),fun b f=>hS b (m b f),q.trans' hk m⟩
 | xo k=>exact XobR.keep h r hK hS hk a f
 | sit s pos=>
  obtain ⟨h0,b,h1,c⟩:=h;exact ⟨by rw [a.1,h0],b,by rw [a.2,h1],by rw [f b (.of (by rw [h1];rfl))];exact c⟩
 | glb gs=>
  obtain ⟨h0,h1,hn,c⟩:=h;refine ⟨by rw [a.1,h0],by rw [a.2,h1],by rw [a.2,hn],fun p hp=>?_⟩;obtain ⟨q1,q2⟩:=c p hp;exact ⟨hS _ q1,q2.keep (hk p.1 q1 q2.lt)⟩
 | memo Φ hi=>
  obtain ⟨h0,b,es,clock,h1,c,d⟩:=h;exact ⟨by rw [a.1,h0],b,es,clock,by rw [a.2,h1],by rw [f b (.of (by rw [h1];rfl))];exact c,d.keep hS hk⟩
 | smap kv=>
  obtain ⟨h0,b,es,clock,h1,c,d,m⟩:=h;exact ⟨by rw [a.1,h0],b,es,clock,by rw [a.2,h1],by rw [f b (.of (by rw [h1];rfl))];exact c,d,fun i e p t hp=>⟨(m i e p t hp).1,((m i e p t hp).2.keep hk).mono hS⟩⟩
 | tab g ov eo ei rows=>
  obtain ⟨h0,vs,h1,c,d,m,q⟩:=h;have z:∀ u b,u∈ov::vs->kak u=some b->Blk (ψ.val id) b:=fun u b hu f=>by rw [h1];exact .inr ⟨u,by simpa [kcy] using hu,f⟩
  refine ⟨by rw [a.1,h0],vs,by rw [a.2,h1],c,kdh d fun b l=>f b (z ov b (qn ..) (kdv l)),fun j v xs hv n=>?_,q⟩;obtain ⟨k1,k2⟩:=m j v xs hv n;exact ⟨kdh k1 fun b l=>f b (z v b (qe _ (ql hv)) (kdv l)),k2⟩
theorem kvx {e size n:Nat} {v:Value} {cs:List Value} (h:w.ownsRow 0 e size v n cs) {b:Nat} (a:kak v=some b):b<w.heap.size:=by
 have key:∀ {b:Nat} {x},w.heap[b]?=some x->b<w.heap.size:=fun {b x} h=>by
  rcases qbe b w.heap.size with c | c;exact c
  ·simp [Array.getElem?_eq_none c] at h
 rcases h.2 with ⟨hv,_⟩ | ⟨g,cap,cur,hv,_,d,_⟩;rw [hv] at a;cases a
 ·rw [hv] at a;injection a with a;subst a;exact key d
theorem ObR.lt {id:Nat} {o:AObj} (h:ObR ψ K S w id o) {b:Nat} (a:Blk (ψ.val id) b):b<w.heap.size:=by
 have key:∀ {b:Nat} {x},w.heap[b]?=some x->b<w.heap.size:=fun {b x} h=>by
  rcases qbe b w.heap.size with d | d;exact d
  ·simp [Array.getElem?_eq_none d] at h
 cases o with
 | box e cells=>
  obtain ⟨h0,b',cs,h1,c,_⟩:=h;rw [h1] at a;have a:=a.pt;injection a with a;subst a;exact key c
 | frow e size xs=>
  obtain ⟨h0,hs,cs,⟨_,h1⟩,_⟩:=h;rcases h1 with ⟨hv,_⟩ | ⟨g,cap,cur,hv,_,f,_⟩;rw [hv] at a;have a:=a.sl;cases a
  ·rw [hv] at a;have a:=a.sl;injection a with a;subst a;exact key f
 | gho cs vs=>
  obtain ⟨h0,h1,c,_⟩:=h;rcases a with a | ⟨u,hu,_⟩;rw [h1] at a;cases a
  ·rw [c] at hu;cases hu
 | was ψ0 ids0 S0 w0=>
  obtain ⟨h0,h1,c,_⟩:=h;rcases a with a | ⟨u,hu,_⟩;rw [h1] at a;cases a
  ·rw [c] at hu;cases hu
 | xo k=>exact XobR.lt h a
 | sit s pos=>
  obtain ⟨h0,b',h1,c⟩:=h;rw [h1] at a;have a:=a.pt;injection a with a;subst a;exact key c
 | glb gs=>
  obtain ⟨h0,h1,c,_⟩:=h;rcases a with a | ⟨u,hu,_⟩;rw [h1] at a;cases a
  ·rw [c] at hu;cases hu
 | memo Φ hi=>
  obtain ⟨h0,b',es,clock,h1,c,_⟩:=h;rw [h1] at a;have a:=a.mp;injection a with a;subst a;exact key c
 | smap kv=>
  obtain ⟨h0,b',es,clock,h1,c,_⟩:=h;rw [h1] at a;have a:=a.mp;injection a with a;subst a;exact key c
 | tab g ov eo ei rows=>
  obtain ⟨h0,vs,h1,c,j,l,m⟩:=h;rw [h1] at a;rcases a with a | ⟨u,hu,a⟩;cases a
  ·simp only [kcy] at hu;rcases qan.1 hu with rfl | hu;exact kvx j a
   ·obtain ⟨i,hi,rfl⟩:=qap.1 hu;exact kvx (l i vs[i] (rows[i]'(by omega)) (qa hi) (qa (by omega))).1 a
structure Core (F S0:Nat->Prop) (N0:Nat) (heap:List (Nat×AObj)) (ids:List Nat) (ψ:Env) (S:Nat->Prop) (w:World):Prop where
 obj:∀ id o,kaa heap id=some o->id∈ids/\ObR ψ (·∈ids) S w id o/\∀ b,Blk (ψ.val id) b->¬ S b/\¬ F b/\(S0 b\/N0<=b)
 inj:∀ id id' o o' b,kaa heap id=some o->kaa heap id'=some o'->id≠id'->Blk (ψ.val id) b->¬ Blk (ψ.val id') b
 lt:∀ b,S b->b<w.heap.size
 s0:∀ b,S b->S0 b\/N0<=b
 n0:N0<=w.heap.size
 fr:∀ b,F b->b<w.heap.size
structure Sim (F S0:Nat->Prop) (N0:Nat) (st:St) (ψ:Env) (S:Nat->Prop) (a:Act) (w:World):Prop where
 defers:a.defers=st.dfr
 size:a.tmps.size=st.n
 tmps:∀ t,RV ψ (·∈st.ids) S w (a.tmps.getD t undef) (st.get t)
 core:Core F S0 N0 st.heap st.ids ψ S w
structure Fr (F:Nat->Prop) (w w':World):Prop where
 os:w'.os=w.os
 tape:w'.tape=w.tape
 output:w'.output=w.output
 size:w.heap.size<=w'.heap.size
 block:∀ b,F b->w'.heap[b]?=w.heap[b]?
 drawn:Dr.on=true->w.drawn<=w'.drawn
theorem Fr.refl:Fr F w w:=⟨rfl,rfl,rfl,qu _,fun _ _=>rfl,fun _=>qu _⟩
theorem Fr.trans {w'':World} (h:Fr F w w') (k:Fr F w' w''):Fr F w w'':=⟨k.os.trans h.os,k.tape.trans h.tape,k.output.trans h.output,qa7 h.size k.size,fun b a=>(k.block b a).trans (h.block b a),fun d=>qa7 (h.drawn d) (k.drawn d)⟩
theorem Fr.of_grow (a:∀ b,F b->b<w.heap.size) (h:Grow w w'):Fr F w w':=⟨h.os,h.tape,h.output,h.size,fun b c=>h.block b (a b c),h.drawn⟩
theorem Fr.drew:Fr F w w.drew:=⟨rfl,rfl,rfl,qu _,fun _ _=>rfl,fun _=>Nat.le_succ _⟩
theorem Sim.eval_tmps {ids:List Nat} {st:St} (h:∀ t,RV ψ (·∈ids) S w (a.tmps.getD t undef) (st.get t)) (x:Operand):RV ψ (·∈ids) S w (a.eval x) (st.eval x):=by
 cases x with
 | tmp t=>exact h t
 | const v=>
  cases v with
  | agg cs=>
   simp only [St.eval,k0i,Act.eval];cases c:cs.toList.all (·.oneCell') with
   | false=>exact .any
   | true=>
    refine .fz (.agg (by simp) ?_ ?_);intro x b;simp only [qx] at b;obtain ⟨v,hv,rfl⟩:=b;exact qk.1 c v hv
    ·intro i v x hv b;simp only [qg,qs,qal] at b;obtain ⟨u,hu,rfl⟩:=b;rw [hv] at hu;injection hu with hu;subst hu;exact .atom (qk.1 c v (by rw [Array.mem_toList_iff];exact Array.mem_of_getElem? hv))
  | tuple=>exact .any
  | _=>exact .fz (.atom rfl)
 | global g=>exact .any
 | func f=>exact .fn rfl (fun i v x hv _=>by simp at hv)
theorem Sim.eval (h:Sim F S0 N0 st ψ S a w) (x:Operand):RV ψ (·∈st.ids) S w (a.eval x) (st.eval x):=Sim.eval_tmps h.tmps x
def StepA (P:Program) (o:Oper) (st:St) (c:AV) (d:List (Nat×AObj)) (ids':List Nat):Prop:=
 ∀ F S0 N0 ψ S a w,Sim F S0 N0 st ψ S a w->kbx P o a w fun v w'=>∃ ψ' S',Core F S0 N0 d ids' ψ' S' w'/\RV ψ' (·∈ids') S' w' v c/\Fr F w w' /\
  Ext (·∈st.ids) ψ ψ'/\(∀ id,id∈st.ids->id∈ids')/\(∀ b,S b->S' b)/\Same S w w'
def NStep (P:Program) (o:Oper) (st:St) (c:AV):Prop:=
 ∀ ψ S a w,(∀ t,RV ψ (·∈st.ids) S w (a.tmps.getD t undef) (st.get t))->(∀ id o,kaa st.heap id=some o->ObR ψ (·∈st.ids) S w id o) ->
  kbx P o a w fun v w'=>Grow w w'/\RV ψ (·∈st.ids) (fun b=>S b\/w.heap.size<=b) w' v c
theorem Core.grow {heap:List (Nat×AObj)} {ids:List Nat} (h:Core F S0 N0 heap ids ψ S w) (d:Grow w w'):Core F S0 N0 heap ids ψ (fun b=>(S b\/w.heap.size<=b)/\b<w'.heap.size) w':=by
 have hk:Same S w w':=Same.of_grow d;have hS:∀ b,S b->(S b\/w.heap.size<=b)/\b<w'.heap.size:=fun b a=>⟨.inl a,qba (h.lt b a) d.size⟩;refine ⟨fun id o ho=>?_,h.inj,fun b a=>a.2,fun b a=>?_,qa7 h.n0 d.size,fun b a=>qba (h.fr b a) d.size⟩
 ·obtain ⟨h1,e,f⟩:=h.obj id o ho;refine ⟨h1,e.keep Ext.refl (fun _ h=>h) hS hk ⟨rfl,rfl⟩ fun b a=>d.block b (e.lt a),fun b a=>⟨fun hs=>?_,(f b a).2⟩⟩;rcases hs.1 with hs | hs;exact (f b a).1 hs
  ·have:=e.lt a;omega
 ·rcases a.1 with c | c;exact h.s0 b c
  ·exact .inr (qa7 h.n0 c)
theorem NStep.step {o:Oper} {c:AV} (h:NStep P o st c):StepA P o st c st.heap st.ids:=by intro F S0 N0 ψ S a w hs;refine kim ?_ (h ψ S a w hs.tmps fun id o ho=>(hs.core.obj id o ho).2.1);rintro v w' ⟨d,hv⟩;exact ⟨ψ,_,hs.core.grow d,hv.bound,Fr.of_grow hs.core.fr d,Ext.refl,fun _ h=>h,fun b e=>⟨.inl e,qba (hs.core.lt b e) d.size⟩,Same.of_grow d⟩
theorem Sim.put {st':St} {d:Option Nat} {v:Value} {c:AV} (h:Sim F S0 N0 st ψ S a w) (hn:st'.n=st.n) (ht:st'.tmps=st.tmps) (f:st'.dfr=st.dfr) (hc:Core F S0 N0 st'.heap st'.ids ψ' S' w') (hv:RV ψ' (·∈st'.ids) S' w' v c)
  (i:Ext (·∈st.ids) ψ ψ') (hK:∀ id,id∈st.ids->id∈st'.ids) (hS:∀ b,S b->S' b) (hk:Same S w w') (j:∀ t,d=some t->t<st.n):Sim F S0 N0 (st'.put d c) ψ' S' (a.put d v) w':=by
 have base:∀ t,RV ψ' (·∈st'.ids) S' w' (a.tmps.getD t undef) (st'.get t):=fun t=>by have:=h.tmps t;unfold St.get at this ⊢;rw [ht];exact this.keep i hK hS hk
 cases d with
 | none=>exact ⟨h.defers.trans f.symm,by rw [show (st'.put none c)=st' from rfl,hn];exact h.size,base,hc⟩
 | some d=>
  refine ⟨h.defers.trans f.symm,by simp [St.put,Act.put,hn,h.size],fun t=>?_,hc⟩;have g:=j d rfl;by_cases e:d=t;subst e;have:(a.put (some d) v).tmps.getD d undef=v:=(by simp [Act.put,h.size,g]);rw [this];simp only [St.put,St.get,kar,if_true];exact hv
  ·have:(a.put (some d) v).tmps.getD t undef=a.tmps.getD t undef:=(by simp only [Act.put];rw [qaj,Array.getElem?_setIfInBounds_ne e,<- qaj]);rw [this];simp only [St.put,St.get,kar,qq e];exact base t
def PostA (F S0:Nat->Prop) (N0:Nat) (w:World) (Q:Exit->St->Prop) (e:Exit) (a':Act) (w':World):Prop:=
 ∃ st' ψ' S',Q e st'/\Sim F S0 N0 st' ψ' S' a' w'/\Fr F w w'
def awp (P:Program) (c:Code) (st:St) (Q:Exit->St->Prop):Prop:=
 ∀ F S0 N0 ψ S a w,Sim F S0 N0 st ψ S a w->c.wp P (PostA F S0 N0 w Q) a w
def k9e (K:St->Prop) (Q:Exit->St->Prop):Exit->St->Prop
 | .normal,st=>K st
 | .outgrown,_=>False
 | e,st=>Q e st
def kw9 (id:Nat) (Q:Exit->St->Prop):Exit->St->Prop
 | .exit i,st=>if i=id then Q .normal st else Q (.exit i) st
 | e,st=>Q e st
theorem kru {c:Code} {Q Q':Exit->St->Prop} (h:awp P c st Q) (b:∀ e st,Q e st->Q' e st):awp P c st Q':=
 fun F S0 N0 ψ S a w hs=>wp_mono (h F S0 N0 ψ S a w hs) fun e a' w' ⟨st',ψ',S',h1,d⟩=>⟨st',ψ',S',b _ _ h1,d⟩
theorem k72 {Q:Exit->St->Prop} (h:Q .normal st):awp P .skip st Q:=fun F S0 N0 ψ S a w hs=>wp_skip ⟨st,ψ,S,h,hs,Fr.refl⟩
theorem k8a {id:Nat} {Q:Exit->St->Prop} (h:Q (.exit id) st):awp P (.exit id) st Q:=fun F S0 N0 ψ S a w hs=>wp_exit ⟨st,ψ,S,h,hs,Fr.refl⟩
theorem k92 {Q:Exit->St->Prop} (h:Q .ret st):awp P .ret st Q:=fun F S0 N0 ψ S a w hs=>wp_ret ⟨st,ψ,S,h,hs,Fr.refl⟩
theorem PostA.pre {Q:Exit->St->Prop} {e:Exit} {a':Act} {w' w'':World} (h:Fr F w w') (k:PostA F S0 N0 w' Q e a' w''):PostA F S0 N0 w Q e a' w'':=
 let ⟨st',ψ',S',h1,a,b⟩:=k;⟨st',ψ',S',h1,a,h.trans b⟩
theorem k99 {x y:Code} {Q:Exit->St->Prop} (h:awp P x st (k9e (fun st=>awp P y st Q) Q)):awp P (.seq x y) st Q:=fun F S0 N0 ψ S a w hs=>
 wp_seq (wp_mono (h F S0 N0 ψ S a w hs) fun e a' w' ⟨st',ψ',S',h1,b,c⟩=>by
  cases e with
  | normal=>exact wp_mono (h1 F S0 N0 ψ' S' a' w' b) fun e a'' w'' k=>k.pre c
  | outgrown=>exact h1.elim
  | _=>exact ⟨st',ψ',S',h1,b,c⟩)
theorem k0x {c:Operand} {x y:Code} {b:Bool} {Q:Exit->St->Prop} (hc:st.eval c = .fz (.atom (.bool b))) (h:awp P (bif b then x else y) st Q):awp P (.cond c x y) st Q:=fun F S0 N0 ψ S a w hs=>by have d:=hs.eval c;rw [hc] at d;refine wp_cond (t:=b) d.atom ?_;cases b <;> exact h F S0 N0 ψ S a w hs
theorem k6r {id:Nat} {c:Code} {Q:Exit->St->Prop} (h:awp P c st (kw9 id Q)):awp P (.block id c) st Q:=fun F S0 N0 ψ S a w hs=>
 wp_block (wp_mono (h F S0 N0 ψ S a w hs) fun e a' w' ⟨st',ψ',S',h1,b,d⟩=>by
  cases e with
  | exit i=>
   simp only [kw9] at h1;simp only [Exit.inBlock];by_cases hi:i=id;rw [qt hi] at h1 ⊢; exact ⟨st',ψ',S',h1,b,d⟩
   ·rw [qq hi] at h1 ⊢; exact ⟨st',ψ',S',h1,b,d⟩
  | _=>exact ⟨st',ψ',S',h1,b,d⟩)
def LeSt (st st':St):Prop:=∀ F S0 N0 ψ S a w,Sim F S0 N0 st ψ S a w->∃ ψ' S',Sim F S0 N0 st' ψ' S' a w
theorem kadf {c:Code} {st':St} {Q:Exit->St->Prop} (hl:LeSt st st') (h:awp P c st' Q):awp P c st Q:=fun F S0 N0 ψ S a w hs=>by obtain ⟨ψ',S',b⟩:=hl F S0 N0 ψ S a w hs;exact h F S0 N0 ψ' S' a w b
def kai {σ β:Type} (step:σ->Option (σ ⊕ β)):Nat->σ->Option β
 | 0,_=>none
 | n+1,s=>match step s with
  | none=>none
  | some (.inl s')=>kai step n s'
  | some (.inr b)=>some b
def fuel:Nat:=18446744073709551616
theorem k8g {σ β:Type} {step:σ->Option (σ ⊕ β)} {body:Code} {Q:Exit->St->Prop} (stOf:σ->St) {s0:σ} {b:β} {n:Nat} (hl:kai step n s0=some b)
  (h0:LeSt st (stOf s0)) (d:∀ s s',step s=some (.inl s')->awp P body (stOf s) fun e st=>e = .normal/\LeSt st (stOf s'))
  (c:∀ s,step s=some (.inr b)->awp P body (stOf s) fun e st=>e ≠ .normal/\e ≠ .outgrown/\Q e st):awp P (.loop body) st Q:=fun F S0 N0 ψ S a w hs=>by
 obtain ⟨ψ0,S1,f⟩:=h0 F S0 N0 ψ S a w hs;refine wp_loop_rounds n ?_;have key:∀ (n:Nat) (s:σ) (ψ:Env) (S:Nat->Prop) (a:Act) (w':World),kai step n s=some b->Sim F S0 N0 (stOf s) ψ S a w'->Fr F w w'->Code.rounds P body (PostA F S0 N0 w Q) n a w':=by
  intro n
  induction n with
  | zero=>intro s ψ S a w' hl;cases hl
  | succ n ih=>
   intro s ψ S a w' hl hs hf;rw [rounds_succ];simp only [kai] at hl;cases hst:step s with
   | none=>rw [hst] at hl;cases hl
   | some r=>
    rw [hst] at hl;cases r with
    | inl s'=>
     refine wp_mono (d s s' hst F S0 N0 ψ S a w' hs) ?_;rintro e a' w'' ⟨st',ψ',S',⟨rfl,g⟩,h,i⟩;obtain ⟨ψ2,S2,j⟩:=g F S0 N0 ψ' S' a' w'' h;exact ih s' ψ2 S2 a' w'' hl j (hf.trans i)
    | inr b'=>
     obtain rfl:=qy hl;refine wp_mono (c s hst F S0 N0 ψ S a w' hs) ?_;rintro e a' w'' ⟨st',ψ',S',⟨hn,ho,k⟩,h,i⟩;cases e with
     | normal=>exact absurd rfl hn
     | outgrown=>exact absurd rfl ho
     | _=>exact ⟨st',ψ',S',k,h,hf.trans i⟩
 exact key n s0 ψ0 S1 a w hl f Fr.refl
theorem k60 {σ:Type} (body:Code) (Q:Exit->St->Prop) (stOf:σ->St) (I:σ->Prop) (μ:σ->Nat) {s0:σ} (i:I s0) (h0:LeSt st (stOf s0)) (j:∀ s,I s->awp P body (stOf s) fun e st=>(e = .normal/\∃ s',(I s'/\μ s'<μ s)/\LeSt st (stOf s'))\/((e ≠ .normal/\e ≠ .outgrown)/\Q e st)):awp P (.loop body) st Q:=fun F S0 N0 ψ S a w hs=>by
 obtain ⟨ψ0,S1,b⟩:=h0 F S0 N0 ψ S a w hs;refine wp_loop_rounds (μ s0+1) ?_;have key:∀ (n:Nat) (s:σ) (ψ:Env) (S:Nat->Prop) (a:Act) (w':World),μ s<n->I s->Sim F S0 N0 (stOf s) ψ S a w'->Fr F w w'->Code.rounds P body (PostA F S0 N0 w Q) n a w':=by
  intro n
  induction n with
  | zero=>intro s ψ S a w' hl;omega
  | succ n ih=>
   intro s ψ S a w' hl hi hs hf;rw [rounds_succ];refine wp_mono (j s hi F S0 N0 ψ S a w' hs) ?_;rintro e a' w'' ⟨st',ψ',S',c,g,h⟩;rcases c with ⟨rfl,s',⟨d,hm⟩,f⟩ | ⟨⟨hn,ho⟩,c⟩;obtain ⟨ψ2,S2,k⟩:=f F S0 N0 ψ' S' a' w'' g;exact ih s' ψ2 S2 a' w'' (by omega) d k (hf.trans h)
   ·cases e with
    | normal=>exact absurd rfl hn
    | outgrown=>exact absurd rfl ho
    | _=>exact ⟨st',ψ',S',c,g,hf.trans h⟩
 exact key (μ s0+1) s0 ψ0 S1 a w (by omega) i b Fr.refl
def awpL (P:Program) (ops:Array Oper) (l:List Oper) (st:St) (Q:Exit->St->Prop):Prop:=
 ∀ F S0 N0 ψ S a w,Sim F S0 N0 st ψ S a w->wpList P ops (PostA F S0 N0 w Q) l a w
def ka0 (ops:Array Oper) (st:St) (o:Oper):Option Bool:=match o.guard with
 | none=>some true
 | some (j,want)=>match (ops[j]?).bind (·.dst) with
  | some t=>match st.get t with
   | .fz (.atom (.bool b))=>some (b == want)
   | .fz (.tup _)=>some false
   | _=>none
  | none=>none
theorem kuv {ops:Array Oper} {a:Act} {t j:Nat} {want:Bool} {xs:List FV} (hv:RF S w (a.tmps.getD t undef) (.tup xs)) (ht:(ops[j]?).bind (·.dst)=some t):(yielded ops a.tmps j == some want)=false:=by
 rw [qaj] at hv;simp only [yielded,ht,qh];cases b:a.tmps[t]? with
 | none=>rfl
 | some u=>
  rw [b] at hv;simp only [qa9] at hv;cases hv with
  | tup=>rfl
theorem kcj {ops:Array Oper} {o:Oper} {g:Bool} (hs:Sim F S0 N0 st ψ S a w) (h:ka0 ops st o=some g):Region.wanted o (yielded ops a.tmps)=g:=by
 unfold ka0 at h;unfold Region.wanted;split at h;rename_i d;rw [d];injection h
 ·rename_i j want d;rw [d];split at h
  ·rename_i t ht;have hv:=hs.tmps t;split at h
   ·rename_i b e;rw [e] at hv;injection h with h;subst h;have hu:a.tmps.getD t undef = .bool b:=hv.atom;rw [qaj] at hu;have c:a.tmps[t]?=some (.bool b):=by
     cases c:a.tmps[t]? with
     | none=>rw [c] at hu;cases hu
     | some u=>rw [c] at hu;simp only [qa9] at hu;rw [hu]
    simp only [yielded,ht,qh,c];cases b <;> cases want <;> rfl
   rename_i xs e;rw [e] at hv;injection h with h;subst h;exact kuv hv.inv ht
   ·cases h
  ·cases h
theorem ka6 {ops:Array Oper} {Q Q':Exit->Act->World->Prop} (b:∀ e a w,Q e a w->Q' e a w):∀ (l:List Oper) (a:Act) (w:World),wpList P ops Q l a w->wpList P ops Q' l a w
 | [],a,w,h=>b _ _ _ h
 | o::l,a,w,h=>by
  unfold wpList at h ⊢;split at h
  ·rename_i i;rw [qt i];rcases h with h | ⟨h1,a',w',j⟩
   ·refine .inl ?_;unfold Oper.wp at h ⊢;generalize (execOp a.eval o).run P w=r at h ⊢;cases r with
    | ok n w'=>
     cases n <;> simp only [Oper.upon] at h ⊢
     case value v=>exact ka6 b l _ _ h
     case skip=>exact ka6 b l _ _ h
     case defer d=>exact ka6 b l _ _ h
     case enter f args=>
      refine h.mono fun e w'' g=>?_;cases e with
      | returned v=>exact ka6 b l _ _ g
      | panicked c=>exact b _ _ _ g
      | outgrown=>exact let ⟨a',w',j⟩:=g;⟨a',w',b _ _ _ j⟩
     case row r args=>exact h.mono fun v w'' g=>ka6 b l _ _ g
    | halt x w'=>
     cases x <;> simp only [Oper.upon] at h ⊢;exact b _ _ _ h
   ·exact .inr ⟨h1,a',w',b _ _ _ j⟩
  ·rename_i i;rw [qq i];exact ka6 b l _ _ h
theorem l_nil {ops:Array Oper} {Q:Exit->St->Prop} (h:Q .normal st):awpL P ops [] st Q:=fun F S0 N0 ψ S a w hs=>⟨st,ψ,S,h,hs,Fr.refl⟩
theorem kwv {ops:Array Oper} {o:Oper} {l:List Oper} {c:AV} {b:List (Nat×AObj)} {ids':List Nat} {Q:Exit->St->Prop} (h:StepA P o st c b ids') (d:ka0 ops st o=some true) (f:∀ t,o.dst=some t->t<st.n)
  (hn:awpL P ops l (({ st with heap:=b,ids:=ids' }:St).put o.dst c) Q):awpL P ops (o::l) st Q:=fun F S0 N0 ψ S a w hs=>by
 unfold wpList;rw [kcj hs d];refine .inl (kbq ?_ (h F S0 N0 ψ S a w hs));rintro v w' ⟨ψ',S',h1,g,i,j,m,p,q⟩;exact ka6 (fun e a' w'' k=>k.pre i) _ _ _ (hn F S0 N0 ψ' S' _ w' (hs.put (st':={ st with heap:=b,ids:=ids' }) rfl rfl rfl h1 g j m p q f))
def kgd (P:Program) (o:Oper) (st:St) (R:AV->List (Nat×AObj)->List Nat->Prop):Prop:=
 ∀ F S0 N0 ψ S a w,Sim F S0 N0 st ψ S a w->kbx P o a w fun v w'=>∃ c d ids',R c d ids'/\∃ ψ' S',Core F S0 N0 d ids' ψ' S' w'/\RV ψ' (·∈ids') S' w' v c/\Fr F w w' /\
  Ext (·∈st.ids) ψ ψ'/\(∀ id,id∈st.ids->id∈ids')/\(∀ b,S b->S' b)/\Same S w w'
theorem kabq {ops:Array Oper} {o:Oper} {l:List Oper} {R:AV->List (Nat×AObj)->List Nat->Prop} {Q:Exit->St->Prop} (h:kgd P o st R) (d:ka0 ops st o=some true) (f:∀ t,o.dst=some t->t<st.n)
  (hn:∀ c b ids',R c b ids'->awpL P ops l (({ st with heap:=b,ids:=ids' }:St).put o.dst c) Q):awpL P ops (o::l) st Q:=fun F S0 N0 ψ S a w hs=>by
 unfold wpList;rw [kcj hs d];refine .inl (kbq ?_ (h F S0 N0 ψ S a w hs));rintro v w' ⟨c,b,ids',g,ψ',S',h1,i,j,m,p,q,r⟩;exact ka6 (fun e a' w'' k=>k.pre j) _ _ _ (hn c b ids' g F S0 N0 ψ' S' _ w' (hs.put (st':={ st with heap:=b,ids:=ids' }) rfl rfl rfl h1 i m p q r f))
theorem kac3 {ops:Array Oper} {o:Oper} {l:List Oper} {Q:Exit->St->Prop} (b:ka0 ops st o=some false) (c:∀ t,o.dst=some t->t<st.n) (hn:awpL P ops l (st.put o.dst (.fz (.tup []))) Q):awpL P ops (o::l) st Q:=fun F S0 N0 ψ S a w hs=>by unfold wpList;rw [kcj hs b];exact hn F S0 N0 ψ S _ w (hs.put (st':=st) rfl rfl rfl hs.core (.fz RF.undef) Ext.refl (fun _ h=>h) (fun _ h=>h) (fun _ _ _=>rfl) c)
theorem l_le {ops:Array Oper} {l:List Oper} {st':St} {Q:Exit->St->Prop} (hl:LeSt st st') (h:awpL P ops l st' Q):awpL P ops l st Q:=fun F S0 N0 ψ S a w hs=>by obtain ⟨ψ',S',b⟩:=hl F S0 N0 ψ S a w hs;exact h F S0 N0 ψ' S' a w b
theorem k4x {id:Nat} {ops:Array Oper} {Q:Exit->St->Prop} (h:awpL P ops ops.toList st Q):awp P (.region id ops false) st Q:=fun F S0 N0 ψ S a w hs=>wp_region_list (h F S0 N0 ψ S a w hs)
end Go.Proofs.YtnlhjbnpjefjgabGreatDoor
