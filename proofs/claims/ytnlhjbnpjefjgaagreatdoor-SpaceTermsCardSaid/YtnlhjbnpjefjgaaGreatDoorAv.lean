import Derived.Shelf.LaysM
import Derived.Shelf.Sort.Plain
import Derived.Shelf.Strconv.AppendIntPublic10
import Derived.Ground.Names2Prog
import Derived.Shelf.Slices.CompactI
import Derived.Shelf.Slices.In.SortNone
import Derived.Ground.SlgnProg
import Derived.Test.YtnlhjbnpjefjgaaGreatDoorProg
import Derived.WalkKit
import Derived.WalkSpells
import Derived.WalkLawsBesides
import Derived.Lib.Hide
import Derived.KernelRfl
import Derived.Maps.AppendAt
import Derived.Deep.AppendLies
namespace Go.Proofs.YtnlhjbnpjefjgaaGreatDoor
abbrev BA:=ByteArray
theorem qa.{u0}:type_of% @List.getElem?_eq_getElem.{u0}:=@List.getElem?_eq_getElem.{u0}
theorem qb.{u0,u1}:type_of% @Option.bind_some.{u0,u1}:=@Option.bind_some.{u0,u1}
theorem qc.{u0}:type_of% @Option.some.injEq.{u0}:=@Option.some.injEq.{u0}
theorem qd.{u0}:type_of% @List.getElem?_eq_some_iff.{u0}:=@List.getElem?_eq_some_iff.{u0}
theorem qe.{u0}:type_of% @cond_true.{u0}:=@cond_true.{u0}
theorem qf.{u0}:type_of% @cond_false.{u0}:=@cond_false.{u0}
theorem qg.{u0,u1}:type_of% @Option.bind_eq_some_iff.{u0,u1}:=@Option.bind_eq_some_iff.{u0,u1}
theorem qh.{u0}:type_of% @List.mem_cons_of_mem.{u0}:=@List.mem_cons_of_mem.{u0}
theorem qi:type_of% @Nat.eq_of_beq_eq_true:=@Nat.eq_of_beq_eq_true
theorem qj.{u0}:type_of% @if_neg.{u0}:=@if_neg.{u0}
theorem qk.{u0}:type_of% @List.mem_of_getElem?.{u0}:=@List.mem_of_getElem?.{u0}
theorem ql.{u0,u1}:type_of% @List.getElem?_map.{u0,u1}:=@List.getElem?_map.{u0,u1}
theorem qn.{u0}:type_of% @if_pos.{u0}:=@if_pos.{u0}
theorem qo.{u0}:type_of% @List.getElem_mem.{u0}:=@List.getElem_mem.{u0}
theorem qp:type_of% @decide_eq_false:=@decide_eq_false
theorem qq.{u0}:type_of% @List.mem_cons_self.{u0}:=@List.mem_cons_self.{u0}
theorem qr:type_of% @Nat.le_of_ble_eq_true:=@Nat.le_of_ble_eq_true
theorem qs:type_of% @decide_eq_true:=@decide_eq_true
theorem qt.{u0,u1}:type_of% @Prod.mk.injEq.{u0,u1}:=@Prod.mk.injEq.{u0,u1}
theorem qu.{u0}:type_of% @List.all_eq_true.{u0}:=@List.all_eq_true.{u0}
theorem qv:type_of% @Bool.and_eq_true:=@Bool.and_eq_true
theorem qw.{u0,u1}:type_of% @Option.map_eq_some_iff.{u0,u1}:=@Option.map_eq_some_iff.{u0,u1}
theorem qx.{u0}:type_of% @List.take_succ_eq_append_getElem.{u0}:=@List.take_succ_eq_append_getElem.{u0}
theorem qy:type_of% @Nat.le_refl:=@Nat.le_refl
theorem q9.{u0}:type_of% @List.mem_singleton.{u0}:=@List.mem_singleton.{u0}
theorem qaa.{u0,u1}:type_of% @List.length_map.{u0,u1}:=@List.length_map.{u0,u1}
theorem qab.{u0}:type_of% @List.mem_append.{u0}:=@List.mem_append.{u0}
theorem qac.{u0}:type_of% @List.getElem?_append_left.{u0}:=@List.getElem?_append_left.{u0}
theorem qad.{u0}:type_of% @List.getElem?_take.{u0}:=@List.getElem?_take.{u0}
theorem qae.{u0}:type_of% @List.take_length.{u0}:=@List.take_length.{u0}
theorem qaf.{u0,u1}:type_of% @List.mem_map.{u0,u1}:=@List.mem_map.{u0,u1}
theorem qag.{u0}:type_of% @Option.some.inj.{u0}:=@Option.some.inj.{u0}
theorem qah.{u0}:type_of% @List.mem_iff_getElem.{u0}:=@List.mem_iff_getElem.{u0}
theorem qai.{u0}:type_of% @List.getElem?_append_right.{u0}:=@List.getElem?_append_right.{u0}
theorem qaj.{u0}:type_of% @List.length_append.{u0}:=@List.length_append.{u0}
theorem qak.{u0}:type_of% @List.length_singleton.{u0}:=@List.length_singleton.{u0}
theorem qal.{u0}:type_of% @List.mem_iff_getElem?.{u0}:=@List.mem_iff_getElem?.{u0}
theorem qam.{u0}:type_of% @Option.getD_some.{u0}:=@Option.getD_some.{u0}
theorem qan.{u0}:type_of% @List.getElem?_drop.{u0}:=@List.getElem?_drop.{u0}
theorem qao.{u0,u1}:type_of% @List.map_cons.{u0,u1}:=@List.map_cons.{u0,u1}
theorem qap:type_of% @Nat.le_trans:=@Nat.le_trans
theorem qaq.{u0,u1,u2}:type_of% @Sum.elim_inl.{u0,u1,u2}:=@Sum.elim_inl.{u0,u1,u2}
theorem qar:type_of% @Nat.zero_le:=@Nat.zero_le
theorem qas.{u0,u1}:type_of% @List.map_append.{u0,u1}:=@List.map_append.{u0,u1}
theorem qat.{u0}:type_of% @List.mem_cons.{u0}:=@List.mem_cons.{u0}
theorem qau.{u0,u1}:type_of% @congrArg.{u0,u1}:=@congrArg.{u0,u1}
theorem qav.{u0}:type_of% @List.length_take.{u0}:=@List.length_take.{u0}
theorem qaw.{u0,u1}:type_of% @Option.map_some.{u0,u1}:=@Option.map_some.{u0,u1}
theorem qax.{u0}:type_of% @List.getElem?_cons_succ.{u0}:=@List.getElem?_cons_succ.{u0}
theorem qay:type_of% @decide_eq_true_eq:=@decide_eq_true_eq
theorem qaz.{u0}:type_of% @Array.getElem?_toList.{u0}:=@Array.getElem?_toList.{u0}
theorem qa0:type_of% @Bool.false_ne_true:=@Bool.false_ne_true
theorem qa1.{u0}:type_of% @List.append_assoc.{u0}:=@List.append_assoc.{u0}
theorem qa2.{u0}:type_of% @Array.getElem?_eq_some_iff.{u0}:=@Array.getElem?_eq_some_iff.{u0}
theorem qa3.{u0}:type_of% @Array.getD_eq_getD_getElem?.{u0}:=@Array.getD_eq_getD_getElem?.{u0}
theorem qa4.{u0}:type_of% @List.getElem?_eq_none.{u0}:=@List.getElem?_eq_none.{u0}
theorem qa5.{u0,u1}:type_of% @List.mem_flatMap.{u0,u1}:=@List.mem_flatMap.{u0,u1}
theorem qa6.{u0}:type_of% @List.eq_nil_of_length_eq_zero.{u0}:=@List.eq_nil_of_length_eq_zero.{u0}
theorem qa7.{u0}:type_of% @Array.length_toList.{u0}:=@Array.length_toList.{u0}
theorem qa8.{u0}:type_of% @List.mem_of_mem_take.{u0}:=@List.mem_of_mem_take.{u0}
theorem qa9.{u0,u1,u2}:type_of% @Sum.elim_inr.{u0,u1,u2}:=@Sum.elim_inr.{u0,u1,u2}
theorem qba.{u0}:type_of% @List.length_drop.{u0}:=@List.length_drop.{u0}
theorem qbb.{u0}:type_of% @List.drop_eq_getElem_cons.{u0}:=@List.drop_eq_getElem_cons.{u0}
theorem qbc.{u0}:type_of% @List.mem_filter.{u0}:=@List.mem_filter.{u0}
theorem qbd:type_of% @Bool.not_true:=@Bool.not_true
theorem qbe:type_of% @Nat.mul_le_mul_right:=@Nat.mul_le_mul_right
theorem qbf:type_of% @decide_eq_false_iff_not:=@decide_eq_false_iff_not
theorem qbg.{u0}:type_of% @Array.getElem?_eq_getElem.{u0}:=@Array.getElem?_eq_getElem.{u0}
theorem qbh.{u0}:type_of% @List.append_nil.{u0}:=@List.append_nil.{u0}
theorem qbi:type_of% @Nat.add_mul:=@Nat.add_mul
theorem qbj.{u0}:type_of% @List.getElem?_set_self.{u0}:=@List.getElem?_set_self.{u0}
theorem qbk.{u0}:type_of% @List.mem_of_mem_drop.{u0}:=@List.mem_of_mem_drop.{u0}
theorem qbl:type_of% @Nat.lt_or_ge:=@Nat.lt_or_ge
theorem qbm.{u0}:type_of% @List.getElem?_set_ne.{u0}:=@List.getElem?_set_ne.{u0}
theorem qbn.{u0}:type_of% @Array.getElem?_append_left.{u0}:=@Array.getElem?_append_left.{u0}
theorem qbo:type_of% @Nat.lt_of_lt_of_le:=@Nat.lt_of_lt_of_le
theorem qbp.{u0}:type_of% @List.cons_append.{u0}:=@List.cons_append.{u0}
theorem qbq.{u0}:type_of% @List.length_cons.{u0}:=@List.length_cons.{u0}
theorem qbr.{u0}:type_of% @Array.ext'.{u0}:=@Array.ext'.{u0}
theorem qbs.{u0}:type_of% @List.length_set.{u0}:=@List.length_set.{u0}
theorem qbt:type_of% @Nat.mul_one:=@Nat.mul_one
theorem qbu.{u0}:type_of% @beq_eq_false_iff_ne.{u0}:=@beq_eq_false_iff_ne.{u0}
theorem qbv.{u0,u1}:type_of% @List.flatMap_cons.{u0,u1}:=@List.flatMap_cons.{u0,u1}
theorem qbw:type_of% @Int.toNat_natCast:=@Int.toNat_natCast
theorem qbx:type_of% @Bool.or_eq_true:=@Bool.or_eq_true
theorem qby.{u0,u1}:type_of% @List.mem_map_of_mem.{u0,u1}:=@List.mem_map_of_mem.{u0,u1}
theorem qbz.{u0}:type_of% @List.mem_replicate.{u0}:=@List.mem_replicate.{u0}
theorem qb0:type_of% @of_decide_eq_true:=@of_decide_eq_true
theorem qb1.{u0}:type_of% @List.ext_getElem?.{u0}:=@List.ext_getElem?.{u0}
theorem qb2:type_of% @Bool.not_eq_true':=@Bool.not_eq_true'
theorem qb3.{u0}:type_of% @List.mem_append_right.{u0}:=@List.mem_append_right.{u0}
theorem qb4.{u0}:type_of% @Array.getElem?_modify.{u0}:=@Array.getElem?_modify.{u0}
set_option linter.all false
open Go Go.Proofs Go.Proofs.Tryz
open Go.Shelf Go.Proofs.Tryz
def kti:Go.Shelf.Ren:=⟨fun | 176=>158 | 249=>180 | 288=>186 | 283=>188 | 284=>189 | 285=>190 | 286=>191 | 129=>119 | 317=>194 | 318=>195 | 319=>196 | 320=>197 | 337=>199 | 338=>200 | n=>n,fun | 37=>193 | 2=>2 | 3=>3 | 53=>157 | 4=>4 | 9=>9 | 171=>228 | 0=>0 | 173=>230 | 212=>238 | 51=>155 | 5=>5 | 20=>20 | 213=>239 | 46=>113 | 232=>241 | 233=>242 | n=>n,fun | 17=>0 | 18=>1 | 19=>2 | n=>n⟩
theorem ky7:Go.Proofs.LaysM.n176 prog kti:={
 mixed:=by kernel_rfl
 f129:=func119.trans (qau some (by kernel_rfl))
 f176:=func158.trans (qau some (by kernel_rfl))
 f249:=func180.trans (qau some (by kernel_rfl))
 f283:=func188.trans (qau some (by kernel_rfl))
 f284:=func189.trans (qau some (by kernel_rfl))
 f285:=func190.trans (qau some (by kernel_rfl))
 f286:=func191.trans (qau some (by kernel_rfl))
 f288:=func186.trans (qau some (by kernel_rfl))
 f317:=func194.trans (qau some (by kernel_rfl))
 f318:=func195.trans (qau some (by kernel_rfl))
 f319:=func196.trans (qau some (by kernel_rfl))
 f320:=func197.trans (qau some (by kernel_rfl))
 f337:=func199.trans (qau some (by kernel_rfl))
 f338:=func200.trans (qau some (by kernel_rfl))
 t0:=underlying0
 a0:=isAgg0
 z0:=sizeOf0
 v0:=zeroValue0
 t2:=underlying2
 a2:=isAgg2
 z2:=sizeOf2
 v2:=zeroValue2
 t3:=underlying3
 a3:=isAgg3
 z3:=sizeOf3
 v3:=zeroValue3
 t4:=underlying4
 a4:=isAgg4
 z4:=sizeOf4
 v4:=zeroValue4
 t5:=underlying5
 a5:=isAgg5
 z5:=sizeOf5
 v5:=zeroValue5
 t9:=underlying9
 a9:=isAgg9
 z9:=sizeOf9
 v9:=zeroValue9
 t20:=underlying20
 a20:=isAgg20
 z20:=sizeOf20
 v20:=zeroValue20
 t37:=underlying193
 a37:=isAgg193
 z37:=sizeOf193
 v37:=zeroValue193
 t46:=underlying113
 a46:=isAgg113
 z46:=sizeOf113
 v46:=zeroValue113
 t51:=underlying155
 a51:=isAgg155
 z51:=sizeOf155
 v51:=zeroValue155
 t53:=underlying157
 a53:=isAgg157
 z53:=sizeOf157
 v53:=zeroValue157
 t171:=underlying228
 a171:=isAgg228
 z171:=sizeOf228
 v171:=zeroValue228
 t173:=underlying230
 a173:=isAgg230
 z173:=sizeOf230
 v173:=zeroValue230
 t212:=underlying238
 a212:=isAgg238
 z212:=sizeOf238
 v212:=zeroValue238
 t213:=underlying239
 a213:=isAgg239
 z213:=sizeOf239
 t232:=underlying241
 a232:=isAgg241
 z232:=sizeOf241
 v232:=zeroValue241
 t233:=underlying242
 a233:=isAgg242
 z233:=sizeOf242
 v233:=zeroValue242
 g17:=by kernel_rfl
 g18:=by kernel_rfl
 g19:=by kernel_rfl
 i0:=by kernel_rfl
 i2:=by kernel_rfl
 i3:=by kernel_rfl
 i4:=by kernel_rfl
 i5:=by kernel_rfl
 i9:=by kernel_rfl
 i20:=by kernel_rfl
 i37:=by kernel_rfl
 i46:=by kernel_rfl
 i51:=by kernel_rfl
 i53:=by kernel_rfl
 i171:=by kernel_rfl
 i173:=by kernel_rfl
 i212:=by kernel_rfl
 i232:=by kernel_rfl
 i233:=by kernel_rfl
 m17:=by kernel_rfl
 m18:=by kernel_rfl
 m19:=by kernel_rfl }
open Go.RowKit Go.Sort Go.Lib in
theorem kjh (B n: Nat) (i: Int) (h0: -9223372036854775808 <= i) (h1: i <= 9223372036854775807) (sv: Value) (xs: List Value) (w: World) (a: w.ownsRow B 5 1 sv n xs) (d: B <= w.heap.size) (c: Lib.TabBelow prog B w "internal/strconv.uint64pow10" .u64 Lib.pow10Tab) (b: n + 21 <= 140737488355328:=by omega):
  Calls prog 158 #[sv, .int .i64 i, .int .i64 10] w fun e w'=>∃ v',e = .returned v'/\w'.ownsRow B 5 1 v' (n+(Lib.itoa i).length) (xs++Lib.byteCells (Lib.itoa i))/\Below B w w'/\Lib.OthersKept 5 none w w':=Any.strconv_AppendInt_10 ky7 B n i h0 h1 sv xs w a d b c
set_option linter.unusedSectionVars false
open Go Go.RowKit Go.Proofs.Tryz
class Dr where
 on:Bool
instance (priority:=low) dr0:Dr:=⟨false⟩
theorem k3s {α:Type} (q:Ask α):∀ w:World,w.drawn<=(w.ask q).2.drawn:=by
 induction q with
 | done a=>intro w;exact qy _
 | ask what range k ih=>
  intro w;rw [World.ask];split;exact ih 0 w
  ·have q:=ih ((Question.extern what range).cut (w.tape w.drawn (Question.extern what range))) { w with drawn:=w.drawn+1 };exact qap (Nat.le_succ w.drawn) q
theorem k2g {P:Program} {w w':World} {a:Addr} {v:Value} {b:Bool} {l:List Addr} (h:w.farStore P a v b = .ok (w',l)):w'.drawn=w.drawn:=by
 unfold World.farStore at h;split at h
 ·split at h
  ·rename_i hr;injection h with h;subst h;unfold World.viewStore at hr;simp only [bind,Except.bind,pure,Except.pure] at hr
   repeat' split at hr
   all_goals first | (cases hr;done) | (injection hr with hr;injection hr with hr _;subst hr;rfl) | skip
  ·cases h
 ·cases h
theorem k1q {α:Type} {P:Program} (s:Sem α):∀ (w w':World) (v:α),s.run P w = .ok v w'->w.drawn<=w'.drawn:=by
 induction s with
 | pure a=>intro w w' v h;rw [Sem.run] at h;cases h;exact qy _
 | load m a k ih=>
  intro w w' v h;rw [Sem.run] at h;split at h
  ·(have q:=ih _ _ _ _ h;exact q)
  ·split at h
   ·(have q:=ih _ _ _ _ h;exact q)
   ·cases h
 | store m a x k ih=>
  intro w w' v h;by_cases h1:∃ c,x = .agg c;obtain ⟨c,rfl⟩:=h1;rw [Sem.run] at h;cases h;by_cases d:∃ c,x = .tuple c;obtain ⟨c,rfl⟩:=d;rw [Sem.run] at h;cases h;rw [Sem.run] at h
  ·split at h
   ·split at h;cases h
    ·(have q:=ih _ _ _ h;exact q)
   ·split at h;rename_i hf;(have q:=ih _ _ _ h;rw [k2g hf] at q;exact q)
    ·cases h
  exact fun c e=>h1 ⟨c,e⟩
  ·exact fun c e=>d ⟨c,e⟩
 | new o k ih=>intro w w' v h;rw [Sem.run] at h;(have q:=ih _ _ _ _ h;exact q)
 | shape r k ih=>intro w w' v h;rw [Sem.run] at h;(have q:=ih _ _ _ _ h;exact q)
 | freeze a n k ih=>intro w w' v h;rw [Sem.run] at h;have:=ih _ _ _ h;unfold World.freeze at this;split at this <;> exact this
 | frozen a k ih=>intro w w' v h;rw [Sem.run] at h;(have q:=ih _ _ _ _ h;exact q)
 | getObj r k ih=>
  intro w w' v h;rw [Sem.run] at h;split at h;cases h
  ·(have q:=ih _ _ _ _ h;exact q)
  ·cases h
 | setObj r o k ih=>
  intro w w' v h;rw [Sem.run] at h;split at h;cases h
  ·(have q:=ih _ _ _ h;exact q)
  ·cases h
 | choose q k ih=>
  intro w w' v h;rw [Sem.run] at h;split at h
  ·(have q:=ih _ _ _ _ h;exact q)
  ·have q:=ih _ _ _ _ h;exact qap (Nat.le_succ w.drawn) q
 | sys c k ih=>
  intro w w' v h;rw [Sem.run] at h;have q:=ih _ _ _ _ h;refine qap ?_ q;unfold World.sys;have:=k3s (Kernel.perform c w.os) w;split;exact qy _
  ·rename_i b;rw [b] at this;exact this
 | program k ih=>intro w w' v h;rw [Sem.run] at h;(have q:=ih _ _ _ _ h;exact q)
 | mark m k ih=>intro w w' v h;rw [Sem.run] at h;(have q:=ih _ _ _ h;exact q)
 | halt y=>intro w w' v h;rw [Sem.run] at h;cases h
theorem ku8 {α:Type} {P:Program} {s:Sem α} {w w':World} {v:α} (h:s.run P w = .ok v w'):w.drawn<=w'.drawn:=k1q s w w' v h
variable [Dr]
structure Below (B:Nat) (w w':World):Prop extends RowKit.Below B w w' where
 drawn:Dr.on=true->w.drawn<=w'.drawn
omit [Dr] in
theorem no0 {p:Prop} (d:@Dr.on dr0=true):p:=by have d:false=true:=d;cases d
theorem Below.kit {B:Nat} {w w':World} (a:Dr.on=false) (h:RowKit.Below B w w'):Below B w w':=⟨h,fun d=>by rw [a] at d;cases d⟩
theorem Below.refl (B:Nat) (w:World):Below B w w:=⟨.refl _ _,fun _=>qy _⟩
theorem Below.trans {B:Nat} {a b c:World} (h:Below B a b) (k:Below B b c):Below B a c:=⟨h.toBelow.trans k.toBelow,fun d=>qap (h.drawn d) (k.drawn d)⟩
theorem Below.mono {B B':Nat} {w w':World} (h:Below B w w') (a:B'<=B):Below B' w w':=⟨h.toBelow.mono a,h.drawn⟩
theorem Below.drew {B:Nat} {a w:World} (h:Below B a w):Below B a w.drew:=⟨h.toBelow.drew,fun d=>Nat.le_succ_of_le (h.drawn d)⟩
theorem Below.alloc {B:Nat} {a w:World} (h:Below B a w) (b:B<=w.heap.size) (o:Obj):Below B a (w.alloc o):=⟨h.toBelow.alloc b o,h.drawn⟩
inductive Gd where
 | det (c:Value)
 | rel (G:Value->World->Prop) (h:∀ v w w',G v w->Below w.heap.size w w'->G v w')
def Gd.holds:Gd->Value->World->Prop
 | .det c,v,_=>v=c
 | .rel G _,v,w=>G v w
def RetBy (R:Value->World->Prop) (e:Ending) (w:World):Prop:=∃ u,e = .returned u/\R u w
def kmn (P:Program) (R:Value->World->Prop):Result Next->Prop
 | .ok (.value u) w'=>R u w'
 | .ok .skip w'=>R undef w'
 | .ok (.enter f args) w'=>Calls P f args w' (RetBy R)
 | _=>False
def kcm (P:Program) (o:Oper) (a:Act) (w:World) (R:Value->World->Prop):Prop:=kmn P R ((execOp a.eval o).run P w)
def kgc (o:Oper) (j:Nat):Bool:=o.after.toList.any fun e=>e.on == j && Region.binds .any e
def kt7 (l:List Oper):Array Nat:=
 l.foldl (fun acc o=>acc.push (o.after.toList.foldl (fun s e=>if Region.binds .any e then s ||| 2 ^ e.on ||| acc.getD e.on 0 else s) 0)) #[]
def relB (l:List Oper) (n s:Nat):Bool:=
 let m:=kt7 l
 Region.noSelect l.toArray && decide (n<=l.length) &&
 (l.zipIdx.all fun (o,k)=>o.after.toList.all fun e=>!Region.binds .any e || decide (e.on<k)) &&
 ((l.take n).all fun o=>match o.dst with | some d=>decide (d<s) | none=>true) &&
 ((l.take n).zipIdx.all fun (o,i)=>(l.take n).zipIdx.all fun (p,j)=>i == j || o.dst.isNone || o.dst != p.dst) &&
 ((l.take n).zipIdx.all fun (o,i)=>(o.looksAt l.toArray).all fun t=>(l.take n).zipIdx.all fun (p,j)=>i == j || p.dst != some t || kgc o j || kgc p i) &&
 (l.zipIdx.all fun (_,k)=>decide (k<n) || (List.range k).all fun j=>(m.getD k 0).testBit j)
variable {P:Program}
theorem ki4 {o:Oper} {a:Act} {w:World} {R R':Value->World->Prop} (h:∀ v w',R v w'->R' v w') (b:kcm P o a w R):kcm P o a w R':=by
 unfold kcm at *
 generalize (execOp a.eval o).run P w=r at *
 cases r with
 | ok n w'=>
  cases n <;> simp only [kmn] at b ⊢
  case enter f args=>exact b.mono fun e w'' ⟨u,c,d⟩=>⟨u,c,h _ _ d⟩
  all_goals exact h _ _ b
 | halt x w'=>simp only [kmn] at b
theorem kcg {o:Oper} {a:Act} {w:World} {R:Value->World->Prop} {K:Act->World->Prop} {Q:Exit->Act->World->Prop}
  (h:∀ v w',R v w'->K (a.put o.dst v) w') (b:kcm P o a w R):o.wp P a w K Q:=by
 unfold kcm at b;unfold Oper.wp;generalize (execOp a.eval o).run P w=r at *
 cases r with
 | ok n w'=>
  cases n <;> simp only [kmn] at b <;> simp only [Oper.upon]
  case enter f args=>exact b.mono fun e w'' ⟨u,c,d⟩=>by subst c;exact h _ _ d
  all_goals exact h _ _ b
 | halt x w'=>simp only [kmn] at b
def Good (l:List Oper) (acc:Array Nat):Prop:=
 acc.size=l.length/\∀ k o,l[k]?=some o->∀ j,(acc.getD k 0).testBit j=true ->
  ∃ e∈o.after,Region.binds .any e=true/\(e.on=j\/(e.on<k/\(acc.getD e.on 0).testBit j=true))
theorem kvo (acc:Array Nat) (j:Nat):∀ (es:List Edge) (s:Nat),
  (es.foldl (fun s e=>if Region.binds .any e then s ||| 2 ^ e.on ||| acc.getD e.on 0 else s) s).testBit j=true ->
  s.testBit j=true\/∃ e∈es,Region.binds .any e=true/\(e.on=j\/(acc.getD e.on 0).testBit j=true)
 | [],s,h => .inl h
 | e::es,s,h=>by
  simp only [List.foldl_cons] at h;rcases kvo acc j es _ h with h | ⟨e',b,a,h⟩
  ·by_cases a:Region.binds .any e=true
   ·rw [qn a,Nat.testBit_or,Nat.testBit_or,qbx,qbx] at h;rcases h with (h | h) | h;exact .inl h;rw [Nat.testBit_two_pow] at h;exact .inr ⟨e,by simp,a, .inl (by simpa using h)⟩
    ·exact .inr ⟨e,by simp,a, .inr h⟩
   ·rw [qj a] at h;exact .inl h
  ·exact .inr ⟨e',qh _ b,a,h⟩
theorem k3j {l:List Oper} {acc:Array Nat} (h:Good l acc) (o:Oper):
  Good (l++[o]) (acc.push (o.after.toList.foldl (fun s e=>if Region.binds .any e then s ||| 2 ^ e.on ||| acc.getD e.on 0 else s) 0)):=by
 obtain ⟨hs,q⟩:=h;refine ⟨by simp [hs],fun k p hk j c=>?_⟩;have old:∀ i,i<acc.size->∀ x,(acc.push x).getD i 0=acc.getD i 0:=fun i hi x=>by simp [Array.getElem?_push,Nat.ne_of_lt hi]
 by_cases d:k<l.length;rw [qac d] at hk;rw [old k (by omega)] at c;obtain ⟨e,f,g,h⟩:=q k p hk j c;refine ⟨e,f,g,h.imp id fun ⟨h1,r⟩=>⟨h1,?_⟩⟩;rw [old _ (by omega)];exact r
 ·have a:k=l.length:=by have:=(qd.1 hk).1;simp at this;omega
  subst a;simp at hk;subst hk;have b:∀ x,(acc.push x).getD l.length 0=x:=fun x=>by rw [<- hs];simp
  rw [b] at c;rcases kvo acc j _ 0 c with h | ⟨e,f,g,h⟩;simp at h
  ·refine ⟨e,by simpa using f,g,?_⟩;rcases h with h | h;exact .inl h
   ·have m:e.on<acc.size:=by
     rcases qbl e.on acc.size with n | n;exact n
     ·simp [Array.getElem?_eq_none n] at h
    exact .inr ⟨by omega,by rw [old _ m];exact h⟩
theorem kvf:∀ (l r:List Oper) (acc:Array Nat),Good r acc ->
  Good (r++l) (l.foldl (fun acc o=>acc.push (o.after.toList.foldl (fun s e=>if Region.binds .any e then s ||| 2 ^ e.on ||| acc.getD e.on 0 else s) 0)) acc)
 | [],r,acc,h=>by simpa using h
 | o::l,r,acc,h=>by have:=kvf l (r++[o]) _ (k3j h o);simpa using this
theorem k1y (l:List Oper):Good l (kt7 l):=by exact kvf l [] #[] ⟨rfl,fun k o h=>by simp at h⟩
theorem kip {l:List Oper} {S:Nat->Prop} (hS:∀ k o,S k->l[k]?=some o->∀ e∈o.after,Region.binds .any e=true->S e.on):
  ∀ (k:Nat) (o:Oper),l[k]?=some o->(∀ e∈o.after,Region.binds .any e=true->S e.on)->∀ j,((kt7 l).getD k 0).testBit j=true->S j:=by
 intro k
 induction k using Nat.strongRecOn with
 | _ k ih=>
  intro o ho a j m;obtain ⟨e,g,i,h⟩:=(k1y l).2 k o ho j m;rcases h with rfl | ⟨c,h⟩;exact a e g i
  ·have hk:k<l.length:=(qd.1 ho).1;have b:l[e.on]?=some (l[e.on]'(by omega)):=qa (by omega);exact ih e.on c _ b (fun e' d f=>hS e.on _ (a e g i) b e' d f) j h
theorem kw9 (a:Act) (d:Option Tmp) (v:Value):(a.put d v).tmps.size=a.tmps.size:=by cases d <;> simp [Act.put]
theorem ksj (a:Act) (d:Option Tmp) (v:Value):(a.put d v).defers=a.defers:=by cases d <;> rfl
variable {gs:List Gd} {l:List Oper} {xs:Nat->Value} {a0:Act}
theorem koy (m:Nat) {listed:Array Bool} {i:Nat} (hi:i<m) (d:listed.getD i true=false) (hs:i<listed.size):
  ((List.range m).countP fun k=>!(listed.setIfInBounds i true).getD k true)<(List.range m).countP fun k=>!listed.getD k true:=by
 have a:List.range m=List.range i++i::(List.range (m - (i+1))).map (i+1+·):=by rw [show m=i+1+(m - (i+1)) by omega,List.range_add,List.range_succ];simp
 have b:∀ L:List Nat,(L.countP fun k=>!(listed.setIfInBounds i true).getD k true)<=L.countP fun k=>!listed.getD k true:=fun L=>by
  refine List.countP_mono_left fun k _ hk=>?_;by_cases c:i=k;subst c;simp [hs] at hk
  ·rw [getD_set_ne true c] at hk;exact hk
 rw [a,List.countP_append,List.countP_append,List.countP_cons,List.countP_cons];have h1:=b (List.range i);have f:=b ((List.range (m - (i+1))).map (i+1+·));have e:(listed.setIfInBounds i true).getD i true=true:=by simp [hs]
 rw [e,d];simp only [qbd,Bool.not_false,if_true,Bool.false_eq_true,if_false];omega
structure k6s (l:List Oper) (n s:Nat):Prop where
 sel:Region.noSelect l.toArray=true
 len:n<=l.length
 edges:∀ k o,l[k]?=some o->∀ e∈o.after,Region.binds .any e=true->e.on<k
 dst:∀ i o d,i<n->l[i]?=some o->o.dst=some d->d<s
 uniq:∀ i j o p d,i<n->j<n->l[i]?=some o->l[j]?=some p->o.dst=some d->p.dst=some d->i=j
 looks:∀ i j o p t,i<n->j<n->i≠j->l[i]?=some o->l[j]?=some p->t∈o.looksAt l.toArray->p.dst=some t->kgc o j=true\/kgc p i=true
 tail:∀ k j,k<l.length->n<=k->j<k->((kt7 l).getD k 0).testBit j=true
theorem kus {l:List Oper} {n s:Nat} (h:relB l n s=true):k6s l n s:=by
 simp only [relB,qv] at h;obtain ⟨⟨⟨⟨⟨⟨h1,b⟩,q⟩,r⟩,u⟩,v⟩,w⟩:=h;have b:n<=l.length:=by simpa using b
 have tk:∀ i o,i<n->l[i]?=some o->(o,i)∈(l.take n).zipIdx:=fun i o hi ho=>by rw [List.mk_mem_zipIdx_iff_getElem?,qad,qn hi];exact ho
 refine ⟨h1,b,?_,?_,?_,?_,?_⟩;intro k o ho e x y;have:=qu.1 q (o,k) (by rw [List.mk_mem_zipIdx_iff_getElem?];exact ho);have:=qu.1 this e (by simpa using x);simpa [y] using this;intro i o d hi ho z;have:=qu.1 r o (qk (i:=i) (by rw [qad,qn hi];exact ho));simpa [z] using this;intro i j o p d hi c ho hp f a;have:=qu.1 (qu.1 u _ (tk i o hi ho)) _ (tk j p c hp);simpa [f,a] using this;intro i j o p t hi c g ho hp ht a;have:=qu.1 (qu.1 (qu.1 v _ (tk i o hi ho)) t ht) _ (tk j p c hp);simpa [a,g] using this
 ·intro k j hk A m;have:=qu.1 w (l[k],k) (by rw [List.mk_mem_zipIdx_iff_getElem?];exact qa hk);simp only [qbx,qay] at this;exact qu.1 (this.resolve_left (by omega)) j (by simpa using m)
theorem afterB_iff {o:Oper} {j:Nat}:kgc o j=true↔∃ e∈o.after,e.on=j/\Region.binds .any e=true:=by unfold kgc;rw [List.any_eq_true];simp
theorem kl8 {l:List Oper} {n s:Nat} (ok:k6s l n s) {Q:Exit->Act->World->Prop}:∀ (fuel k:Nat) (listed:Array Bool) (a:Act) (w:World),
  n<=k->k<=l.length->listed.size=l.length->(∀ i,i<l.length->(listed.getD i true=true↔i<k))->l.length - k<=fuel ->
  wpList P l.toArray Q (l.drop k) a w->wpAny P .any l.toArray Q fuel listed a w:=by
 intro fuel
 induction fuel with
 | zero=>
  intro k listed a w A B d b g h;have hk:k=l.length:=by omega
  subst hk;refine ⟨?_,by simpa [wpList] using h⟩;rw [List.eq_nil_iff_forall_not_mem];intro i hi;obtain ⟨h0,o,ho,_⟩:=mem_ready.1 hi;have c:i<l.length:=by simpa using (qa2.1 ho).1
  rw [(b i c).2 c] at h0;cases h0
 | succ fuel ih=>
  intro k listed a w A B d b g h;have t:∀ i,i<l.length->i<k->listed.getD i false=true:=fun i hi C=>by have h1:=(b i hi).2 C;simp [d,hi] at h1 ⊢;exact h1
  have only:∀ i∈Region.ready .any l.toArray listed,i=k/\k<l.length:=fun i hi=>by
   obtain ⟨h0,o,ho,u⟩:=mem_ready.1 hi;have c:i<l.length:=(by simpa using (qa2.1 ho).1);have D:k<=i:=by
    rcases qbl i k with f | f;rw [(b i c).2 f] at h0;cases h0
    ·exact f
   refine ⟨?_,by omega⟩;rcases qbl k i with f | f
   ·exfalso;have hS:=kip (l:=l) (S:=fun j=>j<i/\listed.getD j false=true) ?_ i o (by simpa using ho) ?_ k (ok.tail i k c (by omega) f);have:=(b k (by omega)).1 (by have:=hS.2;simp [d,show k<l.length by omega] at this ⊢;exact this);omega;intro m p ⟨E,v⟩ hp e q r;have x:=ok.edges m p hp e q r;refine ⟨by omega,?_⟩;have F:=(b m (by omega)).1 (by simp [d,show m<l.length by omega] at v ⊢;exact v);exact t _ (by omega) (by omega)
    ·intro e q r;exact ⟨ok.edges i o (by simpa using ho) e q r,u e q r⟩
   ·omega
  refine ⟨fun y=>?_,fun i hi=>?_⟩
  ·have hk:k=l.length:=by
    rcases qbl k l.length with f | f;exfalso;have:k∈Region.ready .any l.toArray listed:=mem_ready.2 ⟨by have:=mt (b k f).1 (by omega);simpa using this,l[k],by simp [f],fun e q r=>by have x:=ok.edges k _ (qa f) e q r;exact t _ (by omega) x⟩;rw [y] at this;cases this
    ·omega
   subst hk;simpa [wpList] using h
  ·obtain ⟨rfl,c⟩:=only i hi;rw [qbb c] at h;have ho:l.toArray[i]?=some l[i]:=(by simp [c]);have G:wpOp P l.toArray Q i (wpList P l.toArray Q (l.drop (i+1))) a w:=(by unfold wpOp;simp only [ho];exact h);refine wpOp_mono (fun a' w' f=>ih (i+1) _ a' w' (by omega) (by omega) (by simp [d]) (fun j H=>?_) (by omega) f) G;by_cases z:i=j;subst z;simp [d,c]
   ·rw [getD_set_ne true z,b j H];omega
structure k95 (gs:List Gd) (l:List Oper) (C:World->Prop) (a0:Act) (listed:Array Bool) (a:Act) (w:World):Prop where
 inC:C w
 defers:a.defers=a0.defers
 size:a.tmps.size=a0.tmps.size
 lsize:listed.size=l.length
 closed:∀ k o,listed.getD k false=true->l[k]?=some o->∀ e∈o.after,Region.binds .any e=true->listed.getD e.on false=true
 vals:∃ xs:Nat->Value,∀ j g,gs[j]?=some g->listed.getD j false=true->g.holds (xs j) w/\∀ o d,l[j]?=some o->o.dst=some d->a.tmps[d]?=some (xs j)
 rest:∀ t,(∀ j o,listed.getD j false=true->l[j]?=some o->o.dst≠some t)->a.tmps[t]?=a0.tmps[t]?
theorem kzi {listed:Array Bool} {i:Nat} (h:listed.getD i true=false):listed.getD i false=false:=by
 rcases qbl i listed.size with a | a;simp [a] at h ⊢; exact h
 ·simp [Array.getElem?_eq_none a]
theorem k7b {listed:Array Bool} {i:Nat} (h:listed.getD i false=true):i<listed.size:=by
 rcases qbl i listed.size with a | a;exact a
 ·simp [Array.getElem?_eq_none a] at h
theorem kki (m j:Nat):(Array.replicate m false).getD j false=false:=by rcases qbl j m with h | h <;> simp [h]
attribute [go_sem] kcm kmn
end Go.Proofs.YtnlhjbnpjefjgaaGreatDoor
set_option linter.all false
set_option linter.unusedSectionVars false
namespace Go.Proofs.YtnlhjbnpjefjgaaGreatDoor
open Go Go.RowKit Go.Proofs.Tryz
variable [Dr]
def khp (n:Int):Prop := -9223372036854775808<=n/\n<=9223372036854775807
def At (w:World) (b o:Nat) (cs:List Value):Prop:=∀ j u,cs[j]?=some u->w.cell? ⟨b,o+j,none⟩=some u
def Same (S:Nat->Prop) (w w':World):Prop:=∀ b,S b->b<w.heap.size->w'.heap[b]?=w.heap[b]?
abbrev Grow (w w':World):Prop:=Below w.heap.size w w'
theorem Below.step {a b c:World} (h:Grow a b) (k:Grow b c):Grow a c:=Below.trans h (k.mono h.size)
theorem kax (w:World) (o:Obj):Grow w (w.alloc o):=(Below.refl _ _).alloc (qy _) _
theorem kvc (w:World):Grow w w.drew:=(Below.refl _ _).drew
theorem kai (w:World):Grow w w:=Below.refl _ _
section
variable {T:Type} {S S':Nat->Prop} {w w' w'':World} {b o:Nat} {cs:List Value}
theorem kr5 {w:World} {a:Addr} {u:Value} (h:w.cell? a=some u):a.block<w.heap.size:=by
 rcases qbl a.block w.heap.size with b | b;exact b
 ·simp [World.cell?,Array.getElem?_eq_none b] at h
theorem Same.of_grow (h:Grow w w'):Same S w w':=fun b _ a=>h.block b a
theorem Same.of_below {B:Nat} (h:Below B w w') (hS:∀ b,S b->b<B):Same S w w':=fun b a _=>h.block b (hS b a)
theorem At.keep (h:At w b o cs) (hS:S b) (hk:Same S w w'):At w' b o cs:=fun j u a=>by
 have h1:=h j u a;rw [World.cell?_of_block (w:=w)];exact h1
 ·exact hk b hS (kr5 h1)
def RepSl (S:Nat->Prop) (w:World) (size:Nat) (R:List Value->T->Prop) (v:Value) (xs:List T):Prop:=
 ∃ A cap,v = .slice A xs.length cap/\xs.length<=cap/\cap<=9223372036854775807 /\
  ∀ (i:Nat) (x:T),xs[i]?=some x->∃ b o cs,A=some ⟨b,o,none⟩/\S b/\At w b (o+i*size) cs/\cs.length=size/\R cs x
theorem RepSl.keep {size:Nat} {R R':List Value->T->Prop} {v:Value} {xs:List T} (h:RepSl S w size R v xs) (hk:Same S w w') (d:∀ cs x,x∈xs->R cs x->R' cs x):RepSl S w' size R' v xs:=by obtain ⟨A,cap,hv,h1,e,f⟩:=h;refine ⟨A,cap,hv,h1,e,fun i x c=>?_⟩;obtain ⟨b,o,cs,hA,hS,a,hl,hr⟩:=f i x c;exact ⟨b,o,cs,hA,hS,a.keep hS hk,hl,d cs x (qk c) hr⟩
theorem RepSl.mono {size:Nat} {R R':List Value->T->Prop} {v:Value} {xs:List T} (h:RepSl S w size R v xs) (hS:∀ b,S b->S' b) (d:∀ cs x,x∈xs->R cs x->R' cs x):RepSl S' w size R' v xs:=by obtain ⟨A,cap,hv,h1,e,f⟩:=h;refine ⟨A,cap,hv,h1,e,fun i x c=>?_⟩;obtain ⟨b,o,cs,hA,g,a,hl,hr⟩:=f i x c;exact ⟨b,o,cs,hA,hS b g,a,hl,d cs x (qk c) hr⟩
theorem RepSl.bound {size:Nat} {R:List Value->T->Prop} {v:Value} {xs:List T} (hs:0<size) (h:RepSl S w size R v xs):RepSl (fun b=>S b/\b<w.heap.size) w size R v xs:=by obtain ⟨A,cap,hv,h1,c,d⟩:=h;refine ⟨A,cap,hv,h1,c,fun i x e=>?_⟩;obtain ⟨b,o,cs,hA,f,a,hl,hr⟩:=d i x e;refine ⟨b,o,cs,hA,⟨f,?_⟩,a,hl,hr⟩;exact kr5 (a 0 cs[0] (qa (by omega)))
theorem RepSl.nil {size cap:Nat} {R:List Value->T->Prop} {A:Option Addr} (hc:cap<=9223372036854775807):RepSl S w size R (.slice A 0 cap) []:=
 ⟨A,cap,rfl,by simp,hc,fun i x h=>by simp at h⟩
def Any:Nat->Prop:=fun _=>True
def Lt (B:Nat):Nat->Prop:=fun b=>b<B
def IntR (cs:List Value) (n:Int):Prop:=cs=[.int .i64 n]/\khp n
def Ints (S:Nat->Prop) (w:World) (v:Value) (ns:List Int):Prop:=RepSl S w 1 IntR v ns
theorem Ints.keep {v:Value} {ns:List Int} (h:Ints S w v ns) (hk:Same S w w'):Ints S w' v ns:=RepSl.keep h hk fun _ _ _ h=>h
theorem Ints.mono {v:Value} {ns:List Int} (h:Ints S w v ns) (hS:∀ b,S b->S' b):Ints S' w v ns:=RepSl.mono h hS fun _ _ _ h=>h
theorem Ints.bound {v:Value} {ns:List Int} (h:Ints S w v ns):Ints (fun b=>S b/\b<w.heap.size) w v ns:=RepSl.bound (by omega) h
theorem Ints.form {v:Value} {ns:List Int} (h:Ints S w v ns):∃ A cap,v = .slice A ns.length cap/\ns.length<=cap/\cap<=9223372036854775807 /\
  ∀ i (hi:i<ns.length),khp ns[i]/\∃ b o,A=some ⟨b,o,none⟩/\S b/\w.cell? ⟨b,o+i,none⟩=some (.int .i64 ns[i]):=by
 obtain ⟨A,cap,hv,h1,d,e⟩:=h;refine ⟨A,cap,hv,h1,d,fun i hi=>?_⟩;obtain ⟨b,o,cs,hA,f,a,hl,c,hr⟩:=e i _ (qa hi);refine ⟨hr,b,o,hA,f,?_⟩;have:=a 0 (.int .i64 ns[i]) (by rw [c];rfl);simpa using this
structure Kept (size:Nat) (R:(Nat->Prop)->World->List Value->T->Prop):Prop where
 pos:0<size
 keep:∀ {S w w' cs x},R S w cs x->Same S w w'->R S w' cs x
 mono:∀ {S S':Nat->Prop} {w cs x},R S w cs x->(∀ b,S b->S' b)->R S' w cs x
 bound:∀ {S w cs x},R S w cs x->R (fun b=>S b/\b<w.heap.size) w cs x
 len:∀ {S w cs x},R S w cs x->cs.length=size
 one:∀ {S w cs x},R S w cs x->∀ u∈cs,u.oneCell'=true
variable {D:Nat->Prop} {lo:Nat} {e:TypeId} {size:Nat} {R:(Nat->Prop)->World->List Value->T->Prop} {v:Value} {xs:List T}
theorem kux {b:Nat} {Q:List Value->T->Prop}:∀ (ys:List T) (o:Nat),(∀ (i:Nat) (y:T),ys[i]?=some y->∃ cs,At w b (o+i*size) cs/\cs.length=size/\Q cs y) ->
  ∃ news:List Value,news.length=ys.length*size/\At w b o news/\∀ (i:Nat) (y:T),ys[i]?=some y->Q ((news.drop (i*size)).take size) y
 | [],o,_=>⟨[],by simp,fun j u h=>by simp at h,fun i y h=>by simp at h⟩
 | y::ys,o,h=>by
  obtain ⟨cs,e,hl,g⟩:=h 0 y rfl;obtain ⟨news,hn,a,f⟩:=kux (b:=b) (Q:=Q) ys (o+size) fun i z c=>by
   have:=h (i+1) z (by simpa using c)
   rwa [show o+(i+1)*size=o+size+i*size by rw [qbi];omega] at this
  refine ⟨cs++news,by simp [hl,hn,qbi];omega,fun j u d=>?_,fun i z c=>?_⟩
  ·by_cases k:j<size;rw [qac (by omega)] at d;have:=e j u d;simpa using this
   ·rw [qai (by omega),hl] at d;have:=a _ u d
    rwa [show o+size+(j - size)=o+j by omega] at this
  ·cases i with
   | zero=>
    simp at c;subst c;simp only [Nat.zero_mul,List.drop_zero];rw [List.take_append_of_le_length (by omega),List.take_of_length_le (by omega)];exact g
   | succ i=>
    have:=f i z (by simpa using c);rw [show (i+1)*size=cs.length+i*size by rw [hl,qbi];omega,<- List.drop_drop,List.drop_left];exact this
theorem kr8 {P:Program} (lo:Nat) (t ty e:TypeId) (i:TypeInfo) (size:Nat) (ht:P.underlying t=some (.slice e)) (hi:P.info? e=some i)
  (v:Value) (n:Nat) (xs:List Value) (a:w.ownsRow lo e size v n xs) (c:Nat):(Builtin.append_ #[t,t] ty #[v, .slice none 0 c]).run P w = .ok v w:=by
 rcases a.2 with ⟨rfl,rfl⟩ | ⟨g,cap,cur,rfl,_,_,b,_⟩;simp [Builtin.append_,run_underlying ht,sizeOf,typeInfo,hi,Builtin.lenOf,Builtin.firstCells]
 ·simp [Builtin.append_,run_underlying ht,sizeOf,typeInfo,hi,Builtin.lenOf,Builtin.firstCells,b,storeCells]
end
end Go.Proofs.YtnlhjbnpjefjgaaGreatDoor
set_option linter.all false
set_option linter.unusedSectionVars false
namespace Go.Proofs.YtnlhjbnpjefjgaaGreatDoor
open Go Go.RowKit Go.Proofs.Tryz
variable [Dr]
inductive Tm where
 | mk (rule:Int) (args:List Tm)
namespace Tm
def rule:Tm->Int | mk r _=>r
def args:Tm->List Tm | mk _ l=>l
theorem ind {P:Tm->Prop} (h:∀ r l,(∀ t∈l,P t)->P (mk r l)) (t:Tm):P t:=
 Tm.rec (motive_1:=P) (motive_2:=fun l=>∀ t∈l,P t) (fun r l ih=>h r l ih) (fun _ h=>nomatch h)
  (fun t l h1 a x b=>(qat.1 b).elim (fun e=>e ▸ h1) (a x)) t
mutual
def size:Tm->Nat
 | mk _ l=>sizeL l+1
def sizeL:List Tm->Nat
 | []=>0
 | t::l=>t.size+sizeL l
end
mutual
def pre (g:Tm->Int):Tm->List Int
 | mk r l=>g (mk r l)::preL g l
def preL (g:Tm->Int):List Tm->List Int
 | []=>[]
 | t::l=>t.pre g++preL g l
end
def nargs (t:Tm):Int:=(t.args.length:Int)
def rules (t:Tm):List Int:=t.pre rule
def arities (t:Tm):List Int:=t.pre nargs
theorem sizeL_snoc (l:List Tm) (t:Tm):sizeL (l++[t])=sizeL l+t.size:=by
 induction l with
 | nil=>simp [sizeL]
 | cons x l ih=>simp only [qbp,sizeL,ih];omega
theorem size_pos (t:Tm):1<=t.size:=by cases t;simp [size]
theorem sizeL_mem {l:List Tm} {t:Tm} (h:t∈l):t.size<=sizeL l:=by
 induction l with
 | nil=>cases h
 | cons x l ih=>
  simp only [sizeL];rcases qat.1 h with rfl | h;omega
  ·have:=ih h;omega
theorem pre_length (g:Tm->Int) (t:Tm):(t.pre g).length=t.size:=by
 induction t using Tm.ind with
 | h r l ih=>
  simp only [pre,size,qbq];have:∀ m:List Tm,(∀ t∈m,(t.pre g).length=t.size)->(preL g m).length=sizeL m:=fun m=>by
   induction m with
   | nil=>simp [preL,sizeL]
   | cons x m ihm=>
    intro h;simp only [preL,sizeL,qaj];rw [h x (by simp),ihm fun t ht=>h t (by simp [ht])]
  rw [this l ih]
theorem rules_length (t:Tm):t.rules.length=t.size:=pre_length _ t
theorem arities_length (t:Tm):t.arities.length=t.size:=pre_length _ t
end Tm
variable {S S':Nat->Prop} {w w':World}
inductive RepTm (S:Nat->Prop) (w:World):List Value->Tm->Prop where
 | mk (r:Int) (kids:List Tm) (A:Option Addr) (cap:Nat) (css:Nat->List Value) (hr:khp r) (hc:kids.length<=cap) (hm:cap<=9223372036854775807)
  (hA:∀ (i:Nat) (x:Tm),kids[i]?=some x->∃ b o,A=some ⟨b,o,none⟩/\S b/\At w b (o+i*2) (css i))
  (hk:∀ (i:Nat) (x:Tm),kids[i]?=some x->RepTm S w (css i) x):RepTm S w [.int .i64 r, .slice A kids.length cap] (.mk r kids)
abbrev Tms (S:Nat->Prop) (w:World) (v:Value) (l:List Tm):Prop:=RepSl S w 2 (RepTm S w) v l
theorem RepTm.len {cs:List Value} {t:Tm} (h:RepTm S w cs t):cs.length=2:=by cases h;rfl
theorem RepTm.form {cs:List Value} {r:Int} {l:List Tm} (h:RepTm S w cs (.mk r l)):∃ s,cs=[.int .i64 r,s]/\khp r/\Tms S w s l:=by
 cases h with
 | mk _ _ A cap css hr hc hm hA hk=>
  refine ⟨_,rfl,hr,A,cap,rfl,hc,hm,fun i x a=>?_⟩;obtain ⟨b,o,h1,c,d⟩:=hA i x a;exact ⟨b,o,css i,h1,c,d,(hk i x a).len,hk i x a⟩
theorem RepTm.of {s:Value} {r:Int} {l:List Tm} (hr:khp r) (h:Tms S w s l):RepTm S w [.int .i64 r,s] (.mk r l):=by
 obtain ⟨A,cap,rfl,hc,hm,c⟩:=h;have:∀ i:Nat,∃ cs:List Value,∀ x:Tm,l[i]?=some x->(∃ b o,A=some ⟨b,o,none⟩/\S b/\At w b (o+i*2) cs)/\RepTm S w cs x:=fun i=>by
  cases hi:l[i]? with
  | none=>exact ⟨[],fun x h=>by cases h⟩
  | some x=>
   obtain ⟨b,o,cs,h1,d,e,_,f⟩:=c i x hi;exact ⟨cs,fun y hy=>by cases hy;exact ⟨⟨b,o,h1,d,e⟩,f⟩⟩
 obtain ⟨css,a⟩:=Classical.axiomOfChoice this;exact .mk r l A cap css hr hc hm (fun i x hi=>(a i x hi).1) (fun i x hi=>(a i x hi).2)
def TmV (S:Nat->Prop) (w:World) (v:Value) (t:Tm):Prop:=∃ c0 c1,v = .agg #[c0,c1]/\RepTm S w [c0,c1] t
end Go.Proofs.YtnlhjbnpjefjgaaGreatDoor
set_option linter.all false
set_option linter.unusedSectionVars false
namespace Go.Proofs.YtnlhjbnpjefjgaaGreatDoor
open Go Go.RowKit Go.Proofs.Tryz
variable [Dr]
inductive FV where
 | atom (v:Value)
 | agg (cs:List FV)
 | tup (vs:List FV)
 | lst (size n:Nat) (xs:List FV)
 | fp (cs:List FV)
 | bx (cs:List FV)
def FV.cells:FV->List FV
 | .agg cs=>cs
 | x=>[x]
def FV.single:FV->Bool
 | .atom v=>v.oneCell'
 | .lst _ _ _=>true
 | .fp _=>true
 | .bx _=>true
 | _=>false
inductive AV where
 | fz (x:FV)
 | agg (cs:List AV)
 | tup (vs:List AV)
 | ref (id n off:Nat)
 | row (id n:Nat)
 | lim (size n:Nat) (xs:List FV)
 | mp (id:Nat)
 | fn (f:FuncId) (cap:List AV)
 | mth (f:FuncId) (fst:List AV)
 | opt (id:Nat)
 | sdp (id n:Nat)
 | win (id n lo hi:Nat)
 | irow (id g j:Nat)
 | iref (id g j off:Nat)
 | bsl (id g off len:Nat) (cap:Option Nat)
 | any
def AV.cells:AV->List AV
 | .fz x=>x.cells.map .fz
 | .agg cs=>cs
 | x=>[x]
def AV.single:AV->Bool
 | .fz x=>x.single
 | .agg _=>false
 | .tup _=>false
 | .any=>false
 | _=>true
variable {S S':Nat->Prop} {w w':World}
inductive RF (S:Nat->Prop) (w:World):Value->FV->Prop where
 | atom {v:Value} (h:v.oneCell'=true):RF S w v (.atom v)
 | agg {cs:Array Value} {xs:List FV} (h:cs.size=xs.length) (h1:∀ x∈xs,x.single=true)
   (hr:∀ (i:Nat) (v:Value) (x:FV),cs[i]?=some v->xs[i]?=some x->RF S w v x):RF S w (.agg cs) (.agg xs)
 | tup {cs:Array Value} {xs:List FV} (h:cs.size=xs.length)
   (hr:∀ (i:Nat) (v:Value) (x:FV),cs[i]?=some v->xs[i]?=some x->RF S w v x):RF S w (.tuple cs) (.tup xs)
 | lst {A:Option Addr} {cap size n:Nat} {xs:List FV} (css:Nat->List Value) (hn:n=xs.length) (hc:n<=cap) (hm:cap<=9223372036854775807) (hs:0<size)
   (ha:∀ (i:Nat) (x:FV),xs[i]?=some x->∃ b o,A=some ⟨b,o,none⟩/\S b/\At w b (o+i*size) (css i))
   (hl:∀ (i:Nat) (x:FV),xs[i]?=some x->(css i).length=size/\x.cells.length=size/\∀ y∈x.cells,y.single=true)
   (hr:∀ (i:Nat) (x:FV) (j:Nat) (v:Value) (y:FV),xs[i]?=some x->(css i)[j]?=some v->x.cells[j]?=some y->RF S w v y):
   RF S w (.slice A n cap) (.lst size n xs)
 | fp {b o:Nat} {xs:List FV} (cs:List Value) (hS:S b) (ha:At w b o cs) (hl:cs.length=xs.length) (h0:0<xs.length) (h1:∀ x∈xs,x.single=true)
   (hr:∀ (i:Nat) (v:Value) (x:FV),cs[i]?=some v->xs[i]?=some x->RF S w v x):RF S w (.pointer (some ⟨b,o,none⟩)) (.fp xs)
 | bx {b:Nat} {e:TypeId} {xs:List FV} (cs:Array Value) (hS:S b) (ha:w.heap[b]?=some (.cells cs e (0,0))) (hl:cs.size=xs.length) (h0:0<xs.length) (h1:∀ x∈xs,x.single=true)
   (hr:∀ (i:Nat) (v:Value) (x:FV),cs[i]?=some v->xs[i]?=some x->RF S w v x):RF S w (.pointer (some ⟨b,0,none⟩)) (.bx xs)
 | bn:RF S w (.pointer none) (.bx [])
theorem RF.keep {v:Value} {x:FV} (h:RF S w v x) (hk:Same S w w'):RF S w' v x:=by
 induction h with
 | atom h=>exact .atom h
 | agg h h1 _ ih=>exact .agg h h1 ih
 | tup h _ ih=>exact .tup h ih
 | lst css hn hc hm hs ha hl _ ih=>
  exact .lst css hn hc hm hs (fun i x c=>let ⟨b,o,h1,a,d⟩:=ha i x c;⟨b,o,h1,a,d.keep a hk⟩) hl ih
 | fp cs hS ha hl h0 h1 _ ih=>exact .fp cs hS (ha.keep hS hk) hl h0 h1 ih
 | bx cs hS ha hl h0 h1 _ ih=>exact .bx cs hS ((hk _ hS (qa2.1 ha).1).trans ha) hl h0 h1 ih
 | bn=>exact .bn
theorem RF.mono {v:Value} {x:FV} (h:RF S w v x) (hS:∀ b,S b->S' b):RF S' w v x:=by
 induction h with
 | atom h=>exact .atom h
 | agg h h1 _ ih=>exact .agg h h1 ih
 | tup h _ ih=>exact .tup h ih
 | lst css hn hc hm hs ha hl _ ih=>
  exact .lst css hn hc hm hs (fun i x a=>let ⟨b,o,h1,c,d⟩:=ha i x a;⟨b,o,h1,hS b c,d⟩) hl ih
 | fp cs hs ha hl h0 h1 _ ih=>exact .fp cs (hS _ hs) ha hl h0 h1 ih
 | bx cs hs ha hl h0 h1 _ ih=>exact .bx cs (hS _ hs) ha hl h0 h1 ih
 | bn=>exact .bn
theorem RF.bound {v:Value} {x:FV} (h:RF S w v x):RF (fun b=>S b/\b<w.heap.size) w v x:=by
 induction h with
 | atom h=>exact .atom h
 | agg h h1 _ ih=>exact .agg h h1 ih
 | tup h _ ih=>exact .tup h ih
 | lst css hn hc hm hs ha hl _ ih=>
  refine .lst css hn hc hm hs (fun i x a=>?_) hl ih;obtain ⟨b,o,h1,d,c⟩:=ha i x a;have hn:=(hl i x a).1;exact ⟨b,o,h1,⟨d,kr5 (c 0 ((css i)[0]'(by omega)) (qa (by omega)))⟩,c⟩
 | fp cs hs ha hl h0 h1 _ ih=>
  exact .fp cs ⟨hs,kr5 (ha 0 (cs[0]'(by omega)) (qa (by omega)))⟩ ha hl h0 h1 ih
 | bx cs hs ha hl h0 h1 _ ih=>exact .bx cs ⟨hs,(qa2.1 ha).1⟩ ha hl h0 h1 ih
 | bn=>exact .bn
theorem RF.one {v:Value} {x:FV} (h:RF S w v x) (h1:x.single=true):v.oneCell'=true:=by
 cases h with
 | atom h=>exact h
 | agg=>cases h1
 | tup=>cases h1
 | lst=>rfl
 | fp=>rfl
 | bx=>rfl
 | bn=>rfl
theorem RF.atom_eq {v u:Value} (h:RF S w v (.atom u)):v=u:=by cases h;rfl
theorem RF.undef:RF S w Go.undef (.tup []) := .tup rfl (fun i v x h=>by simp at h)
theorem RF.cells {v:Value} {x:FV} (h:RF S w v x) (h1:∀ y∈x.cells,y.single=true):
  v.cells.size=x.cells.length/\(∀ (i:Nat) (u:Value) (y:FV),v.cells[i]?=some u->x.cells[i]?=some y->RF S w u y)/\∀ u∈v.cells.toList,u.oneCell'=true:=by
 have key:v.cells.size=x.cells.length/\(∀ (i:Nat) (u:Value) (y:FV),v.cells[i]?=some u->x.cells[i]?=some y->RF S w u y):=by
  cases h with
  | agg h h1 hr=>exact ⟨h,hr⟩
  | atom h=>
   have hc:v.cells=#[v]:=by cases v <;> first | rfl | cases h
   rw [hc];exact ⟨rfl,fun i u y a hy=>by cases i with | zero=>simp [FV.cells] at a hy;subst a hy;exact .atom h | succ i=>simp at a⟩
  | tup h hr=>cases h1 _ (q9.2 rfl)
  | lst css hn hc hm hs ha hl hr=>exact ⟨rfl,fun i u y a hy=>by cases i with | zero=>simp [FV.cells,Value.cells] at a hy;subst a hy;exact .lst css hn hc hm hs ha hl hr | succ i=>simp [Value.cells] at a⟩
  | fp cs hS ha hl h0 c hr=>exact ⟨rfl,fun i u y a hy=>by cases i with | zero=>simp [FV.cells,Value.cells] at a hy;subst a hy;exact .fp cs hS ha hl h0 c hr | succ i=>simp [Value.cells] at a⟩
  | bx cs hS ha hl h0 c hr=>exact ⟨rfl,fun i u y a hy=>by cases i with | zero=>simp [FV.cells,Value.cells] at a hy;subst a hy;exact .bx cs hS ha hl h0 c hr | succ i=>simp [Value.cells] at a⟩
  | bn=>exact ⟨rfl,fun i u y a hy=>by cases i with | zero=>simp [FV.cells,Value.cells] at a hy;subst a hy;exact .bn | succ i=>simp [Value.cells] at a⟩
 refine ⟨key.1,key.2,fun u a=>?_⟩;obtain ⟨i,hi,rfl⟩:=qah.1 a;have b:i<v.cells.size:=by simpa using hi
 have d:i<x.cells.length:=by rw [<- key.1];exact b
 exact (key.2 i _ _ (by simp [b]) (qa d)).one (h1 _ (qo d))
structure Env where
 len:Nat->Nat
 val:Nat->Value
def kar:Value->Option Nat
 | .slice (some a) _ _=>some a.block
 | .pointer (some a)=>some a.block
 | .map (some r)=>some r
 | _=>none
def kfa:Value->List Value
 | .tuple cs=>cs.toList
 | _=>[]
def Blk (v:Value) (b:Nat):Prop:=kar v=some b\/∃ u,u∈kfa v/\kar u=some b
theorem Blk.of {v:Value} {b:Nat} (h:kar v=some b):Blk v b := .inl h
theorem Blk.sl {A:Option Addr} {n c b:Nat} (h:Blk (.slice A n c) b):kar (.slice A n c)=some b:=by
 rcases h with h | ⟨u,a,_⟩;exact h
 ·cases a
theorem Blk.pt {A:Option Addr} {b:Nat} (h:Blk (.pointer A) b):kar (.pointer A)=some b:=by
 rcases h with h | ⟨u,a,_⟩;exact h
 ·cases a
theorem Blk.mp {A:Option Nat} {b:Nat} (h:Blk (.map A) b):kar (.map A)=some b:=by
 rcases h with h | ⟨u,a,_⟩;exact h
 ·cases a
variable {ψ ψ':Env} {K K':Nat->Prop}
def capOf:Value->Nat
 | .slice _ _ c=>c
 | _=>0
def CapR (u:Value) (off c:Nat):Option Nat->Prop
 | some k=>c=k
 | none=>off=0/\c=capOf u
def BslR (u:Value) (off len:Nat) (cap:Option Nat) (v:Value):Prop:=
 ∃ b c,kar u=some b/\v = .slice (some ⟨b,off,none⟩) len c/\len<=c/\c<=9223372036854775807/\CapR u off c cap
inductive RV (ψ:Env) (K:Nat->Prop) (S:Nat->Prop) (w:World):Value->AV->Prop where
 | fz {v:Value} {x:FV} (h:RF S w v x):RV ψ K S w v (.fz x)
 | agg {cs:Array Value} {xs:List AV} (h:cs.size=xs.length) (h1:∀ x∈xs,x.single=true)
   (hr:∀ (i:Nat) (v:Value) (x:AV),cs[i]?=some v->xs[i]?=some x->RV ψ K S w v x):RV ψ K S w (.agg cs) (.agg xs)
 | tup {cs:Array Value} {xs:List AV} (h:cs.size=xs.length)
   (hr:∀ (i:Nat) (v:Value) (x:AV),cs[i]?=some v->xs[i]?=some x->RV ψ K S w v x):RV ψ K S w (.tuple cs) (.tup xs)
 | ref {id n off:Nat} {v:Value} (hK:K id) (hn:n<=ψ.len id) (h1:v.oneCell'=true)
   (hv:n=ψ.len id->∃ b,kar (ψ.val id)=some b/\v = .pointer (some ⟨b,off,none⟩)):RV ψ K S w v (.ref id n off)
 | row {id n:Nat} {v:Value} (hK:K id) (hn:n<=ψ.len id) (h1:v.oneCell'=true) (hv:n=ψ.len id->v=ψ.val id):RV ψ K S w v (.row id n)
 | lim {A:Option Addr} {size n:Nat} {xs:List FV} (h:RF S w (.slice A n n) (.lst size n xs)):RV ψ K S w (.slice A n n) (.lim size n xs)
 | mp {id:Nat} {v:Value} (hK:K id) (h1:v.oneCell'=true) (hv:0=ψ.len id->v=ψ.val id):RV ψ K S w v (.mp id)
 | fn {f:FuncId} {cs:Array Value} {xs:List AV} (h:cs.size=xs.length)
   (hr:∀ (i:Nat) (v:Value) (x:AV),cs[i]?=some v->xs[i]?=some x->RV ψ K S w v x):RV ψ K S w (.func (.func f) #[] cs) (.fn f xs)
 | mth {f:FuncId} {cs:Array Value} {xs:List AV} (h:cs.size=xs.length)
   (hr:∀ (i:Nat) (v:Value) (x:AV),cs[i]?=some v->xs[i]?=some x->RV ψ K S w v x):RV ψ K S w (.func (.func f) cs #[]) (.mth f xs)
 | opt {id:Nat} {v:Value} (hK:K id) (h1:v.oneCell'=true) (hv:0=ψ.len id->v = .pointer none\/∃ b,kar (ψ.val id)=some b/\v = .pointer (some ⟨b,0,none⟩)):RV ψ K S w v (.opt id)
 | sdp {id n:Nat} {v:Value} (hK:K id) (hn:n<=ψ.len id) (h1:v.oneCell'=true) (hv:n=ψ.len id->(∃ a,v = .pointer a)/\(0<n->∃ b,kar (ψ.val id)=some b/\v = .pointer (some ⟨b,0,none⟩))):RV ψ K S w v (.sdp id n)
 | win {id n lo hi:Nat} {v:Value} (hK:K id) (hn:n<=ψ.len id) (h1:v.oneCell'=true) (hv:n=ψ.len id->lo<=hi/\hi<=n/\∃ A cap,v = .slice A (hi - lo) cap/\(lo<hi->∃ b,kar (ψ.val id)=some b/\A=some ⟨b,lo,none⟩)):RV ψ K S w v (.win id n lo hi)
 | irow {id g j:Nat} {v:Value} (hK:K id) (hn:g<=ψ.len id) (h1:v.oneCell'=true) (hv:g=ψ.len id->(kfa (ψ.val id))[j]?=some v):RV ψ K S w v (.irow id g j)
 | iref {id g j off:Nat} {v:Value} (hK:K id) (hn:g<=ψ.len id) (h1:v.oneCell'=true) (hv:g=ψ.len id->∃ u b,(kfa (ψ.val id))[j]?=some u/\kar u=some b/\v = .pointer (some ⟨b,off,none⟩)):RV ψ K S w v (.iref id g j off)
 | bsl {id g off len:Nat} {cap:Option Nat} {v:Value} (hK:K id) (hn:g<=ψ.len id) (h1:v.oneCell'=true) (hv:g=ψ.len id->BslR (ψ.val id) off len cap v):RV ψ K S w v (.bsl id g off len cap)
 | any {v:Value}:RV ψ K S w v .any
theorem RV.bound {v:Value} {a:AV} (h:RV ψ K S w v a):RV ψ K (fun b=>S b/\b<w.heap.size) w v a:=by
 induction h with
 | fz h=>exact .fz h.bound
 | agg h h1 _ ih=>exact .agg h h1 ih
 | tup h _ ih=>exact .tup h ih
 | ref hk hn h1 hv=>exact .ref hk hn h1 hv
 | row hk hn h1 hv=>exact .row hk hn h1 hv
 | lim h=>exact .lim h.bound
 | mp hk h1 hv=>exact .mp hk h1 hv
 | opt hk h1 hv=>exact .opt hk h1 hv
 | sdp hk hn h1 hv=>exact .sdp hk hn h1 hv
 | win hk hn h1 hv=>exact .win hk hn h1 hv
 | irow hk hn h1 hv=>exact .irow hk hn h1 hv
 | iref hk hn h1 hv=>exact .iref hk hn h1 hv
 | bsl hk hn h1 hv=>exact .bsl hk hn h1 hv
 | fn h _ ih=>exact .fn h ih
 | mth h _ ih=>exact .mth h ih
 | any=>exact .any
theorem RV.mono {v:Value} {a:AV} (h:RV ψ K S w v a) (hK:∀ id,K id->K' id) (hS:∀ b,S b->S' b):RV ψ K' S' w v a:=by
 induction h with
 | fz h=>exact .fz (h.mono hS)
 | agg h h1 _ ih=>exact .agg h h1 ih
 | tup h _ ih=>exact .tup h ih
 | ref hk hn h1 hv=>exact .ref (hK _ hk) hn h1 hv
 | row hk hn h1 hv=>exact .row (hK _ hk) hn h1 hv
 | lim h=>exact .lim (h.mono hS)
 | mp hk h1 hv=>exact .mp (hK _ hk) h1 hv
 | opt hk h1 hv=>exact .opt (hK _ hk) h1 hv
 | sdp hk hn h1 hv=>exact .sdp (hK _ hk) hn h1 hv
 | win hk hn h1 hv=>exact .win (hK _ hk) hn h1 hv
 | irow hk hn h1 hv=>exact .irow (hK _ hk) hn h1 hv
 | iref hk hn h1 hv=>exact .iref (hK _ hk) hn h1 hv
 | bsl hk hn h1 hv=>exact .bsl (hK _ hk) hn h1 hv
 | fn h _ ih=>exact .fn h ih
 | mth h _ ih=>exact .mth h ih
 | any=>exact .any
theorem RV.one {v:Value} {a:AV} (h:RV ψ K S w v a) (h1:a.single=true):v.oneCell'=true:=by
 cases h with
 | fz h=>exact h.one h1
 | agg=>cases h1
 | tup=>cases h1
 | ref _ _ h _=>exact h
 | row _ _ h _=>exact h
 | lim=>rfl
 | mp _ h _=>exact h
 | opt _ h _=>exact h
 | sdp _ _ h _=>exact h
 | win _ _ h _=>exact h
 | irow _ _ h _=>exact h
 | iref _ _ h _=>exact h
 | bsl _ _ h _=>exact h
 | fn=>rfl
 | mth=>rfl
 | any=>cases h1
theorem RV.cells {v:Value} {a:AV} (h:RV ψ K S w v a) (h1:∀ y∈a.cells,y.single=true):
  v.cells.size=a.cells.length/\(∀ (i:Nat) (u:Value) (y:AV),v.cells[i]?=some u->a.cells[i]?=some y->RV ψ K S w u y)/\∀ u∈v.cells.toList,u.oneCell'=true:=by
 have one:v.oneCell'=true->a.cells=[a]->RV ψ K S w v a->v.cells.size=a.cells.length/\(∀ (i:Nat) (u:Value) (y:AV),v.cells[i]?=some u->a.cells[i]?=some y->RV ψ K S w u y):=fun ho hc hr=>by
  have hv:v.cells=#[v]:=by cases v <;> first | rfl | cases ho
  rw [hc,hv];exact ⟨rfl,fun i u y b hy=>by cases i with | zero=>simp at b hy;subst b hy;exact hr | succ i=>simp at b⟩
 have key:v.cells.size=a.cells.length/\(∀ (i:Nat) (u:Value) (y:AV),v.cells[i]?=some u->a.cells[i]?=some y->RV ψ K S w u y):=by
  cases h with
  | @fz v x h=>
   have d:∀ y∈x.cells,y.single=true:=fun y hy=>h1 (.fz y) (by simp [AV.cells,hy]);obtain ⟨e1,e2,_⟩:=h.cells d;refine ⟨by simpa [AV.cells] using e1,fun i u y b hy=>?_⟩;simp only [AV.cells,ql,qw] at hy;obtain ⟨y',e,rfl⟩:=hy;exact .fz (e2 i u y' b e)
  | agg h h1 hr=>exact ⟨h,hr⟩
  | tup h hr=>cases h1 _ (q9.2 rfl)
  | any=>cases h1 _ (q9.2 rfl)
  | ref hk hn ho hv=>exact one ho rfl (.ref hk hn ho hv)
  | row hk hn ho hv=>exact one ho rfl (.row hk hn ho hv)
  | lim h=>exact one rfl rfl (.lim h)
  | mp hk ho hv=>exact one ho rfl (.mp hk ho hv)
  | opt hk ho hv=>exact one ho rfl (.opt hk ho hv)
  | sdp hk hn ho hv=>exact one ho rfl (.sdp hk hn ho hv)
  | win hk hn ho hv=>exact one ho rfl (.win hk hn ho hv)
  | irow hk hn ho hv=>exact one ho rfl (.irow hk hn ho hv)
  | iref hk hn ho hv=>exact one ho rfl (.iref hk hn ho hv)
  | bsl hk hn ho hv=>exact one ho rfl (.bsl hk hn ho hv)
  | fn h hr=>exact one rfl rfl (.fn h hr)
  | mth h hr=>exact one rfl rfl (.mth h hr)
 refine ⟨key.1,key.2,fun u b=>?_⟩;obtain ⟨i,hi,rfl⟩:=qah.1 b;have c:i<v.cells.size:=by simpa using hi
 have d:i<a.cells.length:=by rw [<- key.1];exact c
 exact (key.2 i _ _ (by simp [c]) (qa d)).one (h1 _ (qo d))
theorem RV.inv {v:Value} {x:FV} (h:RV ψ K S w v (.fz x)):RF S w v x:=by cases h;assumption
theorem RV.atom {v u:Value} (h:RV ψ K S w v (.fz (.atom u))):v=u:=h.inv.atom_eq
def Ext (K:Nat->Prop) (ψ ψ':Env):Prop:=∀ id,K id->ψ.len id<=ψ'.len id/\(ψ.len id=ψ'.len id->ψ'.val id=ψ.val id)
theorem Ext.refl:Ext K ψ ψ:=fun _ _=>⟨qy _,fun _=>rfl⟩
theorem RV.keep {v:Value} {a:AV} (h:RV ψ K S w v a) (f:Ext K ψ ψ') (hK:∀ id,K id->K' id) (hS:∀ b,S b->S' b) (hk:Same S w w'):RV ψ' K' S' w' v a:=by
 induction h with
 | fz h=>exact .fz ((h.keep hk).mono hS)
 | agg h h1 _ ih=>exact .agg h h1 ih
 | tup h _ ih=>exact .tup h ih
 | @ref id n off v hk hn h1 hv=>
  have c:=f id hk;refine .ref (hK _ hk) (by omega) h1 fun d=>?_;have e:n=ψ.len id:=by omega
  rw [c.2 (by omega)];exact hv e
 | @row id n v hk hn h1 hv=>
  have c:=f id hk;refine .row (hK _ hk) (by omega) h1 fun d=>?_;have e:n=ψ.len id:=by omega
  rw [c.2 (by omega)];exact hv e
 | lim h=>exact .lim ((h.keep hk).mono hS)
 | @mp id v hk h1 hv=>
  have c:=f id hk;refine .mp (hK _ hk) h1 fun d=>?_;have e:0=ψ.len id:=by omega
  rw [c.2 (by omega)];exact hv e
 | @opt id v hk h1 hv=>
  have c:=f id hk;refine .opt (hK _ hk) h1 fun d=>?_;have e:0=ψ.len id:=by omega
  rw [c.2 (by omega)];exact hv e
 | @sdp id n v hk hn h1 hv=>
  have c:=f id hk;refine .sdp (hK _ hk) (by omega) h1 fun d=>?_;have e:n=ψ.len id:=by omega
  rw [c.2 (by omega)];exact hv e
 | @win id n lo hi v hk hn h1 hv=>
  have c:=f id hk;refine .win (hK _ hk) (by omega) h1 fun d=>?_;have e:n=ψ.len id:=by omega
  rw [c.2 (by omega)];exact hv e
 | @irow id g j v hk hn h1 hv=>
  have c:=f id hk;refine .irow (hK _ hk) (by omega) h1 fun d=>?_;have e:g=ψ.len id:=by omega
  rw [c.2 (by omega)];exact hv e
 | @iref id g j off v hk hn h1 hv=>
  have c:=f id hk;refine .iref (hK _ hk) (by omega) h1 fun d=>?_;have e:g=ψ.len id:=by omega
  rw [c.2 (by omega)];exact hv e
 | @bsl id g off len cap v hk hn h1 hv=>
  have c:=f id hk;refine .bsl (hK _ hk) (by omega) h1 fun d=>?_;have e:g=ψ.len id:=by omega
  rw [c.2 (by omega)];exact hv e
 | fn h _ ih=>exact .fn h ih
 | mth h _ ih=>exact .mth h ih
 | any=>exact .any
end Go.Proofs.YtnlhjbnpjefjgaaGreatDoor
