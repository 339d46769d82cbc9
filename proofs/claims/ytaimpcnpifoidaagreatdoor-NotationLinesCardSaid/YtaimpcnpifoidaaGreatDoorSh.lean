import Derived.Shelf.LaysM
import Derived.Shelf.Strconv.Itoa3
import Derived.Test.YtaimpcnpifoidaaGreatDoorProg
namespace Go.Proofs.YtaimpcnpifoidaaGreatDoor
abbrev BA:=ByteArray
theorem qa.{u0,u1}:type_of% @Option.bind_some.{u0,u1}:=@Option.bind_some.{u0,u1}
theorem qb.{u0}:type_of% @cond_false.{u0}:=@cond_false.{u0}
theorem qc:type_of% @decide_eq_false:=@decide_eq_false
theorem qd.{u0}:type_of% @cond_true.{u0}:=@cond_true.{u0}
theorem qe:type_of% @decide_eq_true:=@decide_eq_true
theorem qf.{u0,u1,u2}:type_of% @Sum.elim_inl.{u0,u1,u2}:=@Sum.elim_inl.{u0,u1,u2}
theorem qg.{u0,u1,u2}:type_of% @Sum.elim_inr.{u0,u1,u2}:=@Sum.elim_inr.{u0,u1,u2}
theorem qh.{u0}:type_of% @Option.some.injEq.{u0}:=@Option.some.injEq.{u0}
theorem qi.{u0,u1}:type_of% @Option.bind_eq_some_iff.{u0,u1}:=@Option.bind_eq_some_iff.{u0,u1}
theorem qj.{u0,u1}:type_of% @Option.map_eq_some_iff.{u0,u1}:=@Option.map_eq_some_iff.{u0,u1}
theorem qk.{u0}:type_of% @List.length_cons.{u0}:=@List.length_cons.{u0}
theorem ql.{u0}:type_of% @List.mem_cons_of_mem.{u0}:=@List.mem_cons_of_mem.{u0}
theorem qm.{u0}:type_of% @List.length_append.{u0}:=@List.length_append.{u0}
theorem qn.{u0}:type_of% @List.all_eq_true.{u0}:=@List.all_eq_true.{u0}
theorem qo.{u0}:type_of% @Option.some.inj.{u0}:=@Option.some.inj.{u0}
theorem qp:type_of% @Nat.eq_of_beq_eq_true:=@Nat.eq_of_beq_eq_true
theorem qq.{u0}:type_of% @List.length_nil.{u0}:=@List.length_nil.{u0}
theorem qr.{u0}:type_of% @List.mem_of_getElem?.{u0}:=@List.mem_of_getElem?.{u0}
theorem qs.{u0}:type_of% @List.getElem_mem.{u0}:=@List.getElem_mem.{u0}
theorem qt:type_of% @Nat.le_refl:=@Nat.le_refl
theorem qu.{u0}:type_of% @List.mem_cons_self.{u0}:=@List.mem_cons_self.{u0}
theorem qv:type_of% @Bool.and_eq_true:=@Bool.and_eq_true
theorem qw.{u0}:type_of% @beq_eq_false_iff_ne.{u0}:=@beq_eq_false_iff_ne.{u0}
theorem qx.{u0}:type_of% @List.eq_nil_of_length_eq_zero.{u0}:=@List.eq_nil_of_length_eq_zero.{u0}
theorem qy.{u0}:type_of% @List.mem_iff_getElem.{u0}:=@List.mem_iff_getElem.{u0}
theorem qz.{u0}:type_of% @List.mem_cons.{u0}:=@List.mem_cons.{u0}
theorem q8.{u0,u1}:type_of% @List.length_map.{u0,u1}:=@List.length_map.{u0,u1}
theorem q9:type_of% @Bool.not_true:=@Bool.not_true
theorem qaa:type_of% @Nat.zero_le:=@Nat.zero_le
theorem qab:type_of% @Nat.le_of_ble_eq_true:=@Nat.le_of_ble_eq_true
theorem qac.{u0,u1}:type_of% @Prod.mk.injEq.{u0,u1}:=@Prod.mk.injEq.{u0,u1}
theorem qad:type_of% @of_decide_eq_true:=@of_decide_eq_true
theorem qae.{u0}:type_of% @List.drop_eq_nil_of_le.{u0}:=@List.drop_eq_nil_of_le.{u0}
theorem qaf.{u0,u1}:type_of% @List.map_cons.{u0,u1}:=@List.map_cons.{u0,u1}
theorem qag.{u0}:type_of% @List.drop_eq_getElem_cons.{u0}:=@List.drop_eq_getElem_cons.{u0}
theorem qah.{u0}:type_of% @List.mem_append.{u0}:=@List.mem_append.{u0}
theorem qai.{u0}:type_of% @Array.getD_eq_getD_getElem?.{u0}:=@Array.getD_eq_getD_getElem?.{u0}
theorem qaj.{u0}:type_of% @List.length_take.{u0}:=@List.length_take.{u0}
theorem qak.{u0,u1}:type_of% @List.flatMap_cons.{u0,u1}:=@List.flatMap_cons.{u0,u1}
theorem qal:type_of% @of_decide_eq_false:=@of_decide_eq_false
theorem qam.{u0,u1}:type_of% @List.mem_map.{u0,u1}:=@List.mem_map.{u0,u1}
theorem qan.{u0}:type_of% @List.append_assoc.{u0}:=@List.append_assoc.{u0}
theorem qao.{u0}:type_of% @Option.getD_some.{u0}:=@Option.getD_some.{u0}
theorem qap:type_of% @Bool.not_false:=@Bool.not_false
theorem qaq.{u0}:type_of% @List.mem_singleton.{u0}:=@List.mem_singleton.{u0}
theorem qar.{u0}:type_of% @Array.length_toList.{u0}:=@Array.length_toList.{u0}
theorem qas.{u0}:type_of% @List.length_drop.{u0}:=@List.length_drop.{u0}
theorem qat:type_of% @Nat.lt_or_ge:=@Nat.lt_or_ge
theorem qau:type_of% @Nat.le_trans:=@Nat.le_trans
theorem qav:type_of% @Bool.false_eq_true:=@Bool.false_eq_true
theorem qaw:type_of% @UInt8.toNat_inj:=@UInt8.toNat_inj
theorem qax:type_of% @Nat.mul_le_mul_right:=@Nat.mul_le_mul_right
theorem qay.{u0}:type_of% @List.length_singleton.{u0}:=@List.length_singleton.{u0}
theorem qaz.{u0,u1}:type_of% @Option.map_some.{u0,u1}:=@Option.map_some.{u0,u1}
end Go.Proofs.YtaimpcnpifoidaaGreatDoor
set_option linter.unusedVariables false
set_option linter.unusedSimpArgs false
namespace Go.Proofs.YtaimpcnpifoidaaGreatDoor
open Go Go.Proofs
open Go.Shelf
def kxp:Go.Shelf.Ren:=⟨fun | 246=>151 | 283=>174 | 284=>175 | 285=>176 | 286=>177 | 129=>196 | 317=>195 | 318=>197 | 319=>198 | 320=>199 | 337=>211 | 338=>212 | n=>n,fun | 2=>2 | 3=>3 | 9=>9 | 4=>4 | 171=>217 | 0=>0 | 53=>218 | 37=>56 | 5=>5 | 173=>221 | 212=>236 | 51=>224 | 20=>20 | 213=>237 | 46=>198 | 232=>250 | 233=>251 | n=>n,fun | 17=>1 | 18=>4 | 19=>5 | n=>n⟩
theorem k21:Go.Proofs.LaysM.n246 Tryz.prog kxp:={
 mixed:=by kernel_rfl
 f129:=Tryz.func196.trans (congrArg some (by kernel_rfl))
 f246:=Tryz.func151.trans (congrArg some (by kernel_rfl))
 f283:=Tryz.func174.trans (congrArg some (by kernel_rfl))
 f284:=Tryz.func175.trans (congrArg some (by kernel_rfl))
 f285:=Tryz.func176.trans (congrArg some (by kernel_rfl))
 f286:=Tryz.func177.trans (congrArg some (by kernel_rfl))
 f317:=Tryz.func195.trans (congrArg some (by kernel_rfl))
 f318:=Tryz.func197.trans (congrArg some (by kernel_rfl))
 f319:=Tryz.func198.trans (congrArg some (by kernel_rfl))
 f320:=Tryz.func199.trans (congrArg some (by kernel_rfl))
 f337:=Tryz.func211.trans (congrArg some (by kernel_rfl))
 f338:=Tryz.func212.trans (congrArg some (by kernel_rfl))
 t0:=Tryz.underlying0
 a0:=Tryz.isAgg0
 z0:=Tryz.sizeOf0
 v0:=Tryz.zeroValue0
 t2:=Tryz.underlying2
 a2:=Tryz.isAgg2
 z2:=Tryz.sizeOf2
 v2:=Tryz.zeroValue2
 t3:=Tryz.underlying3
 a3:=Tryz.isAgg3
 z3:=Tryz.sizeOf3
 v3:=Tryz.zeroValue3
 t4:=Tryz.underlying4
 a4:=Tryz.isAgg4
 z4:=Tryz.sizeOf4
 v4:=Tryz.zeroValue4
 t5:=Tryz.underlying5
 a5:=Tryz.isAgg5
 z5:=Tryz.sizeOf5
 v5:=Tryz.zeroValue5
 t9:=Tryz.underlying9
 a9:=Tryz.isAgg9
 z9:=Tryz.sizeOf9
 v9:=Tryz.zeroValue9
 t20:=Tryz.underlying20
 a20:=Tryz.isAgg20
 z20:=Tryz.sizeOf20
 v20:=Tryz.zeroValue20
 t37:=Tryz.underlying56
 a37:=Tryz.isAgg56
 z37:=Tryz.sizeOf56
 v37:=Tryz.zeroValue56
 t46:=Tryz.underlying198
 a46:=Tryz.isAgg198
 z46:=Tryz.sizeOf198
 v46:=Tryz.zeroValue198
 t51:=Tryz.underlying224
 a51:=Tryz.isAgg224
 z51:=Tryz.sizeOf224
 v51:=Tryz.zeroValue224
 t53:=Tryz.underlying218
 a53:=Tryz.isAgg218
 z53:=Tryz.sizeOf218
 v53:=Tryz.zeroValue218
 t171:=Tryz.underlying217
 a171:=Tryz.isAgg217
 z171:=Tryz.sizeOf217
 v171:=Tryz.zeroValue217
 t173:=Tryz.underlying221
 a173:=Tryz.isAgg221
 z173:=Tryz.sizeOf221
 v173:=Tryz.zeroValue221
 t212:=Tryz.underlying236
 a212:=Tryz.isAgg236
 z212:=Tryz.sizeOf236
 v212:=Tryz.zeroValue236
 t213:=Tryz.underlying237
 a213:=Tryz.isAgg237
 z213:=Tryz.sizeOf237
 t232:=Tryz.underlying250
 a232:=Tryz.isAgg250
 z232:=Tryz.sizeOf250
 v232:=Tryz.zeroValue250
 t233:=Tryz.underlying251
 a233:=Tryz.isAgg251
 z233:=Tryz.sizeOf251
 v233:=Tryz.zeroValue251
 g17:=by kernel_rfl
 g18:=by kernel_rfl
 g19:=by kernel_rfl
 i0:=by kernel_rfl
 i2:=by kernel_rfl
 i3:=by kernel_rfl
 i4:=by kernel_rfl
 i5:=by kernel_rfl
 i9:=by kernel_rfl
 i20:=by kernel_rfl
 i37:=by kernel_rfl
 i46:=by kernel_rfl
 i51:=by kernel_rfl
 i53:=by kernel_rfl
 i171:=by kernel_rfl
 i173:=by kernel_rfl
 i212:=by kernel_rfl
 i232:=by kernel_rfl
 i233:=by kernel_rfl
 m17:=by kernel_rfl
 m18:=by kernel_rfl
 m19:=by kernel_rfl }
open Go.RowKit Go.Sort Go.Lib in
theorem kwo (n : Int) (h0 : -9223372036854775808 ≤ n) (h1 : n ≤ 9223372036854775807) (w : World) (htab : Lib.TabIs Tryz.prog w "internal/strconv.uint64pow10" .u64 Lib.pow10Tab) :
  Calls Tryz.prog 151 #[.int .i64 n, .int .i64 10] w fun e w'=>e = .returned (.string ⟨(Lib.itoa n).toArray⟩)∧∃ k os,w'=grow (w.drewN k) os:=Any.internal_strconv_FormatInt_10 k21 n h0 h1 w htab
def powV:Array Value:=(Lib.pow10Tab.map fun z=>Value.int .u64 z).toArray
theorem kaen : ∀ (n : Int), -9223372036854775808 ≤ n → n ≤ 9223372036854775807 → ∀ w : World, w.var? Tryz.prog "internal/strconv.uint64pow10" = some powV →
  Calls Tryz.prog 151 #[.int .i64 n, .int .i64 10] w fun e w'=>e = .returned (.string ⟨(Lib.itoa n).toArray⟩)∧∃ k os,w'=Sort.grow (w.drewN k) os:=fun n h0 h1 w h=>kwo n h0 h1 w h
end Go.Proofs.YtaimpcnpifoidaaGreatDoor
