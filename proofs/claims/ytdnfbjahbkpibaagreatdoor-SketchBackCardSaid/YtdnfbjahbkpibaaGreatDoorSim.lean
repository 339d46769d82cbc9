import Derived.Shelf.LaysM
import Derived.Shelf.Strconv.Itoa3
import Derived.Test.YtdnfbjahbkpibaaGreatDoorProg
import Derived.WalkKit
import Derived.WalkSpells
import Derived.WalkLawsBesides
import Derived.OrdersIn
import Derived.LoopNIn
import Derived.TacticsIn
import Derived.RangeFuncCalls
import Derived.Lib.Hide
import Derived.KernelRfl
import Derived.Maps.AppendAt
import Derived.Deep.AppendLies
import Derived.ChangeMaps5
import Derived.JoinedOf
import Derived.Test.YtdnfbjahbkpibaaGreatDoorRows
import Derived.LoopN
namespace Go.Proofs.YtdnfbjahbkpibaaGreatDoor
abbrev BA:=ByteArray
theorem qa.{u0,u1}:type_of% @Option.bind_some.{u0,u1}:=@Option.bind_some.{u0,u1}
theorem qb.{u0}:type_of% @List.getElem?_eq_getElem.{u0}:=@List.getElem?_eq_getElem.{u0}
theorem qc.{u0}:type_of% @Option.some.injEq.{u0}:=@Option.some.injEq.{u0}
theorem qd.{u0}:type_of% @cond_false.{u0}:=@cond_false.{u0}
theorem qe.{u0}:type_of% @cond_true.{u0}:=@cond_true.{u0}
theorem qf.{u0}:type_of% @List.getElem?_eq_some_iff.{u0}:=@List.getElem?_eq_some_iff.{u0}
theorem qg:type_of% @decide_eq_false:=@decide_eq_false
theorem qh.{u0}:type_of% @List.mem_cons_of_mem.{u0}:=@List.mem_cons_of_mem.{u0}
theorem qi.{u0}:type_of% @if_neg.{u0}:=@if_neg.{u0}
theorem qj.{u0}:type_of% @List.mem_of_getElem?.{u0}:=@List.mem_of_getElem?.{u0}
theorem qk:type_of% @Nat.eq_of_beq_eq_true:=@Nat.eq_of_beq_eq_true
theorem ql:type_of% @decide_eq_true:=@decide_eq_true
theorem qm.{u0,u1}:type_of% @Option.bind_eq_some_iff.{u0,u1}:=@Option.bind_eq_some_iff.{u0,u1}
theorem qn.{u0,u1}:type_of% @List.getElem?_map.{u0,u1}:=@List.getElem?_map.{u0,u1}
theorem qo.{u0}:type_of% @if_pos.{u0}:=@if_pos.{u0}
theorem qp:type_of% @Nat.le_of_ble_eq_true:=@Nat.le_of_ble_eq_true
theorem qq.{u0,u1}:type_of% @Option.map_eq_some_iff.{u0,u1}:=@Option.map_eq_some_iff.{u0,u1}
theorem qr:type_of% @Bool.and_eq_true:=@Bool.and_eq_true
theorem qs.{u0}:type_of% @Option.some.inj.{u0}:=@Option.some.inj.{u0}
theorem qt.{u0,u1}:type_of% @List.length_map.{u0,u1}:=@List.length_map.{u0,u1}
theorem qu.{u0}:type_of% @List.all_eq_true.{u0}:=@List.all_eq_true.{u0}
theorem qv.{u0}:type_of% @List.mem_cons_self.{u0}:=@List.mem_cons_self.{u0}
theorem qw.{u0,u1}:type_of% @Prod.mk.injEq.{u0,u1}:=@Prod.mk.injEq.{u0,u1}
theorem qx:type_of% @Nat.le_refl:=@Nat.le_refl
theorem qy.{u0}:type_of% @List.length_append.{u0}:=@List.length_append.{u0}
theorem q9.{u0}:type_of% @List.getElem_mem.{u0}:=@List.getElem_mem.{u0}
theorem qaa.{u0}:type_of% @List.getElem?_take.{u0}:=@List.getElem?_take.{u0}
theorem qab.{u0}:type_of% @List.getElem?_append_right.{u0}:=@List.getElem?_append_right.{u0}
theorem qac.{u0}:type_of% @List.getElem?_append_left.{u0}:=@List.getElem?_append_left.{u0}
theorem qad.{u0}:type_of% @List.length_take.{u0}:=@List.length_take.{u0}
theorem qae.{u0}:type_of% @List.mem_cons.{u0}:=@List.mem_cons.{u0}
theorem qaf.{u0}:type_of% @Array.length_toList.{u0}:=@Array.length_toList.{u0}
theorem qag.{u0}:type_of% @List.length_cons.{u0}:=@List.length_cons.{u0}
theorem qah.{u0}:type_of% @List.length_singleton.{u0}:=@List.length_singleton.{u0}
theorem qai.{u0,u1}:type_of% @List.mem_map.{u0,u1}:=@List.mem_map.{u0,u1}
theorem qaj.{u0}:type_of% @List.mem_iff_getElem.{u0}:=@List.mem_iff_getElem.{u0}
theorem qak:type_of% @Nat.zero_le:=@Nat.zero_le
theorem qal.{u0}:type_of% @Array.getElem?_toList.{u0}:=@Array.getElem?_toList.{u0}
theorem qam.{u0}:type_of% @List.getElem?_drop.{u0}:=@List.getElem?_drop.{u0}
theorem qan.{u0,u1,u2}:type_of% @Sum.elim_inl.{u0,u1,u2}:=@Sum.elim_inl.{u0,u1,u2}
theorem qao.{u0}:type_of% @List.drop_eq_getElem_cons.{u0}:=@List.drop_eq_getElem_cons.{u0}
theorem qap.{u0}:type_of% @Array.getElem?_eq_some_iff.{u0}:=@Array.getElem?_eq_some_iff.{u0}
theorem qaq.{u0}:type_of% @Array.getD_eq_getD_getElem?.{u0}:=@Array.getD_eq_getD_getElem?.{u0}
theorem qar.{u0}:type_of% @List.take_succ_eq_append_getElem.{u0}:=@List.take_succ_eq_append_getElem.{u0}
theorem qas.{u0}:type_of% @beq_eq_false_iff_ne.{u0}:=@beq_eq_false_iff_ne.{u0}
theorem qat.{u0}:type_of% @List.mem_append.{u0}:=@List.mem_append.{u0}
theorem qau:type_of% @Nat.mul_le_mul_right:=@Nat.mul_le_mul_right
theorem qav.{u0}:type_of% @List.mem_singleton.{u0}:=@List.mem_singleton.{u0}
theorem qaw.{u0}:type_of% @List.getElem?_cons_succ.{u0}:=@List.getElem?_cons_succ.{u0}
theorem qax.{u0}:type_of% @List.eq_nil_of_length_eq_zero.{u0}:=@List.eq_nil_of_length_eq_zero.{u0}
theorem qay:type_of% @Nat.le_trans:=@Nat.le_trans
theorem qaz:type_of% @Nat.le_of_lt:=@Nat.le_of_lt
theorem qa0.{u0}:type_of% @bne_eq_false_iff_eq.{u0}:=@bne_eq_false_iff_eq.{u0}
theorem qa1.{u0,u1}:type_of% @List.mem_flatMap.{u0,u1}:=@List.mem_flatMap.{u0,u1}
theorem qa2.{u0}:type_of% @List.length_drop.{u0}:=@List.length_drop.{u0}
theorem qa3.{u0,u1}:type_of% @Option.map_some.{u0,u1}:=@Option.map_some.{u0,u1}
theorem qa4.{u0}:type_of% @List.getElem?_eq_none.{u0}:=@List.getElem?_eq_none.{u0}
theorem qa5.{u0,u1}:type_of% @List.map_cons.{u0,u1}:=@List.map_cons.{u0,u1}
theorem qa6.{u0}:type_of% @Array.getElem?_eq_getElem.{u0}:=@Array.getElem?_eq_getElem.{u0}
theorem qa7:type_of% @Nat.add_mul:=@Nat.add_mul
theorem qa8:type_of% @Int.toNat_natCast:=@Int.toNat_natCast
theorem qa9.{u0}:type_of% @Array.getElem?_append_left.{u0}:=@Array.getElem?_append_left.{u0}
theorem qba.{u0,u1,u2}:type_of% @Sum.elim_inr.{u0,u1,u2}:=@Sum.elim_inr.{u0,u1,u2}
theorem qbb:type_of% @of_decide_eq_false:=@of_decide_eq_false
theorem qbc.{u0,u1}:type_of% @congrArg.{u0,u1}:=@congrArg.{u0,u1}
theorem qbd:type_of% @of_decide_eq_true:=@of_decide_eq_true
theorem qbe.{u0}:type_of% @Option.getD_some.{u0}:=@Option.getD_some.{u0}
theorem qbf.{u0}:type_of% @List.length_nil.{u0}:=@List.length_nil.{u0}
theorem qbg.{u0}:type_of% @bne_iff_ne.{u0}:=@bne_iff_ne.{u0}
theorem qbh:type_of% @Nat.lt_of_lt_of_le:=@Nat.lt_of_lt_of_le
theorem qbi:type_of% @Nat.lt_or_ge:=@Nat.lt_or_ge
theorem qbj.{u0}:type_of% @List.drop_eq_nil_of_le.{u0}:=@List.drop_eq_nil_of_le.{u0}
theorem qbk:type_of% @Nat.mul_one:=@Nat.mul_one
theorem qbl.{u0}:type_of% @List.mem_of_mem_take.{u0}:=@List.mem_of_mem_take.{u0}
theorem qbm.{u0}:type_of% @List.take_length.{u0}:=@List.take_length.{u0}
theorem qbn:type_of% @decide_eq_true_eq:=@decide_eq_true_eq
theorem qbo.{u0}:type_of% @List.append_assoc.{u0}:=@List.append_assoc.{u0}
theorem qbp:type_of% @Int.eq_ofNat_of_zero_le:=@Int.eq_ofNat_of_zero_le
theorem qbq:type_of% @List.mem_range:=@List.mem_range
theorem qbr.{u0,u1}:type_of% @List.flatMap_cons.{u0,u1}:=@List.flatMap_cons.{u0,u1}
theorem qbs.{u0}:type_of% @List.mem_of_mem_drop.{u0}:=@List.mem_of_mem_drop.{u0}
theorem qbt.{u0}:type_of% @List.mem_replicate.{u0}:=@List.mem_replicate.{u0}
theorem qbu.{u0}:type_of% @List.length_replicate.{u0}:=@List.length_replicate.{u0}
theorem qbv:type_of% @Bool.not_true:=@Bool.not_true
theorem qbw.{u0}:type_of% @List.ext_getElem?.{u0}:=@List.ext_getElem?.{u0}
theorem qbx.{u0}:type_of% @Array.ext'.{u0}:=@Array.ext'.{u0}
theorem qby:type_of% @Bool.not_eq_true':=@Bool.not_eq_true'
theorem qbz.{u0}:type_of% @List.nil_append.{u0}:=@List.nil_append.{u0}
theorem qb0:type_of% @Bool.false_eq_true:=@Bool.false_eq_true
theorem qb1:type_of% @Bool.or_eq_true:=@Bool.or_eq_true
theorem qb2.{u0}:type_of% @Array.getElem?_eq_none.{u0}:=@Array.getElem?_eq_none.{u0}
theorem qb3.{u0,u1,u2}:type_of% @List.foldlM_cons.{u0,u1,u2}:=@List.foldlM_cons.{u0,u1,u2}
theorem qb4:type_of% @Nat.zero_add:=@Nat.zero_add
theorem qb5.{u0}:type_of% @Array.getElem?_modify.{u0}:=@Array.getElem?_modify.{u0}
theorem qb6.{u0}:type_of% @List.getElem?_toArray.{u0}:=@List.getElem?_toArray.{u0}
theorem qb7.{u0}:type_of% @List.mem_iff_getElem?.{u0}:=@List.mem_iff_getElem?.{u0}
theorem qb8:type_of% @Nat.sub_self:=@Nat.sub_self
theorem qb9.{u0}:type_of% @List.length_set.{u0}:=@List.length_set.{u0}
set_option linter.all false
open Go Go.Proofs
open Go.Shelf
set_option linter.unusedSectionVars false
open Go Go.RowKit
class Rd where
 r:Option Nat
instance (priority:=low) rd0:Rd:=⟨none⟩
section
variable [Rd] {P:Program}
def Fd:Fence:={ fn:=fun _=>True,depth:=none,alive:=false,round:=Rd.r }
def Cwp (P:Program) (c:Code) (Q:Exit->Act->World->Prop) (a:Act) (w:World):Prop:=c.wpIn Fd 0 P Q a w
def Owp (P:Program) (o:Oper) (a:Act) (w:World) (next:Act->World->Prop) (Q:Exit->Act->World->Prop):Prop:=o.wpIn Fd 0 P a w next Q
theorem calls_fd {n:Nat} {f:FuncId} {args:Array Value} {w:World} {R:Ending->World->Prop}:CallsIn Fd n P f args w R↔Calls P f args w R:=callsIn_wide (n:=n)
theorem kyn {n:Nat} {f:FuncId} {args:Array Value} {w:World} {R:Ending->World->Prop} (h:Calls P f args w R):CallsIn Fd n P f args w R:=calls_fd.2 h
theorem kb8 {c:Code} {Q Q':Exit->Act->World->Prop} {a:Act} {w:World} (h:Cwp P c Q a w) (b:∀ e a w,Q e a w->Q' e a w):Cwp P c Q' a w:=wpIn_mono h b
theorem k7p {Q:Exit->Act->World->Prop} {a:Act} {w:World} (h:Q .normal a w):Cwp P .skip Q a w:=wpIn_skip h
theorem kado {l:Nat} {Q:Exit->Act->World->Prop} {a:Act} {w:World} (h:Q .normal a w):Cwp P (.label l) Q a w:=wpIn_label h
theorem k8c {id:Nat} {Q:Exit->Act->World->Prop} {a:Act} {w:World} (h:Q (.exit id) a w):Cwp P (.exit id) Q a w:=wpIn_exit h
theorem kach {Q:Exit->Act->World->Prop} {a:Act} {w:World} (h:Q .ret a w):Cwp P .ret Q a w:=wpIn_ret h
theorem kvj {x y:Code} {Q:Exit->Act->World->Prop} {a:Act} {w:World} (h:Cwp P x (Exit.then (Cwp P y Q) Q) a w):Cwp P (.seq x y) Q a w:=wpIn_seq h
theorem k7s {c:Operand} {x y:Code} (t:Bool) {Q:Exit->Act->World->Prop} {a:Act} {w:World} (hc:a.eval c = .bool t) (h:Cwp P (if t then x else y) Q a w):Cwp P (.cond c x y) Q a w:=wpIn_cond hc h
theorem kx0 {id:Nat} {c:Code} {Q:Exit->Act->World->Prop} {a:Act} {w:World} (h:Cwp P c (Exit.inBlock id Q) a w):Cwp P (.block id c) Q a w:=wpIn_block h
def kke (P:Program) (c:Code) (Q:Exit->Act->World->Prop):Nat->Act->World->Prop
 | 0,_,_=>False
 | n+1,a,w=>Cwp P c (Exit.then (kke P c Q n) Q) a w
theorem kls {Q:Exit->Act->World->Prop} {n:Nat} {a:Act} {w:World} {c:Code}:kke P c Q (n+1) a w=Cwp P c (Exit.then (kke P c Q n) Q) a w:=rfl
theorem k15 {c:Code} {Q:Exit->Act->World->Prop}:∀ (n:Nat) (a:Act) (w:World),kke P c Q n a w->Code.roundsIn Fd 0 P c Q n a w
 | 0,_,_,h=>h
 | n+1,a,w,h=>wpIn_mono h fun e a w q=>by cases e <;> first | exact k15 n a w q | exact q
theorem knz {Q:Exit->Act->World->Prop} {a:Act} {w:World} {c:Code} (n:Nat) (h:kke P c Q n a w):Cwp P (.loop c) Q a w:=wpIn_loop_rounds n (k15 n a w h)
theorem k4o {o:Oper} {a:Act} {w:World} {K K':Act->World->Prop} {Q Q':Exit->Act->World->Prop} (h:∀ a w,K a w->K' a w) (g:∀ e a w,e ≠ .normal->Q e a w->Q' e a w) (hh:Owp P o a w K Q):Owp P o a w K' Q':=by
 unfold Owp Oper.wpIn at hh ⊢;refine ⟨hh.1,?_⟩;have hh:=hh.2;generalize (o.semAt Fd.round a.eval).run P w=r at hh ⊢;have hl:LetsOut Q->LetsOut Q':=fun ⟨a',w',i⟩=>⟨a',w',g _ _ _ (fun e=>nomatch e) i⟩;cases r with
 | ok n w'=>
  cases n <;> simp only [Oper.uponIn] at hh ⊢
  case value v=>exact h _ _ hh
  case skip=>exact h _ _ hh
  case defer d=>exact h _ _ hh
  case enter f args=>
   refine ⟨hh.1,hh.2.mono fun e w'' b=>?_⟩;cases e with
   | returned v=>exact h _ _ b
   | panicked c=>exact g _ _ _ (fun e=>nomatch e) b
   | outgrown=>exact hl b
  case row r args=>exact ⟨hh.1,hh.2.mono fun v w'' b=>h _ _ b⟩
  case round l f tmps assign body=>
   refine ⟨hh.1,hh.2.mono fun e w'' b=>?_⟩;cases e with
   | returned v=>exact h _ _ b
   | panicked c=>exact g _ _ _ (fun e=>nomatch e) b
   | outgrown=>exact hl b
 | halt x w'=>
  cases x <;> simp only [Oper.uponIn] at hh ⊢;exact g _ _ _ (fun e=>nomatch e) hh
theorem k0w {o:Oper} {a:Act} {w:World} {K K':Act->World->Prop} {Q Q':Exit->Act->World->Prop} (h:∀ a w,K a w->K' a w) (b:∀ e a w,Q e a w->Q' e a w) (hh:Owp P o a w K Q):Owp P o a w K' Q':=k4o h (fun e a w _ k=>b e a w k) hh
def kba (P:Program) (ops:Array Oper) (Q:Exit->Act->World->Prop):List Oper->Act->World->Prop
 | [],a,w=>Q .normal a w
 | o::rest,a,w=>if Region.wanted o (yielded ops a.tmps) then Owp P o a w (kba P ops Q rest) Q else kba P ops Q rest (a.put o.dst undef) w
theorem kdh {ops:Array Oper} {Q Q':Exit->Act->World->Prop} (b:∀ e a w,Q e a w->Q' e a w):∀ (l:List Oper) (a:Act) (w:World),kba P ops Q l a w->kba P ops Q' l a w
 | [],a,w,h=>b _ _ _ h
 | o::l,a,w,h=>by
  unfold kba at h ⊢;split at h;rename_i c;rw [qo c];exact k0w (kdh b l) b h
  ·rename_i c;rw [qi c];exact kdh b l _ _ h
theorem kuu {ops:Array Oper} {Q:Exit->Act->World->Prop}:∀ (l:List Oper) (a:Act) (w:World),kba P ops Q l a w->wpListIn Fd 0 P ops Q l a w
 | [],a,w,h=>h
 | o::l,a,w,h=>by
  unfold kba at h;unfold wpListIn;split at h;rename_i b;rw [qo b];exact k0w (kuu l) (fun _ _ _ h=>h) h
  ·rename_i b;rw [qi b];exact ⟨fun _ _=>trivial,kuu l _ _ h⟩
theorem kn9 {id:Nat} {ops:Array Oper} {Q:Exit->Act->World->Prop} {a:Act} {w:World} (h:kba P ops Q ops.toList a w):Cwp P (.region id ops false) Q a w:=wpIn_region_list (kuu _ _ _ h)
def wpOp (P:Program) (ops:Array Oper) (Q:Exit->Act->World->Prop) (i:Nat) (K:Act->World->Prop) (a:Act) (w:World):Prop:=
 match ops[i]? with
 | none=>K a w
 | some o=>if Region.wanted o (yielded ops a.tmps) then Owp P o a w K Q else K (a.put o.dst undef) w
theorem kmi {ops:Array Oper} {Q:Exit->Act->World->Prop} {i:Nat} {a:Act} {w:World} {K K':Act->World->Prop} (h:∀ a w,K a w->K' a w) (hh:wpOp P ops Q i K a w):wpOp P ops Q i K' a w:=by
 unfold wpOp at *
 split;exact h _ _ (by simpa [*] using hh)
 ·rename_i o c;simp only [c] at hh;split;rename_i b;simp only [b,if_true] at hh;exact k0w h (fun _ _ _ h=>h) hh
  ·rename_i b;simp only [b] at hh;exact h _ _ hh
def kpo (P:Program) (md:Region.Mode) (ops:Array Oper) (Q:Exit->Act->World->Prop):Nat->Array Bool->Act->World->Prop
 | 0,listed,a,w=>Region.ready md ops listed=[]/\Q .normal a w
 | fuel+1,listed,a,w=>
  (Region.ready md ops listed=[]->Q .normal a w) /\
  ∀ i∈Region.ready md ops listed,wpOp P ops Q i (kpo P md ops Q fuel (listed.setIfInBounds i true)) a w
theorem k4j {md:Region.Mode} {ops:Array Oper} {Q:Exit->Act->World->Prop}:∀ (fuel:Nat) (listed:Array Bool) (a:Act) (w:World),kpo P md ops Q fuel listed a w->wpAnyIn Fd 0 P md ops Q fuel listed a w
 | 0,_,_,_,h=>h
 | fuel+1,listed,a,w,h=>⟨h.1,fun i hi=>by
  have hh:=kmi (k4j fuel (listed.setIfInBounds i true)) (h.2 i hi);unfold wpOp at hh;unfold wpOpIn;split at hh;rename_i b;simp only [b];exact hh
  ·rename_i o b;simp only [b];split at hh;rename_i c;rw [qo c];exact hh
   ·rename_i c;rw [qi c];exact ⟨fun _ _=>trivial,hh⟩⟩
theorem k26 {id:Nat} {ops:Array Oper} {Q:Exit->Act->World->Prop} {a:Act} {w:World} (hm:P.follows .mixedOrders=true) (h:kpo P .any ops Q ops.size (Array.replicate ops.size false) a w.drew):Cwp P (.region id ops true) Q a w:=
 wpIn_region_any hm (k4j _ _ _ _ h)
end
theorem wp_wide {P:Program} {c:Code} {Q:Exit->Act->World->Prop} {a:Act} {w:World}:@Cwp rd0 P c Q a w↔c.wp P Q a w:=wpIn_wide (n:=0)
class Dr where
 on:Bool
instance (priority:=low) dr0:Dr:=⟨false⟩
theorem kacw {α:Type} (q:Ask α):∀ w:World,w.drawn<=(w.ask q).2.drawn:=by
 induction q with
 | done a=>intro w;exact qx _
 | ask what range k ih=>
  intro w;rw [World.ask];split;exact ih 0 w
  ·have q:=ih ((Question.extern what range).cut (w.tape w.drawn (Question.extern what range))) { w with drawn:=w.drawn+1 };exact qay (Nat.le_succ w.drawn) q
theorem kaa5 {P:Program} {w w':World} {a:Addr} {v:Value} {b:Bool} {l:List Addr} (h:w.farStore P a v b = .ok (w',l)):w'.drawn=w.drawn:=by
 unfold World.farStore at h;split at h
 ·split at h
  ·rename_i hr;injection h with h;subst h;unfold World.viewStore at hr;simp only [bind,Except.bind,pure,Except.pure] at hr
   repeat' split at hr
   all_goals first | (cases hr;done) | (injection hr with hr;injection hr with hr _;subst hr;rfl) | skip
  ·cases h
 ·cases h
theorem k95 {α:Type} {P:Program} (s:Sem α):∀ (w w':World) (v:α),s.run P w = .ok v w'->w.drawn<=w'.drawn:=by
 induction s with
 | pure a=>intro w w' v h;rw [Sem.run] at h;cases h;exact qx _
 | load m a k ih=>
  intro w w' v h;rw [Sem.run] at h;split at h
  ·(have q:=ih _ _ _ _ h;exact q)
  ·split at h
   ·(have q:=ih _ _ _ _ h;exact q)
   ·cases h
 | store m a x k ih=>
  intro w w' v h;by_cases h1:∃ c,x = .agg c;obtain ⟨c,rfl⟩:=h1;rw [Sem.run] at h;cases h;by_cases d:∃ c,x = .tuple c;obtain ⟨c,rfl⟩:=d;rw [Sem.run] at h;cases h;rw [Sem.run] at h
  ·split at h
   ·split at h;cases h
    ·(have q:=ih _ _ _ h;exact q)
   ·split at h;rename_i f;(have q:=ih _ _ _ h;rw [kaa5 f] at q;exact q)
    ·cases h
  exact fun c e=>h1 ⟨c,e⟩
  ·exact fun c e=>d ⟨c,e⟩
 | new o k ih=>intro w w' v h;rw [Sem.run] at h;(have q:=ih _ _ _ _ h;exact q)
 | shape r k ih=>intro w w' v h;rw [Sem.run] at h;(have q:=ih _ _ _ _ h;exact q)
 | freeze a n k ih=>intro w w' v h;rw [Sem.run] at h;have:=ih _ _ _ h;unfold World.freeze at this;split at this <;> exact this
 | frozen a k ih=>intro w w' v h;rw [Sem.run] at h;(have q:=ih _ _ _ _ h;exact q)
 | getObj r k ih=>
  intro w w' v h;rw [Sem.run] at h;split at h;cases h
  ·(have q:=ih _ _ _ _ h;exact q)
  ·cases h
 | setObj r o k ih=>
  intro w w' v h;rw [Sem.run] at h;split at h;cases h
  ·(have q:=ih _ _ _ h;exact q)
  ·cases h
 | choose q k ih=>
  intro w w' v h;rw [Sem.run] at h;split at h
  ·(have q:=ih _ _ _ _ h;exact q)
  ·have q:=ih _ _ _ _ h;exact qay (Nat.le_succ w.drawn) q
 | sys c k ih=>
  intro w w' v h;rw [Sem.run] at h;have q:=ih _ _ _ _ h;refine qay ?_ q;unfold World.sys;have:=kacw (Kernel.perform c w.os) w;split;exact qx _
  ·rename_i b;rw [b] at this;exact this
 | program k ih=>intro w w' v h;rw [Sem.run] at h;(have q:=ih _ _ _ _ h;exact q)
 | mark m k ih=>intro w w' v h;rw [Sem.run] at h;(have q:=ih _ _ _ h;exact q)
 | halt y=>intro w w' v h;rw [Sem.run] at h;cases h
theorem kq0 {α:Type} {P:Program} {s:Sem α} {w w':World} {v:α} (h:s.run P w = .ok v w'):w.drawn<=w'.drawn:=k95 s w w' v h
variable [Dr]
structure Below (B:Nat) (w w':World):Prop extends RowKit.Below B w w' where
 drawn:Dr.on=true->w.drawn<=w'.drawn
omit [Dr] in
theorem no0 {p:Prop} (d:@Dr.on dr0=true):p:=by have d:false=true:=d;cases d
theorem Below.kit {B:Nat} {w w':World} (hd:Dr.on=false) (h:RowKit.Below B w w'):Below B w w':=⟨h,fun d=>by rw [hd] at d;cases d⟩
theorem Below.refl (B:Nat) (w:World):Below B w w:=⟨.refl _ _,fun _=>qx _⟩
theorem Below.trans {B:Nat} {a b c:World} (h:Below B a b) (k:Below B b c):Below B a c:=⟨h.toBelow.trans k.toBelow,fun d=>qay (h.drawn d) (k.drawn d)⟩
theorem Below.mono {B B':Nat} {w w':World} (h:Below B w w') (a:B'<=B):Below B' w w':=⟨h.toBelow.mono a,h.drawn⟩
theorem Below.drew {B:Nat} {a w:World} (h:Below B a w):Below B a w.drew:=⟨h.toBelow.drew,fun d=>Nat.le_succ_of_le (h.drawn d)⟩
theorem Below.alloc {B:Nat} {a w:World} (h:Below B a w) (b:B<=w.heap.size) (o:Obj):Below B a (w.alloc o):=⟨h.toBelow.alloc b o,h.drawn⟩
inductive Gd where
 | det (c:Value)
 | rel (G:Value->World->Prop) (h:∀ v w w',G v w->Below w.heap.size w w'->G v w')
def Gd.holds:Gd->Value->World->Prop
 | .det c,v,_=>v=c
 | .rel G _,v,w=>G v w
def RetBy (R:Value->World->Prop) (e:Ending) (w:World):Prop:=∃ u,e = .returned u/\R u w
def kmm (P:Program) (R:Value->World->Prop):Result Next->Prop
 | .ok (.value u) w'=>R u w'
 | .ok .skip w'=>R undef w'
 | .ok (.enter f args) w'=>Calls P f args w' (RetBy R)
 | _=>False
def kdf (P:Program) (o:Oper) (a:Act) (w:World) (R:Value->World->Prop):Prop:=kmm P R ((execOp a.eval o).run P w)
def kh8 (o:Oper) (j:Nat):Bool:=o.after.toList.any fun e=>e.on == j && Region.binds .any e
def kpv (l:List Oper):Array Nat:=
 l.foldl (fun acc o=>acc.push (o.after.toList.foldl (fun s e=>if Region.binds .any e then s ||| 2 ^ e.on ||| acc.getD e.on 0 else s) 0)) #[]
def k30 (l:List Oper) (n s:Nat):Bool:=
 Region.noSelect l.toArray && decide (n<=l.length) &&
 (l.zipIdx.all fun (o,k)=>o.after.toList.all fun e=>!Region.binds .any e || decide (e.on<k)) &&
 ((l.take n).all fun o=>match o.dst with | some d=>decide (d<s) | none=>true) &&
 ((l.take n).zipIdx.all fun (o,i)=>(l.take n).zipIdx.all fun (p,j)=>i == j || o.dst.isNone || o.dst != p.dst) &&
 ((l.take n).zipIdx.all fun (o,i)=>(o.looksAt l.toArray).all fun t=>(l.take n).zipIdx.all fun (p,j)=>i == j || p.dst != some t || kh8 o j || kh8 p i)
def relB (l:List Oper) (n s:Nat):Bool:=
 let m:=kpv l
 k30 l n s && (l.zipIdx.all fun (_,k)=>decide (k<n) || (List.range k).all fun j=>(m.getD k 0).testBit j)
variable {P:Program}
theorem kjv {o:Oper} {a:Act} {w:World} {R R':Value->World->Prop} (h:∀ v w',R v w'->R' v w') (hh:kdf P o a w R):kdf P o a w R':=by
 unfold kdf at *
 generalize (execOp a.eval o).run P w=r at *
 cases r with
 | ok n w'=>
  cases n <;> simp only [kmm] at hh ⊢
  case enter f args=>exact hh.mono fun e w'' ⟨u,b,c⟩=>⟨u,b,h _ _ c⟩
  all_goals exact h _ _ hh
 | halt x w'=>simp only [kmm] at hh
theorem kwl [Rd] {o:Oper} {a:Act} {w:World} {r:Result Next} {K:Act->World->Prop} {Q:Exit->Act->World->Prop} (hn:∀ c,o.op ≠ .defer c) (hr:(execOp a.eval o).run P w=r) (h:o.uponIn Fd 0 P a K Q r):Owp P o a w K Q:=by
 refine ⟨fun _ _=>trivial,?_⟩;have e:o.semAt Fd.round a.eval=execOp a.eval o:=by
  cases b:Fd.round with
  | none=>rfl
  | some l=>exact Oper.semAt_some l _ _ hn
 rw [e,hr];exact h
theorem k38 [Rd] {o:Oper} {a:Act} {w w':World} {f:FuncId} {vs:Array Value} {K:Act->World->Prop} {Q:Exit->Act->World->Prop} (hn:∀ c,o.op ≠ .defer c) (hr:(execOp a.eval o).run P w = .ok (.enter f vs) w') (h:Calls P f vs w' fun
   | .returned v,w''=>K (a.put o.dst v) w''
   | .panicked chain,w''=>Q (.panic chain) a w''
   | .outgrown,_=>LetsOut Q):Owp P o a w K Q:=
 kwl hn hr ⟨fun h=>(by cases h),kyn h⟩
theorem k41 {o:Oper} {a:Act} {w:World} {r:Result Next} {K:Act->World->Prop} {Q:Exit->Act->World->Prop} (hr:(execOp a.eval o).run P w=r) (h:o.uponIn Fd 0 P a K Q r):Owp P o a w K Q:=
 ⟨fun _ _=>trivial,by show o.uponIn _ _ _ _ _ _ ((execOp a.eval o).run P w);rw [hr];exact h⟩
theorem kaa1 {o:Oper} {a:Act} {w:World} {R:Value->World->Prop} (hh:kdf P o a w R):∀ c,o.op ≠ .defer c:=fun c hc=>by
 unfold kdf at hh;have e:(execOp a.eval o).run P w=((do let d <- resolve a.eval c o.type;pure (.defer d)):Sem Next).run P w:=by unfold execOp;rw [hc]
 rw [e,Sem.run_bind] at hh;generalize (resolve a.eval c o.type).run P w=r at hh;cases r with
 | ok d w'=>simp only [Result.andThen,Sem.run_pure,kmm] at hh
 | halt x w'=>simp only [Result.andThen,kmm] at hh
theorem kkf [Rd] {o:Oper} {a:Act} {w:World} {R:Value->World->Prop} {K:Act->World->Prop} {Q:Exit->Act->World->Prop}
  (h:∀ v w',R v w'->K (a.put o.dst v) w') (hh:kdf P o a w R):Owp P o a w K Q:=by
 refine kwl (kaa1 hh) rfl ?_;unfold kdf at hh;generalize (execOp a.eval o).run P w=r at *
 cases r with
 | ok n w'=>
  cases n <;> simp only [kmm] at hh <;> simp only [Oper.uponIn]
  case enter f args=>exact ⟨fun h=>(by cases h),kyn (hh.mono fun e w'' ⟨u,b,c⟩=>by subst b;exact h _ _ c)⟩
  all_goals exact h _ _ hh
 | halt x w'=>simp only [kmm] at hh
def Good (l:List Oper) (acc:Array Nat):Prop:=
 acc.size=l.length/\∀ k o,l[k]?=some o->∀ j,(acc.getD k 0).testBit j=true ->
  ∃ e∈o.after,Region.binds .any e=true/\(e.on=j\/(e.on<k/\(acc.getD e.on 0).testBit j=true))
theorem k2f (acc:Array Nat) (j:Nat):∀ (es:List Edge) (s:Nat),
  (es.foldl (fun s e=>if Region.binds .any e then s ||| 2 ^ e.on ||| acc.getD e.on 0 else s) s).testBit j=true ->
  s.testBit j=true\/∃ e∈es,Region.binds .any e=true/\(e.on=j\/(acc.getD e.on 0).testBit j=true)
 | [],s,h => .inl h
 | e::es,s,h=>by
  simp only [List.foldl_cons] at h;rcases k2f acc j es _ h with h | ⟨e',b,a,h⟩
  ·by_cases a:Region.binds .any e=true
   ·rw [qo a,Nat.testBit_or,Nat.testBit_or,qb1,qb1] at h;rcases h with (h | h) | h;exact .inl h;rw [Nat.testBit_two_pow] at h;exact .inr ⟨e,by simp,a, .inl (by simpa using h)⟩
    ·exact .inr ⟨e,by simp,a, .inr h⟩
   ·rw [qi a] at h;exact .inl h
  ·exact .inr ⟨e',qh _ b,a,h⟩
theorem kacb {l:List Oper} {acc:Array Nat} (h:Good l acc) (o:Oper):
  Good (l++[o]) (acc.push (o.after.toList.foldl (fun s e=>if Region.binds .any e then s ||| 2 ^ e.on ||| acc.getD e.on 0 else s) 0)):=by
 obtain ⟨hs,q⟩:=h;refine ⟨by simp [hs],fun k p hk j c=>?_⟩;have old:∀ i,i<acc.size->∀ x,(acc.push x).getD i 0=acc.getD i 0:=fun i hi x=>by simp [Array.getElem?_push,Nat.ne_of_lt hi]
 by_cases d:k<l.length;rw [qac d] at hk;rw [old k (by omega)] at c;obtain ⟨e,f,g,h⟩:=q k p hk j c;refine ⟨e,f,g,h.imp id fun ⟨h1,r⟩=>⟨h1,?_⟩⟩;rw [old _ (by omega)];exact r
 ·have a:k=l.length:=by have:=(qf.1 hk).1;simp at this;omega
  subst a;simp at hk;subst hk;have b:∀ x,(acc.push x).getD l.length 0=x:=fun x=>by rw [<- hs];simp
  rw [b] at c;rcases k2f acc j _ 0 c with h | ⟨e,f,g,h⟩;simp at h
  ·refine ⟨e,by simpa using f,g,?_⟩;rcases h with h | h;exact .inl h
   ·have m:e.on<acc.size:=by
     rcases qbi e.on acc.size with n | n;exact n
     ·simp [qb2 n] at h
    exact .inr ⟨by omega,by rw [old _ m];exact h⟩
theorem k12:∀ (l r:List Oper) (acc:Array Nat),Good r acc ->
  Good (r++l) (l.foldl (fun acc o=>acc.push (o.after.toList.foldl (fun s e=>if Region.binds .any e then s ||| 2 ^ e.on ||| acc.getD e.on 0 else s) 0)) acc)
 | [],r,acc,h=>by simpa using h
 | o::l,r,acc,h=>by have:=k12 l (r++[o]) _ (kacb h o);simpa using this
theorem kaag (l:List Oper):Good l (kpv l):=by exact k12 l [] #[] ⟨rfl,fun k o h=>by simp at h⟩
theorem kmz {l:List Oper} {S:Nat->Prop} (hS:∀ k o,S k->l[k]?=some o->∀ e∈o.after,Region.binds .any e=true->S e.on):
  ∀ (k:Nat) (o:Oper),l[k]?=some o->(∀ e∈o.after,Region.binds .any e=true->S e.on)->∀ j,((kpv l).getD k 0).testBit j=true->S j:=by
 intro k
 induction k using Nat.strongRecOn with
 | _ k ih=>
  intro o g a j n;obtain ⟨e,i,m,h⟩:=(kaag l).2 k o g j n;rcases h with rfl | ⟨c,h⟩;exact a e i m
  ·have hk:k<l.length:=(qf.1 g).1;have b:l[e.on]?=some (l[e.on]'(by omega)):=qb (by omega);exact ih e.on c _ b (fun e' d f=>hS e.on _ (a e i m) b e' d f) j h
theorem kxy (a:Act) (d:Option Tmp) (v:Value):(a.put d v).tmps.size=a.tmps.size:=by cases d <;> simp [Act.put]
theorem k63 (a:Act) (d:Option Tmp) (v:Value):(a.put d v).defers=a.defers:=by cases d <;> rfl
variable {gs:List Gd} {l:List Oper} {xs:Nat->Value} {a0:Act}
theorem k1j (m:Nat) {listed:Array Bool} {i:Nat} (hi:i<m) (d:listed.getD i true=false) (hs:i<listed.size):
  ((List.range m).countP fun k=>!(listed.setIfInBounds i true).getD k true)<(List.range m).countP fun k=>!listed.getD k true:=by
 have a:List.range m=List.range i++i::(List.range (m - (i+1))).map (i+1+·):=by rw [show m=i+1+(m - (i+1)) by omega,List.range_add,List.range_succ];simp
 have b:∀ L:List Nat,(L.countP fun k=>!(listed.setIfInBounds i true).getD k true)<=L.countP fun k=>!listed.getD k true:=fun L=>by
  refine List.countP_mono_left fun k _ hk=>?_;by_cases c:i=k;subst c;simp [hs] at hk
  ·rw [getD_set_ne true c] at hk;exact hk
 rw [a,List.countP_append,List.countP_append,List.countP_cons,List.countP_cons];have h1:=b (List.range i);have f:=b ((List.range (m - (i+1))).map (i+1+·));have e:(listed.setIfInBounds i true).getD i true=true:=by simp [hs]
 rw [e,d];simp only [qbv,Bool.not_false,if_true,qb0,if_false];omega
structure k6e (l:List Oper) (n s:Nat):Prop where
 sel:Region.noSelect l.toArray=true
 len:n<=l.length
 edges:∀ k o,l[k]?=some o->∀ e∈o.after,Region.binds .any e=true->e.on<k
 dst:∀ i o d,i<n->l[i]?=some o->o.dst=some d->d<s
 uniq:∀ i j o p d,i<n->j<n->l[i]?=some o->l[j]?=some p->o.dst=some d->p.dst=some d->i=j
 looks:∀ i j o p t,i<n->j<n->i≠j->l[i]?=some o->l[j]?=some p->t∈o.looksAt l.toArray->p.dst=some t->kh8 o j=true\/kh8 p i=true
structure kaf7 (l:List Oper) (n s:Nat):Prop extends k6e l n s where
 tail:∀ k j,k<l.length->n<=k->j<k->((kpv l).getD k 0).testBit j=true
theorem k4p {l:List Oper} {n s:Nat} (h:k30 l n s=true):k6e l n s:=by
 simp only [k30,qr] at h;obtain ⟨⟨⟨⟨⟨h1,c⟩,q⟩,r⟩,u⟩,v⟩:=h;have c:n<=l.length:=by simpa using c
 have tk:∀ i o,i<n->l[i]?=some o->(o,i)∈(l.take n).zipIdx:=fun i o hi a=>by rw [List.mk_mem_zipIdx_iff_getElem?,qaa,qo hi];exact a
 refine ⟨h1,c,?_,?_,?_,?_⟩;intro k o a e w x;have:=qu.1 q (o,k) (by rw [List.mk_mem_zipIdx_iff_getElem?];exact a);have:=qu.1 this e (by simpa using w);simpa [x] using this;intro i o d hi a hd;have:=qu.1 r o (qj (i:=i) (by rw [qaa,qo hi];exact a));simpa [hd] using this;intro i j o p d hi f a hp g b;have:=qu.1 (qu.1 u _ (tk i o hi a)) _ (tk j p f hp);simpa [g,b] using this
 ·intro i j o p t hi f m a hp ht b;have:=qu.1 (qu.1 (qu.1 v _ (tk i o hi a)) t ht) _ (tk j p f hp);simpa [b,m] using this
theorem k70 {l:List Oper} {n s:Nat} (h:relB l n s=true):kaf7 l n s:=by
 simp only [relB,qr] at h;refine ⟨k4p h.1,?_⟩
 ·intro k j hk b a;have:=qu.1 h.2 (l[k],k) (by rw [List.mk_mem_zipIdx_iff_getElem?];exact qb hk);simp only [qb1,qbn] at this;exact qu.1 (this.resolve_left (by omega)) j (by simpa using a)
theorem afterB_iff {o:Oper} {j:Nat}:kh8 o j=true↔∃ e∈o.after,e.on=j/\Region.binds .any e=true:=by unfold kh8;rw [List.any_eq_true];simp
theorem k9b [Rd] {l:List Oper} {n s:Nat} (ok:kaf7 l n s) {Q:Exit->Act->World->Prop}:∀ (fuel k:Nat) (listed:Array Bool) (a:Act) (w:World),
  n<=k->k<=l.length->listed.size=l.length->(∀ i,i<l.length->(listed.getD i true=true↔i<k))->l.length - k<=fuel ->
  kba P l.toArray Q (l.drop k) a w->kpo P .any l.toArray Q fuel listed a w:=by
 intro fuel
 induction fuel with
 | zero=>
  intro k listed a w B C d b g h;have hk:k=l.length:=by omega
  subst hk;refine ⟨?_,by simpa [kba] using h⟩;rw [List.eq_nil_iff_forall_not_mem];intro i hi;obtain ⟨h0,o,q,_⟩:=mem_ready.1 hi;have c:i<l.length:=by simpa using (qap.1 q).1
  rw [(b i c).2 c] at h0;cases h0
 | succ fuel ih=>
  intro k listed a w B C d b g h;have u:∀ i,i<l.length->i<k->listed.getD i false=true:=fun i hi D=>by have h1:=(b i hi).2 D;simp [d,hi] at h1 ⊢;exact h1
  have only:∀ i∈Region.ready .any l.toArray listed,i=k/\k<l.length:=fun i hi=>by
   obtain ⟨h0,o,q,v⟩:=mem_ready.1 hi;have c:i<l.length:=(by simpa using (qap.1 q).1);have E:k<=i:=by
    rcases qbi i k with f | f;rw [(b i c).2 f] at h0;cases h0
    ·exact f
   refine ⟨?_,by omega⟩;rcases qbi k i with f | f
   ·exfalso;have hS:=kmz (l:=l) (S:=fun j=>j<i/\listed.getD j false=true) ?_ i o (by simpa using q) ?_ k (ok.tail i k c (by omega) f);have:=(b k (by omega)).1 (by have:=hS.2;simp [d,show k<l.length by omega] at this ⊢;exact this);omega;intro m p ⟨F,x⟩ hp e r t;have y:=ok.edges m p hp e r t;refine ⟨by omega,?_⟩;have G:=(b m (by omega)).1 (by simp [d,show m<l.length by omega] at x ⊢;exact x);exact u _ (by omega) (by omega)
    ·intro e r t;exact ⟨ok.edges i o (by simpa using q) e r t,v e r t⟩
   ·omega
  refine ⟨fun z=>?_,fun i hi=>?_⟩
  ·have hk:k=l.length:=by
    rcases qbi k l.length with f | f;exfalso;have:k∈Region.ready .any l.toArray listed:=mem_ready.2 ⟨by have:=mt (b k f).1 (by omega);simpa using this,l[k],by simp [f],fun e r t=>by have y:=ok.edges k _ (qb f) e r t;exact u _ (by omega) y⟩;rw [z] at this;cases this
    ·omega
   subst hk;simpa [kba] using h
  ·obtain ⟨rfl,c⟩:=only i hi;rw [qao c] at h;have q:l.toArray[i]?=some l[i]:=(by simp [c]);have H:wpOp P l.toArray Q i (kba P l.toArray Q (l.drop (i+1))) a w:=(by unfold wpOp;simp only [q];exact h);refine kmi (fun a' w' f=>ih (i+1) _ a' w' (by omega) (by omega) (by simp [d]) (fun j I=>?_) (by omega) f) H;by_cases A:i=j;subst A;simp [d,c]
   ·rw [getD_set_ne true A,b j I];omega
structure kajv (gs:List Gd) (l:List Oper) (C:World->Prop) (a0:Act) (listed:Array Bool) (a:Act) (w:World):Prop where
 inC:C w
 defers:a.defers=a0.defers
 size:a.tmps.size=a0.tmps.size
 lsize:listed.size=l.length
 closed:∀ k o,listed.getD k false=true->l[k]?=some o->∀ e∈o.after,Region.binds .any e=true->listed.getD e.on false=true
 vals:∃ xs:Nat->Value,∀ j g,gs[j]?=some g->listed.getD j false=true->g.holds (xs j) w/\∀ o d,l[j]?=some o->o.dst=some d->a.tmps[d]?=some (xs j)
 rest:∀ t,(∀ j o,listed.getD j false=true->l[j]?=some o->o.dst≠some t)->a.tmps[t]?=a0.tmps[t]?
theorem kahc {listed:Array Bool} {i:Nat} (h:listed.getD i true=false):listed.getD i false=false:=by
 rcases qbi i listed.size with a | a;simp [a] at h ⊢; exact h
 ·simp [qb2 a]
theorem gD_lt {listed:Array Bool} {i:Nat} (h:listed.getD i false=true):i<listed.size:=by
 rcases qbi i listed.size with a | a;exact a
 ·simp [qb2 a] at h
theorem ky9 (m j:Nat):(Array.replicate m false).getD j false=false:=by rcases qbi j m with h | h <;> simp [h]
attribute [go_sem] kdf kmm
end Go.Proofs.YtdnfbjahbkpibaaGreatDoor
set_option linter.all false
set_option linter.unusedSectionVars false
namespace Go.Proofs.YtdnfbjahbkpibaaGreatDoor
open Go Go.RowKit
variable [Dr]
def kgo (n:Int):Prop := -9223372036854775808<=n/\n<=9223372036854775807
def At (w:World) (b o:Nat) (cs:List Value):Prop:=∀ j u,cs[j]?=some u->w.cell? ⟨b,o+j,none⟩=some u
def Same (S:Nat->Prop) (w w':World):Prop:=∀ b,S b->b<w.heap.size->w'.heap[b]?=w.heap[b]?
abbrev Grow (w w':World):Prop:=Below w.heap.size w w'
theorem Below.step {a b c:World} (h:Grow a b) (k:Grow b c):Grow a c:=Below.trans h (k.mono h.size)
theorem kbk (w:World) (o:Obj):Grow w (w.alloc o):=(Below.refl _ _).alloc (qx _) _
theorem kaa6 (w:World):Grow w w.drew:=(Below.refl _ _).drew
theorem kaf (w:World):Grow w w:=Below.refl _ _
section
variable {T:Type} {S S':Nat->Prop} {w w' w'':World} {b o:Nat} {cs:List Value}
theorem k1i {w:World} {a:Addr} {u:Value} (h:w.cell? a=some u):a.block<w.heap.size:=by
 rcases qbi a.block w.heap.size with b | b;exact b
 ·simp [World.cell?,qb2 b] at h
theorem Same.of_grow (h:Grow w w'):Same S w w':=fun b _ a=>h.block b a
theorem At.keep (h:At w b o cs) (hS:S b) (hk:Same S w w'):At w' b o cs:=fun j u a=>by
 have h1:=h j u a;rw [World.cell?_of_block (w:=w)];exact h1
 ·exact hk b hS (k1i h1)
def RepSl (S:Nat->Prop) (w:World) (size:Nat) (R:List Value->T->Prop) (v:Value) (xs:List T):Prop:=
 ∃ A cap,v = .slice A xs.length cap/\xs.length<=cap/\cap<=9223372036854775807 /\
  ∀ (i:Nat) (x:T),xs[i]?=some x->∃ b o cs,A=some ⟨b,o,none⟩/\S b/\At w b (o+i*size) cs/\cs.length=size/\R cs x
theorem RepSl.nil {size cap:Nat} {R:List Value->T->Prop} {A:Option Addr} (hc:cap<=9223372036854775807):RepSl S w size R (.slice A 0 cap) []:=
 ⟨A,cap,rfl,by simp,hc,fun i x h=>by simp at h⟩
def Any:Nat->Prop:=fun _=>True
def IntR (cs:List Value) (n:Int):Prop:=cs=[.int .i64 n]/\kgo n
def Ints (S:Nat->Prop) (w:World) (v:Value) (ns:List Int):Prop:=RepSl S w 1 IntR v ns
structure Kept (size:Nat) (R:(Nat->Prop)->World->List Value->T->Prop):Prop where
 pos:0<size
 keep:∀ {S w w' cs x},R S w cs x->Same S w w'->R S w' cs x
 mono:∀ {S S':Nat->Prop} {w cs x},R S w cs x->(∀ b,S b->S' b)->R S' w cs x
 bound:∀ {S w cs x},R S w cs x->R (fun b=>S b/\b<w.heap.size) w cs x
 len:∀ {S w cs x},R S w cs x->cs.length=size
 one:∀ {S w cs x},R S w cs x->∀ u∈cs,u.oneCell'=true
variable {D:Nat->Prop} {lo:Nat} {e:TypeId} {size:Nat} {R:(Nat->Prop)->World->List Value->T->Prop} {v:Value} {xs:List T}
theorem k06 {b:Nat} {Q:List Value->T->Prop}:∀ (ys:List T) (o:Nat),(∀ (i:Nat) (y:T),ys[i]?=some y->∃ cs,At w b (o+i*size) cs/\cs.length=size/\Q cs y) ->
  ∃ news:List Value,news.length=ys.length*size/\At w b o news/\∀ (i:Nat) (y:T),ys[i]?=some y->Q ((news.drop (i*size)).take size) y
 | [],o,_=>⟨[],by simp,fun j u h=>by simp at h,fun i y h=>by simp at h⟩
 | y::ys,o,h=>by
  obtain ⟨cs,e,hl,g⟩:=h 0 y rfl;obtain ⟨news,hn,a,f⟩:=k06 (b:=b) (Q:=Q) ys (o+size) fun i z c=>by
   have:=h (i+1) z (by simpa using c)
   rwa [show o+(i+1)*size=o+size+i*size by rw [qa7];omega] at this
  refine ⟨cs++news,by simp [hl,hn,qa7];omega,fun j u d=>?_,fun i z c=>?_⟩
  ·by_cases k:j<size;rw [qac (by omega)] at d;have:=e j u d;simpa using this
   ·rw [qab (by omega),hl] at d;have:=a _ u d
    rwa [show o+size+(j - size)=o+j by omega] at this
  ·cases i with
   | zero=>
    simp at c;subst c;simp only [Nat.zero_mul,List.drop_zero];rw [List.take_append_of_le_length (by omega),List.take_of_length_le (by omega)];exact g
   | succ i=>
    have:=f i z (by simpa using c);rw [show (i+1)*size=cs.length+i*size by rw [hl,qa7];omega,<- List.drop_drop,List.drop_left];exact this
theorem kwy {P:Program} (lo:Nat) (t ty e:TypeId) (i:TypeInfo) (size:Nat) (ht:P.underlying t=some (.slice e)) (hi:P.info? e=some i)
  (v:Value) (n:Nat) (xs:List Value) (a:w.ownsRow lo e size v n xs) (c:Nat):(Builtin.append_ #[t,t] ty #[v, .slice none 0 c]).run P w = .ok v w:=by
 rcases a.2 with ⟨rfl,rfl⟩ | ⟨g,cap,cur,rfl,_,_,b,_⟩;simp [Builtin.append_,run_underlying ht,sizeOf,typeInfo,hi,Builtin.lenOf,Builtin.firstCells]
 ·simp [Builtin.append_,run_underlying ht,sizeOf,typeInfo,hi,Builtin.lenOf,Builtin.firstCells,b,storeCells]
end
end Go.Proofs.YtdnfbjahbkpibaaGreatDoor
set_option linter.all false
set_option maxRecDepth 100000
namespace Go.Proofs.YtdnfbjahbkpibaaGreatDoor
open Go Go.RowKit Go.ChangeShapes Go.WideShapes
theorem kahv:Tryz.checked.prog.liftsFinal=false:=by as_aux_lemma=>kernel_rfl
variable [Dr]
inductive Tm where
 | mk (rule:Int) (args:List Tm)
namespace Tm
def rule:Tm->Int | mk r _=>r
def args:Tm->List Tm | mk _ l=>l
theorem ind {P:Tm->Prop} (h:∀ r l,(∀ t∈l,P t)->P (mk r l)) (t:Tm):P t:=
 Tm.rec (motive_1:=P) (motive_2:=fun l=>∀ t∈l,P t) (fun r l ih=>h r l ih) (fun _ h=>nomatch h)
  (fun t l h1 a x hx=>(qae.1 hx).elim (fun e=>e ▸ h1) (a x)) t
mutual
def size:Tm->Nat
 | mk _ l=>sizeL l+1
def sizeL:List Tm->Nat
 | []=>0
 | t::l=>t.size+sizeL l
end
mutual
def depth:Tm->Nat
 | mk _ l=>depthL l+1
def depthL:List Tm->Nat
 | []=>0
 | t::l=>max t.depth (depthL l)
end
mutual
def pre (g:Tm->Int):Tm->List Int
 | mk r l=>g (mk r l)::preL g l
def preL (g:Tm->Int):List Tm->List Int
 | []=>[]
 | t::l=>t.pre g++preL g l
end
def nargs (t:Tm):Int:=(t.args.length:Int)
def rules (t:Tm):List Int:=t.pre rule
def arities (t:Tm):List Int:=t.pre nargs
theorem sizeL_snoc (l:List Tm) (t:Tm):sizeL (l++[t])=sizeL l+t.size:=by
 induction l with
 | nil=>simp [sizeL]
 | cons x l ih=>simp only [List.cons_append,sizeL,ih];omega
theorem depthL_snoc (l:List Tm) (t:Tm):depthL (l++[t])=max (depthL l) t.depth:=by
 induction l with
 | nil=>simp [depthL]
 | cons x l ih=>simp only [List.cons_append,depthL,ih];omega
theorem size_pos (t:Tm):1<=t.size:=by cases t;simp [size]
theorem sizeL_mem {l:List Tm} {t:Tm} (h:t∈l):t.size<=sizeL l:=by
 induction l with
 | nil=>cases h
 | cons x l ih=>
  simp only [sizeL];rcases qae.1 h with rfl | h;omega
  ·have:=ih h;omega
theorem depthL_take_succ {l:List Tm} {k:Nat} (h:k<l.length):depthL (l.take (k+1))=max (depthL (l.take k)) l[k].depth:=by rw [qar h,depthL_snoc]
theorem depth_le_size (t:Tm):t.depth<=t.size:=by
 induction t using Tm.ind with
 | h r l ih=>
  simp only [depth,size];have:∀ m:List Tm,(∀ t∈m,t.depth<=t.size)->depthL m<=sizeL m:=fun m=>by
   induction m with
   | nil=>simp [depthL]
   | cons x m ihm=>
    intro h;simp only [depthL,sizeL];have:=h x (by simp);have:=ihm fun t ht=>h t (by simp [ht]);omega
  have:=this l ih;omega
theorem pre_length (g:Tm->Int) (t:Tm):(t.pre g).length=t.size:=by
 induction t using Tm.ind with
 | h r l ih=>
  simp only [pre,size,qag];have:∀ m:List Tm,(∀ t∈m,(t.pre g).length=t.size)->(preL g m).length=sizeL m:=fun m=>by
   induction m with
   | nil=>simp [preL,sizeL]
   | cons x m ihm=>
    intro h;simp only [preL,sizeL,qy];rw [h x (by simp),ihm fun t ht=>h t (by simp [ht])]
  rw [this l ih]
theorem rules_length (t:Tm):t.rules.length=t.size:=pre_length _ t
theorem arities_length (t:Tm):t.arities.length=t.size:=pre_length _ t
end Tm
variable {S S':Nat->Prop} {w w':World}
inductive RepTm (S:Nat->Prop) (w:World):List Value->Tm->Prop where
 | mk (r:Int) (kids:List Tm) (A:Option Addr) (cap:Nat) (css:Nat->List Value) (hr:kgo r) (hc:kids.length<=cap) (hm:cap<=9223372036854775807)
  (hA:∀ (i:Nat) (x:Tm),kids[i]?=some x->∃ b o,A=some ⟨b,o,none⟩/\S b/\At w b (o+i*2) (css i))
  (hk:∀ (i:Nat) (x:Tm),kids[i]?=some x->RepTm S w (css i) x):RepTm S w [.int .i64 r, .slice A kids.length cap] (.mk r kids)
abbrev Tms (S:Nat->Prop) (w:World) (v:Value) (l:List Tm):Prop:=RepSl S w 2 (RepTm S w) v l
theorem RepTm.len {cs:List Value} {t:Tm} (h:RepTm S w cs t):cs.length=2:=by cases h;rfl
theorem RepTm.form {cs:List Value} {r:Int} {l:List Tm} (h:RepTm S w cs (.mk r l)):∃ s,cs=[.int .i64 r,s]/\kgo r/\Tms S w s l:=by
 cases h with
 | mk _ _ A cap css hr hc hm hA hk=>
  refine ⟨_,rfl,hr,A,cap,rfl,hc,hm,fun i x hx=>?_⟩;obtain ⟨b,o,h1,a,c⟩:=hA i x hx;exact ⟨b,o,css i,h1,a,c,(hk i x hx).len,hk i x hx⟩
theorem RepTm.of {s:Value} {r:Int} {l:List Tm} (hr:kgo r) (h:Tms S w s l):RepTm S w [.int .i64 r,s] (.mk r l):=by
 obtain ⟨A,cap,rfl,hc,hm,hx⟩:=h;have:∀ i:Nat,∃ cs:List Value,∀ x:Tm,l[i]?=some x->(∃ b o,A=some ⟨b,o,none⟩/\S b/\At w b (o+i*2) cs)/\RepTm S w cs x:=fun i=>by
  cases hi:l[i]? with
  | none=>exact ⟨[],fun x h=>by cases h⟩
  | some x=>
   obtain ⟨b,o,cs,h1,c,d,_,e⟩:=hx i x hi;exact ⟨cs,fun y hy=>by cases hy;exact ⟨⟨b,o,h1,c,d⟩,e⟩⟩
 obtain ⟨css,a⟩:=Classical.axiomOfChoice this;exact .mk r l A cap css hr hc hm (fun i x hi=>(a i x hi).1) (fun i x hi=>(a i x hi).2)
def TmV (S:Nat->Prop) (w:World) (v:Value) (t:Tm):Prop:=∃ c0 c1,v = .agg #[c0,c1]/\RepTm S w [c0,c1] t
end Go.Proofs.YtdnfbjahbkpibaaGreatDoor
set_option linter.all false
set_option linter.unusedSectionVars false
namespace Go.Proofs.YtdnfbjahbkpibaaGreatDoor
open Go Go.RowKit
variable [Dr]
inductive FV where
 | atom (v:Value)
 | agg (cs:List FV)
 | tup (vs:List FV)
 | lst (size n:Nat) (xs:List FV)
 | fp (cs:List FV)
 | bx (cs:List FV)
def FV.cells:FV->List FV
 | .agg cs=>cs
 | x=>[x]
def FV.single:FV->Bool
 | .atom v=>v.oneCell'
 | .lst _ _ _=>true
 | .fp _=>true
 | .bx _=>true
 | _=>false
inductive AV where
 | fz (x:FV)
 | agg (cs:List AV)
 | tup (vs:List AV)
 | ref (id n off:Nat)
 | row (id n:Nat)
 | lim (size n:Nat) (xs:List FV)
 | mp (id:Nat)
 | fn (f:FuncId) (cap:List AV)
 | mth (f:FuncId) (fst:List AV)
 | opt (id:Nat)
 | sdp (id n:Nat)
 | win (id n lo hi sz:Nat)
 | irow (id g j:Nat)
 | iref (id g j off:Nat)
 | bsl (id g off len:Nat) (cap:Option Nat)
 | any
def AV.cells:AV->List AV
 | .fz x=>x.cells.map .fz
 | .agg cs=>cs
 | x=>[x]
def AV.single:AV->Bool
 | .fz x=>x.single
 | .agg _=>false
 | .tup _=>false
 | .any=>false
 | _=>true
variable {S S':Nat->Prop} {w w':World}
inductive RF (S:Nat->Prop) (w:World):Value->FV->Prop where
 | atom {v:Value} (h:v.oneCell'=true):RF S w v (.atom v)
 | agg {cs:Array Value} {xs:List FV} (h:cs.size=xs.length) (h1:∀ x∈xs,x.single=true)
   (hr:∀ (i:Nat) (v:Value) (x:FV),cs[i]?=some v->xs[i]?=some x->RF S w v x):RF S w (.agg cs) (.agg xs)
 | tup {cs:Array Value} {xs:List FV} (h:cs.size=xs.length)
   (hr:∀ (i:Nat) (v:Value) (x:FV),cs[i]?=some v->xs[i]?=some x->RF S w v x):RF S w (.tuple cs) (.tup xs)
 | lst {A:Option Addr} {cap size n:Nat} {xs:List FV} (css:Nat->List Value) (hn:n=xs.length) (hc:n<=cap) (hm:cap<=9223372036854775807) (hs:0<size)
   (ha:∀ (i:Nat) (x:FV),xs[i]?=some x->∃ b o,A=some ⟨b,o,none⟩/\S b/\At w b (o+i*size) (css i))
   (hl:∀ (i:Nat) (x:FV),xs[i]?=some x->(css i).length=size/\x.cells.length=size/\∀ y∈x.cells,y.single=true)
   (hr:∀ (i:Nat) (x:FV) (j:Nat) (v:Value) (y:FV),xs[i]?=some x->(css i)[j]?=some v->x.cells[j]?=some y->RF S w v y):
   RF S w (.slice A n cap) (.lst size n xs)
 | fp {b o:Nat} {xs:List FV} (cs:List Value) (hS:S b) (ha:At w b o cs) (hl:cs.length=xs.length) (h0:0<xs.length) (h1:∀ x∈xs,x.single=true)
   (hr:∀ (i:Nat) (v:Value) (x:FV),cs[i]?=some v->xs[i]?=some x->RF S w v x):RF S w (.pointer (some ⟨b,o,none⟩)) (.fp xs)
 | bx {b:Nat} {e:TypeId} {xs:List FV} (cs:Array Value) (hS:S b) (ha:w.heap[b]?=some (.cells cs e (0,0))) (hl:cs.size=xs.length) (h0:0<xs.length) (h1:∀ x∈xs,x.single=true)
   (hr:∀ (i:Nat) (v:Value) (x:FV),cs[i]?=some v->xs[i]?=some x->RF S w v x):RF S w (.pointer (some ⟨b,0,none⟩)) (.bx xs)
 | bn:RF S w (.pointer none) (.bx [])
theorem RF.keep {v:Value} {x:FV} (h:RF S w v x) (hk:Same S w w'):RF S w' v x:=by
 induction h with
 | atom h=>exact .atom h
 | agg h h1 _ ih=>exact .agg h h1 ih
 | tup h _ ih=>exact .tup h ih
 | lst css hn hc hm hs ha hl _ ih=>
  exact .lst css hn hc hm hs (fun i x hx=>let ⟨b,o,h1,a,c⟩:=ha i x hx;⟨b,o,h1,a,c.keep a hk⟩) hl ih
 | fp cs hS ha hl h0 h1 _ ih=>exact .fp cs hS (ha.keep hS hk) hl h0 h1 ih
 | bx cs hS ha hl h0 h1 _ ih=>exact .bx cs hS ((hk _ hS (qap.1 ha).1).trans ha) hl h0 h1 ih
 | bn=>exact .bn
theorem RF.mono {v:Value} {x:FV} (h:RF S w v x) (hS:∀ b,S b->S' b):RF S' w v x:=by
 induction h with
 | atom h=>exact .atom h
 | agg h h1 _ ih=>exact .agg h h1 ih
 | tup h _ ih=>exact .tup h ih
 | lst css hn hc hm hs ha hl _ ih=>
  exact .lst css hn hc hm hs (fun i x hx=>let ⟨b,o,h1,a,c⟩:=ha i x hx;⟨b,o,h1,hS b a,c⟩) hl ih
 | fp cs hs ha hl h0 h1 _ ih=>exact .fp cs (hS _ hs) ha hl h0 h1 ih
 | bx cs hs ha hl h0 h1 _ ih=>exact .bx cs (hS _ hs) ha hl h0 h1 ih
 | bn=>exact .bn
theorem RF.bound {v:Value} {x:FV} (h:RF S w v x):RF (fun b=>S b/\b<w.heap.size) w v x:=by
 induction h with
 | atom h=>exact .atom h
 | agg h h1 _ ih=>exact .agg h h1 ih
 | tup h _ ih=>exact .tup h ih
 | lst css hn hc hm hs ha hl _ ih=>
  refine .lst css hn hc hm hs (fun i x hx=>?_) hl ih;obtain ⟨b,o,h1,c,a⟩:=ha i x hx;have hn:=(hl i x hx).1;exact ⟨b,o,h1,⟨c,k1i (a 0 ((css i)[0]'(by omega)) (qb (by omega)))⟩,a⟩
 | fp cs hs ha hl h0 h1 _ ih=>
  exact .fp cs ⟨hs,k1i (ha 0 (cs[0]'(by omega)) (qb (by omega)))⟩ ha hl h0 h1 ih
 | bx cs hs ha hl h0 h1 _ ih=>exact .bx cs ⟨hs,(qap.1 ha).1⟩ ha hl h0 h1 ih
 | bn=>exact .bn
theorem RF.one {v:Value} {x:FV} (h:RF S w v x) (h1:x.single=true):v.oneCell'=true:=by
 cases h with
 | atom h=>exact h
 | agg=>cases h1
 | tup=>cases h1
 | lst=>rfl
 | fp=>rfl
 | bx=>rfl
 | bn=>rfl
theorem RF.atom_eq {v u:Value} (h:RF S w v (.atom u)):v=u:=by cases h;rfl
theorem RF.undef:RF S w Go.undef (.tup []) := .tup rfl (fun i v x h=>by simp at h)
theorem RF.cells {v:Value} {x:FV} (h:RF S w v x) (h1:∀ y∈x.cells,y.single=true):
  v.cells.size=x.cells.length/\(∀ (i:Nat) (u:Value) (y:FV),v.cells[i]?=some u->x.cells[i]?=some y->RF S w u y)/\∀ u∈v.cells.toList,u.oneCell'=true:=by
 have key:v.cells.size=x.cells.length/\(∀ (i:Nat) (u:Value) (y:FV),v.cells[i]?=some u->x.cells[i]?=some y->RF S w u y):=by
  cases h with
  | agg h h1 hr=>exact ⟨h,hr⟩
  | atom h=>
   have hc:v.cells=#[v]:=by cases v <;> first | rfl | cases h
   rw [hc];exact ⟨rfl,fun i u y a hy=>by cases i with | zero=>simp [FV.cells] at a hy;subst a hy;exact .atom h | succ i=>simp at a⟩
  | tup h hr=>cases h1 _ (qav.2 rfl)
  | lst css hn hc hm hs ha hl hr=>exact ⟨rfl,fun i u y a hy=>by cases i with | zero=>simp [FV.cells,Value.cells] at a hy;subst a hy;exact .lst css hn hc hm hs ha hl hr | succ i=>simp [Value.cells] at a⟩
  | fp cs hS ha hl h0 hh hr=>exact ⟨rfl,fun i u y a hy=>by cases i with | zero=>simp [FV.cells,Value.cells] at a hy;subst a hy;exact .fp cs hS ha hl h0 hh hr | succ i=>simp [Value.cells] at a⟩
  | bx cs hS ha hl h0 hh hr=>exact ⟨rfl,fun i u y a hy=>by cases i with | zero=>simp [FV.cells,Value.cells] at a hy;subst a hy;exact .bx cs hS ha hl h0 hh hr | succ i=>simp [Value.cells] at a⟩
  | bn=>exact ⟨rfl,fun i u y a hy=>by cases i with | zero=>simp [FV.cells,Value.cells] at a hy;subst a hy;exact .bn | succ i=>simp [Value.cells] at a⟩
 refine ⟨key.1,key.2,fun u a=>?_⟩;obtain ⟨i,hi,rfl⟩:=qaj.1 a;have b:i<v.cells.size:=by simpa using hi
 have hx:i<x.cells.length:=by rw [<- key.1];exact b
 exact (key.2 i _ _ (by simp [b]) (qb hx)).one (h1 _ (q9 hx))
structure Env where
 len:Nat->Nat
 val:Nat->Value
def kak:Value->Option Nat
 | .slice (some a) _ _=>some a.block
 | .pointer (some a)=>some a.block
 | .map (some r)=>some r
 | _=>none
def kff:Value->List Value
 | .tuple cs=>cs.toList
 | _=>[]
def Blk (v:Value) (b:Nat):Prop:=kak v=some b\/∃ u,u∈kff v/\kak u=some b
theorem Blk.of {v:Value} {b:Nat} (h:kak v=some b):Blk v b := .inl h
theorem Blk.sl {A:Option Addr} {n c b:Nat} (h:Blk (.slice A n c) b):kak (.slice A n c)=some b:=by
 rcases h with h | ⟨u,a,_⟩;exact h
 ·cases a
theorem Blk.pt {A:Option Addr} {b:Nat} (h:Blk (.pointer A) b):kak (.pointer A)=some b:=by
 rcases h with h | ⟨u,a,_⟩;exact h
 ·cases a
theorem Blk.mp {A:Option Nat} {b:Nat} (h:Blk (.map A) b):kak (.map A)=some b:=by
 rcases h with h | ⟨u,a,_⟩;exact h
 ·cases a
variable {ψ ψ':Env} {K K':Nat->Prop}
def capOf:Value->Nat
 | .slice _ _ c=>c
 | _=>0
def CapR (u:Value) (off c:Nat):Option Nat->Prop
 | some k=>c=k
 | none=>off=0/\c=capOf u
def BslR (u:Value) (off len:Nat) (cap:Option Nat) (v:Value):Prop:=
 ∃ b c,kak u=some b/\v = .slice (some ⟨b,off,none⟩) len c/\len<=c/\c<=9223372036854775807/\CapR u off c cap
inductive RV (ψ:Env) (K:Nat->Prop) (S:Nat->Prop) (w:World):Value->AV->Prop where
 | fz {v:Value} {x:FV} (h:RF S w v x):RV ψ K S w v (.fz x)
 | agg {cs:Array Value} {xs:List AV} (h:cs.size=xs.length) (h1:∀ x∈xs,x.single=true)
   (hr:∀ (i:Nat) (v:Value) (x:AV),cs[i]?=some v->xs[i]?=some x->RV ψ K S w v x):RV ψ K S w (.agg cs) (.agg xs)
 | tup {cs:Array Value} {xs:List AV} (h:cs.size=xs.length)
   (hr:∀ (i:Nat) (v:Value) (x:AV),cs[i]?=some v->xs[i]?=some x->RV ψ K S w v x):RV ψ K S w (.tuple cs) (.tup xs)
 | ref {id n off:Nat} {v:Value} (hK:K id) (hn:n<=ψ.len id) (h1:v.oneCell'=true)
   (hv:n=ψ.len id->∃ b,kak (ψ.val id)=some b/\v = .pointer (some ⟨b,off,none⟩)):RV ψ K S w v (.ref id n off)
 | row {id n:Nat} {v:Value} (hK:K id) (hn:n<=ψ.len id) (h1:v.oneCell'=true) (hv:n=ψ.len id->v=ψ.val id):RV ψ K S w v (.row id n)
 | lim {A:Option Addr} {size n:Nat} {xs:List FV} (h:RF S w (.slice A n n) (.lst size n xs)):RV ψ K S w (.slice A n n) (.lim size n xs)
 | mp {id:Nat} {v:Value} (hK:K id) (h1:v.oneCell'=true) (hv:0=ψ.len id->v=ψ.val id):RV ψ K S w v (.mp id)
 | fn {f:FuncId} {cs:Array Value} {xs:List AV} (h:cs.size=xs.length)
   (hr:∀ (i:Nat) (v:Value) (x:AV),cs[i]?=some v->xs[i]?=some x->RV ψ K S w v x):RV ψ K S w (.func (.func f) #[] cs) (.fn f xs)
 | mth {f:FuncId} {cs:Array Value} {xs:List AV} (h:cs.size=xs.length)
   (hr:∀ (i:Nat) (v:Value) (x:AV),cs[i]?=some v->xs[i]?=some x->RV ψ K S w v x):RV ψ K S w (.func (.func f) cs #[]) (.mth f xs)
 | opt {id:Nat} {v:Value} (hK:K id) (h1:v.oneCell'=true) (hv:0=ψ.len id->v = .pointer none\/∃ b,kak (ψ.val id)=some b/\v = .pointer (some ⟨b,0,none⟩)):RV ψ K S w v (.opt id)
 | sdp {id n:Nat} {v:Value} (hK:K id) (hn:n<=ψ.len id) (h1:v.oneCell'=true) (hv:n=ψ.len id->(∃ a,v = .pointer a)/\(0<n->∃ b,kak (ψ.val id)=some b/\v = .pointer (some ⟨b,0,none⟩))):RV ψ K S w v (.sdp id n)
 | win {id n lo hi sz:Nat} {v:Value} (hK:K id) (hn:n<=ψ.len id) (h1:v.oneCell'=true) (hv:n=ψ.len id->lo<=hi/\hi<=n/\∃ A cap,v = .slice A (hi - lo) cap/\(lo<hi->∃ b,kak (ψ.val id)=some b/\A=some ⟨b,lo*sz,none⟩)):RV ψ K S w v (.win id n lo hi sz)
 | irow {id g j:Nat} {v:Value} (hK:K id) (hn:g<=ψ.len id) (h1:v.oneCell'=true) (hv:g=ψ.len id->(kff (ψ.val id))[j]?=some v):RV ψ K S w v (.irow id g j)
 | iref {id g j off:Nat} {v:Value} (hK:K id) (hn:g<=ψ.len id) (h1:v.oneCell'=true) (hv:g=ψ.len id->∃ u b,(kff (ψ.val id))[j]?=some u/\kak u=some b/\v = .pointer (some ⟨b,off,none⟩)):RV ψ K S w v (.iref id g j off)
 | bsl {id g off len:Nat} {cap:Option Nat} {v:Value} (hK:K id) (hn:g<=ψ.len id) (h1:v.oneCell'=true) (hv:g=ψ.len id->BslR (ψ.val id) off len cap v):RV ψ K S w v (.bsl id g off len cap)
 | any {v:Value}:RV ψ K S w v .any
theorem RV.bound {v:Value} {a:AV} (h:RV ψ K S w v a):RV ψ K (fun b=>S b/\b<w.heap.size) w v a:=by
 induction h with
 | fz h=>exact .fz h.bound
 | agg h h1 _ ih=>exact .agg h h1 ih
 | tup h _ ih=>exact .tup h ih
 | ref hk hn h1 hv=>exact .ref hk hn h1 hv
 | row hk hn h1 hv=>exact .row hk hn h1 hv
 | lim h=>exact .lim h.bound
 | mp hk h1 hv=>exact .mp hk h1 hv
 | opt hk h1 hv=>exact .opt hk h1 hv
 | sdp hk hn h1 hv=>exact .sdp hk hn h1 hv
 | win hk hn h1 hv=>exact .win hk hn h1 hv
 | irow hk hn h1 hv=>exact .irow hk hn h1 hv
 | iref hk hn h1 hv=>exact .iref hk hn h1 hv
 | bsl hk hn h1 hv=>exact .bsl hk hn h1 hv
 | fn h _ ih=>exact .fn h ih
 | mth h _ ih=>exact .mth h ih
 | any=>exact .any
theorem RV.mono {v:Value} {a:AV} (h:RV ψ K S w v a) (hK:∀ id,K id->K' id) (hS:∀ b,S b->S' b):RV ψ K' S' w v a:=by
 induction h with
 | fz h=>exact .fz (h.mono hS)
 | agg h h1 _ ih=>exact .agg h h1 ih
 | tup h _ ih=>exact .tup h ih
 | ref hk hn h1 hv=>exact .ref (hK _ hk) hn h1 hv
 | row hk hn h1 hv=>exact .row (hK _ hk) hn h1 hv
 | lim h=>exact .lim (h.mono hS)
 | mp hk h1 hv=>exact .mp (hK _ hk) h1 hv
 | opt hk h1 hv=>exact .opt (hK _ hk) h1 hv
 | sdp hk hn h1 hv=>exact .sdp (hK _ hk) hn h1 hv
 | win hk hn h1 hv=>exact .win (hK _ hk) hn h1 hv
 | irow hk hn h1 hv=>exact .irow (hK _ hk) hn h1 hv
 | iref hk hn h1 hv=>exact .iref (hK _ hk) hn h1 hv
 | bsl hk hn h1 hv=>exact .bsl (hK _ hk) hn h1 hv
 | fn h _ ih=>exact .fn h ih
 | mth h _ ih=>exact .mth h ih
 | any=>exact .any
theorem RV.one {v:Value} {a:AV} (h:RV ψ K S w v a) (h1:a.single=true):v.oneCell'=true:=by
 cases h with
 | fz h=>exact h.one h1
 | agg=>cases h1
 | tup=>cases h1
 | ref _ _ h _=>exact h
 | row _ _ h _=>exact h
 | lim=>rfl
 | mp _ h _=>exact h
 | opt _ h _=>exact h
 | sdp _ _ h _=>exact h
 | win _ _ h _=>exact h
 | irow _ _ h _=>exact h
 | iref _ _ h _=>exact h
 | bsl _ _ h _=>exact h
 | fn=>rfl
 | mth=>rfl
 | any=>cases h1
theorem RV.cells {v:Value} {a:AV} (h:RV ψ K S w v a) (h1:∀ y∈a.cells,y.single=true):
  v.cells.size=a.cells.length/\(∀ (i:Nat) (u:Value) (y:AV),v.cells[i]?=some u->a.cells[i]?=some y->RV ψ K S w u y)/\∀ u∈v.cells.toList,u.oneCell'=true:=by
 have one:v.oneCell'=true->a.cells=[a]->RV ψ K S w v a->v.cells.size=a.cells.length/\(∀ (i:Nat) (u:Value) (y:AV),v.cells[i]?=some u->a.cells[i]?=some y->RV ψ K S w u y):=fun b hc hr=>by
  have hv:v.cells=#[v]:=by cases v <;> first | rfl | cases b
  rw [hc,hv];exact ⟨rfl,fun i u y c hy=>by cases i with | zero=>simp at c hy;subst c hy;exact hr | succ i=>simp at c⟩
 have key:v.cells.size=a.cells.length/\(∀ (i:Nat) (u:Value) (y:AV),v.cells[i]?=some u->a.cells[i]?=some y->RV ψ K S w u y):=by
  cases h with
  | @fz v x h=>
   have hx:∀ y∈x.cells,y.single=true:=fun y hy=>h1 (.fz y) (by simp [AV.cells,hy]);obtain ⟨e1,e2,_⟩:=h.cells hx;refine ⟨by simpa [AV.cells] using e1,fun i u y c hy=>?_⟩;simp only [AV.cells,qn,qq] at hy;obtain ⟨y',e,rfl⟩:=hy;exact .fz (e2 i u y' c e)
  | agg h h1 hr=>exact ⟨h,hr⟩
  | tup h hr=>cases h1 _ (qav.2 rfl)
  | any=>cases h1 _ (qav.2 rfl)
  | ref hk hn b hv=>exact one b rfl (.ref hk hn b hv)
  | row hk hn b hv=>exact one b rfl (.row hk hn b hv)
  | lim h=>exact one rfl rfl (.lim h)
  | mp hk b hv=>exact one b rfl (.mp hk b hv)
  | opt hk b hv=>exact one b rfl (.opt hk b hv)
  | sdp hk hn b hv=>exact one b rfl (.sdp hk hn b hv)
  | win hk hn b hv=>exact one b rfl (.win hk hn b hv)
  | irow hk hn b hv=>exact one b rfl (.irow hk hn b hv)
  | iref hk hn b hv=>exact one b rfl (.iref hk hn b hv)
  | bsl hk hn b hv=>exact one b rfl (.bsl hk hn b hv)
  | fn h hr=>exact one rfl rfl (.fn h hr)
  | mth h hr=>exact one rfl rfl (.mth h hr)
 refine ⟨key.1,key.2,fun u c=>?_⟩;obtain ⟨i,hi,rfl⟩:=qaj.1 c;have d:i<v.cells.size:=by simpa using hi
 have hx:i<a.cells.length:=by rw [<- key.1];exact d
 exact (key.2 i _ _ (by simp [d]) (qb hx)).one (h1 _ (q9 hx))
theorem RV.inv {v:Value} {x:FV} (h:RV ψ K S w v (.fz x)):RF S w v x:=by cases h;assumption
theorem RV.atom {v u:Value} (h:RV ψ K S w v (.fz (.atom u))):v=u:=h.inv.atom_eq
def Ext (K:Nat->Prop) (ψ ψ':Env):Prop:=∀ id,K id->ψ.len id<=ψ'.len id/\(ψ.len id=ψ'.len id->ψ'.val id=ψ.val id)
theorem Ext.refl:Ext K ψ ψ:=fun _ _=>⟨qx _,fun _=>rfl⟩
theorem RV.keep {v:Value} {a:AV} (h:RV ψ K S w v a) (f:Ext K ψ ψ') (hK:∀ id,K id->K' id) (hS:∀ b,S b->S' b) (hk:Same S w w'):RV ψ' K' S' w' v a:=by
 induction h with
 | fz h=>exact .fz ((h.keep hk).mono hS)
 | agg h h1 _ ih=>exact .agg h h1 ih
 | tup h _ ih=>exact .tup h ih
 | @ref id n off v hk hn h1 hv=>
  have c:=f id hk;refine .ref (hK _ hk) (by omega) h1 fun d=>?_;have e:n=ψ.len id:=by omega
  rw [c.2 (by omega)];exact hv e
 | @row id n v hk hn h1 hv=>
  have c:=f id hk;refine .row (hK _ hk) (by omega) h1 fun d=>?_;have e:n=ψ.len id:=by omega
  rw [c.2 (by omega)];exact hv e
 | lim h=>exact .lim ((h.keep hk).mono hS)
 | @mp id v hk h1 hv=>
  have c:=f id hk;refine .mp (hK _ hk) h1 fun d=>?_;have e:0=ψ.len id:=by omega
  rw [c.2 (by omega)];exact hv e
 | @opt id v hk h1 hv=>
  have c:=f id hk;refine .opt (hK _ hk) h1 fun d=>?_;have e:0=ψ.len id:=by omega
  rw [c.2 (by omega)];exact hv e
 | @sdp id n v hk hn h1 hv=>
  have c:=f id hk;refine .sdp (hK _ hk) (by omega) h1 fun d=>?_;have e:n=ψ.len id:=by omega
  rw [c.2 (by omega)];exact hv e
 | @win id n lo hi sz v hk hn h1 hv=>
  have c:=f id hk;refine .win (hK _ hk) (by omega) h1 fun d=>?_;have e:n=ψ.len id:=by omega
  rw [c.2 (by omega)];exact hv e
 | @irow id g j v hk hn h1 hv=>
  have c:=f id hk;refine .irow (hK _ hk) (by omega) h1 fun d=>?_;have e:g=ψ.len id:=by omega
  rw [c.2 (by omega)];exact hv e
 | @iref id g j off v hk hn h1 hv=>
  have c:=f id hk;refine .iref (hK _ hk) (by omega) h1 fun d=>?_;have e:g=ψ.len id:=by omega
  rw [c.2 (by omega)];exact hv e
 | @bsl id g off len cap v hk hn h1 hv=>
  have c:=f id hk;refine .bsl (hK _ hk) (by omega) h1 fun d=>?_;have e:g=ψ.len id:=by omega
  rw [c.2 (by omega)];exact hv e
 | fn h _ ih=>exact .fn h ih
 | mth h _ ih=>exact .mth h ih
 | any=>exact .any
end Go.Proofs.YtdnfbjahbkpibaaGreatDoor
set_option linter.all false
set_option linter.unusedSectionVars false
namespace Go.Proofs.YtdnfbjahbkpibaaGreatDoor
open Go Go.RowKit
variable [Dr]
inductive XO where
 | blk (g:Nat) (e:TypeId) (sz:Nat) (cells:List AV)
 | amap (kv:List (Value×AV))
 | imap (kv:List (Int×FV))
 | mit (m since:Nat) (seen:List Nat) (stepped:Nat)
 | opq (J:(Nat->Prop)->List Nat->World->Prop)
inductive AObj where
 | box (e:TypeId) (cells:List AV)
 | frow (e:TypeId) (size:Nat) (xs:List FV)
 | gho (cs:List Value) (vs:List AV)
 | was (ψ0:Env) (ids0:List Nat) (S0:Nat->Prop) (w0:World)
 | smap (kv:List (BA×FV))
 | tab (g:Nat) (ov:Value) (eo ei:TypeId) (rows:List (List Value))
 | glb (gs:List (Nat×Array Value))
 | sit (s:BA) (pos:Nat)
 | memo (Φ:FV->FV->Prop) (hint:Option (Value×Option FV))
 | xo (k:XO)
structure St where
 n:Nat
 tmps:List (Nat×AV)
 heap:List (Nat×AObj)
 ids:List Nat
 dfr:List Deferred:=[]
def aS (s:St) (t:List (Nat×AV)) (o:List (Nat×AObj)):St:=⟨s.n,t++s.tmps,o++s.heap,o.map (·.1)++s.ids,s.dfr⟩
def iS (s:St) (l:List Nat):St:=⟨s.n,s.tmps,s.heap,l,s.dfr⟩
def look (d:AV):List (Nat×AV)->Nat->AV
 | [],_=>d
 | (k,v)::l,t=>bif Nat.beq k t then v else look d l t
def kaa:List (Nat×AObj)->Nat->Option AObj
 | [],_=>none
 | (k,v)::l,t=>bif Nat.beq k t then some v else kaa l t
def St.get (st:St) (t:Nat):AV:=look .any st.tmps t
def St.put (st:St) (d:Option Nat) (v:AV):St:=match d with
 | some d=>{ st with tmps:=(d,v)::st.tmps }
 | none=>st
def k43:Value->AV
 | .agg cs=>bif cs.toList.all (·.oneCell') then .fz (.agg (cs.toList.map .atom)) else .any
 | .tuple _ => .any
 | v => .fz (.atom v)
def St.eval (st:St):Operand->AV
 | .tmp t=>st.get t
 | .const v=>k43 v
 | .global _ => .any
 | .func f => .fn f []
variable {F S0 S S':Nat->Prop} {N0:Nat} {w w':World} {ψ ψ':Env} {K K':Nat->Prop} {P:Program} {st:St} {a:Act}
theorem Nat.beq_eq_false {k t:Nat} (h:¬ k=t):Nat.beq k t=false:=by
 cases a:Nat.beq k t with
 | false=>rfl
 | true=>exact absurd (qk a) h
theorem kas {d:AV} {l:List (Nat×AV)} {k t:Nat} {v:AV}:look d ((k,v)::l) t=if k=t then v else look d l t:=by
 simp only [look];by_cases h:k=t;subst h;simp
 ·rw [qi h,Nat.beq_eq_false h];rfl
theorem kac {l:List (Nat×AObj)} {k t:Nat} {v:AObj}:kaa ((k,v)::l) t=if k=t then some v else kaa l t:=by
 simp only [kaa];by_cases h:k=t;subst h;simp
 ·rw [qi h,Nat.beq_eq_false h];rfl
def GlbR (w:World) (g:Nat) (vs:Array Value):Prop:=(0<vs.size/\∃ e d,w.heap[g]?=some (.cells vs e d))\/(vs=#[]/\∃ m e d,w.heap[g]?=some (.cells #[.int .i64 m] e d))
theorem GlbR.lt {g:Nat} {vs:Array Value} (h:GlbR w g vs):g<w.heap.size:=by rcases h with ⟨_,e,d,h⟩ | ⟨_,m,e,d,h⟩ <;> exact (qap.1 h).1
theorem GlbR.keep {g:Nat} {vs:Array Value} (h:GlbR w g vs) (hk:w'.heap[g]?=w.heap[g]?):GlbR w' g vs:=by
 rcases h with ⟨h0,e,d,h⟩ | ⟨h0,m,e,d,h⟩;exact .inl ⟨h0,e,d,hk.trans h⟩
 ·exact .inr ⟨h0,m,e,d,hk.trans h⟩
def HintR (S:Nat->Prop) (w:World):Option (Value×Option FV)->List MapEntry->Prop
 | none,_=>True
 | some (k,none),l=>∀ e∈l,e.key≠k
 | some (k,some vx),l=>∃ l1 e l2,l=l1++e::l2/\(∀ x∈l1,x.key≠k)/\e.key=k/\RF S w e.val vx
def MemoR (S:Nat->Prop) (w:World) (Φ:FV->FV->Prop) (h:Option (Value×Option FV)) (l:List MapEntry):Prop:=
 (∀ e∈l,∃ kx vx,Φ kx vx/\RF S w e.key kx/\RF S w e.val vx)/\HintR S w h l
theorem MemoR.keep {Φ:FV->FV->Prop} {h:Option (Value×Option FV)} {l:List MapEntry} (m:MemoR S w Φ h l) (hS:∀ b,S b->S' b) (hk:Same S w w'):MemoR S' w' Φ h l:=by
 refine ⟨fun e d=>?_,?_⟩;obtain ⟨kx,vx,h1,a,c⟩:=m.1 e d;exact ⟨kx,vx,h1,(a.keep hk).mono hS,(c.keep hk).mono hS⟩
 ·match h,m.2 with
  | none,_=>trivial
  | some (k,none),h=>exact h
  | some (k,some vx),⟨l1,e,l2,h1,a,c,f⟩=>exact ⟨l1,e,l2,h1,a,c,(f.keep hk).mono hS⟩
def OpqC (J:(Nat->Prop)->List Nat->World->Prop) (S:Nat->Prop) (bs:List Nat) (w:World):Prop:=
 ∀ (S':Nat->Prop) (w':World),(∀ b,S b->S' b)->(∀ b,S' b->b<w'.heap.size)->(∀ b∈bs,¬ S' b)->Same S w w'->(∀ b∈bs,w'.heap[b]?=w.heap[b]?)->J S' bs w'
def XobR (ψ:Env) (K S:Nat->Prop) (w:World) (id:Nat):XO->Prop
 | .blk g e sz cells=>ψ.len id=g/\0<sz/\∃ b cs n cap,ψ.val id = .slice (some ⟨b,0,none⟩) n cap/\w.heap[b]?=some (.cells cs e (0,0))/\cs.size=cap*sz/\cap<=9223372036854775807/\cells.length<=cs.size/\(∀ x∈cells,x.single=true) /\
   ∀ (i:Nat) (v:Value) (x:AV),cs[i]?=some v->cells[i]?=some x->RV ψ K S w v x
 | .amap kv=>ψ.len id=0/\∃ b es,ψ.val id = .map (some b)/\w.heap[b]?=some (.map es kv.length)/\es.size=kv.length /\
   ∀ (i:Nat) (e:MapEntry) (p:Value×AV),es[i]?=some e->kv[i]?=some p->e.key=p.1/\e.born=i/\RV ψ K S w e.val p.2
 | .imap kv=>ψ.len id=0/\∃ b es,ψ.val id = .map (some b)/\w.heap[b]?=some (.map es kv.length)/\es.size=kv.length /\
   ∀ (i:Nat) (e:MapEntry) (p:Int×FV),es[i]?=some e->kv[i]?=some p->e.key = .int .i64 p.1/\e.born=i/\RF S w e.val p.2
 | .mit m since seen stepped=>ψ.len id=0/\K m/\∃ b bm,ψ.val id = .pointer (some ⟨b,0,none⟩)/\w.heap[b]?=some (.mapIter (some bm) since seen.toArray stepped)/\(0=ψ.len m->ψ.val m = .map (some bm))
 | .opq J=>∃ bs:List Nat,ψ.val id = .tuple (bs.map fun b => .pointer (some ⟨b,0,none⟩)).toArray/\(∀ b∈bs,b<w.heap.size)/\OpqC J S bs w
def ObR (ψ:Env) (K S:Nat->Prop) (w:World) (id:Nat):AObj->Prop
 | .box e cells=>ψ.len id=0/\∃ b cs,ψ.val id = .pointer (some ⟨b,0,none⟩)/\w.heap[b]?=some (.cells cs e (0,0))/\cs.size=cells.length/\(∀ x∈cells,x.single=true) /\
   ∀ (i:Nat) (v:Value) (x:AV),cs[i]?=some v->cells[i]?=some x->RV ψ K S w v x
 | .frow e size xs=>ψ.len id=xs.length/\0<size/\∃ cs:List Value,w.ownsRow 0 e size (ψ.val id) xs.length cs/\(∀ x∈xs,x.cells.length=size/\∀ y∈x.cells,y.single=true) /\
   ∀ (i:Nat) (x:FV) (j:Nat) (v:Value) (y:FV),xs[i]?=some x->cs[i*size+j]?=some v->x.cells[j]?=some y->RF S w v y
 | .gho cs vs=>ψ.len id=0/\kak (ψ.val id)=none/\kff (ψ.val id)=[]/\∀ (i:Nat) (v:Value) (x:AV),cs[i]?=some v->vs[i]?=some x->RV ψ K S w v x
 | .was ψ0 ids0 S0 w0=>ψ.len id=0/\kak (ψ.val id)=none/\kff (ψ.val id)=[]/\Ext (·∈ids0) ψ0 ψ/\(∀ i,i∈ids0->K i)/\(∀ b,S0 b->S b)/\Same S0 w0 w
 | .smap kv=>ψ.len id=0/\∃ b es clock,ψ.val id = .map (some b)/\w.heap[b]?=some (.map es clock)/\es.size=kv.length /\
   ∀ (i:Nat) (e:MapEntry) (p:BA×FV),es[i]?=some e->kv[i]?=some p->e.key = .string p.1/\RF S w e.val p.2
 | .tab g ov eo ei rows=>ψ.len id=g/\∃ vs:List Value,ψ.val id = .tuple (ov::vs).toArray/\vs.length=rows.length/\w.ownsRow 0 eo 1 ov rows.length vs /\
   (∀ (j:Nat) (v:Value) (xs:List Value),vs[j]?=some v->rows[j]?=some xs->w.ownsRow 0 ei 1 v xs.length xs/\∀ u∈xs,u.oneCell'=true) /\
   ∀ (i j:Nat) (u v:Value) (b:Nat),(ov::vs)[i]?=some u->(ov::vs)[j]?=some v->i≠j->kak u=some b->kak v≠some b
 | .glb gs=>ψ.len id=0/\kak (ψ.val id)=none/\kff (ψ.val id)=[]/\∀ p,p∈gs->S p.1/\GlbR w p.1 p.2
 | .sit s pos=>ψ.len id=0/\∃ b,ψ.val id = .pointer (some ⟨b,0,none⟩)/\w.heap[b]?=some (.stringIter s pos)
 | .memo Φ h=>ψ.len id=0/\∃ b es clock,ψ.val id = .map (some b)/\w.heap[b]?=some (.map es clock)/\MemoR S w Φ h es.toList
 | .xo k=>XobR ψ K S w id k
theorem Ext.trans' {ids:List Nat} {K:Nat->Prop} {ψ0 ψ ψ':Env} (h:Ext (·∈ids) ψ0 ψ) (k:Ext K ψ ψ') (hs:∀ i,i∈ids->K i):Ext (·∈ids) ψ0 ψ':=fun i hi=>by obtain ⟨h1,a⟩:=h i hi;obtain ⟨k1,k2⟩:=k i (hs i hi);exact ⟨by omega,fun e=>by rw [k2 (by omega),a (by omega)]⟩
theorem Same.trans' {S0 S:Nat->Prop} {w0 w w':World} (h:Same S0 w0 w) (k:Same S w w') (hs:∀ b,S0 b->S b):Same S0 w0 w':=fun b a hl=>by have h1:=h b a hl;rw [qa6 hl] at h1;obtain ⟨c,_⟩:=qap.1 h1;rw [k b (hs b a) c,h1,qa6 hl]
theorem khl {v:Value} {b:Nat} (h:v.ownBlock=some b):kak v=some b:=by
 unfold Value.ownBlock at h;split at h;exact h
 ·cases h
theorem khq {base e size n:Nat} {v:Value} {cs:List Value} (h:w.ownsRow base e size v n cs) (hk:∀ b,v.ownBlock=some b->w'.heap[b]?=w.heap[b]?):w'.ownsRow base e size v n cs:=by obtain ⟨h1,a⟩:=h;refine ⟨h1,a.imp id ?_⟩;rintro ⟨g,cap,cur,rfl,c,hh,r⟩;exact ⟨g,cap,cur,rfl,c,by rw [hk g rfl];exact hh,r⟩
theorem blk_ptrs {bs:List Nat} {b:Nat}:Blk (.tuple (bs.map fun b => .pointer (some ⟨b,0,none⟩)).toArray) b↔b∈bs:=by
 constructor
 ·rintro (h | ⟨u,d,a⟩);cases h
  ·simp only [kff] at d;obtain ⟨c,hc,rfl⟩:=qai.1 d;injection a with a;exact a ▸ hc
 ·intro h;exact .inr ⟨_,by simp only [kff];exact List.mem_map_of_mem h,rfl⟩
theorem XobR.keep {id:Nat} {o:XO} (h:XobR ψ K S w id o) (r:Ext K ψ ψ') (hK:∀ id,K id->K' id) (hS:∀ b,S b->S' b) (hk:Same S w w')
  (a:ψ'.len id=ψ.len id/\ψ'.val id=ψ.val id) (l:∀ b,Blk (ψ.val id) b->w'.heap[b]?=w.heap[b]?):XobR ψ' K' S' w' id o:=by
 cases o with
 | blk g e sz cells=>
  obtain ⟨h0,t,b,cs,n,cap,h1,d,f,j,u,y,z⟩:=h;exact ⟨by rw [a.1,h0],t,b,cs,n,cap,by rw [a.2,h1],by rw [l b (.of (by rw [h1];rfl))];exact d,f,j,u,y,fun i v x hv hx=>(z i v x hv hx).keep r hK hS hk⟩
 | amap kv=>
  obtain ⟨h0,b,es,h1,d,f,j⟩:=h;exact ⟨by rw [a.1,h0],b,es,by rw [a.2,h1],by rw [l b (.of (by rw [h1];rfl))];exact d,f,fun i e p k hp=>⟨(j i e p k hp).1,(j i e p k hp).2.1,(j i e p k hp).2.2.keep r hK hS hk⟩⟩
 | imap kv=>
  obtain ⟨h0,b,es,h1,d,f,j⟩:=h;exact ⟨by rw [a.1,h0],b,es,by rw [a.2,h1],by rw [l b (.of (by rw [h1];rfl))];exact d,f,fun i e p k hp=>⟨(j i e p k hp).1,(j i e p k hp).2.1,((j i e p k hp).2.2.keep hk).mono hS⟩⟩
 | mit m since seen stepped=>
  obtain ⟨h0,hm,b,bm,h1,d,f⟩:=h;refine ⟨by rw [a.1,h0],hK _ hm,b,bm,by rw [a.2,h1],by rw [l b (.of (by rw [h1];rfl))];exact d,fun hn=>?_⟩;have k:=r m hm;rw [k.2 (by omega)];exact f (by omega)
 | opq J=>
  obtain ⟨bs,h1,d,f⟩:=h;have q:∀ b∈bs,w'.heap[b]?=w.heap[b]?:=fun b c=>l b (by rw [h1];exact blk_ptrs.2 c);refine ⟨bs,by rw [a.2,h1],fun b c=>?_,fun S2 w2 q1 q4 q5 q2 q3=>f S2 w2 (fun b s=>q1 b (hS b s)) q4 q5 (hk.trans' q2 hS) fun b c=>(q3 b c).trans (q b c)⟩;have:=q b c;rw [qa6 (d b c)] at this;exact (qap.1 this).1
theorem XobR.lt {id:Nat} {o:XO} (h:XobR ψ K S w id o) {b:Nat} (a:Blk (ψ.val id) b):b<w.heap.size:=by
 have key:∀ {b:Nat} {x},w.heap[b]?=some x->b<w.heap.size:=fun {b x} h=>(qap.1 h).1;cases o with
 | blk g e sz cells=>
  obtain ⟨h0,d,b',cs,n,cap,h1,c,_⟩:=h;rw [h1] at a;have a:=a.sl;injection a with a;subst a;exact key c
 | amap kv=>
  obtain ⟨h0,b',es,h1,c,_⟩:=h;rw [h1] at a;have a:=a.mp;injection a with a;subst a;exact key c
 | imap kv=>
  obtain ⟨h0,b',es,h1,c,_⟩:=h;rw [h1] at a;have a:=a.mp;injection a with a;subst a;exact key c
 | mit m since seen stepped=>
  obtain ⟨h0,hm,b',bm,h1,c,_⟩:=h;rw [h1] at a;have a:=a.pt;injection a with a;subst a;exact key c
 | opq J=>
  obtain ⟨bs,h1,c,f⟩:=h;rw [h1] at a;exact c b (blk_ptrs.1 a)
theorem ObR.keep {id:Nat} {o:AObj} (h:ObR ψ K S w id o) (q:Ext K ψ ψ') (hK:∀ id,K id->K' id) (hS:∀ b,S b->S' b) (hk:Same S w w')
  (a:ψ'.len id=ψ.len id/\ψ'.val id=ψ.val id) (f:∀ b,Blk (ψ.val id) b->w'.heap[b]?=w.heap[b]?):ObR ψ' K' S' w' id o:=by
 cases o with
 | box e cells=>
  obtain ⟨h0,b,cs,h1,c,d,m,n⟩:=h;exact ⟨by rw [a.1,h0],b,cs,by rw [a.2,h1],by rw [f b (.of (by rw [h1];rfl))];exact c,d,m,fun i v x hv hx=>(n i v x hv hx).keep q hK hS hk⟩
 | frow e size xs=>
  obtain ⟨h0,hs,cs,h1,c,d⟩:=h;refine ⟨by rw [a.1,h0],hs,cs,?_,c,fun i x j v y hx hv hy=>((d i x j v y hx hv hy).keep hk).mono hS⟩;rw [a.2];exact khq h1 fun b l=>f b (.of (khl l))
 | gho cs vs=>
  obtain ⟨h0,h1,hn,d⟩:=h;exact ⟨by rw [a.1,h0],by rw [a.2,h1],by rw [a.2,hn],fun i v x hv hx=>(d i v x hv hx).keep q hK hS hk⟩
 | was ψ0 ids0 S0 w0=>
  obtain ⟨h0,h1,hn,c,d,m,n⟩:=h;exact ⟨by rw [a.1,h0],by rw [a.2,h1],by rw [a.2,hn],c.trans' q d,fun i hi=>hK i (d i hi),fun b f=>hS b (m b f),n.trans' hk m⟩
 | xo k=>exact XobR.keep h q hK hS hk a f
 | sit s pos=>
  obtain ⟨h0,b,h1,c⟩:=h;exact ⟨by rw [a.1,h0],b,by rw [a.2,h1],by rw [f b (.of (by rw [h1];rfl))];exact c⟩
 | glb gs=>
  obtain ⟨h0,h1,hn,c⟩:=h;refine ⟨by rw [a.1,h0],by rw [a.2,h1],by rw [a.2,hn],fun p hp=>?_⟩;obtain ⟨q1,q2⟩:=c p hp;exact ⟨hS _ q1,q2.keep (hk p.1 q1 q2.lt)⟩
 | memo Φ hi=>
  obtain ⟨h0,b,es,clock,h1,c,d⟩:=h;exact ⟨by rw [a.1,h0],b,es,clock,by rw [a.2,h1],by rw [f b (.of (by rw [h1];rfl))];exact c,d.keep hS hk⟩
 | smap kv=>
  obtain ⟨h0,b,es,clock,h1,c,d,m⟩:=h;exact ⟨by rw [a.1,h0],b,es,clock,by rw [a.2,h1],by rw [f b (.of (by rw [h1];rfl))];exact c,d,fun i e p r hp=>⟨(m i e p r hp).1,((m i e p r hp).2.keep hk).mono hS⟩⟩
 | tab g ov eo ei rows=>
  obtain ⟨h0,vs,h1,c,d,m,n⟩:=h;have t:∀ u b,u∈ov::vs->kak u=some b->Blk (ψ.val id) b:=fun u b z f=>by rw [h1];exact .inr ⟨u,by simpa [kff] using z,f⟩
  refine ⟨by rw [a.1,h0],vs,by rw [a.2,h1],c,khq d fun b l=>f b (t ov b (qv ..) (khl l)),fun j v xs hv hx=>?_,n⟩;obtain ⟨k1,k2⟩:=m j v xs hv hx;exact ⟨khq k1 fun b l=>f b (t v b (qh _ (qj hv)) (khl l)),k2⟩
theorem kyx {e size n:Nat} {v:Value} {cs:List Value} (h:w.ownsRow 0 e size v n cs) {b:Nat} (a:kak v=some b):b<w.heap.size:=by
 have key:∀ {b:Nat} {x},w.heap[b]?=some x->b<w.heap.size:=fun {b x} h=>by
  rcases qbi b w.heap.size with c | c;exact c
  ·simp [qb2 c] at h
 rcases h.2 with ⟨hv,_⟩ | ⟨g,cap,cur,hv,_,hh,_⟩;rw [hv] at a;cases a
 ·rw [hv] at a;injection a with a;subst a;exact key hh
theorem ObR.lt {id:Nat} {o:AObj} (h:ObR ψ K S w id o) {b:Nat} (a:Blk (ψ.val id) b):b<w.heap.size:=by
 have key:∀ {b:Nat} {x},w.heap[b]?=some x->b<w.heap.size:=fun {b x} h=>by
  rcases qbi b w.heap.size with f | f;exact f
  ·simp [qb2 f] at h
 cases o with
 | box e cells=>
  obtain ⟨h0,b',cs,h1,c,_⟩:=h;rw [h1] at a;have a:=a.pt;injection a with a;subst a;exact key c
 | frow e size xs=>
  obtain ⟨h0,hs,cs,⟨_,h1⟩,_⟩:=h;rcases h1 with ⟨hv,_⟩ | ⟨g,cap,cur,hv,_,hh,_⟩;rw [hv] at a;have a:=a.sl;cases a
  ·rw [hv] at a;have a:=a.sl;injection a with a;subst a;exact key hh
 | gho cs vs=>
  obtain ⟨h0,h1,c,_⟩:=h;rcases a with a | ⟨u,d,_⟩;rw [h1] at a;cases a
  ·rw [c] at d;cases d
 | was ψ0 ids0 S0 w0=>
  obtain ⟨h0,h1,c,_⟩:=h;rcases a with a | ⟨u,d,_⟩;rw [h1] at a;cases a
  ·rw [c] at d;cases d
 | xo k=>exact XobR.lt h a
 | sit s pos=>
  obtain ⟨h0,b',h1,c⟩:=h;rw [h1] at a;have a:=a.pt;injection a with a;subst a;exact key c
 | glb gs=>
  obtain ⟨h0,h1,c,_⟩:=h;rcases a with a | ⟨u,d,_⟩;rw [h1] at a;cases a
  ·rw [c] at d;cases d
 | memo Φ hi=>
  obtain ⟨h0,b',es,clock,h1,c,_⟩:=h;rw [h1] at a;have a:=a.mp;injection a with a;subst a;exact key c
 | smap kv=>
  obtain ⟨h0,b',es,clock,h1,c,_⟩:=h;rw [h1] at a;have a:=a.mp;injection a with a;subst a;exact key c
 | tab g ov eo ei rows=>
  obtain ⟨h0,vs,h1,c,j,l,m⟩:=h;rw [h1] at a;rcases a with a | ⟨u,d,a⟩;cases a
  ·simp only [kff] at d;rcases qae.1 d with rfl | d;exact kyx j a
   ·obtain ⟨i,hi,rfl⟩:=qaj.1 d;exact kyx (l i vs[i] (rows[i]'(by omega)) (qb hi) (qb (by omega))).1 a
structure Core (F S0:Nat->Prop) (N0:Nat) (heap:List (Nat×AObj)) (ids:List Nat) (ψ:Env) (S:Nat->Prop) (w:World):Prop where
 obj:∀ id o,kaa heap id=some o->id∈ids/\ObR ψ (·∈ids) S w id o/\∀ b,Blk (ψ.val id) b->¬ S b/\¬ F b/\(S0 b\/N0<=b)
 inj:∀ id id' o o' b,kaa heap id=some o->kaa heap id'=some o'->id≠id'->Blk (ψ.val id) b->¬ Blk (ψ.val id') b
 lt:∀ b,S b->b<w.heap.size
 s0:∀ b,S b->S0 b\/N0<=b
 n0:N0<=w.heap.size
 fr:∀ b,F b->b<w.heap.size
structure Sim (F S0:Nat->Prop) (N0:Nat) (st:St) (ψ:Env) (S:Nat->Prop) (a:Act) (w:World):Prop where
 defers:a.defers=st.dfr
 size:a.tmps.size=st.n
 tmps:∀ t,RV ψ (·∈st.ids) S w (a.tmps.getD t undef) (st.get t)
 core:Core F S0 N0 st.heap st.ids ψ S w
structure Fr (F:Nat->Prop) (w w':World):Prop where
 os:w'.os=w.os
 tape:w'.tape=w.tape
 output:w'.output=w.output
 size:w.heap.size<=w'.heap.size
 block:∀ b,F b->w'.heap[b]?=w.heap[b]?
 drawn:Dr.on=true->w.drawn<=w'.drawn
theorem Fr.refl:Fr F w w:=⟨rfl,rfl,rfl,qx _,fun _ _=>rfl,fun _=>qx _⟩
theorem Fr.trans {w'':World} (h:Fr F w w') (k:Fr F w' w''):Fr F w w'':=⟨k.os.trans h.os,k.tape.trans h.tape,k.output.trans h.output,qay h.size k.size,fun b a=>(k.block b a).trans (h.block b a),fun d=>qay (h.drawn d) (k.drawn d)⟩
theorem Fr.of_grow (a:∀ b,F b->b<w.heap.size) (h:Grow w w'):Fr F w w':=⟨h.os,h.tape,h.output,h.size,fun b c=>h.block b (a b c),h.drawn⟩
theorem Fr.drew:Fr F w w.drew:=⟨rfl,rfl,rfl,qx _,fun _ _=>rfl,fun _=>Nat.le_succ _⟩
theorem Sim.eval_tmps {ids:List Nat} {st:St} (h:∀ t,RV ψ (·∈ids) S w (a.tmps.getD t undef) (st.get t)) (x:Operand):RV ψ (·∈ids) S w (a.eval x) (st.eval x):=by
 cases x with
 | tmp t=>exact h t
 | const v=>
  cases v with
  | agg cs=>
   simp only [St.eval,k43,Act.eval];cases c:cs.toList.all (·.oneCell') with
   | false=>exact .any
   | true=>
    refine .fz (.agg (by simp) ?_ ?_);intro x hx;simp only [qai] at hx;obtain ⟨v,hv,rfl⟩:=hx;exact qu.1 c v hv
    ·intro i v x hv hx;simp only [qn,qq,qal] at hx;obtain ⟨u,b,rfl⟩:=hx;rw [hv] at b;injection b with b;subst b;exact .atom (qu.1 c v (by rw [Array.mem_toList_iff];exact Array.mem_of_getElem? hv))
  | tuple=>exact .any
  | _=>exact .fz (.atom rfl)
 | global g=>exact .any
 | func f=>exact .fn rfl (fun i v x hv _=>by simp at hv)
theorem Sim.eval (h:Sim F S0 N0 st ψ S a w) (x:Operand):RV ψ (·∈st.ids) S w (a.eval x) (st.eval x):=Sim.eval_tmps h.tmps x
def StepA (P:Program) (o:Oper) (st:St) (c:AV) (d:List (Nat×AObj)) (ids':List Nat):Prop:=
 ∀ F S0 N0 ψ S a w,Sim F S0 N0 st ψ S a w->kdf P o a w fun v w'=>∃ ψ' S',Core F S0 N0 d ids' ψ' S' w'/\RV ψ' (·∈ids') S' w' v c/\Fr F w w' /\
  Ext (·∈st.ids) ψ ψ'/\(∀ id,id∈st.ids->id∈ids')/\(∀ b,S b->S' b)/\Same S w w'
def NStep (P:Program) (o:Oper) (st:St) (c:AV):Prop:=
 ∀ ψ S a w,(∀ t,RV ψ (·∈st.ids) S w (a.tmps.getD t undef) (st.get t))->(∀ id o,kaa st.heap id=some o->ObR ψ (·∈st.ids) S w id o) ->
  kdf P o a w fun v w'=>Grow w w'/\RV ψ (·∈st.ids) (fun b=>S b\/w.heap.size<=b) w' v c
theorem Core.grow {heap:List (Nat×AObj)} {ids:List Nat} (h:Core F S0 N0 heap ids ψ S w) (d:Grow w w'):Core F S0 N0 heap ids ψ (fun b=>(S b\/w.heap.size<=b)/\b<w'.heap.size) w':=by
 have hk:Same S w w':=Same.of_grow d;have hS:∀ b,S b->(S b\/w.heap.size<=b)/\b<w'.heap.size:=fun b a=>⟨.inl a,qbh (h.lt b a) d.size⟩;refine ⟨fun id o g=>?_,h.inj,fun b a=>a.2,fun b a=>?_,qay h.n0 d.size,fun b a=>qbh (h.fr b a) d.size⟩
 ·obtain ⟨h1,e,f⟩:=h.obj id o g;refine ⟨h1,e.keep Ext.refl (fun _ h=>h) hS hk ⟨rfl,rfl⟩ fun b a=>d.block b (e.lt a),fun b a=>⟨fun hs=>?_,(f b a).2⟩⟩;rcases hs.1 with hs | hs;exact (f b a).1 hs
  ·have:=e.lt a;omega
 ·rcases a.1 with c | c;exact h.s0 b c
  ·exact .inr (qay h.n0 c)
theorem NStep.step {o:Oper} {c:AV} (h:NStep P o st c):StepA P o st c st.heap st.ids:=by intro F S0 N0 ψ S a w hs;refine kjv ?_ (h ψ S a w hs.tmps fun id o f=>(hs.core.obj id o f).2.1);rintro v w' ⟨d,hv⟩;exact ⟨ψ,_,hs.core.grow d,hv.bound,Fr.of_grow hs.core.fr d,Ext.refl,fun _ h=>h,fun b e=>⟨.inl e,qbh (hs.core.lt b e) d.size⟩,Same.of_grow d⟩
theorem Sim.put {st':St} {d:Option Nat} {v:Value} {c:AV} (h:Sim F S0 N0 st ψ S a w) (hn:st'.n=st.n) (ht:st'.tmps=st.tmps) (f:st'.dfr=st.dfr) (hc:Core F S0 N0 st'.heap st'.ids ψ' S' w') (hv:RV ψ' (·∈st'.ids) S' w' v c)
  (i:Ext (·∈st.ids) ψ ψ') (hK:∀ id,id∈st.ids->id∈st'.ids) (hS:∀ b,S b->S' b) (hk:Same S w w') (hd:∀ t,d=some t->t<st.n):Sim F S0 N0 (st'.put d c) ψ' S' (a.put d v) w':=by
 have base:∀ t,RV ψ' (·∈st'.ids) S' w' (a.tmps.getD t undef) (st'.get t):=fun t=>by have:=h.tmps t;unfold St.get at this ⊢;rw [ht];exact this.keep i hK hS hk
 cases d with
 | none=>exact ⟨h.defers.trans f.symm,by rw [show (st'.put none c)=st' from rfl,hn];exact h.size,base,hc⟩
 | some d=>
  refine ⟨h.defers.trans f.symm,by simp [St.put,Act.put,hn,h.size],fun t=>?_,hc⟩;have g:=hd d rfl;by_cases e:d=t;subst e;have:(a.put (some d) v).tmps.getD d undef=v:=(by simp [Act.put,h.size,g]);rw [this];simp only [St.put,St.get,kas,if_true];exact hv
  ·have:(a.put (some d) v).tmps.getD t undef=a.tmps.getD t undef:=(by simp only [Act.put];rw [qaq,Array.getElem?_setIfInBounds_ne e,<- qaq]);rw [this];simp only [St.put,St.get,kas,qi e];exact base t
def PostA (F S0:Nat->Prop) (N0:Nat) (w:World) (Q:Exit->St->Prop) (e:Exit) (a':Act) (w':World):Prop:=
 ∃ st' ψ' S',Q e st'/\Sim F S0 N0 st' ψ' S' a' w'/\Fr F w w'
def awp [Rd] (P:Program) (c:Code) (st:St) (Q:Exit->St->Prop):Prop:=
 ∀ F S0 N0 ψ S a w,Sim F S0 N0 st ψ S a w->Cwp P c (PostA F S0 N0 w Q) a w
def kago (K:St->Prop) (Q:Exit->St->Prop):Exit->St->Prop
 | .normal,st=>K st
 | .outgrown,_=>False
 | e,st=>Q e st
def k0f (id:Nat) (Q:Exit->St->Prop):Exit->St->Prop
 | .exit i,st=>if i=id then Q .normal st else Q (.exit i) st
 | e,st=>Q e st
theorem kt3 [Rd] {c:Code} {Q Q':Exit->St->Prop} (h:awp P c st Q) (b:∀ e st,Q e st->Q' e st):awp P c st Q':=
 fun F S0 N0 ψ S a w hs=>kb8 (h F S0 N0 ψ S a w hs) fun e a' w' ⟨st',ψ',S',h1,d⟩=>⟨st',ψ',S',b _ _ h1,d⟩
theorem kaeq [Rd] {Q:Exit->St->Prop} (h:Q .normal st):awp P .skip st Q:=fun F S0 N0 ψ S a w hs=>k7p ⟨st,ψ,S,h,hs,Fr.refl⟩
theorem kaey [Rd] {id:Nat} {Q:Exit->St->Prop} (h:Q (.exit id) st):awp P (.exit id) st Q:=fun F S0 N0 ψ S a w hs=>k8c ⟨st,ψ,S,h,hs,Fr.refl⟩
theorem kahl [Rd] {Q:Exit->St->Prop} (h:Q .ret st):awp P .ret st Q:=fun F S0 N0 ψ S a w hs=>kach ⟨st,ψ,S,h,hs,Fr.refl⟩
theorem PostA.pre {Q:Exit->St->Prop} {e:Exit} {a':Act} {w' w'':World} (h:Fr F w w') (k:PostA F S0 N0 w' Q e a' w''):PostA F S0 N0 w Q e a' w'':=
 let ⟨st',ψ',S',h1,a,b⟩:=k;⟨st',ψ',S',h1,a,h.trans b⟩
theorem kahu [Rd] {x y:Code} {Q:Exit->St->Prop} (h:awp P x st (kago (fun st=>awp P y st Q) Q)):awp P (.seq x y) st Q:=fun F S0 N0 ψ S a w hs=>
 kvj (kb8 (h F S0 N0 ψ S a w hs) fun e a' w' ⟨st',ψ',S',h1,b,c⟩=>by
  cases e with
  | normal=>exact kb8 (h1 F S0 N0 ψ' S' a' w' b) fun e a'' w'' k=>k.pre c
  | outgrown=>exact h1.elim
  | _=>exact ⟨st',ψ',S',h1,b,c⟩)
theorem k5i [Rd] {c:Operand} {x y:Code} {b:Bool} {Q:Exit->St->Prop} (hc:st.eval c = .fz (.atom (.bool b))) (h:awp P (bif b then x else y) st Q):awp P (.cond c x y) st Q:=fun F S0 N0 ψ S a w hs=>by have d:=hs.eval c;rw [hc] at d;refine k7s b d.atom ?_;cases b <;> exact h F S0 N0 ψ S a w hs
theorem kac5 [Rd] {id:Nat} {c:Code} {Q:Exit->St->Prop} (h:awp P c st (k0f id Q)):awp P (.block id c) st Q:=fun F S0 N0 ψ S a w hs=>
 kx0 (kb8 (h F S0 N0 ψ S a w hs) fun e a' w' ⟨st',ψ',S',h1,b,d⟩=>by
  cases e with
  | exit i=>
   simp only [k0f] at h1;simp only [Exit.inBlock];by_cases hi:i=id;rw [qo hi] at h1 ⊢; exact ⟨st',ψ',S',h1,b,d⟩
   ·rw [qi hi] at h1 ⊢; exact ⟨st',ψ',S',h1,b,d⟩
  | _=>exact ⟨st',ψ',S',h1,b,d⟩)
def LeSt (st st':St):Prop:=∀ F S0 N0 ψ S a w,Sim F S0 N0 st ψ S a w->∃ ψ' S',Sim F S0 N0 st' ψ' S' a w
theorem kada [Rd] {c:Code} {st':St} {Q:Exit->St->Prop} (hl:LeSt st st') (h:awp P c st' Q):awp P c st Q:=fun F S0 N0 ψ S a w hs=>by obtain ⟨ψ',S',b⟩:=hl F S0 N0 ψ S a w hs;exact h F S0 N0 ψ' S' a w b
def kab {σ β:Type} (step:σ->Option (σ ⊕ β)):Nat->σ->Option β
 | 0,_=>none
 | n+1,s=>match step s with
  | none=>none
  | some (.inl s')=>kab step n s'
  | some (.inr b)=>some b
def fuel:Nat:=18446744073709551616
theorem kae6 [Rd] {σ β:Type} {step:σ->Option (σ ⊕ β)} {body:Code} {Q:Exit->St->Prop} (stOf:σ->St) {s0:σ} {b:β} {n:Nat} (hl:kab step n s0=some b)
  (h0:LeSt st (stOf s0)) (d:∀ s s',step s=some (.inl s')->awp P body (stOf s) fun e st=>e = .normal/\LeSt st (stOf s'))
  (c:∀ s,step s=some (.inr b)->awp P body (stOf s) fun e st=>e ≠ .normal/\e ≠ .outgrown/\Q e st):awp P (.loop body) st Q:=fun F S0 N0 ψ S a w hs=>by
 obtain ⟨ψ0,S1,f⟩:=h0 F S0 N0 ψ S a w hs;refine knz n ?_;have key:∀ (n:Nat) (s:σ) (ψ:Env) (S:Nat->Prop) (a:Act) (w':World),kab step n s=some b->Sim F S0 N0 (stOf s) ψ S a w'->Fr F w w'->kke P body (PostA F S0 N0 w Q) n a w':=by
  intro n
  induction n with
  | zero=>intro s ψ S a w' hl;cases hl
  | succ n ih=>
   intro s ψ S a w' hl hs j;rw [kls];simp only [kab] at hl;cases hst:step s with
   | none=>rw [hst] at hl;cases hl
   | some r=>
    rw [hst] at hl;cases r with
    | inl s'=>
     refine kb8 (d s s' hst F S0 N0 ψ S a w' hs) ?_;rintro e a' w'' ⟨st',ψ',S',⟨rfl,g⟩,h,i⟩;obtain ⟨ψ2,S2,k⟩:=g F S0 N0 ψ' S' a' w'' h;exact ih s' ψ2 S2 a' w'' hl k (j.trans i)
    | inr b'=>
     obtain rfl:=qs hl;refine kb8 (c s hst F S0 N0 ψ S a w' hs) ?_;rintro e a' w'' ⟨st',ψ',S',⟨hn,l,m⟩,h,i⟩;cases e with
     | normal=>exact absurd rfl hn
     | outgrown=>exact absurd rfl l
     | _=>exact ⟨st',ψ',S',m,h,j.trans i⟩
 exact key n s0 ψ0 S1 a w hl f Fr.refl
theorem kadj [Rd] {σ:Type} (body:Code) (Q:Exit->St->Prop) (stOf:σ->St) (I:σ->Prop) (μ:σ->Nat) {s0:σ} (j:I s0) (h0:LeSt st (stOf s0)) (k:∀ s,I s->awp P body (stOf s) fun e st=>(e = .normal/\∃ s',(I s'/\μ s'<μ s)/\LeSt st (stOf s'))\/((e ≠ .normal/\e ≠ .outgrown)/\Q e st)):awp P (.loop body) st Q:=fun F S0 N0 ψ S a w hs=>by
 obtain ⟨ψ0,S1,b⟩:=h0 F S0 N0 ψ S a w hs;refine knz (μ s0+1) ?_;have key:∀ (n:Nat) (s:σ) (ψ:Env) (S:Nat->Prop) (a:Act) (w':World),μ s<n->I s->Sim F S0 N0 (stOf s) ψ S a w'->Fr F w w'->kke P body (PostA F S0 N0 w Q) n a w':=by
  intro n
  induction n with
  | zero=>intro s ψ S a w' hl;omega
  | succ n ih=>
   intro s ψ S a w' hl hi hs g;rw [kls];refine kb8 (k s hi F S0 N0 ψ S a w' hs) ?_;rintro e a' w'' ⟨st',ψ',S',c,h,i⟩;rcases c with ⟨rfl,s',⟨d,hm⟩,f⟩ | ⟨⟨hn,l⟩,c⟩;obtain ⟨ψ2,S2,m⟩:=f F S0 N0 ψ' S' a' w'' h;exact ih s' ψ2 S2 a' w'' (by omega) d m (g.trans i)
   ·cases e with
    | normal=>exact absurd rfl hn
    | outgrown=>exact absurd rfl l
    | _=>exact ⟨st',ψ',S',c,h,g.trans i⟩
 exact key (μ s0+1) s0 ψ0 S1 a w (by omega) j b Fr.refl
def awpL [Rd] (P:Program) (ops:Array Oper) (l:List Oper) (st:St) (Q:Exit->St->Prop):Prop:=
 ∀ F S0 N0 ψ S a w,Sim F S0 N0 st ψ S a w->kba P ops (PostA F S0 N0 w Q) l a w
def kbr (ops:Array Oper) (st:St) (o:Oper):Option Bool:=match o.guard with
 | none=>some true
 | some (j,want)=>match (ops[j]?).bind (·.dst) with
  | some t=>match st.get t with
   | .fz (.atom (.bool b))=>some (b == want)
   | .fz (.tup _)=>some false
   | _=>none
  | none=>none
theorem kxg {ops:Array Oper} {a:Act} {t j:Nat} {want:Bool} {xs:List FV} (hv:RF S w (a.tmps.getD t undef) (.tup xs)) (ht:(ops[j]?).bind (·.dst)=some t):(yielded ops a.tmps j == some want)=false:=by
 rw [qaq] at hv;simp only [yielded,ht,qa];cases b:a.tmps[t]? with
 | none=>rfl
 | some u=>
  rw [b] at hv;simp only [qbe] at hv;cases hv with
  | tup=>rfl
theorem keg {ops:Array Oper} {o:Oper} {g:Bool} (hs:Sim F S0 N0 st ψ S a w) (h:kbr ops st o=some g):Region.wanted o (yielded ops a.tmps)=g:=by
 unfold kbr at h;unfold Region.wanted;split at h;rename_i e;rw [e];injection h
 ·rename_i j want e;rw [e];split at h
  ·rename_i t ht;have hv:=hs.tmps t;split at h
   ·rename_i b f;rw [f] at hv;injection h with h;subst h;have c:a.tmps.getD t undef = .bool b:=hv.atom;rw [qaq] at c;have d:a.tmps[t]?=some (.bool b):=by
     cases d:a.tmps[t]? with
     | none=>rw [d] at c;cases c
     | some u=>rw [d] at c;simp only [qbe] at c;rw [c]
    simp only [yielded,ht,qa,d];cases b <;> cases want <;> rfl
   rename_i xs f;rw [f] at hv;injection h with h;subst h;exact kxg hv.inv ht
   ·cases h
  ·cases h
theorem l_nil [Rd] {ops:Array Oper} {Q:Exit->St->Prop} (h:Q .normal st):awpL P ops [] st Q:=fun F S0 N0 ψ S a w hs=>⟨st,ψ,S,h,hs,Fr.refl⟩
theorem kz1 [Rd] {ops:Array Oper} {o:Oper} {l:List Oper} {c:AV} {b:List (Nat×AObj)} {ids':List Nat} {Q:Exit->St->Prop} (h:StepA P o st c b ids') (d:kbr ops st o=some true) (hd:∀ t,o.dst=some t->t<st.n)
  (hn:awpL P ops l (({ st with heap:=b,ids:=ids' }:St).put o.dst c) Q):awpL P ops (o::l) st Q:=fun F S0 N0 ψ S a w hs=>by
 unfold kba;rw [keg hs d];refine (kkf ?_ (h F S0 N0 ψ S a w hs));rintro v w' ⟨ψ',S',h1,f,g,i,j,m,p⟩;exact kdh (fun e a' w'' k=>k.pre g) _ _ _ (hn F S0 N0 ψ' S' _ w' (hs.put (st':={ st with heap:=b,ids:=ids' }) rfl rfl rfl h1 f i j m p hd))
def kfw (P:Program) (o:Oper) (st:St) (R:AV->List (Nat×AObj)->List Nat->Prop):Prop:=
 ∀ F S0 N0 ψ S a w,Sim F S0 N0 st ψ S a w->kdf P o a w fun v w'=>∃ c d ids',R c d ids'/\∃ ψ' S',Core F S0 N0 d ids' ψ' S' w'/\RV ψ' (·∈ids') S' w' v c/\Fr F w w' /\
  Ext (·∈st.ids) ψ ψ'/\(∀ id,id∈st.ids->id∈ids')/\(∀ b,S b->S' b)/\Same S w w'
theorem kajl [Rd] {ops:Array Oper} {o:Oper} {l:List Oper} {R:AV->List (Nat×AObj)->List Nat->Prop} {Q:Exit->St->Prop} (h:kfw P o st R) (d:kbr ops st o=some true) (hd:∀ t,o.dst=some t->t<st.n)
  (hn:∀ c b ids',R c b ids'->awpL P ops l (({ st with heap:=b,ids:=ids' }:St).put o.dst c) Q):awpL P ops (o::l) st Q:=fun F S0 N0 ψ S a w hs=>by
 unfold kba;rw [keg hs d];refine (kkf ?_ (h F S0 N0 ψ S a w hs));rintro v w' ⟨c,b,ids',f,ψ',S',h1,g,i,j,m,p,q⟩;exact kdh (fun e a' w'' k=>k.pre i) _ _ _ (hn c b ids' f F S0 N0 ψ' S' _ w' (hs.put (st':={ st with heap:=b,ids:=ids' }) rfl rfl rfl h1 g j m p q hd))
theorem kak5 [Rd] {ops:Array Oper} {o:Oper} {l:List Oper} {Q:Exit->St->Prop} (b:kbr ops st o=some false) (hd:∀ t,o.dst=some t->t<st.n) (hn:awpL P ops l (st.put o.dst (.fz (.tup []))) Q):awpL P ops (o::l) st Q:=fun F S0 N0 ψ S a w hs=>by unfold kba;rw [keg hs b];exact hn F S0 N0 ψ S _ w (hs.put (st':=st) rfl rfl rfl hs.core (.fz RF.undef) Ext.refl (fun _ h=>h) (fun _ h=>h) (fun _ _ _=>rfl) hd)
theorem l_le [Rd] {ops:Array Oper} {l:List Oper} {st':St} {Q:Exit->St->Prop} (hl:LeSt st st') (h:awpL P ops l st' Q):awpL P ops l st Q:=fun F S0 N0 ψ S a w hs=>by obtain ⟨ψ',S',b⟩:=hl F S0 N0 ψ S a w hs;exact h F S0 N0 ψ' S' a w b
theorem k93 [Rd] {id:Nat} {ops:Array Oper} {Q:Exit->St->Prop} (h:awpL P ops ops.toList st Q):awp P (.region id ops false) st Q:=fun F S0 N0 ψ S a w hs=>kn9 (h F S0 N0 ψ S a w hs)
end Go.Proofs.YtdnfbjahbkpibaaGreatDoor
